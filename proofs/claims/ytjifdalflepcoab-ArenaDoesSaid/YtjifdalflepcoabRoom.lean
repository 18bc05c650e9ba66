/-
  The reference's Room in memory: small functions.
-/
import Derived.Test.YtjifdalflepcoabArena4
import Derived.Test.YtjifdalflepcoabWordR2
namespace Go.Proofs.Ytjifdalflepcoab
open Go.RowKit
set_option linter.unusedVariables false
set_option linter.unusedSimpArgs false

/-- At block p lies a Room, its words at block g. -/
structure RoomAt (w : World) (p g : Nat) (A : Ar) : Prop where
  hp : Blk w p [.slice (some ⟨g, 0, none⟩) A.ws.length A.ws.length, .int .i64 A.nur, .int .i64 A.yng, .int .i64 ((A.grn - A.nur : Nat) : Int)] 44
  hg : Blk w g (A.ws.map (Value.int .i64)) 2
  ok : A.ok

theorem RoomAt.ne {w : World} {p g : Nat} {A : Ar} (h : RoomAt w p g A) : p ≠ g := h.hp.ne h.hg (by decide)

theorem RoomAt.keep {w w' : World} {p g : Nat} {A : Ar} {S : Nat → Prop} (h : RoomAt w p g A) (k : Keeps S w w') (h1 : ¬ S p) (h2 : ¬ S g) : RoomAt w' p g A :=
  ⟨k.blk h.hp h1, k.blk h.hg h2, h.ok⟩

theorem RoomAt.cells {w : World} {p g : Nat} {A : Ar} (h : RoomAt w p g A) :
    w.cell? ⟨p, 0, none⟩ = some (.slice (some ⟨g, 0, none⟩) A.ws.length A.ws.length) ∧ w.cell? ⟨p, 1, none⟩ = some (.int .i64 A.nur) ∧ w.cell? ⟨p, 2, none⟩ = some (.int .i64 A.yng) ∧ w.cell? ⟨p, 3, none⟩ = some (.int .i64 ((A.grn - A.nur : Nat) : Int)) :=
  ⟨h.hp.cell 0, h.hp.cell 1, h.hp.cell 2, h.hp.cell 3⟩

theorem RoomAt.word {w : World} {p g : Nat} {A : Ar} (h : RoomAt w p g A) (i : Nat) (hi : i < A.ws.length) : w.cell? ⟨g, i, none⟩ = some (.int .i64 (A.ws.getD i 0)) := by
  rw [h.hg.cell i, List.getElem?_map, List.getElem?_eq_getElem hi]
  simp [List.getD, hi]

structure RoomTo (w : World) (p g : Nat) (w' : World) (A : Ar) : Prop where
  at_ : RoomAt w' p g A
  k : Keeps (fun b => b = p ∨ b = g) w w'

section
variable {p g : Nat} {A : Ar}

set_option maxHeartbeats 1000000 in
set_option maxRecDepth 100000 in
theorem IsYoung_c (i : Int) (w : World) (h : RoomAt w p g A) :
    Calls Try.prog 22 #[.pointer (some ⟨p, 0, none⟩), .int .i64 i] w fun e w' => e = .returned (.bool (A.young i)) ∧ w = w' := by
  obtain ⟨c0, c1, c2, c3⟩ := h.cells
  have pl := h.hp.lt
  have HY : Hid (A.young i = (decide (0 ≤ i) && decide (i < A.yng))) := rfl
  clear h c0 c1 c3
  by_cases hi : 0 ≤ i
  · have hd : decide (0 ≤ i) = true := by simpa using hi
    have HX := Lib.hid (show A.young i = decide (i < (A.yng : Int)) by rw [HY.out, hd]; rfl)
    clear HY
    go_enter Try.func22, Try.ntmps22
    go_wp2_with fail
    go_ret
    exact ⟨ret_bool HX.out.symm, rfl⟩
  · have hd : decide (0 ≤ i) = false := by simpa using hi
    have HX := Lib.hid (show A.young i = false by rw [HY.out, hd]; rfl)
    clear HY
    go_enter Try.func22, Try.ntmps22
    go_wp2_with fail
    go_ret
    exact ⟨ret_bool HX.out.symm, rfl⟩

set_option maxHeartbeats 1000000 in
set_option maxRecDepth 100000 in
theorem IsOld_c (i : Int) (w : World) (h : RoomAt w p g A) (hi64 : R64 i) :
    Calls Try.prog 23 #[.pointer (some ⟨p, 0, none⟩), .int .i64 i] w fun e w' => e = .returned (.bool (A.old i)) ∧ Keeps (fun _ => False) w w' := by
  obtain ⟨c0, c1, c2, c3⟩ := h.cells
  have pl := h.hp.lt
  have o1 := h.ok.h1; have o2 := h.ok.h2; have o3 := h.ok.h3; have o4 := h.ok.h4
  have HY : Hid (A.old i = (decide ((A.nur : Int) ≤ i) && decide (i < A.grn))) := rfl
  clear h c0 c2
  by_cases hi : (A.nur : Int) ≤ i
  · have hd : decide ((A.nur : Int) ≤ i) = true := by simpa using hi
    have hw : IntKind.i64.wrap (i - A.nur) = i - A.nur := IntWalk.i64_in _ (by have := hi64.2; omega)
    have HX := Lib.hid (show A.old i = decide (i - A.nur < ((A.grn - A.nur : Nat) : Int)) by
      rw [HY.out, hd, Bool.true_and]
      exact decide_eq_decide.2 (by omega))
    clear HY hi64
    go_enter Try.func23, Try.ntmps23
    go_wp2_with fail
    refine wp_region_ro (.free 0 (.free 1 (.free 2 (.free 3 (.pure 4 (.free 5 (.free 6 (.free 7 (.free 8 (.free 9 (.free 10 (.free 13 (.free 14 (.free 15 (.pure 11 (.free 12 (.pure 16 (.free 17 (.free 18 (.free 19 (.fin))))))))))))))))))))) [] (fun w' => w'.cell? ⟨p, 1, none⟩ = some (.int .i64 A.nur) ∧ w'.cell? ⟨p, 3, none⟩ = some (.int .i64 ((A.grn - A.nur : Nat) : Int))) (by kernel_rfl) (by kernel_rfl) ⟨c1, c3⟩ ?_
    first | (refine wpRO_free rfl rfl _ (fun w' => by go_simp; exact Gives.mk _ _) (fun K hK => ?_); go_simp; refine hK _ ?_; clear hK K) | (refine wpRO_skipF rfl rfl (fun K hK => ?_); go_simp; refine hK _ ?_; clear hK K)
    first | (refine wpRO_free rfl rfl _ (fun w' => by go_simp; exact Gives.mk _ _) (fun K hK => ?_); go_simp; refine hK _ ?_; clear hK K) | (refine wpRO_skipF rfl rfl (fun K hK => ?_); go_simp; refine hK _ ?_; clear hK K)
    first | (refine wpRO_free rfl rfl _ (fun w' => by go_simp; exact Gives.mk _ _) (fun K hK => ?_); go_simp; refine hK _ ?_; clear hK K) | (refine wpRO_skipF rfl rfl (fun K hK => ?_); go_simp; refine hK _ ?_; clear hK K)
    first | (refine wpRO_free rfl rfl _ (fun w' => by go_simp; exact Gives.mk _ _) (fun K hK => ?_); go_simp; refine hK _ ?_; clear hK K) | (refine wpRO_skipF rfl rfl (fun K hK => ?_); go_simp; refine hK _ ?_; clear hK K)
    first | (refine wpRO_pure rfl rfl _ (fun w' hG => by obtain ⟨g0, g1⟩ := hG; exact gives_agg2 rfl (by decide +kernel) rfl (by assumption) (by assumption)) (fun K hK => ?_); go_simp; refine hK _ ?_; clear hK K) | (refine wpRO_pure rfl rfl _ (fun w' hG => by obtain ⟨g0, g1⟩ := hG; go_simp; exact Gives.mk _ _) (fun K hK => ?_); go_simp; refine hK _ ?_; clear hK K) | (refine wpRO_skip rfl rfl (fun K hK => ?_); go_simp; refine hK _ ?_; clear hK K)
    first | (refine wpRO_free rfl rfl _ (fun w' => by go_simp; exact Gives.mk _ _) (fun K hK => ?_); go_simp; refine hK _ ?_; clear hK K) | (refine wpRO_skipF rfl rfl (fun K hK => ?_); go_simp; refine hK _ ?_; clear hK K)
    first | (refine wpRO_free rfl rfl _ (fun w' => by go_simp; exact Gives.mk _ _) (fun K hK => ?_); go_simp; refine hK _ ?_; clear hK K) | (refine wpRO_skipF rfl rfl (fun K hK => ?_); go_simp; refine hK _ ?_; clear hK K)
    first | (refine wpRO_free rfl rfl _ (fun w' => by go_simp; exact Gives.mk _ _) (fun K hK => ?_); go_simp; refine hK _ ?_; clear hK K) | (refine wpRO_skipF rfl rfl (fun K hK => ?_); go_simp; refine hK _ ?_; clear hK K)
    first | (refine wpRO_free rfl rfl _ (fun w' => by go_simp; exact Gives.mk _ _) (fun K hK => ?_); go_simp; refine hK _ ?_; clear hK K) | (refine wpRO_skipF rfl rfl (fun K hK => ?_); go_simp; refine hK _ ?_; clear hK K)
    first | (refine wpRO_free rfl rfl _ (fun w' => by go_simp; exact Gives.mk _ _) (fun K hK => ?_); go_simp; refine hK _ ?_; clear hK K) | (refine wpRO_skipF rfl rfl (fun K hK => ?_); go_simp; refine hK _ ?_; clear hK K)
    first | (refine wpRO_free rfl rfl _ (fun w' => by go_simp; exact Gives.mk _ _) (fun K hK => ?_); go_simp; refine hK _ ?_; clear hK K) | (refine wpRO_skipF rfl rfl (fun K hK => ?_); go_simp; refine hK _ ?_; clear hK K)
    first | (refine wpRO_free rfl rfl _ (fun w' => by go_simp; exact Gives.mk _ _) (fun K hK => ?_); go_simp; refine hK _ ?_; clear hK K) | (refine wpRO_skipF rfl rfl (fun K hK => ?_); go_simp; refine hK _ ?_; clear hK K)
    first | (refine wpRO_free rfl rfl _ (fun w' => by go_simp; exact Gives.mk _ _) (fun K hK => ?_); go_simp; refine hK _ ?_; clear hK K) | (refine wpRO_skipF rfl rfl (fun K hK => ?_); go_simp; refine hK _ ?_; clear hK K)
    first | (refine wpRO_free rfl rfl _ (fun w' => by go_simp; exact Gives.mk _ _) (fun K hK => ?_); go_simp; refine hK _ ?_; clear hK K) | (refine wpRO_skipF rfl rfl (fun K hK => ?_); go_simp; refine hK _ ?_; clear hK K)
    first | (refine wpRO_pure rfl rfl _ (fun w' hG => by obtain ⟨g0, g1⟩ := hG; exact gives_agg2 rfl (by decide +kernel) rfl (by assumption) (by assumption)) (fun K hK => ?_); go_simp; refine hK _ ?_; clear hK K) | (refine wpRO_pure rfl rfl _ (fun w' hG => by obtain ⟨g0, g1⟩ := hG; go_simp; exact Gives.mk _ _) (fun K hK => ?_); go_simp; refine hK _ ?_; clear hK K) | (refine wpRO_skip rfl rfl (fun K hK => ?_); go_simp; refine hK _ ?_; clear hK K)
    first | (refine wpRO_free rfl rfl _ (fun w' => by go_simp; exact Gives.mk _ _) (fun K hK => ?_); go_simp; refine hK _ ?_; clear hK K) | (refine wpRO_skipF rfl rfl (fun K hK => ?_); go_simp; refine hK _ ?_; clear hK K)
    first | (refine wpRO_pure rfl rfl _ (fun w' hG => by obtain ⟨g0, g1⟩ := hG; exact gives_agg2 rfl (by decide +kernel) rfl (by assumption) (by assumption)) (fun K hK => ?_); go_simp; refine hK _ ?_; clear hK K) | (refine wpRO_pure rfl rfl _ (fun w' hG => by obtain ⟨g0, g1⟩ := hG; go_simp; exact Gives.mk _ _) (fun K hK => ?_); go_simp; refine hK _ ?_; clear hK K) | (refine wpRO_skip rfl rfl (fun K hK => ?_); go_simp; refine hK _ ?_; clear hK K)
    first | (refine wpRO_free rfl rfl _ (fun w' => by go_simp; exact Gives.mk _ _) (fun K hK => ?_); go_simp; refine hK _ ?_; clear hK K) | (refine wpRO_skipF rfl rfl (fun K hK => ?_); go_simp; refine hK _ ?_; clear hK K)
    first | (refine wpRO_free rfl rfl _ (fun w' => by go_simp; exact Gives.mk _ _) (fun K hK => ?_); go_simp; refine hK _ ?_; clear hK K) | (refine wpRO_skipF rfl rfl (fun K hK => ?_); go_simp; refine hK _ ?_; clear hK K)
    first | (refine wpRO_free rfl rfl _ (fun w' => by go_simp; exact Gives.mk _ _) (fun K hK => ?_); go_simp; refine hK _ ?_; clear hK K) | (refine wpRO_skipF rfl rfl (fun K hK => ?_); go_simp; refine hK _ ?_; clear hK K)
    refine wpRO_fin ?_
    go_wp2_with fail
    go_ret
    exact ⟨ret_bool HX.out.symm, (Keeps.refl _ _).drew⟩
  · have hd : decide ((A.nur : Int) ≤ i) = false := by simpa using hi
    have HX := Lib.hid (show A.old i = false by rw [HY.out, hd]; rfl)
    clear HY
    go_enter Try.func23, Try.ntmps23
    go_wp2_with fail
    refine wp_region_ro (.free 0 (.free 1 (.free 2 (.free 3 (.pure 4 (.free 5 (.free 6 (.free 7 (.free 8 (.free 9 (.free 10 (.free 13 (.free 14 (.free 15 (.pure 11 (.free 12 (.pure 16 (.free 17 (.free 18 (.free 19 (.fin))))))))))))))))))))) [] (fun w' => w'.cell? ⟨p, 1, none⟩ = some (.int .i64 A.nur) ∧ w'.cell? ⟨p, 3, none⟩ = some (.int .i64 ((A.grn - A.nur : Nat) : Int))) (by kernel_rfl) (by kernel_rfl) ⟨c1, c3⟩ ?_
    first | (refine wpRO_free rfl rfl _ (fun w' => by go_simp; exact Gives.mk _ _) (fun K hK => ?_); go_simp; refine hK _ ?_; clear hK K) | (refine wpRO_skipF rfl rfl (fun K hK => ?_); go_simp; refine hK _ ?_; clear hK K)
    first | (refine wpRO_free rfl rfl _ (fun w' => by go_simp; exact Gives.mk _ _) (fun K hK => ?_); go_simp; refine hK _ ?_; clear hK K) | (refine wpRO_skipF rfl rfl (fun K hK => ?_); go_simp; refine hK _ ?_; clear hK K)
    first | (refine wpRO_free rfl rfl _ (fun w' => by go_simp; exact Gives.mk _ _) (fun K hK => ?_); go_simp; refine hK _ ?_; clear hK K) | (refine wpRO_skipF rfl rfl (fun K hK => ?_); go_simp; refine hK _ ?_; clear hK K)
    first | (refine wpRO_free rfl rfl _ (fun w' => by go_simp; exact Gives.mk _ _) (fun K hK => ?_); go_simp; refine hK _ ?_; clear hK K) | (refine wpRO_skipF rfl rfl (fun K hK => ?_); go_simp; refine hK _ ?_; clear hK K)
    first | (refine wpRO_pure rfl rfl _ (fun w' hG => by obtain ⟨g0, g1⟩ := hG; exact gives_agg2 rfl (by decide +kernel) rfl (by assumption) (by assumption)) (fun K hK => ?_); go_simp; refine hK _ ?_; clear hK K) | (refine wpRO_pure rfl rfl _ (fun w' hG => by obtain ⟨g0, g1⟩ := hG; go_simp; exact Gives.mk _ _) (fun K hK => ?_); go_simp; refine hK _ ?_; clear hK K) | (refine wpRO_skip rfl rfl (fun K hK => ?_); go_simp; refine hK _ ?_; clear hK K)
    first | (refine wpRO_free rfl rfl _ (fun w' => by go_simp; exact Gives.mk _ _) (fun K hK => ?_); go_simp; refine hK _ ?_; clear hK K) | (refine wpRO_skipF rfl rfl (fun K hK => ?_); go_simp; refine hK _ ?_; clear hK K)
    first | (refine wpRO_free rfl rfl _ (fun w' => by go_simp; exact Gives.mk _ _) (fun K hK => ?_); go_simp; refine hK _ ?_; clear hK K) | (refine wpRO_skipF rfl rfl (fun K hK => ?_); go_simp; refine hK _ ?_; clear hK K)
    first | (refine wpRO_free rfl rfl _ (fun w' => by go_simp; exact Gives.mk _ _) (fun K hK => ?_); go_simp; refine hK _ ?_; clear hK K) | (refine wpRO_skipF rfl rfl (fun K hK => ?_); go_simp; refine hK _ ?_; clear hK K)
    first | (refine wpRO_free rfl rfl _ (fun w' => by go_simp; exact Gives.mk _ _) (fun K hK => ?_); go_simp; refine hK _ ?_; clear hK K) | (refine wpRO_skipF rfl rfl (fun K hK => ?_); go_simp; refine hK _ ?_; clear hK K)
    first | (refine wpRO_free rfl rfl _ (fun w' => by go_simp; exact Gives.mk _ _) (fun K hK => ?_); go_simp; refine hK _ ?_; clear hK K) | (refine wpRO_skipF rfl rfl (fun K hK => ?_); go_simp; refine hK _ ?_; clear hK K)
    first | (refine wpRO_free rfl rfl _ (fun w' => by go_simp; exact Gives.mk _ _) (fun K hK => ?_); go_simp; refine hK _ ?_; clear hK K) | (refine wpRO_skipF rfl rfl (fun K hK => ?_); go_simp; refine hK _ ?_; clear hK K)
    first | (refine wpRO_free rfl rfl _ (fun w' => by go_simp; exact Gives.mk _ _) (fun K hK => ?_); go_simp; refine hK _ ?_; clear hK K) | (refine wpRO_skipF rfl rfl (fun K hK => ?_); go_simp; refine hK _ ?_; clear hK K)
    first | (refine wpRO_free rfl rfl _ (fun w' => by go_simp; exact Gives.mk _ _) (fun K hK => ?_); go_simp; refine hK _ ?_; clear hK K) | (refine wpRO_skipF rfl rfl (fun K hK => ?_); go_simp; refine hK _ ?_; clear hK K)
    first | (refine wpRO_free rfl rfl _ (fun w' => by go_simp; exact Gives.mk _ _) (fun K hK => ?_); go_simp; refine hK _ ?_; clear hK K) | (refine wpRO_skipF rfl rfl (fun K hK => ?_); go_simp; refine hK _ ?_; clear hK K)
    first | (refine wpRO_pure rfl rfl _ (fun w' hG => by obtain ⟨g0, g1⟩ := hG; exact gives_agg2 rfl (by decide +kernel) rfl (by assumption) (by assumption)) (fun K hK => ?_); go_simp; refine hK _ ?_; clear hK K) | (refine wpRO_pure rfl rfl _ (fun w' hG => by obtain ⟨g0, g1⟩ := hG; go_simp; exact Gives.mk _ _) (fun K hK => ?_); go_simp; refine hK _ ?_; clear hK K) | (refine wpRO_skip rfl rfl (fun K hK => ?_); go_simp; refine hK _ ?_; clear hK K)
    first | (refine wpRO_free rfl rfl _ (fun w' => by go_simp; exact Gives.mk _ _) (fun K hK => ?_); go_simp; refine hK _ ?_; clear hK K) | (refine wpRO_skipF rfl rfl (fun K hK => ?_); go_simp; refine hK _ ?_; clear hK K)
    first | (refine wpRO_pure rfl rfl _ (fun w' hG => by obtain ⟨g0, g1⟩ := hG; exact gives_agg2 rfl (by decide +kernel) rfl (by assumption) (by assumption)) (fun K hK => ?_); go_simp; refine hK _ ?_; clear hK K) | (refine wpRO_pure rfl rfl _ (fun w' hG => by obtain ⟨g0, g1⟩ := hG; go_simp; exact Gives.mk _ _) (fun K hK => ?_); go_simp; refine hK _ ?_; clear hK K) | (refine wpRO_skip rfl rfl (fun K hK => ?_); go_simp; refine hK _ ?_; clear hK K)
    first | (refine wpRO_free rfl rfl _ (fun w' => by go_simp; exact Gives.mk _ _) (fun K hK => ?_); go_simp; refine hK _ ?_; clear hK K) | (refine wpRO_skipF rfl rfl (fun K hK => ?_); go_simp; refine hK _ ?_; clear hK K)
    first | (refine wpRO_free rfl rfl _ (fun w' => by go_simp; exact Gives.mk _ _) (fun K hK => ?_); go_simp; refine hK _ ?_; clear hK K) | (refine wpRO_skipF rfl rfl (fun K hK => ?_); go_simp; refine hK _ ?_; clear hK K)
    first | (refine wpRO_free rfl rfl _ (fun w' => by go_simp; exact Gives.mk _ _) (fun K hK => ?_); go_simp; refine hK _ ?_; clear hK K) | (refine wpRO_skipF rfl rfl (fun K hK => ?_); go_simp; refine hK _ ?_; clear hK K)
    refine wpRO_fin ?_
    go_wp2_with fail
    go_ret
    exact ⟨ret_bool HX.out.symm, (Keeps.refl _ _).drew⟩

set_option maxHeartbeats 1000000 in
set_option maxRecDepth 100000 in
theorem RLoad_c (i : Int) (w : World) (h : RoomAt w p g A) (hi64 : R64 i) :
    Calls Try.prog 38 #[.pointer (some ⟨p, 0, none⟩), .int .i64 i] w fun e w' => e = .returned (.int .i64 (A.load i)) ∧ Keeps (fun _ => False) w w' := by
  have H := Lib.hid h; have HI := Lib.hid hi64
  have hok := h.ok
  cases hy : A.young i
  · cases ho : A.old i
    · have HX := Lib.hid (show A.load i = 0 by unfold Ar.load Ar.inUse; rw [hy, ho]; rfl)
      clear h
      go_enter Try.func38, Try.ntmps38
      go_wp2_with fail
      refine (IsYoung_c i _ H.out).mono ?_
      rintro e w1 ⟨rfl, rfl⟩
      rw [hy]
      go_wp2_with fail
      refine (IsOld_c i _ H.out HI.out).mono ?_
      rintro e w1 ⟨rfl, hk⟩
      rw [ho]
      go_wp2_with fail
      go_ret
      exact ⟨ret_int HX.out.symm, hk⟩
    · have hlt := h.ok.old_lt ho
      have HX := Lib.hid (show A.load i = A.ws.getD i.toNat 0 by unfold Ar.load Ar.inUse; rw [hy, ho]; rfl)
      obtain ⟨n, rfl⟩ : ∃ n : Nat, i = n := ⟨i.toNat, by omega⟩
      have hlt2 : (n : Int) < A.ws.length := hlt.2
      clear h hlt
      go_enter Try.func38, Try.ntmps38
      go_wp2_with fail
      refine (IsYoung_c n _ H.out).mono ?_
      rintro e w1 ⟨rfl, rfl⟩
      rw [hy]
      go_wp2_with fail
      refine (IsOld_c n _ H.out HI.out).mono ?_
      rintro e w1 ⟨rfl, hk⟩
      rw [ho]
      have h1 := H.out.keep hk (fun h => h) (fun h => h)
      obtain ⟨c0, -, -, -⟩ := h1.cells
      have c4 := h1.word n (by omega)
      have pl := h1.hp.lt
      clear h1
      go_wp2_with fail
      go_ret
      exact ⟨ret_int (by rw [HX.out]; simp), hk⟩
  · have hlt := h.ok.young_lt hy
    have HX := Lib.hid (show A.load i = A.ws.getD i.toNat 0 by unfold Ar.load Ar.inUse; rw [hy]; rfl)
    obtain ⟨n, rfl⟩ : ∃ n : Nat, i = n := ⟨i.toNat, by omega⟩
    have c4 := h.word n (by omega)
    have hlt2 : (n : Int) < A.ws.length := hlt.2
    obtain ⟨c0, -, -, -⟩ := h.cells
    have pl := h.hp.lt
    clear h hlt
    go_enter Try.func38, Try.ntmps38
    go_wp2_with fail
    refine (IsYoung_c n _ H.out).mono ?_
    rintro e w1 ⟨rfl, rfl⟩
    rw [hy]
    go_wp2_with fail
    go_ret
    exact ⟨ret_int (by rw [HX.out]; simp), Keeps.refl _ _⟩

set_option maxHeartbeats 1000000 in
set_option maxRecDepth 100000 in
theorem RThing_c (i : Int) (w : World) (h : RoomAt w p g A) (hi64 : R64 i) :
    Calls Try.prog 33 #[.pointer (some ⟨p, 0, none⟩), .int .i64 i] w fun e w' => e = .returned (.tuple #[.int .i64 (A.thing i).1, .int .i64 (A.thing i).2.1, .int .i64 (A.thing i).2.2]) ∧ Keeps (fun _ => False) w w' := by
  go_enter Try.func33, Try.ntmps33
  go_wp2_with fail
  refine (RLoad_c i _ h hi64).mono ?_
  rintro e w1 ⟨rfl, hk⟩
  go_wp2_with fail
  refine (PartsOf_c (A.load i) _).mono ?_
  rintro e w2 ⟨rfl, rfl⟩
  go_wp2_with fail
  go_ret3
  exact ⟨rfl, hk⟩
end

end Go.Proofs.Ytjifdalflepcoab
