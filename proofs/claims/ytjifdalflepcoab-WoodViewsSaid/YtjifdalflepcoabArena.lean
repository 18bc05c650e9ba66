/-
  What the functions of package arena do to an Arena in memory.
-/
import Derived.Test.YtjifdalflepcoabAggN
import Derived.Test.YtjifdalflepcoabWord2
import Derived.Test.YtjifdalflepcoabArenaP
namespace Go.Proofs.Ytjifdalflepcoab
open Go.RowKit
set_option linter.unusedVariables false
set_option linter.unusedSimpArgs false

/-- At block p lies an Arena, its words at block g. -/
structure ArenaAt (w : World) (p g : Nat) (A : Ar) : Prop where
  hp : Blk w p [.slice (some ⟨g, 0, none⟩) A.ws.length A.ws.length, .int .i64 A.nur, .int .i64 A.yng, .int .i64 A.grn] 120
  hg : Blk w g (A.ws.map (Value.int .i64)) 2
  ok : A.ok

theorem ArenaAt.ne {w : World} {p g : Nat} {A : Ar} (h : ArenaAt w p g A) : p ≠ g := h.hp.ne h.hg (by decide)

theorem ArenaAt.keep {w w' : World} {p g : Nat} {A : Ar} {S : Nat → Prop} (h : ArenaAt w p g A) (k : Keeps S w w') (h1 : ¬ S p) (h2 : ¬ S g) : ArenaAt w' p g A :=
  ⟨k.blk h.hp h1, k.blk h.hg h2, h.ok⟩

theorem ArenaAt.cells {w : World} {p g : Nat} {A : Ar} (h : ArenaAt w p g A) :
    w.cell? ⟨p, 0, none⟩ = some (.slice (some ⟨g, 0, none⟩) A.ws.length A.ws.length) ∧ w.cell? ⟨p, 1, none⟩ = some (.int .i64 A.nur) ∧ w.cell? ⟨p, 2, none⟩ = some (.int .i64 A.yng) ∧ w.cell? ⟨p, 3, none⟩ = some (.int .i64 A.grn) :=
  ⟨h.hp.cell 0, h.hp.cell 1, h.hp.cell 2, h.hp.cell 3⟩

theorem ArenaAt.word {w : World} {p g : Nat} {A : Ar} (h : ArenaAt w p g A) (i : Nat) (hi : i < A.ws.length) : w.cell? ⟨g, i, none⟩ = some (.int .i64 (A.ws.getD i 0)) := by
  rw [h.hg.cell i, List.getElem?_map, List.getElem?_eq_getElem hi]
  simp [List.getD, hi]

/-- From world w to w': the Arena is another one; nothing else that was there has turned. -/
structure ArenaTo (w : World) (p g : Nat) (w' : World) (A : Ar) : Prop where
  at_ : ArenaAt w' p g A
  k : Keeps (fun b => b = p ∨ b = g) w w'

section
variable {p g : Nat} {A : Ar}

set_option maxHeartbeats 1000000 in
set_option maxRecDepth 100000 in
theorem Young_c (i : Int) (w : World) (h : ArenaAt w p g A) :
    Calls Try.prog 39 #[.pointer (some ⟨p, 0, none⟩), .int .i64 i] w fun e w' => e = .returned (.bool (A.young i)) ∧ w = w' := by
  obtain ⟨c0, c1, c2, c3⟩ := h.cells
  have pl := h.hp.lt
  have HY : Hid (A.young i = (decide (0 ≤ i) && decide (i < A.yng))) := rfl
  clear h c0 c1 c3
  by_cases hi : 0 ≤ i
  · have hd : decide (0 ≤ i) = true := by simpa using hi
    have HX := Lib.hid (show A.young i = decide (i < (A.yng : Int)) by rw [HY.out, hd]; rfl)
    clear HY
    go_enter Try.func39, Try.ntmps39
    go_wp2_with fail
    go_ret
    exact ⟨ret_bool HX.out.symm, rfl⟩
  · have hd : decide (0 ≤ i) = false := by simpa using hi
    have HX := Lib.hid (show A.young i = false by rw [HY.out, hd]; rfl)
    clear HY
    go_enter Try.func39, Try.ntmps39
    go_wp2_with fail
    go_ret
    exact ⟨ret_bool HX.out.symm, rfl⟩

set_option maxHeartbeats 1000000 in
set_option maxRecDepth 100000 in
theorem Old_c (i : Int) (w : World) (h : ArenaAt w p g A) :
    Calls Try.prog 40 #[.pointer (some ⟨p, 0, none⟩), .int .i64 i] w fun e w' => e = .returned (.bool (A.old i)) ∧ w = w' := by
  obtain ⟨c0, c1, c2, c3⟩ := h.cells
  have pl := h.hp.lt
  have HY : Hid (A.old i = (decide ((A.nur : Int) ≤ i) && decide (i < A.grn))) := rfl
  clear h c0 c2
  by_cases hi : (A.nur : Int) ≤ i
  · have hd : decide ((A.nur : Int) ≤ i) = true := by simpa using hi
    have HX := Lib.hid (show A.old i = decide (i < (A.grn : Int)) by rw [HY.out, hd]; rfl)
    clear HY
    go_enter Try.func40, Try.ntmps40
    go_wp2_with fail
    go_ret
    exact ⟨ret_bool HX.out.symm, rfl⟩
  · have hd : decide ((A.nur : Int) ≤ i) = false := by simpa using hi
    have HX := Lib.hid (show A.old i = false by rw [HY.out, hd]; rfl)
    clear HY
    go_enter Try.func40, Try.ntmps40
    go_wp2_with fail
    go_ret
    exact ⟨ret_bool HX.out.symm, rfl⟩

set_option maxHeartbeats 1000000 in
set_option maxRecDepth 100000 in
theorem Used_c (w : World) (h : ArenaAt w p g A) :
    Calls Try.prog 29 #[.pointer (some ⟨p, 0, none⟩)] w fun e w' => e = .returned (.tuple #[.int .i64 A.yng, .int .i64 ((A.grn - A.nur : Nat) : Int)]) ∧ Keeps (fun _ => False) w w' := by
  obtain ⟨c0, c1, c2, c3⟩ := h.cells
  have pl := h.hp.lt
  have o1 := h.ok.h1; have o2 := h.ok.h2; have o3 := h.ok.h3; have o4 := h.ok.h4
  have hs : IntKind.i64.wrap ((A.grn : Int) - A.nur) = (A.grn : Int) - A.nur := IntWalk.i64_in _ (by omega)
  go_enter Try.func29, Try.ntmps29
  go_wp2_with fail
  refine wp_region_ro (.free 0 (.free 1 (.free 2 (.free 4 (.free 5 (.free 6 (.free 8 (.free 9 (.free 10 (.pure 3 (.free 13 (.pure 7 (.pure 11 (.free 12 (.free 14 (.fin)))))))))))))))) [] (fun w' => w'.cell? ⟨p, 1, none⟩ = some (.int .i64 A.nur) ∧ w'.cell? ⟨p, 2, none⟩ = some (.int .i64 A.yng) ∧ w'.cell? ⟨p, 3, none⟩ = some (.int .i64 A.grn)) (by kernel_rfl) (by kernel_rfl) ⟨c1, c2, c3⟩ ?_
  first | (refine wpRO_free rfl rfl _ (fun w' => by go_simp; exact Gives.mk _ _) (fun K hK => ?_); go_simp; refine hK _ ?_; clear hK K) | (refine wpRO_skipF rfl rfl (fun K hK => ?_); go_simp; refine hK _ ?_; clear hK K)
  first | (refine wpRO_free rfl rfl _ (fun w' => by go_simp; exact Gives.mk _ _) (fun K hK => ?_); go_simp; refine hK _ ?_; clear hK K) | (refine wpRO_skipF rfl rfl (fun K hK => ?_); go_simp; refine hK _ ?_; clear hK K)
  first | (refine wpRO_free rfl rfl _ (fun w' => by go_simp; exact Gives.mk _ _) (fun K hK => ?_); go_simp; refine hK _ ?_; clear hK K) | (refine wpRO_skipF rfl rfl (fun K hK => ?_); go_simp; refine hK _ ?_; clear hK K)
  first | (refine wpRO_free rfl rfl _ (fun w' => by go_simp; exact Gives.mk _ _) (fun K hK => ?_); go_simp; refine hK _ ?_; clear hK K) | (refine wpRO_skipF rfl rfl (fun K hK => ?_); go_simp; refine hK _ ?_; clear hK K)
  first | (refine wpRO_free rfl rfl _ (fun w' => by go_simp; exact Gives.mk _ _) (fun K hK => ?_); go_simp; refine hK _ ?_; clear hK K) | (refine wpRO_skipF rfl rfl (fun K hK => ?_); go_simp; refine hK _ ?_; clear hK K)
  first | (refine wpRO_free rfl rfl _ (fun w' => by go_simp; exact Gives.mk _ _) (fun K hK => ?_); go_simp; refine hK _ ?_; clear hK K) | (refine wpRO_skipF rfl rfl (fun K hK => ?_); go_simp; refine hK _ ?_; clear hK K)
  first | (refine wpRO_free rfl rfl _ (fun w' => by go_simp; exact Gives.mk _ _) (fun K hK => ?_); go_simp; refine hK _ ?_; clear hK K) | (refine wpRO_skipF rfl rfl (fun K hK => ?_); go_simp; refine hK _ ?_; clear hK K)
  first | (refine wpRO_free rfl rfl _ (fun w' => by go_simp; exact Gives.mk _ _) (fun K hK => ?_); go_simp; refine hK _ ?_; clear hK K) | (refine wpRO_skipF rfl rfl (fun K hK => ?_); go_simp; refine hK _ ?_; clear hK K)
  first | (refine wpRO_free rfl rfl _ (fun w' => by go_simp; exact Gives.mk _ _) (fun K hK => ?_); go_simp; refine hK _ ?_; clear hK K) | (refine wpRO_skipF rfl rfl (fun K hK => ?_); go_simp; refine hK _ ?_; clear hK K)
  first | (refine wpRO_pure rfl rfl _ (fun w' hG => by obtain ⟨g0, g1, g2⟩ := hG; exact gives_agg2 rfl (by decide +kernel) rfl (by assumption) (by assumption)) (fun K hK => ?_); go_simp; refine hK _ ?_; clear hK K) | (refine wpRO_pure rfl rfl _ (fun w' hG => by obtain ⟨g0, g1, g2⟩ := hG; go_simp; exact Gives.mk _ _) (fun K hK => ?_); go_simp; refine hK _ ?_; clear hK K) | (refine wpRO_skip rfl rfl (fun K hK => ?_); go_simp; refine hK _ ?_; clear hK K)
  first | (refine wpRO_free rfl rfl _ (fun w' => by go_simp; exact Gives.mk _ _) (fun K hK => ?_); go_simp; refine hK _ ?_; clear hK K) | (refine wpRO_skipF rfl rfl (fun K hK => ?_); go_simp; refine hK _ ?_; clear hK K)
  first | (refine wpRO_pure rfl rfl _ (fun w' hG => by obtain ⟨g0, g1, g2⟩ := hG; exact gives_agg2 rfl (by decide +kernel) rfl (by assumption) (by assumption)) (fun K hK => ?_); go_simp; refine hK _ ?_; clear hK K) | (refine wpRO_pure rfl rfl _ (fun w' hG => by obtain ⟨g0, g1, g2⟩ := hG; go_simp; exact Gives.mk _ _) (fun K hK => ?_); go_simp; refine hK _ ?_; clear hK K) | (refine wpRO_skip rfl rfl (fun K hK => ?_); go_simp; refine hK _ ?_; clear hK K)
  first | (refine wpRO_pure rfl rfl _ (fun w' hG => by obtain ⟨g0, g1, g2⟩ := hG; exact gives_agg2 rfl (by decide +kernel) rfl (by assumption) (by assumption)) (fun K hK => ?_); go_simp; refine hK _ ?_; clear hK K) | (refine wpRO_pure rfl rfl _ (fun w' hG => by obtain ⟨g0, g1, g2⟩ := hG; go_simp; exact Gives.mk _ _) (fun K hK => ?_); go_simp; refine hK _ ?_; clear hK K) | (refine wpRO_skip rfl rfl (fun K hK => ?_); go_simp; refine hK _ ?_; clear hK K)
  first | (refine wpRO_free rfl rfl _ (fun w' => by go_simp; exact Gives.mk _ _) (fun K hK => ?_); go_simp; refine hK _ ?_; clear hK K) | (refine wpRO_skipF rfl rfl (fun K hK => ?_); go_simp; refine hK _ ?_; clear hK K)
  first | (refine wpRO_free rfl rfl _ (fun w' => by go_simp; exact Gives.mk _ _) (fun K hK => ?_); go_simp; refine hK _ ?_; clear hK K) | (refine wpRO_skipF rfl rfl (fun K hK => ?_); go_simp; refine hK _ ?_; clear hK K)
  refine wpRO_fin ?_
  go_wp2_with fail
  go_ret2
  exact ⟨ret_two rfl (by omega), (Keeps.refl _ _).drew⟩

set_option maxHeartbeats 1000000 in
set_option maxRecDepth 100000 in
theorem Free_c (w : World) (h : ArenaAt w p g A) :
    Calls Try.prog 30 #[.pointer (some ⟨p, 0, none⟩)] w fun e w' => e = .returned (.tuple #[.int .i64 ((A.nur - A.yng : Nat) : Int), .int .i64 ((A.ws.length - A.grn : Nat) : Int)]) ∧ Keeps (fun _ => False) w w' := by
  obtain ⟨c0, c1, c2, c3⟩ := h.cells
  have pl := h.hp.lt
  have o1 := h.ok.h1; have o2 := h.ok.h2; have o3 := h.ok.h3; have o4 := h.ok.h4
  have hs : IntKind.i64.wrap ((A.nur : Int) - A.yng) = (A.nur : Int) - A.yng := IntWalk.i64_in _ (by omega)
  have hs2 : IntKind.i64.wrap ((A.ws.length : Int) - A.grn) = (A.ws.length : Int) - A.grn := IntWalk.i64_in _ (by omega)
  go_enter Try.func30, Try.ntmps30
  go_wp2_with fail
  refine wp_region_ro (.free 0 (.free 1 (.free 2 (.free 4 (.free 5 (.free 6 (.free 9 (.free 10 (.free 11 (.free 14 (.free 15 (.free 16 (.pure 3 (.pure 7 (.free 8 (.free 19 (.pure 12 (.free 13 (.pure 17 (.free 18 (.free 20 (.fin)))))))))))))))))))))) [] (fun w' => w'.cell? ⟨p, 0, none⟩ = some (.slice (some ⟨g, 0, none⟩) A.ws.length A.ws.length) ∧ w'.cell? ⟨p, 1, none⟩ = some (.int .i64 A.nur) ∧ w'.cell? ⟨p, 2, none⟩ = some (.int .i64 A.yng) ∧ w'.cell? ⟨p, 3, none⟩ = some (.int .i64 A.grn)) (by kernel_rfl) (by kernel_rfl) ⟨c0, c1, c2, c3⟩ ?_
  first | (refine wpRO_free rfl rfl _ (fun w' => by go_simp; exact Gives.mk _ _) (fun K hK => ?_); go_simp; refine hK _ ?_; clear hK K) | (refine wpRO_skipF rfl rfl (fun K hK => ?_); go_simp; refine hK _ ?_; clear hK K)
  first | (refine wpRO_free rfl rfl _ (fun w' => by go_simp; exact Gives.mk _ _) (fun K hK => ?_); go_simp; refine hK _ ?_; clear hK K) | (refine wpRO_skipF rfl rfl (fun K hK => ?_); go_simp; refine hK _ ?_; clear hK K)
  first | (refine wpRO_free rfl rfl _ (fun w' => by go_simp; exact Gives.mk _ _) (fun K hK => ?_); go_simp; refine hK _ ?_; clear hK K) | (refine wpRO_skipF rfl rfl (fun K hK => ?_); go_simp; refine hK _ ?_; clear hK K)
  first | (refine wpRO_free rfl rfl _ (fun w' => by go_simp; exact Gives.mk _ _) (fun K hK => ?_); go_simp; refine hK _ ?_; clear hK K) | (refine wpRO_skipF rfl rfl (fun K hK => ?_); go_simp; refine hK _ ?_; clear hK K)
  first | (refine wpRO_free rfl rfl _ (fun w' => by go_simp; exact Gives.mk _ _) (fun K hK => ?_); go_simp; refine hK _ ?_; clear hK K) | (refine wpRO_skipF rfl rfl (fun K hK => ?_); go_simp; refine hK _ ?_; clear hK K)
  first | (refine wpRO_free rfl rfl _ (fun w' => by go_simp; exact Gives.mk _ _) (fun K hK => ?_); go_simp; refine hK _ ?_; clear hK K) | (refine wpRO_skipF rfl rfl (fun K hK => ?_); go_simp; refine hK _ ?_; clear hK K)
  first | (refine wpRO_free rfl rfl _ (fun w' => by go_simp; exact Gives.mk _ _) (fun K hK => ?_); go_simp; refine hK _ ?_; clear hK K) | (refine wpRO_skipF rfl rfl (fun K hK => ?_); go_simp; refine hK _ ?_; clear hK K)
  first | (refine wpRO_free rfl rfl _ (fun w' => by go_simp; exact Gives.mk _ _) (fun K hK => ?_); go_simp; refine hK _ ?_; clear hK K) | (refine wpRO_skipF rfl rfl (fun K hK => ?_); go_simp; refine hK _ ?_; clear hK K)
  first | (refine wpRO_free rfl rfl _ (fun w' => by go_simp; exact Gives.mk _ _) (fun K hK => ?_); go_simp; refine hK _ ?_; clear hK K) | (refine wpRO_skipF rfl rfl (fun K hK => ?_); go_simp; refine hK _ ?_; clear hK K)
  first | (refine wpRO_free rfl rfl _ (fun w' => by go_simp; exact Gives.mk _ _) (fun K hK => ?_); go_simp; refine hK _ ?_; clear hK K) | (refine wpRO_skipF rfl rfl (fun K hK => ?_); go_simp; refine hK _ ?_; clear hK K)
  first | (refine wpRO_free rfl rfl _ (fun w' => by go_simp; exact Gives.mk _ _) (fun K hK => ?_); go_simp; refine hK _ ?_; clear hK K) | (refine wpRO_skipF rfl rfl (fun K hK => ?_); go_simp; refine hK _ ?_; clear hK K)
  first | (refine wpRO_free rfl rfl _ (fun w' => by go_simp; exact Gives.mk _ _) (fun K hK => ?_); go_simp; refine hK _ ?_; clear hK K) | (refine wpRO_skipF rfl rfl (fun K hK => ?_); go_simp; refine hK _ ?_; clear hK K)
  first | (refine wpRO_pure rfl rfl _ (fun w' hG => by obtain ⟨g0, g1, g2, g3⟩ := hG; exact gives_agg2 rfl (by decide +kernel) rfl (by assumption) (by assumption)) (fun K hK => ?_); go_simp; refine hK _ ?_; clear hK K) | (refine wpRO_pure rfl rfl _ (fun w' hG => by obtain ⟨g0, g1, g2, g3⟩ := hG; go_simp; exact Gives.mk _ _) (fun K hK => ?_); go_simp; refine hK _ ?_; clear hK K) | (refine wpRO_skip rfl rfl (fun K hK => ?_); go_simp; refine hK _ ?_; clear hK K)
  first | (refine wpRO_pure rfl rfl _ (fun w' hG => by obtain ⟨g0, g1, g2, g3⟩ := hG; exact gives_agg2 rfl (by decide +kernel) rfl (by assumption) (by assumption)) (fun K hK => ?_); go_simp; refine hK _ ?_; clear hK K) | (refine wpRO_pure rfl rfl _ (fun w' hG => by obtain ⟨g0, g1, g2, g3⟩ := hG; go_simp; exact Gives.mk _ _) (fun K hK => ?_); go_simp; refine hK _ ?_; clear hK K) | (refine wpRO_skip rfl rfl (fun K hK => ?_); go_simp; refine hK _ ?_; clear hK K)
  first | (refine wpRO_free rfl rfl _ (fun w' => by go_simp; exact Gives.mk _ _) (fun K hK => ?_); go_simp; refine hK _ ?_; clear hK K) | (refine wpRO_skipF rfl rfl (fun K hK => ?_); go_simp; refine hK _ ?_; clear hK K)
  first | (refine wpRO_free rfl rfl _ (fun w' => by go_simp; exact Gives.mk _ _) (fun K hK => ?_); go_simp; refine hK _ ?_; clear hK K) | (refine wpRO_skipF rfl rfl (fun K hK => ?_); go_simp; refine hK _ ?_; clear hK K)
  first | (refine wpRO_pure rfl rfl _ (fun w' hG => by obtain ⟨g0, g1, g2, g3⟩ := hG; exact gives_agg2 rfl (by decide +kernel) rfl (by assumption) (by assumption)) (fun K hK => ?_); go_simp; refine hK _ ?_; clear hK K) | (refine wpRO_pure rfl rfl _ (fun w' hG => by obtain ⟨g0, g1, g2, g3⟩ := hG; go_simp; exact Gives.mk _ _) (fun K hK => ?_); go_simp; refine hK _ ?_; clear hK K) | (refine wpRO_skip rfl rfl (fun K hK => ?_); go_simp; refine hK _ ?_; clear hK K)
  first | (refine wpRO_free rfl rfl _ (fun w' => by go_simp; exact Gives.mk _ _) (fun K hK => ?_); go_simp; refine hK _ ?_; clear hK K) | (refine wpRO_skipF rfl rfl (fun K hK => ?_); go_simp; refine hK _ ?_; clear hK K)
  first | (refine wpRO_pure rfl rfl _ (fun w' hG => by obtain ⟨g0, g1, g2, g3⟩ := hG; exact gives_agg2 rfl (by decide +kernel) rfl (by assumption) (by assumption)) (fun K hK => ?_); go_simp; refine hK _ ?_; clear hK K) | (refine wpRO_pure rfl rfl _ (fun w' hG => by obtain ⟨g0, g1, g2, g3⟩ := hG; go_simp; exact Gives.mk _ _) (fun K hK => ?_); go_simp; refine hK _ ?_; clear hK K) | (refine wpRO_skip rfl rfl (fun K hK => ?_); go_simp; refine hK _ ?_; clear hK K)
  first | (refine wpRO_free rfl rfl _ (fun w' => by go_simp; exact Gives.mk _ _) (fun K hK => ?_); go_simp; refine hK _ ?_; clear hK K) | (refine wpRO_skipF rfl rfl (fun K hK => ?_); go_simp; refine hK _ ?_; clear hK K)
  first | (refine wpRO_free rfl rfl _ (fun w' => by go_simp; exact Gives.mk _ _) (fun K hK => ?_); go_simp; refine hK _ ?_; clear hK K) | (refine wpRO_skipF rfl rfl (fun K hK => ?_); go_simp; refine hK _ ?_; clear hK K)
  refine wpRO_fin ?_
  go_wp2_with fail
  go_ret2
  exact ⟨ret_two (by omega) (by omega), (Keeps.refl _ _).drew⟩

set_option maxHeartbeats 1000000 in
set_option maxRecDepth 100000 in
theorem Load_c (i : Int) (w : World) (h : ArenaAt w p g A) :
    Calls Try.prog 37 #[.pointer (some ⟨p, 0, none⟩), .int .i64 i] w fun e w' => e = .returned (.int .i64 (A.load i)) ∧ w = w' := by
  have H := Lib.hid h
  obtain ⟨c0, -, -, -⟩ := h.cells
  have pl := h.hp.lt
  have hok := h.ok
  cases hy : A.young i
  · cases ho : A.old i
    · have HX := Lib.hid (show A.load i = 0 by unfold Ar.load Ar.inUse; rw [hy, ho]; rfl)
      clear h c0
      go_enter Try.func37, Try.ntmps37
      go_wp2_with fail
      refine (Young_c i _ H.out).mono ?_
      rintro e w1 ⟨rfl, rfl⟩
      rw [hy]
      go_wp2_with fail
      refine (Old_c i _ H.out).mono ?_
      rintro e w1 ⟨rfl, rfl⟩
      rw [ho]
      go_wp2_with fail
      go_ret
      exact ⟨ret_int HX.out.symm, rfl⟩
    · have hlt := h.ok.old_lt ho
      have HX := Lib.hid (show A.load i = A.ws.getD i.toNat 0 by unfold Ar.load Ar.inUse; rw [hy, ho]; rfl)
      obtain ⟨n, rfl⟩ : ∃ n : Nat, i = n := ⟨i.toNat, by omega⟩
      have c4 := h.word n (by omega)
      have hlt2 : (n : Int) < A.ws.length := hlt.2
      clear h hlt
      go_enter Try.func37, Try.ntmps37
      go_wp2_with fail
      refine (Young_c n _ H.out).mono ?_
      rintro e w1 ⟨rfl, rfl⟩
      rw [hy]
      go_wp2_with fail
      refine (Old_c n _ H.out).mono ?_
      rintro e w1 ⟨rfl, rfl⟩
      rw [ho]
      go_wp2_with fail
      go_ret
      exact ⟨ret_int (by rw [HX.out]; simp), rfl⟩
  · have hlt := h.ok.young_lt hy
    have HX := Lib.hid (show A.load i = A.ws.getD i.toNat 0 by unfold Ar.load Ar.inUse; rw [hy]; rfl)
    obtain ⟨n, rfl⟩ : ∃ n : Nat, i = n := ⟨i.toNat, by omega⟩
    have c4 := h.word n (by omega)
    have hlt2 : (n : Int) < A.ws.length := hlt.2
    clear h hlt
    go_enter Try.func37, Try.ntmps37
    go_wp2_with fail
    refine (Young_c n _ H.out).mono ?_
    rintro e w1 ⟨rfl, rfl⟩
    rw [hy]
    go_wp2_with fail
    go_ret
    exact ⟨ret_int (by rw [HX.out]; simp), rfl⟩

theorem ArenaAt.set {w : World} (h : ArenaAt w p g A) {n : Nat} (x : Int) (hx : R64 x) (hu : A.inUse n = true) : ArenaTo w p g (w.setCell ⟨g, n, none⟩ (.int .i64 x)) (A.store n x) := by
  have hs : A.store n x = { A with ws := A.ws.set n x } := by unfold Ar.store; rw [hu]; simp
  refine ⟨⟨?_, ?_, h.ok.store _ _ hx⟩, (Keeps.refl _ _).setCell (.inl (.inr rfl)) _⟩
  · have := h.hp.setOther (a := ⟨g, n, none⟩) h.ne (.int .i64 x)
    rw [hs]; simpa using this
  · have := h.hg.setSame n (.int .i64 x)
    rw [hs, List.map_set]; exact this

set_option maxHeartbeats 1000000 in
set_option maxRecDepth 100000 in
theorem Store_c (i x : Int) (w : World) (h : ArenaAt w p g A) (hx : R64 x) :
    Calls Try.prog 17 #[.pointer (some ⟨p, 0, none⟩), .int .i64 i, .int .i64 x] w fun e w' => e = .returned (.bool (A.inUse i)) ∧ ArenaTo w p g w' (A.store i x) := by
  have H := Lib.hid h
  obtain ⟨c0, -, -, -⟩ := h.cells
  have pl := h.hp.lt
  have HX := Lib.hid hx; clear hx
  cases hu : A.inUse i
  · have hyo := hu
    unfold Ar.inUse at hyo
    rw [Bool.or_eq_false_iff] at hyo
    obtain ⟨hy, ho⟩ := hyo
    have HE := Lib.hid (show A.store i x = A by unfold Ar.store; rw [hu]; rfl)
    clear h hu
    go_enter Try.func17, Try.ntmps17
    go_wp2_with fail
    refine (Young_c i _ H.out).mono ?_
    rintro e w1 ⟨rfl, rfl⟩
    rw [hy]
    go_wp2_with fail
    refine (Old_c i _ H.out).mono ?_
    rintro e w1 ⟨rfl, rfl⟩
    rw [ho]
    go_wp2_with fail
    go_ret
    exact ⟨rfl, by rw [HE.out]; exact H.out, Keeps.refl _ _⟩
  · have hlt := h.ok.use_lt hu
    have HU := Lib.hid hu
    obtain ⟨n, rfl⟩ : ∃ n : Nat, i = n := ⟨i.toNat, by omega⟩
    have c4 := h.word n (by omega)
    have f4 := h.hg.free n
    have hlt2 : (n : Int) < A.ws.length := hlt.2
    clear h hlt
    cases hy : A.young n
    · have ho : A.old n = true := by
        unfold Ar.inUse at hu; rw [hy] at hu; simpa using hu
      clear hu
      go_enter Try.func17, Try.ntmps17
      go_wp2_with fail
      refine (Young_c n _ H.out).mono ?_
      rintro e w1 ⟨rfl, rfl⟩
      rw [hy]
      go_wp2_with fail
      refine (Old_c n _ H.out).mono ?_
      rintro e w1 ⟨rfl, rfl⟩
      rw [ho]
      go_wp2_with fail
      go_ret
      exact ⟨rfl, H.out.set x HX.out HU.out⟩
    · clear hu
      go_enter Try.func17, Try.ntmps17
      go_wp2_with fail
      refine (Young_c n _ H.out).mono ?_
      rintro e w1 ⟨rfl, rfl⟩
      rw [hy]
      go_wp2_with fail
      go_ret
      exact ⟨rfl, H.out.set x HX.out HU.out⟩

set_option maxHeartbeats 1000000 in
set_option maxRecDepth 100000 in
theorem Thing_c (i : Int) (w : World) (h : ArenaAt w p g A) :
    Calls Try.prog 32 #[.pointer (some ⟨p, 0, none⟩), .int .i64 i] w fun e w' => e = .returned (.tuple #[.int .i64 (A.thing i).1, .int .i64 (A.thing i).2.1, .int .i64 (A.thing i).2.2]) ∧ w = w' := by
  go_enter Try.func32, Try.ntmps32
  go_wp2_with fail
  refine (Load_c i _ h).mono ?_
  rintro e w1 ⟨rfl, rfl⟩
  have hr := h.ok.load i
  go_wp2_with fail
  refine (Parts_c (A.load i) _ hr.1 hr.2).mono ?_
  rintro e w1 ⟨rfl, rfl⟩
  go_wp2_with fail
  go_ret3
  exact ⟨rfl, rfl⟩

set_option maxHeartbeats 1000000 in
set_option maxRecDepth 100000 in
theorem AClear_c (w : World) (h : ArenaAt w p g A) :
    Calls Try.prog 27 #[.pointer (some ⟨p, 0, none⟩)] w fun e w' => e = .returned (.tuple #[]) ∧ ArenaTo w p g w' A.clear := by
  have H := Lib.hid h
  obtain ⟨-, -, c2, -⟩ := h.cells
  have f2 := h.hp.free 2
  have pl := h.hp.lt
  clear h
  go_enter Try.func27, Try.ntmps27
  go_wp2_with fail
  go_end0
  refine ⟨rfl, ⟨?_, ?_, H.out.ok.clear⟩, (Keeps.refl _ _).setCell (.inl (.inl rfl)) _⟩
  · simpa [Ar.clear] using H.out.hp.setSame 2 (.int .i64 0)
  · exact H.out.hg.setOther (a := ⟨p, 2, none⟩) (Ne.symm H.out.ne) _

set_option maxHeartbeats 1000000 in
set_option maxRecDepth 100000 in
theorem ACut_c (n : Nat) (w : World) (h : ArenaAt w p g A) (hn : A.nur + n ≤ A.ws.length) :
    Calls Try.prog 28 #[.pointer (some ⟨p, 0, none⟩), .int .i64 n] w fun e w' => e = .returned (.tuple #[]) ∧ ArenaTo w p g w' (A.cut n) := by
  have H := Lib.hid h
  obtain ⟨-, c1, -, c3⟩ := h.cells
  have f3 := h.hp.free 3
  have pl := h.hp.lt
  have o4 := h.ok.h4
  clear h
  go_enter Try.func28, Try.ntmps28
  go_wp2_with fail
  go_end0
  refine ⟨rfl, ⟨?_, ?_, H.out.ok.cut hn⟩, (Keeps.refl _ _).setCell (.inl (.inl rfl)) _⟩
  · simpa [Ar.cut] using H.out.hp.setSame 3 (.int .i64 ((A.nur : Int) + n))
  · exact H.out.hg.setOther (a := ⟨p, 3, none⟩) (Ne.symm H.out.ne) _
end

end Go.Proofs.Ytjifdalflepcoab
