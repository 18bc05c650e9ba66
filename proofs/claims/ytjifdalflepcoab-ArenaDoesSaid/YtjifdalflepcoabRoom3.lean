/-
  The reference's Room in memory: Copy, things, Things.
-/
import Derived.Test.YtjifdalflepcoabRoom2
import Derived.Test.YtjifdalflepcoabArenaBegun
namespace Go.Proofs.Ytjifdalflepcoab
open Go.RowKit
set_option linter.unusedVariables false
set_option linter.unusedSimpArgs false

section
variable {p g : Nat} {A : Ar}

theorem lay_more {l m : List Int} {i j : Nat} (hj : j < m.length) (hl : i + m.length ≤ l.length) : (lay l i (m.take j)).set (i + j) (m.getD j 0) = lay l i (m.take (j + 1)) := by
  have e1 : (m.take j).length = j := by simp; omega
  have e2 : (m.take (j + 1)).length = j + 1 := by simp; omega
  have hl1 : (lay l i (m.take j)).length = l.length := lay_length (by rw [e1]; omega)
  apply List.ext_getElem?
  intro k
  rw [List.getElem?_set, lay_get (by rw [e1]; omega), lay_get (by rw [e2]; omega), e1, e2, hl1]
  by_cases hk : i + j = k
  · subst hk
    rw [if_pos rfl, if_pos (by omega), if_pos (by omega), show i + j - i = j by omega, List.getElem?_take, if_pos (by omega), List.getElem?_eq_getElem hj]
    simp [List.getD, hj]
  · rw [if_neg hk]
    by_cases h2 : i ≤ k ∧ k < i + j
    · rw [if_pos h2, if_pos (by omega), List.getElem?_take, List.getElem?_take, if_pos (by omega), if_pos (by omega)]
    · rw [if_neg h2, if_neg (by omega)]

theorem lay_nil (l : List Int) (i : Nat) : lay l i [] = l := by unfold lay; simp

/-- Is a word of a thing where the first one is? -/
def okC (A : Ar) (i : Int) (j : Nat) : Prop := (A.young i = true → A.young (i + j) = true) ∧ (A.old i = true → A.old (i + j) = true)

theorem okC_whole {i : Int} {n : Nat} (h : A.ok) (hu : A.inUse i = true) : (∀ j : Nat, j ≤ n → okC A i j) ↔ A.whole i n = true := by
  have h1 := h.h1; have h2 := h.h2
  unfold Ar.whole okC
  simp only [Ar.inUse, Ar.young, Ar.old, Bool.or_eq_true, Bool.and_eq_true, decide_eq_true_eq] at hu ⊢
  constructor
  · intro hh
    have := hh n (Nat.le_refl _)
    omega
  · intro hh j hj
    omega

set_option maxHeartbeats 4000000 in
set_option maxRecDepth 100000 in
theorem RCopy_c (i : Int) (w : World) (h : RoomAt w p g A) (hi64 : R64 i) :
    Calls Try.prog 26 #[.pointer (some ⟨p, 0, none⟩), .int .i64 i] w fun e w' => e = .returned (.int .i64 (A.copy i).1) ∧ RoomTo w p g w' (A.copy i).2 := by
  have H := Lib.hid h; have HI := Lib.hid hi64
  have o1 := h.ok.h1; have o2 := h.ok.h2; have o3 := h.ok.h3; have o4 := h.ok.h4
  have HOK := Lib.hid (h.ok.copy i)
  have HOA := Lib.hid h.ok
  have hfl := A.thing_fields i
  have hno := Ar.copy_no (A := A) (i := i)
  have hyes := Ar.copy_yes (A := A) (i := i)
  have hws := fun n hn hw => Ar.whole_spec (A := A) h.ok (i := i) (n := n) hn hw
  have husel := fun hu => h.ok.use_lt (i := i) hu
  have huse : (A.thing i).2.2 = 0 → A.inUse i = true := Ar.thing_use
  obtain ⟨⟨k, n, c⟩, hT⟩ : ∃ t, A.thing i = t := ⟨_, rfl⟩
  rw [hT] at hfl hno hyes huse
  dsimp only at hfl hno hyes huse
  have HT := Lib.hid hT
  have hw0 : IntKind.i64.wrap ((A.nur : Int) + ((A.grn - A.nur : Nat) : Int)) = (A.grn : Int) := by rw [show (A.nur : Int) + ((A.grn - A.nur : Nat) : Int) = (A.grn : Int) by omega]; exact IntWalk.i64_in _ (by omega)
  have HW0 := Lib.hid hw0
  obtain ⟨i0, hi, hz0, hz1, hz2⟩ := info_parts info_i64
  have Hi := Lib.hid hi; have Hz0 := Lib.hid hz0; have Hz1 := Lib.hid hz1; have Hz2 := Lib.hid hz2; clear hi hz0 hz1 hz2
  clear h hi64 hT hw0
  by_cases hc : c = 0
  · subst hc
    have hu := huse rfl
    have hul := husel hu
    obtain ⟨m, rfl⟩ : ∃ m : Nat, i = m := ⟨i.toNat, by omega⟩
    obtain ⟨f, rfl⟩ : ∃ f : Nat, n = f := ⟨n.toNat, by omega⟩
    by_cases hr : 1 + (f : Int) ≤ (A.ws.length : Int) - A.grn
    · have hd : decide ((A.ws.length : Int) - A.grn < (f : Int) + 1) = false := by simp; omega
      cases hwh : A.whole m f
      · have HE := Lib.hid (hno (fun h => by rw [hwh] at h; cases h.2.1))
        have HBAD := Lib.hid (show ¬ okC A m f from fun hh => by
          have : A.whole m f = true := (okC_whole HOA.out hu).1 (fun j hj => by
            unfold okC at hh ⊢
            have h1 := HOA.out.h1; have h2 := HOA.out.h2
            simp only [Ar.young, Ar.old, Bool.and_eq_true, decide_eq_true_eq] at hh ⊢
            omega)
          rw [hwh] at this; cases this)
        have HUSE := Lib.hid hu
        clear hno hyes huse hu hwh
        go_enter Try.func26, Try.ntmps26
        go_wp2_with fail
        refine (RThing_c m _ H.out HI.out).mono ?_
        rintro e w1 ⟨rfl, hk1⟩
        rw [HT.out]
        dsimp only
        have H1 := Lib.hid (H.out.keep hk1 (fun h => h) (fun h => h)); have HK1 := Lib.hid hk1
        clear hk1
        obtain ⟨c0, c1, -, c3⟩ := H1.out.cells
        have pl := H1.out.hp.lt
        go_wp2_with fail
        refine wp_region_ro (.free 0 (.free 1 (.free 2 (.free 4 (.free 5 (.free 6 (.pure 3 (.pure 7 (.free 8 (.free 9 (.fin))))))))))) [] (fun w' => w'.cell? ⟨p, 1, none⟩ = some (.int .i64 A.nur) ∧ w'.cell? ⟨p, 3, none⟩ = some (.int .i64 ((A.grn - A.nur : Nat) : Int))) (by kernel_rfl) (by kernel_rfl) ⟨c1, c3⟩ ?_
        first | (refine wpRO_free rfl rfl _ (fun w' => by go_simp; exact Gives.mk _ _) (fun K hK => ?_); go_simp; refine hK _ ?_; clear hK K) | (refine wpRO_skipF rfl rfl (fun K hK => ?_); go_simp; refine hK _ ?_; clear hK K)
        first | (refine wpRO_free rfl rfl _ (fun w' => by go_simp; exact Gives.mk _ _) (fun K hK => ?_); go_simp; refine hK _ ?_; clear hK K) | (refine wpRO_skipF rfl rfl (fun K hK => ?_); go_simp; refine hK _ ?_; clear hK K)
        first | (refine wpRO_free rfl rfl _ (fun w' => by go_simp; exact Gives.mk _ _) (fun K hK => ?_); go_simp; refine hK _ ?_; clear hK K) | (refine wpRO_skipF rfl rfl (fun K hK => ?_); go_simp; refine hK _ ?_; clear hK K)
        first | (refine wpRO_free rfl rfl _ (fun w' => by go_simp; exact Gives.mk _ _) (fun K hK => ?_); go_simp; refine hK _ ?_; clear hK K) | (refine wpRO_skipF rfl rfl (fun K hK => ?_); go_simp; refine hK _ ?_; clear hK K)
        first | (refine wpRO_free rfl rfl _ (fun w' => by go_simp; exact Gives.mk _ _) (fun K hK => ?_); go_simp; refine hK _ ?_; clear hK K) | (refine wpRO_skipF rfl rfl (fun K hK => ?_); go_simp; refine hK _ ?_; clear hK K)
        first | (refine wpRO_free rfl rfl _ (fun w' => by go_simp; exact Gives.mk _ _) (fun K hK => ?_); go_simp; refine hK _ ?_; clear hK K) | (refine wpRO_skipF rfl rfl (fun K hK => ?_); go_simp; refine hK _ ?_; clear hK K)
        first | (refine wpRO_pure rfl rfl _ (fun w' hG => by obtain ⟨g0, g1⟩ := hG; exact gives_agg2 rfl (by decide +kernel) rfl (by assumption) (by assumption)) (fun K hK => ?_); go_simp; refine hK _ ?_; clear hK K) | (refine wpRO_pure rfl rfl _ (fun w' hG => by obtain ⟨g0, g1⟩ := hG; go_simp; exact Gives.mk _ _) (fun K hK => ?_); go_simp; refine hK _ ?_; clear hK K) | (refine wpRO_skip rfl rfl (fun K hK => ?_); go_simp; refine hK _ ?_; clear hK K)
        first | (refine wpRO_pure rfl rfl _ (fun w' hG => by obtain ⟨g0, g1⟩ := hG; exact gives_agg2 rfl (by decide +kernel) rfl (by assumption) (by assumption)) (fun K hK => ?_); go_simp; refine hK _ ?_; clear hK K) | (refine wpRO_pure rfl rfl _ (fun w' hG => by obtain ⟨g0, g1⟩ := hG; go_simp; exact Gives.mk _ _) (fun K hK => ?_); go_simp; refine hK _ ?_; clear hK K) | (refine wpRO_skip rfl rfl (fun K hK => ?_); go_simp; refine hK _ ?_; clear hK K)
        first | (refine wpRO_free rfl rfl _ (fun w' => by go_simp; exact Gives.mk _ _) (fun K hK => ?_); go_simp; refine hK _ ?_; clear hK K) | (refine wpRO_skipF rfl rfl (fun K hK => ?_); go_simp; refine hK _ ?_; clear hK K)
        first | (refine wpRO_free rfl rfl _ (fun w' => by go_simp; exact Gives.mk _ _) (fun K hK => ?_); go_simp; refine hK _ ?_; clear hK K) | (refine wpRO_skipF rfl rfl (fun K hK => ?_); go_simp; refine hK _ ?_; clear hK K)
        refine wpRO_fin ?_
        rw [HW0.out]
        have H2 := Lib.hid (H1.out.keep (Keeps.refl (fun _ => False) w1).drew (fun h => h) (fun h => h)); have HK2 := Lib.hid (HK1.out.drew)
        clear c0 c1 c3 pl
        generalize w1.drew = w2 at *
        obtain ⟨c0, -, -, -⟩ := H2.out.cells
        have pl := H2.out.hp.lt
        go_wp2_with fail
        clear c0 pl hd
        go_loopw [9] (fun i wr => ∃ j : Nat, j ≤ f ∧ i = .int .i64 j ∧ Keeps (fun _ => False) w2 wr) (fun i _ => f + 1 - (intOf i).toNat)
        case atStart => exact ⟨0, Nat.zero_le _, rfl, Keeps.refl _ _⟩
        case round =>
          obtain ⟨j, hj, rfl, hk⟩ := hrel
          have HK := Lib.hid hk; clear hk
          cases hy : A.young m
          · have ho : A.old m = true := by have := HUSE.out; unfold Ar.inUse at this; rw [hy] at this; simpa using this
            cases hoj : A.old ((m : Int) + j)
            · have HOKJ := Lib.hid (show ¬ okC A m j from fun h => by have := h.2 ho; rw [hoj] at this; cases this)
              go_wp2_with fail
              refine (IsYoung_c m _ (H2.out.keep HK.out (fun h => h) (fun h => h))).mono ?_
              rintro e w3 ⟨rfl, rfl⟩
              rw [hy]
              go_wp2_with fail
              refine (IsOld_c m _ (H2.out.keep HK.out (fun h => h) (fun h => h)) HI.out).mono ?_
              rintro e w3 ⟨rfl, hk3⟩
              rw [ho]
              have HK3 := Lib.hid (HK.out.trans hk3)
              clear hk3
              go_wp2_with fail
              refine (IsOld_c ((m : Int) + j) _ (H2.out.keep HK3.out (fun h => h) (fun h => h)) (by unfold R64; omega)).mono ?_
              rintro e w4 ⟨rfl, hk4⟩
              rw [hoj]
              have HK4 := Lib.hid (HK3.out.trans hk4)
              clear hk4
              go_wp2_with fail
              go_ret
              rw [HE.out]
              exact ⟨rfl, RoomTo.refl H.out (HK2.out.trans HK4.out)⟩
            · have HOKJ := Lib.hid (show okC A m j from ⟨fun h => by (rw [hy] at h; cases h), fun _ => hoj⟩)
              go_wp2_with fail
              refine (IsYoung_c m _ (H2.out.keep HK.out (fun h => h) (fun h => h))).mono ?_
              rintro e w3 ⟨rfl, rfl⟩
              rw [hy]
              go_wp2_with fail
              refine (IsOld_c m _ (H2.out.keep HK.out (fun h => h) (fun h => h)) HI.out).mono ?_
              rintro e w3 ⟨rfl, hk3⟩
              rw [ho]
              have HK3 := Lib.hid (HK.out.trans hk3)
              clear hk3
              go_wp2_with fail
              refine (IsOld_c ((m : Int) + j) _ (H2.out.keep HK3.out (fun h => h) (fun h => h)) (by unfold R64; omega)).mono ?_
              rintro e w4 ⟨rfl, hk4⟩
              rw [hoj]
              have HK4 := Lib.hid (HK3.out.trans hk4)
              clear hk4
              go_wp2_with fail
              go_roundw
              case rel => exact ⟨j + 1, by (have h1 : j ≠ f := fun e => by (subst e; exact HBAD.out HOKJ.out)); omega, by go_num, HK4.out⟩
              case measure => simp [intOf]; omega
          · have ho : A.old m = false := by
              have h1 := HOA.out.h1
              simp [Ar.young] at hy; simp [Ar.old]; omega
            cases hyj : A.young ((m : Int) + j)
            · have HOKJ := Lib.hid (show ¬ okC A m j from fun h => by have := h.1 hy; rw [hyj] at this; cases this)
              go_wp2_with fail
              refine (IsYoung_c m _ (H2.out.keep HK.out (fun h => h) (fun h => h))).mono ?_
              rintro e w3 ⟨rfl, rfl⟩
              rw [hy]
              go_wp2_with fail
              refine (IsYoung_c ((m : Int) + j) _ (H2.out.keep HK.out (fun h => h) (fun h => h))).mono ?_
              rintro e w3 ⟨rfl, rfl⟩
              rw [hyj]
              have HK4 := Lib.hid HK.out
              go_wp2_with fail
              go_ret
              rw [HE.out]
              exact ⟨rfl, RoomTo.refl H.out (HK2.out.trans HK4.out)⟩
            · have HOKJ := Lib.hid (show okC A m j from ⟨fun _ => hyj, fun h => by (rw [ho] at h; cases h)⟩)
              go_wp2_with fail
              refine (IsYoung_c m _ (H2.out.keep HK.out (fun h => h) (fun h => h))).mono ?_
              rintro e w3 ⟨rfl, rfl⟩
              rw [hy]
              go_wp2_with fail
              refine (IsYoung_c ((m : Int) + j) _ (H2.out.keep HK.out (fun h => h) (fun h => h))).mono ?_
              rintro e w3 ⟨rfl, rfl⟩
              rw [hyj]
              go_wp2_with fail
              refine (IsOld_c m _ (H2.out.keep HK.out (fun h => h) (fun h => h)) HI.out).mono ?_
              rintro e w3 ⟨rfl, hk3⟩
              rw [ho]
              have HK4 := Lib.hid (HK.out.trans hk3)
              clear hk3
              go_wp2_with fail
              go_roundw
              case rel => exact ⟨j + 1, by (have h1 : j ≠ f := fun e => by (subst e; exact HBAD.out HOKJ.out)); omega, by go_num, HK4.out⟩
              case measure => simp [intOf]; omega
      · skip
        have HE := Lib.hid (hyes ⟨rfl, hwh, hr⟩)
        have HWS := hws f (by omega) hwh
        have HUSE := Lib.hid hu
        have HGOOD := Lib.hid ((okC_whole (n := f) HOA.out hu).2 hwh)
        clear hno hyes huse hu hwh hws husel
        go_enter Try.func26, Try.ntmps26
        go_wp2_with fail
        refine (RThing_c m _ H.out HI.out).mono ?_
        rintro e w1 ⟨rfl, hk1⟩
        rw [HT.out]
        dsimp only
        have H1 := Lib.hid (H.out.keep hk1 (fun h => h) (fun h => h)); have HK1 := Lib.hid hk1
        clear hk1
        obtain ⟨c0, c1, -, c3⟩ := H1.out.cells
        have pl := H1.out.hp.lt
        go_wp2_with fail
        refine wp_region_ro (.free 0 (.free 1 (.free 2 (.free 4 (.free 5 (.free 6 (.pure 3 (.pure 7 (.free 8 (.free 9 (.fin))))))))))) [] (fun w' => w'.cell? ⟨p, 1, none⟩ = some (.int .i64 A.nur) ∧ w'.cell? ⟨p, 3, none⟩ = some (.int .i64 ((A.grn - A.nur : Nat) : Int))) (by kernel_rfl) (by kernel_rfl) ⟨c1, c3⟩ ?_
        first | (refine wpRO_free rfl rfl _ (fun w' => by go_simp; exact Gives.mk _ _) (fun K hK => ?_); go_simp; refine hK _ ?_; clear hK K) | (refine wpRO_skipF rfl rfl (fun K hK => ?_); go_simp; refine hK _ ?_; clear hK K)
        first | (refine wpRO_free rfl rfl _ (fun w' => by go_simp; exact Gives.mk _ _) (fun K hK => ?_); go_simp; refine hK _ ?_; clear hK K) | (refine wpRO_skipF rfl rfl (fun K hK => ?_); go_simp; refine hK _ ?_; clear hK K)
        first | (refine wpRO_free rfl rfl _ (fun w' => by go_simp; exact Gives.mk _ _) (fun K hK => ?_); go_simp; refine hK _ ?_; clear hK K) | (refine wpRO_skipF rfl rfl (fun K hK => ?_); go_simp; refine hK _ ?_; clear hK K)
        first | (refine wpRO_free rfl rfl _ (fun w' => by go_simp; exact Gives.mk _ _) (fun K hK => ?_); go_simp; refine hK _ ?_; clear hK K) | (refine wpRO_skipF rfl rfl (fun K hK => ?_); go_simp; refine hK _ ?_; clear hK K)
        first | (refine wpRO_free rfl rfl _ (fun w' => by go_simp; exact Gives.mk _ _) (fun K hK => ?_); go_simp; refine hK _ ?_; clear hK K) | (refine wpRO_skipF rfl rfl (fun K hK => ?_); go_simp; refine hK _ ?_; clear hK K)
        first | (refine wpRO_free rfl rfl _ (fun w' => by go_simp; exact Gives.mk _ _) (fun K hK => ?_); go_simp; refine hK _ ?_; clear hK K) | (refine wpRO_skipF rfl rfl (fun K hK => ?_); go_simp; refine hK _ ?_; clear hK K)
        first | (refine wpRO_pure rfl rfl _ (fun w' hG => by obtain ⟨g0, g1⟩ := hG; exact gives_agg2 rfl (by decide +kernel) rfl (by assumption) (by assumption)) (fun K hK => ?_); go_simp; refine hK _ ?_; clear hK K) | (refine wpRO_pure rfl rfl _ (fun w' hG => by obtain ⟨g0, g1⟩ := hG; go_simp; exact Gives.mk _ _) (fun K hK => ?_); go_simp; refine hK _ ?_; clear hK K) | (refine wpRO_skip rfl rfl (fun K hK => ?_); go_simp; refine hK _ ?_; clear hK K)
        first | (refine wpRO_pure rfl rfl _ (fun w' hG => by obtain ⟨g0, g1⟩ := hG; exact gives_agg2 rfl (by decide +kernel) rfl (by assumption) (by assumption)) (fun K hK => ?_); go_simp; refine hK _ ?_; clear hK K) | (refine wpRO_pure rfl rfl _ (fun w' hG => by obtain ⟨g0, g1⟩ := hG; go_simp; exact Gives.mk _ _) (fun K hK => ?_); go_simp; refine hK _ ?_; clear hK K) | (refine wpRO_skip rfl rfl (fun K hK => ?_); go_simp; refine hK _ ?_; clear hK K)
        first | (refine wpRO_free rfl rfl _ (fun w' => by go_simp; exact Gives.mk _ _) (fun K hK => ?_); go_simp; refine hK _ ?_; clear hK K) | (refine wpRO_skipF rfl rfl (fun K hK => ?_); go_simp; refine hK _ ?_; clear hK K)
        first | (refine wpRO_free rfl rfl _ (fun w' => by go_simp; exact Gives.mk _ _) (fun K hK => ?_); go_simp; refine hK _ ?_; clear hK K) | (refine wpRO_skipF rfl rfl (fun K hK => ?_); go_simp; refine hK _ ?_; clear hK K)
        refine wpRO_fin ?_
        rw [HW0.out]
        have H2 := Lib.hid (H1.out.keep (Keeps.refl (fun _ => False) w1).drew (fun h => h) (fun h => h)); have HK2 := Lib.hid (HK1.out.drew)
        clear c0 c1 c3 pl
        generalize w1.drew = w2 at *
        obtain ⟨c0, -, -, -⟩ := H2.out.cells
        have pl := H2.out.hp.lt
        go_wp2_with fail
        clear c0 pl hd
        go_loopw [9] (fun i wr => ∃ j : Nat, j ≤ f + 1 ∧ i = .int .i64 j ∧ Keeps (fun _ => False) w2 wr) (fun i _ => f + 1 - (intOf i).toNat)
        case atStart => exact ⟨0, Nat.zero_le _, rfl, Keeps.refl _ _⟩
        case round =>
          obtain ⟨j, hj, rfl, hk⟩ := hrel
          have HK := Lib.hid hk; clear hk
          by_cases hjf : j ≤ f
          · skip
            cases hy : A.young m
            · have ho : A.old m = true := by have := HUSE.out; unfold Ar.inUse at this; rw [hy] at this; simpa using this
              cases hoj : A.old ((m : Int) + j)
              · have HOKJ := Lib.hid (show ¬ okC A m j from fun h => by have := h.2 ho; rw [hoj] at this; cases this)
                go_wp2_with fail
                refine (IsYoung_c m _ (H2.out.keep HK.out (fun h => h) (fun h => h))).mono ?_
                rintro e w3 ⟨rfl, rfl⟩
                rw [hy]
                go_wp2_with fail
                refine (IsOld_c m _ (H2.out.keep HK.out (fun h => h) (fun h => h)) HI.out).mono ?_
                rintro e w3 ⟨rfl, hk3⟩
                rw [ho]
                have HK3 := Lib.hid (HK.out.trans hk3)
                clear hk3
                go_wp2_with fail
                refine (IsOld_c ((m : Int) + j) _ (H2.out.keep HK3.out (fun h => h) (fun h => h)) (by unfold R64; omega)).mono ?_
                rintro e w4 ⟨rfl, hk4⟩
                rw [hoj]
                have HK4 := Lib.hid (HK3.out.trans hk4)
                clear hk4
                exact (HOKJ.out (HGOOD.out j (by omega))).elim
              · have HOKJ := Lib.hid (show okC A m j from ⟨fun h => by (rw [hy] at h; cases h), fun _ => hoj⟩)
                go_wp2_with fail
                refine (IsYoung_c m _ (H2.out.keep HK.out (fun h => h) (fun h => h))).mono ?_
                rintro e w3 ⟨rfl, rfl⟩
                rw [hy]
                go_wp2_with fail
                refine (IsOld_c m _ (H2.out.keep HK.out (fun h => h) (fun h => h)) HI.out).mono ?_
                rintro e w3 ⟨rfl, hk3⟩
                rw [ho]
                have HK3 := Lib.hid (HK.out.trans hk3)
                clear hk3
                go_wp2_with fail
                refine (IsOld_c ((m : Int) + j) _ (H2.out.keep HK3.out (fun h => h) (fun h => h)) (by unfold R64; omega)).mono ?_
                rintro e w4 ⟨rfl, hk4⟩
                rw [hoj]
                have HK4 := Lib.hid (HK3.out.trans hk4)
                clear hk4
                go_wp2_with fail
                go_roundw
                case rel => exact ⟨j + 1, by omega, by go_num, HK4.out⟩
                case measure => simp [intOf]; omega
            · have ho : A.old m = false := by
                have h1 := HOA.out.h1
                simp [Ar.young] at hy; simp [Ar.old]; omega
              cases hyj : A.young ((m : Int) + j)
              · have HOKJ := Lib.hid (show ¬ okC A m j from fun h => by have := h.1 hy; rw [hyj] at this; cases this)
                go_wp2_with fail
                refine (IsYoung_c m _ (H2.out.keep HK.out (fun h => h) (fun h => h))).mono ?_
                rintro e w3 ⟨rfl, rfl⟩
                rw [hy]
                go_wp2_with fail
                refine (IsYoung_c ((m : Int) + j) _ (H2.out.keep HK.out (fun h => h) (fun h => h))).mono ?_
                rintro e w3 ⟨rfl, rfl⟩
                rw [hyj]
                have HK4 := Lib.hid HK.out
                exact (HOKJ.out (HGOOD.out j (by omega))).elim
              · have HOKJ := Lib.hid (show okC A m j from ⟨fun _ => hyj, fun h => by (rw [ho] at h; cases h)⟩)
                go_wp2_with fail
                refine (IsYoung_c m _ (H2.out.keep HK.out (fun h => h) (fun h => h))).mono ?_
                rintro e w3 ⟨rfl, rfl⟩
                rw [hy]
                go_wp2_with fail
                refine (IsYoung_c ((m : Int) + j) _ (H2.out.keep HK.out (fun h => h) (fun h => h))).mono ?_
                rintro e w3 ⟨rfl, rfl⟩
                rw [hyj]
                go_wp2_with fail
                refine (IsOld_c m _ (H2.out.keep HK.out (fun h => h) (fun h => h)) HI.out).mono ?_
                rintro e w3 ⟨rfl, hk3⟩
                rw [ho]
                have HK4 := Lib.hid (HK.out.trans hk3)
                clear hk3
                go_wp2_with fail
                go_roundw
                case rel => exact ⟨j + 1, by omega, by go_num, HK4.out⟩
                case measure => simp [intOf]; omega
          · obtain rfl : j = f + 1 := by omega
            have H3 := Lib.hid (H2.out.keep HK.out (fun h => h) (fun h => h))
            obtain ⟨c0, -, -, c3⟩ := H3.out.cells
            have pl := H3.out.hp.lt
            have hsl : (((A.ws.drop m).take (1 + f)).map (Value.int .i64)).length = 1 + f := by simp; omega
            have HSL := Lib.hid hsl
            have gl := H3.out.hg.lt
            have hne := H3.out.ne; have hne2 := H3.out.ne.symm
            have p3 := H3.out.hp.free 3
            clear hsl hjf hj
            go_upto_region 12 with (at_builtin; refine wpList_appR rfl (.tmp 71) (.tmp 81) 22 rfl 2 i0 (.int .i64 0) 1 8 Try.underlying22 Hi.out Hz0.out Hz1.out Hz2.out rfl (by decide) _ 0 [] rfl (Sl.nil _ _ _) (some ⟨g, m, none⟩) (m + f + 1 - m) _ (((A.ws.drop m).take (1 + f)).map (Value.int .i64)) rfl (by rw [HSL.out]; omega) (Rd.blk H3.out.hg m _ (by rw [HSL.out, ← List.map_drop, ← List.map_take])) int_one' (by unfold maxLen; omega) (by omega) ?_)
            intro v5 w5 hs5 hk5 ho5
            have hk5' : Keeps (fun _ => False) wr w5 := hk5.mono (fun _ _ h => (nil_own h).elim)
            have H5 := Lib.hid (H3.out.keep hk5' (fun h => h) (fun h => h))
            have hnew : ∀ b, ownB v5 b → wr.heap.size ≤ b := fun b hb => by
              rcases ho5 b hb with h | h
              · exact (nil_own h).elim
              · exact h
            have hl5 : m + f + 1 - m = 1 + f := by omega
            rw [hl5] at hs5
            obtain ⟨vo, vc, rfl, -, -, -⟩ := hs5.rd
            have hs5 : Sl w5 2 1 (.slice vo (1 + f) vc) (1 + f) (((A.ws.drop m).take (1 + f)).map (Value.int .i64)) := by simpa [List.map_take, List.map_drop] using hs5
            have HS5 := Lib.hid hs5; have HNW := Lib.hid hnew; have HK5 := Lib.hid ((HK2.out.trans HK.out).trans hk5')
            have HNE5 := Lib.hid (show ∀ b, ownB (.slice vo (1 + f) vc) b → b ≠ g ∧ b ≠ p from fun b hb => by have := hnew b hb; omega)
            clear hs5 hk5 ho5 hk5' hnew hl5 c0 c3 pl gl p3
            obtain ⟨c0, -, -, c3⟩ := H5.out.cells
            have pl := H5.out.hp.lt; have gl := H5.out.hg.lt
            have p3 := H5.out.hp.free 3
            go_upto_region 13 with fail
            have hb0 := (H5.out.hg.setOther (a := ⟨p, 3, none⟩) hne2 (.int .i64 (((A.grn - A.nur : Nat) : Int) + ((f : Int) + 1))))
            have hp0 := (H5.out.hp.setSame 3 (.int .i64 (((A.grn - A.nur : Nat) : Int) + ((f : Int) + 1))))
            have hk0 := (Keeps.refl (fun b => b = p) w5).setCell (p := ⟨p, 3, none⟩) (.inl rfl) (.int .i64 (((A.grn - A.nur : Nat) : Int) + ((f : Int) + 1)))
            have hs0 := HS5.out.keep hk0 (fun b hb e => (HNE5.out b hb).2 e)
            simp only [List.set_cons_zero, List.set_cons_succ] at hp0
            have HB0 := Lib.hid hb0; have HP0 := Lib.hid hp0; have HK0 := Lib.hid hk0; have HS0 := Lib.hid hs0
            clear hb0 hp0 hk0 hs0 c0 c3 pl gl p3 HNW
            generalize w5.setCell ⟨p, 3, none⟩ (.int .i64 (((A.grn - A.nur : Nat) : Int) + ((f : Int) + 1))) = w6 at *
            have hsrcl : ((A.ws.drop m).take (1 + f)).length = 1 + f := by simp; omega
            generalize hsrc : (A.ws.drop m).take (1 + f) = src at *
            have HSRC := Lib.hid hsrc; have HSL2 := Lib.hid hsrcl
            clear hsrc hsrcl
            go_wp2_with fail
            go_loopw [11] (fun i wr => ∃ j : Nat, j ≤ 1 + f ∧ i = .int .i64 j ∧ Blk wr g ((lay A.ws A.grn (src.take j)).map (Value.int .i64)) 2 ∧ Keeps (fun b => b = g) w6 wr) (fun i _ => 1 + f - (intOf i).toNat)
            case atStart => exact ⟨0, Nat.zero_le _, rfl, by rw [List.take_zero, lay_nil]; exact HB0.out, Keeps.refl _ _⟩
            case round =>
              obtain ⟨j, hj, rfl, hb, hk⟩ := hrel
              have HB := Lib.hid hb; have HK6 := Lib.hid hk
              have hpr := hk.blk HP0.out hne
              have c0 := hpr.cell 0
              have pl := hpr.lt; have gl := hb.lt
              simp only [List.getElem?_cons_zero] at c0
              have HPR := Lib.hid hpr
              by_cases hlt2 : j < 1 + f
              · have f4 := hb.free (A.grn + j)
                have c4 : ∃ v, wr.cell? ⟨g, A.grn + j, none⟩ = some v := by
                  have hl : (lay A.ws A.grn (src.take j)).length = A.ws.length := lay_length (by rw [List.length_take, HSL2.out]; omega)
                  rw [hb.cell, List.getElem?_map, List.getElem?_eq_getElem (by rw [hl]; omega)]
                  exact ⟨_, rfl⟩
                obtain ⟨v4, c4⟩ := c4
                obtain ⟨_, _, e', hrd, -, -⟩ := (HS0.out.keep hk (fun b hb e => (HNE5.out b hb).1 e)).rd
                cases e'
                obtain ⟨gs, os, rfl, gsl, g0⟩ := hrd.nth j (by rw [HSL2.out]; exact hlt2)
                have hix : (A.grn : Int) + j < A.ws.length := by omega
                have hw3 : ((A.grn : Int) + j).toNat = A.grn + j := by omega
                have hw4 : (0 : Int) ≤ (A.grn : Int) + j := by omega
                have hw2 : IntKind.i64.wrap ((A.grn : Int) + j) = (A.grn : Int) + j := IntWalk.i64_in _ (by omega)
                have HST := Lib.hid (lay_more (l := A.ws) (m := src) (i := A.grn) (j := j) (by rw [HSL2.out]; exact hlt2) (by rw [HSL2.out]; omega))
                clear hb hk hpr hrd
                generalize src.getD j 0 = y at *
                go_wp2_with fail
                refine wp_region_ro (.free 0 (.free 1 (.free 2 (.free 4 (.free 5 (.free 6 (.free 7 (.free 8 (.free 9 (.pure 3 (.pure 10 (.free 11 (.run 12 (.swi [] (.fin))))))))))))))) [12] (fun w' => w'.cell? ⟨p, 0, none⟩ = some (.slice (some ⟨g, 0, none⟩) A.ws.length A.ws.length) ∧ w'.cell? ⟨gs, os + j, none⟩ = some (.int .i64 y)) (by kernel_rfl) (by kernel_rfl) ⟨c0, g0⟩ ?_
                first | (refine wpRO_free rfl rfl _ (fun w' => by go_simp; exact Gives.mk _ _) (fun K hK => ?_); go_simp; refine hK _ ?_; clear hK K) | (refine wpRO_skipF rfl rfl (fun K hK => ?_); go_simp; refine hK _ ?_; clear hK K)
                first | (refine wpRO_free rfl rfl _ (fun w' => by go_simp; exact Gives.mk _ _) (fun K hK => ?_); go_simp; refine hK _ ?_; clear hK K) | (refine wpRO_skipF rfl rfl (fun K hK => ?_); go_simp; refine hK _ ?_; clear hK K)
                first | (refine wpRO_free rfl rfl _ (fun w' => by go_simp; exact Gives.mk _ _) (fun K hK => ?_); go_simp; refine hK _ ?_; clear hK K) | (refine wpRO_skipF rfl rfl (fun K hK => ?_); go_simp; refine hK _ ?_; clear hK K)
                first | (refine wpRO_free rfl rfl _ (fun w' => by go_simp; exact Gives.mk _ _) (fun K hK => ?_); go_simp; refine hK _ ?_; clear hK K) | (refine wpRO_skipF rfl rfl (fun K hK => ?_); go_simp; refine hK _ ?_; clear hK K)
                first | (refine wpRO_free rfl rfl _ (fun w' => by go_simp; exact Gives.mk _ _) (fun K hK => ?_); go_simp; refine hK _ ?_; clear hK K) | (refine wpRO_skipF rfl rfl (fun K hK => ?_); go_simp; refine hK _ ?_; clear hK K)
                first | (refine wpRO_free rfl rfl _ (fun w' => by go_simp; exact Gives.mk _ _) (fun K hK => ?_); go_simp; refine hK _ ?_; clear hK K) | (refine wpRO_skipF rfl rfl (fun K hK => ?_); go_simp; refine hK _ ?_; clear hK K)
                first | (refine wpRO_free rfl rfl _ (fun w' => by go_simp; exact Gives.mk _ _) (fun K hK => ?_); go_simp; refine hK _ ?_; clear hK K) | (refine wpRO_skipF rfl rfl (fun K hK => ?_); go_simp; refine hK _ ?_; clear hK K)
                first | (refine wpRO_free rfl rfl _ (fun w' => by go_simp; exact Gives.mk _ _) (fun K hK => ?_); go_simp; refine hK _ ?_; clear hK K) | (refine wpRO_skipF rfl rfl (fun K hK => ?_); go_simp; refine hK _ ?_; clear hK K)
                first | (refine wpRO_free rfl rfl _ (fun w' => by go_simp; exact Gives.mk _ _) (fun K hK => ?_); go_simp; refine hK _ ?_; clear hK K) | (refine wpRO_skipF rfl rfl (fun K hK => ?_); go_simp; refine hK _ ?_; clear hK K)
                first | (refine wpRO_pure rfl rfl _ (fun w' hG => by obtain ⟨g0, g1⟩ := hG; exact gives_agg2 rfl (by decide +kernel) rfl (by assumption) (by assumption)) (fun K hK => ?_); go_simp; refine hK _ ?_; clear hK K) | (refine wpRO_pure rfl rfl _ (fun w' hG => by obtain ⟨g0, g1⟩ := hG; go_simp; exact Gives.mk _ _) (fun K hK => ?_); go_simp; refine hK _ ?_; clear hK K) | (refine wpRO_skip rfl rfl (fun K hK => ?_); go_simp; refine hK _ ?_; clear hK K)
                first | (refine wpRO_pure rfl rfl _ (fun w' hG => by obtain ⟨g0, g1⟩ := hG; exact gives_agg2 rfl (by decide +kernel) rfl (by assumption) (by assumption)) (fun K hK => ?_); go_simp; refine hK _ ?_; clear hK K) | (refine wpRO_pure rfl rfl _ (fun w' hG => by obtain ⟨g0, g1⟩ := hG; go_simp; exact Gives.mk _ _) (fun K hK => ?_); go_simp; refine hK _ ?_; clear hK K) | (refine wpRO_skip rfl rfl (fun K hK => ?_); go_simp; refine hK _ ?_; clear hK K)
                first | (refine wpRO_free rfl rfl _ (fun w' => by go_simp; exact Gives.mk _ _) (fun K hK => ?_); go_simp; refine hK _ ?_; clear hK K) | (refine wpRO_skipF rfl rfl (fun K hK => ?_); go_simp; refine hK _ ?_; clear hK K)
                refine wpRO_chg rfl rfl rfl (fun K hK => ?_); unfold gRun; go_simp
                refine hK _ _ ?_
                clear hK K
                refine wpRO_swi (fun _ => True) trivial (wpRO_fin ?_)
                clear hw2 hw3 hw4
                have hb2 : Blk (wr.setCell ⟨g, A.grn + j, none⟩ (.int .i64 y)) g ((lay A.ws A.grn (src.take (j + 1))).map (Value.int .i64)) 2 := by
                  rw [← HST.out, List.map_set]; exact HB.out.setSame _ _
                have HB2 := Lib.hid hb2
                have HK7 := Lib.hid (HK6.out.setCell (p := ⟨g, A.grn + j, none⟩) (.inl rfl) (.int .i64 y))
                clear hb2 c0 c4 f4 g0
                go_wp2_with fail
                go_roundw
                case rel => exact ⟨j + 1, by omega, by go_num, HB2.out.drew, HK7.out.drew⟩
                case measure => simp [intOf]; omega
              · obtain rfl : j = 1 + f := by omega
                clear hb hk hpr
                go_wp2_with fail
                go_ret
                have hok := HOK.out
                rw [HE.out] at hok ⊢
                have e1 : (1 + (f : Int)).toNat = 1 + f := by omega
                have e2 : ((m : Int)).toNat = m := by omega
                dsimp only at hok ⊢
                rw [e1, e2, HSRC.out] at hok ⊢
                have hb9 := HB.out
                rw [List.take_of_length_le (by rw [HSL2.out]; exact Nat.le_refl _)] at hb9
                have hl : (lay A.ws A.grn src).length = A.ws.length := lay_length (by rw [HSL2.out]; omega)
                refine ⟨rfl, ⟨?_, hb9, hok⟩, ?_⟩
                · have := HPR.out
                  dsimp only
                  rw [hl, show ((A.grn + (1 + f) - A.nur : Nat) : Int) = ((A.grn - A.nur : Nat) : Int) + ((f : Int) + 1) by omega]; exact this
                · exact ((HK5.out.mono (fun _ _ h => h.elim)).trans (HK0.out.mono (fun _ _ h => .inl h))).trans (HK6.out.mono (fun _ _ h => .inr h))
    · have HE := Lib.hid (hno (fun h => hr h.2.2))
      have hd : decide ((A.ws.length : Int) - A.grn < (f : Int) + 1) = true := by simp; omega
      clear hno hyes huse hu hr
      go_enter Try.func26, Try.ntmps26
      go_wp2_with fail
      refine (RThing_c m _ H.out HI.out).mono ?_
      rintro e w1 ⟨rfl, hk1⟩
      rw [HT.out]
      dsimp only
      have H1 := Lib.hid (H.out.keep hk1 (fun h => h) (fun h => h)); have HK1 := Lib.hid hk1
      clear hk1
      obtain ⟨c0, c1, -, c3⟩ := H1.out.cells
      have pl := H1.out.hp.lt
      go_wp2_with fail
      refine wp_region_ro (.free 0 (.free 1 (.free 2 (.free 4 (.free 5 (.free 6 (.pure 3 (.pure 7 (.free 8 (.free 9 (.fin))))))))))) [] (fun w' => w'.cell? ⟨p, 1, none⟩ = some (.int .i64 A.nur) ∧ w'.cell? ⟨p, 3, none⟩ = some (.int .i64 ((A.grn - A.nur : Nat) : Int))) (by kernel_rfl) (by kernel_rfl) ⟨c1, c3⟩ ?_
      first | (refine wpRO_free rfl rfl _ (fun w' => by go_simp; exact Gives.mk _ _) (fun K hK => ?_); go_simp; refine hK _ ?_; clear hK K) | (refine wpRO_skipF rfl rfl (fun K hK => ?_); go_simp; refine hK _ ?_; clear hK K)
      first | (refine wpRO_free rfl rfl _ (fun w' => by go_simp; exact Gives.mk _ _) (fun K hK => ?_); go_simp; refine hK _ ?_; clear hK K) | (refine wpRO_skipF rfl rfl (fun K hK => ?_); go_simp; refine hK _ ?_; clear hK K)
      first | (refine wpRO_free rfl rfl _ (fun w' => by go_simp; exact Gives.mk _ _) (fun K hK => ?_); go_simp; refine hK _ ?_; clear hK K) | (refine wpRO_skipF rfl rfl (fun K hK => ?_); go_simp; refine hK _ ?_; clear hK K)
      first | (refine wpRO_free rfl rfl _ (fun w' => by go_simp; exact Gives.mk _ _) (fun K hK => ?_); go_simp; refine hK _ ?_; clear hK K) | (refine wpRO_skipF rfl rfl (fun K hK => ?_); go_simp; refine hK _ ?_; clear hK K)
      first | (refine wpRO_free rfl rfl _ (fun w' => by go_simp; exact Gives.mk _ _) (fun K hK => ?_); go_simp; refine hK _ ?_; clear hK K) | (refine wpRO_skipF rfl rfl (fun K hK => ?_); go_simp; refine hK _ ?_; clear hK K)
      first | (refine wpRO_free rfl rfl _ (fun w' => by go_simp; exact Gives.mk _ _) (fun K hK => ?_); go_simp; refine hK _ ?_; clear hK K) | (refine wpRO_skipF rfl rfl (fun K hK => ?_); go_simp; refine hK _ ?_; clear hK K)
      first | (refine wpRO_pure rfl rfl _ (fun w' hG => by obtain ⟨g0, g1⟩ := hG; exact gives_agg2 rfl (by decide +kernel) rfl (by assumption) (by assumption)) (fun K hK => ?_); go_simp; refine hK _ ?_; clear hK K) | (refine wpRO_pure rfl rfl _ (fun w' hG => by obtain ⟨g0, g1⟩ := hG; go_simp; exact Gives.mk _ _) (fun K hK => ?_); go_simp; refine hK _ ?_; clear hK K) | (refine wpRO_skip rfl rfl (fun K hK => ?_); go_simp; refine hK _ ?_; clear hK K)
      first | (refine wpRO_pure rfl rfl _ (fun w' hG => by obtain ⟨g0, g1⟩ := hG; exact gives_agg2 rfl (by decide +kernel) rfl (by assumption) (by assumption)) (fun K hK => ?_); go_simp; refine hK _ ?_; clear hK K) | (refine wpRO_pure rfl rfl _ (fun w' hG => by obtain ⟨g0, g1⟩ := hG; go_simp; exact Gives.mk _ _) (fun K hK => ?_); go_simp; refine hK _ ?_; clear hK K) | (refine wpRO_skip rfl rfl (fun K hK => ?_); go_simp; refine hK _ ?_; clear hK K)
      first | (refine wpRO_free rfl rfl _ (fun w' => by go_simp; exact Gives.mk _ _) (fun K hK => ?_); go_simp; refine hK _ ?_; clear hK K) | (refine wpRO_skipF rfl rfl (fun K hK => ?_); go_simp; refine hK _ ?_; clear hK K)
      first | (refine wpRO_free rfl rfl _ (fun w' => by go_simp; exact Gives.mk _ _) (fun K hK => ?_); go_simp; refine hK _ ?_; clear hK K) | (refine wpRO_skipF rfl rfl (fun K hK => ?_); go_simp; refine hK _ ?_; clear hK K)
      refine wpRO_fin ?_
      rw [HW0.out]
      go_wp2_with fail
      go_ret
      rw [HE.out]
      exact ⟨rfl, RoomTo.refl H.out (HK1.out.drew)⟩
  · have HE := Lib.hid (hno (fun h => hc h.1))
    have hcb : (c != 0) = true := by simpa using hc
    clear hno hyes huse hc
    go_enter Try.func26, Try.ntmps26
    go_wp2_with fail
    refine (RThing_c i _ H.out HI.out).mono ?_
    rintro e w1 ⟨rfl, hk1⟩
    rw [HT.out]
    dsimp only
    have H1 := Lib.hid (H.out.keep hk1 (fun h => h) (fun h => h)); have HK1 := Lib.hid hk1
    clear hk1
    obtain ⟨c0, c1, -, c3⟩ := H1.out.cells
    have pl := H1.out.hp.lt
    go_wp2_with fail
    refine wp_region_ro (.free 0 (.free 1 (.free 2 (.free 4 (.free 5 (.free 6 (.pure 3 (.pure 7 (.free 8 (.free 9 (.fin))))))))))) [] (fun w' => w'.cell? ⟨p, 1, none⟩ = some (.int .i64 A.nur) ∧ w'.cell? ⟨p, 3, none⟩ = some (.int .i64 ((A.grn - A.nur : Nat) : Int))) (by kernel_rfl) (by kernel_rfl) ⟨c1, c3⟩ ?_
    first | (refine wpRO_free rfl rfl _ (fun w' => by go_simp; exact Gives.mk _ _) (fun K hK => ?_); go_simp; refine hK _ ?_; clear hK K) | (refine wpRO_skipF rfl rfl (fun K hK => ?_); go_simp; refine hK _ ?_; clear hK K)
    first | (refine wpRO_free rfl rfl _ (fun w' => by go_simp; exact Gives.mk _ _) (fun K hK => ?_); go_simp; refine hK _ ?_; clear hK K) | (refine wpRO_skipF rfl rfl (fun K hK => ?_); go_simp; refine hK _ ?_; clear hK K)
    first | (refine wpRO_free rfl rfl _ (fun w' => by go_simp; exact Gives.mk _ _) (fun K hK => ?_); go_simp; refine hK _ ?_; clear hK K) | (refine wpRO_skipF rfl rfl (fun K hK => ?_); go_simp; refine hK _ ?_; clear hK K)
    first | (refine wpRO_free rfl rfl _ (fun w' => by go_simp; exact Gives.mk _ _) (fun K hK => ?_); go_simp; refine hK _ ?_; clear hK K) | (refine wpRO_skipF rfl rfl (fun K hK => ?_); go_simp; refine hK _ ?_; clear hK K)
    first | (refine wpRO_free rfl rfl _ (fun w' => by go_simp; exact Gives.mk _ _) (fun K hK => ?_); go_simp; refine hK _ ?_; clear hK K) | (refine wpRO_skipF rfl rfl (fun K hK => ?_); go_simp; refine hK _ ?_; clear hK K)
    first | (refine wpRO_free rfl rfl _ (fun w' => by go_simp; exact Gives.mk _ _) (fun K hK => ?_); go_simp; refine hK _ ?_; clear hK K) | (refine wpRO_skipF rfl rfl (fun K hK => ?_); go_simp; refine hK _ ?_; clear hK K)
    first | (refine wpRO_pure rfl rfl _ (fun w' hG => by obtain ⟨g0, g1⟩ := hG; exact gives_agg2 rfl (by decide +kernel) rfl (by assumption) (by assumption)) (fun K hK => ?_); go_simp; refine hK _ ?_; clear hK K) | (refine wpRO_pure rfl rfl _ (fun w' hG => by obtain ⟨g0, g1⟩ := hG; go_simp; exact Gives.mk _ _) (fun K hK => ?_); go_simp; refine hK _ ?_; clear hK K) | (refine wpRO_skip rfl rfl (fun K hK => ?_); go_simp; refine hK _ ?_; clear hK K)
    first | (refine wpRO_pure rfl rfl _ (fun w' hG => by obtain ⟨g0, g1⟩ := hG; exact gives_agg2 rfl (by decide +kernel) rfl (by assumption) (by assumption)) (fun K hK => ?_); go_simp; refine hK _ ?_; clear hK K) | (refine wpRO_pure rfl rfl _ (fun w' hG => by obtain ⟨g0, g1⟩ := hG; go_simp; exact Gives.mk _ _) (fun K hK => ?_); go_simp; refine hK _ ?_; clear hK K) | (refine wpRO_skip rfl rfl (fun K hK => ?_); go_simp; refine hK _ ?_; clear hK K)
    first | (refine wpRO_free rfl rfl _ (fun w' => by go_simp; exact Gives.mk _ _) (fun K hK => ?_); go_simp; refine hK _ ?_; clear hK K) | (refine wpRO_skipF rfl rfl (fun K hK => ?_); go_simp; refine hK _ ?_; clear hK K)
    first | (refine wpRO_free rfl rfl _ (fun w' => by go_simp; exact Gives.mk _ _) (fun K hK => ?_); go_simp; refine hK _ ?_; clear hK K) | (refine wpRO_skipF rfl rfl (fun K hK => ?_); go_simp; refine hK _ ?_; clear hK K)
    refine wpRO_fin ?_
    go_wp2_with fail
    go_ret
    rw [HE.out]
    exact ⟨rfl, RoomTo.refl H.out (HK1.out.drew)⟩
end

end Go.Proofs.Ytjifdalflepcoab
