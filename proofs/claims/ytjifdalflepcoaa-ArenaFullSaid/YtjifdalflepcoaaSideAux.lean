/-
  The statements' small functions over entries (law04.go): greatSide, small, sameEntries.
-/
import Derived.Test.YtjifdalflepcoaaBegun
import Derived.Test.YtjifdalflepcoaaRegion2
import Derived.Test.YtjifdalflepcoaaSideLaw
namespace Go.Proofs.Ytjifdalflepcoaa
open Go.RowKit
set_option linter.unusedVariables false
set_option linter.unusedSimpArgs false

def greatB (a b c d : Nat) : Bool := decide (60 < a) || decide (60 < b) || decide (100 < c) || decide (100 < d)

theorem greatB_no {a b c d : Nat} (h : greatB a b c d = false) : a ≤ 60 ∧ b ≤ 60 ∧ c ≤ 100 ∧ d ≤ 100 := by
  unfold greatB at h; simp at h; omega

set_option maxHeartbeats 1000000 in
set_option maxRecDepth 100000 in
theorem great_c (a b c d : Option Addr) (na nb nc nd ca cb cc cd : Nat) (w : World) (ha : na ≤ maxLen) (hb : nb ≤ maxLen) (hc : nc ≤ maxLen) (hd : nd ≤ maxLen) :
    Calls Try.prog 22 #[.slice a na ca, .slice b nb cb, .slice c nc cc, .slice d nd cd] w fun e w' => e = .returned (.bool (greatB na nb nc nd)) ∧ w = w' := by
  unfold maxLen at ha hb hc hd
  have HG : Hid (greatB na nb nc nd = (decide (60 < na) || decide (60 < nb) || decide (100 < nc) || decide (100 < nd))) := rfl
  by_cases h1 : 60 < na
  · go_enter Try.func22, Try.ntmps22
    go_wp2
    go_ret
    exact ⟨by rw [HG.out]; simp [h1], rfl⟩
  · by_cases h2 : 60 < nb
    · go_enter Try.func22, Try.ntmps22
      go_wp2
      go_ret
      exact ⟨by rw [HG.out]; simp [h2], rfl⟩
    · by_cases h3 : 100 < nc
      · go_enter Try.func22, Try.ntmps22
        go_wp2
        go_ret
        exact ⟨by rw [HG.out]; simp [h3], rfl⟩
      · by_cases h4 : 100 < nd
        · go_enter Try.func22, Try.ntmps22
          go_wp2
          go_ret
          exact ⟨by rw [HG.out]; simp [h4]; omega, rfl⟩
        · go_enter Try.func22, Try.ntmps22
          go_wp2
          go_ret
          exact ⟨by rw [HG.out]; simp [h1, h2, h3, h4]; omega, rfl⟩

def smallB (e : Int × Int) : Bool := decide (0 ≤ e.1) && decide (e.1 ≤ 999) && decide (0 ≤ e.2) && decide (e.2 ≤ 999)

theorem smallB_iff {e : Int × Int} : smallB e = true ↔ smallW e.1 ∧ smallW e.2 := by
  unfold smallB smallW; simp; omega

theorem all_take_no {l : List (Int × Int)} {p : Int × Int → Bool} {k : Nat} (h : k < l.length) (hp : p (l.getD k (0, 0)) = false) : l.all p = false := by
  rw [Bool.eq_false_iff]
  intro hc
  have := List.all_eq_true.1 hc (l.getD k (0, 0)) (by simp [List.getD, h])
  rw [hp] at this; cases this

theorem all_take_yes {l : List (Int × Int)} {p : Int × Int → Bool} (h : ∀ j, j < l.length → p (l.getD j (0, 0)) = true) : l.all p = true := by
  rw [List.all_eq_true]
  intro x hx
  obtain ⟨j, hj, rfl⟩ := List.getElem_of_mem hx
  have := h j hj
  simpa [List.getD, hj] using this

set_option maxHeartbeats 2000000 in
set_option maxRecDepth 100000 in
theorem small_c (a b c d : Option Addr) (ca cb cc cd nc nd : Nat) (l1 l2 : List (Int × Int)) (w : World) (h1 : Rd w a (entV l1)) (h2 : Rd w b (entV l2)) (hl1 : l1.length ≤ 1000) (hl2 : l2.length ≤ 1000) :
    Calls Try.prog 23 #[.slice a l1.length ca, .slice b l2.length cb, .slice c nc cc, .slice d nd cd] w fun e w' => e = .returned (.bool (l1.all smallB && l2.all smallB)) ∧ w = w' := by
  have H1 := Lib.hid h1; have H2 := Lib.hid h2
  clear h1 h2
  go_enter Try.func23, Try.ntmps23
  go_wp2_with fail
  go_loopw [9] (fun i wr => ∃ k : Nat, k ≤ l1.length ∧ i = .int .i64 k ∧ Hid (∀ j, j < k → smallB (l1.getD j (0, 0)) = true) ∧ w = wr) (fun i _ => l1.length - (intOf i).toNat)
  case atStart => exact ⟨0, Nat.zero_le _, rfl, (fun j hj => by omega), rfl⟩
  case round =>
    obtain ⟨k, hk, rfl, hno, rfl⟩ := hrel
    by_cases hlt : k < l1.length
    · obtain ⟨g, o, rfl, hgl, d0, d1⟩ := H1.out.ent k hlt
      cases hs : smallB (l1.getD k (0, 0))
      · have HE : Hid (l1.all smallB = false) := all_take_no hlt hs
        generalize l1.getD k (0, 0) = v at *
        have HS := Lib.hid hs; clear hs
        by_cases x1 : v.1 < 0
        · go_wp2_with fail
          go_ret
          exact ⟨by rw [HE.out]; rfl, rfl⟩
        · by_cases x2 : 999 < v.1
          · go_wp2_with fail
            go_ret
            exact ⟨by rw [HE.out]; rfl, rfl⟩
          · by_cases x3 : v.2 < 0
            · go_wp2_with fail
              go_ret
              exact ⟨by rw [HE.out]; rfl, rfl⟩
            · have x4 : 999 < v.2 := by
                have := HS.out; unfold smallB at this; simp at this; omega
              go_wp2_with fail
              go_ret
              exact ⟨by rw [HE.out]; rfl, rfl⟩
      · have HN : Hid (∀ j, j < k + 1 → smallB (l1.getD j (0, 0)) = true) := fun j hj => by
          by_cases e : j = k
          · subst e; exact hs
          · exact hno.out j (by omega)
        generalize l1.getD k (0, 0) = v at *
        have hb := smallB_iff.1 hs
        unfold smallW at hb
        obtain ⟨⟨x1, x2⟩, x3, x4⟩ := hb
        clear hs
        have y1 : ¬ v.1 < 0 := by omega
        have y2 : ¬ 999 < v.1 := by omega
        have y3 : ¬ v.2 < 0 := by omega
        have y4 : ¬ 999 < v.2 := by omega
        go_wp2_with fail
        go_roundw
        case rel => exact ⟨k + 1, by omega, by go_num, HN, by first | rfl | trivial⟩
        case measure => simp [intOf]; omega
    · obtain rfl : k = l1.length := by omega
      have HE : Hid (l1.all smallB = true) := all_take_yes hno.out
      go_wp2_with fail
      go_loopw [10] (fun i wr => ∃ k : Nat, k ≤ l2.length ∧ i = .int .i64 k ∧ Hid (∀ j, j < k → smallB (l2.getD j (0, 0)) = true) ∧ w = wr) (fun i _ => l2.length - (intOf i).toNat)
      case atStart => exact ⟨0, Nat.zero_le _, rfl, (fun j hj => by omega), rfl⟩
      case round =>
        obtain ⟨k, hk, rfl, hno, rfl⟩ := hrel
        by_cases hlt : k < l2.length
        · obtain ⟨g, o, rfl, hgl, d0, d1⟩ := H2.out.ent k hlt
          cases hs : smallB (l2.getD k (0, 0))
          · have HE : Hid (l2.all smallB = false) := all_take_no hlt hs
            generalize l2.getD k (0, 0) = v at *
            have HS := Lib.hid hs; clear hs
            by_cases x1 : v.1 < 0
            · go_wp2_with fail
              go_ret
              exact ⟨by rw [HE.out, Bool.and_false]; rfl, rfl⟩
            · by_cases x2 : 999 < v.1
              · go_wp2_with fail
                go_ret
                exact ⟨by rw [HE.out, Bool.and_false]; rfl, rfl⟩
              · by_cases x3 : v.2 < 0
                · go_wp2_with fail
                  go_ret
                  exact ⟨by rw [HE.out, Bool.and_false]; rfl, rfl⟩
                · have x4 : 999 < v.2 := by
                    have := HS.out; unfold smallB at this; simp at this; omega
                  go_wp2_with fail
                  go_ret
                  exact ⟨by rw [HE.out, Bool.and_false]; rfl, rfl⟩
          · have HN : Hid (∀ j, j < k + 1 → smallB (l2.getD j (0, 0)) = true) := fun j hj => by
              by_cases e : j = k
              · subst e; exact hs
              · exact hno.out j (by omega)
            generalize l2.getD k (0, 0) = v at *
            have hb := smallB_iff.1 hs
            unfold smallW at hb
            obtain ⟨⟨x1, x2⟩, x3, x4⟩ := hb
            clear hs
            have y1 : ¬ v.1 < 0 := by omega
            have y2 : ¬ 999 < v.1 := by omega
            have y3 : ¬ v.2 < 0 := by omega
            have y4 : ¬ 999 < v.2 := by omega
            go_wp2_with fail
            go_roundw
            case rel => exact ⟨k + 1, by omega, by go_num, HN, by first | rfl | trivial⟩
            case measure => simp [intOf]; omega
        · obtain rfl : k = l2.length := by omega
          have HE2 : Hid (l2.all smallB = true) := all_take_yes hno.out
          go_wp2_with fail
          go_ret
          exact ⟨by rw [HE.out, HE2.out]; rfl, rfl⟩

set_option maxHeartbeats 2000000 in
set_option maxRecDepth 100000 in
theorem sameEntries_yes (a b : Option Addr) (ca cb : Nat) (l : List (Int × Int)) (w : World) (h1 : Rd w a (entV l)) (h2 : Rd w b (entV l)) (hl : l.length ≤ 1000000) :
    Calls Try.prog 45 #[.slice a l.length ca, .slice b l.length cb] w fun e w' => e = .returned (.bool true) ∧ Keeps (fun _ => False) w w' := by
  have H1 := Lib.hid h1; have H2 := Lib.hid h2
  clear h1 h2
  go_enter Try.func45, Try.ntmps45
  go_wp2_with fail
  go_loopw [5] (fun i wr => ∃ k : Nat, k ≤ l.length ∧ i = .int .i64 k ∧ Keeps (fun _ => False) w wr) (fun i _ => l.length - (intOf i).toNat)
  case atStart => exact ⟨0, Nat.zero_le _, rfl, Keeps.refl _ _⟩
  case round =>
    obtain ⟨k, hk, rfl, hkk⟩ := hrel
    have HK := Lib.hid hkk; clear hkk
    by_cases hlt : k < l.length
    · obtain ⟨g, o, rfl, hgl, d0, d1⟩ := (H1.out.keep HK.out (fun _ _ _ h => h)).ent k hlt
      obtain ⟨g', o', rfl, hgl', e0, e1⟩ := (H2.out.keep HK.out (fun _ _ _ h => h)).ent k hlt
      generalize l.getD k (0, 0) = v at *
      go_wp2_with fail
      refine wp_region_ro (.free 0 (.free 1 (.free 2 (.free 4 (.free 5 (.free 6 (.pure 3 (.pure 7 (.free 8 (.fin)))))))))) [] (fun w' => w'.cell? ⟨g, o + k * 2, none⟩ = some (.int .i64 v.1) ∧ w'.cell? ⟨g, o + k * 2 + 1, none⟩ = some (.int .i64 v.2) ∧ w'.cell? ⟨g', o' + k * 2, none⟩ = some (.int .i64 v.1) ∧ w'.cell? ⟨g', o' + k * 2 + 1, none⟩ = some (.int .i64 v.2)) (by kernel_rfl) (by kernel_rfl) ⟨d0, d1, e0, e1⟩ ?_
      first | (refine wpRO_free rfl rfl _ (fun w' => by go_simp; exact Gives.mk _ _) (fun K hK => ?_); go_simp; refine hK _ ?_; clear hK K) | (refine wpRO_skipF rfl rfl (fun K hK => ?_); go_simp; refine hK _ ?_; clear hK K)
      first | (refine wpRO_free rfl rfl _ (fun w' => by go_simp; exact Gives.mk _ _) (fun K hK => ?_); go_simp; refine hK _ ?_; clear hK K) | (refine wpRO_skipF rfl rfl (fun K hK => ?_); go_simp; refine hK _ ?_; clear hK K)
      first | (refine wpRO_free rfl rfl _ (fun w' => by go_simp; exact Gives.mk _ _) (fun K hK => ?_); go_simp; refine hK _ ?_; clear hK K) | (refine wpRO_skipF rfl rfl (fun K hK => ?_); go_simp; refine hK _ ?_; clear hK K)
      first | (refine wpRO_free rfl rfl _ (fun w' => by go_simp; exact Gives.mk _ _) (fun K hK => ?_); go_simp; refine hK _ ?_; clear hK K) | (refine wpRO_skipF rfl rfl (fun K hK => ?_); go_simp; refine hK _ ?_; clear hK K)
      first | (refine wpRO_free rfl rfl _ (fun w' => by go_simp; exact Gives.mk _ _) (fun K hK => ?_); go_simp; refine hK _ ?_; clear hK K) | (refine wpRO_skipF rfl rfl (fun K hK => ?_); go_simp; refine hK _ ?_; clear hK K)
      first | (refine wpRO_free rfl rfl _ (fun w' => by go_simp; exact Gives.mk _ _) (fun K hK => ?_); go_simp; refine hK _ ?_; clear hK K) | (refine wpRO_skipF rfl rfl (fun K hK => ?_); go_simp; refine hK _ ?_; clear hK K)
      first | (refine wpRO_pure rfl rfl _ (fun w' hG => by obtain ⟨g0, g1, g2, g3⟩ := hG; exact gives_agg2 rfl (by decide +kernel) rfl (by assumption) (by assumption)) (fun K hK => ?_); go_simp; refine hK _ ?_; clear hK K) | (refine wpRO_pure rfl rfl _ (fun w' hG => by obtain ⟨g0, g1, g2, g3⟩ := hG; go_simp; exact Gives.mk _ _) (fun K hK => ?_); go_simp; refine hK _ ?_; clear hK K) | (refine wpRO_skip rfl rfl (fun K hK => ?_); go_simp; refine hK _ ?_; clear hK K)
      first | (refine wpRO_pure rfl rfl _ (fun w' hG => by obtain ⟨g0, g1, g2, g3⟩ := hG; exact gives_agg2 rfl (by decide +kernel) rfl (by assumption) (by assumption)) (fun K hK => ?_); go_simp; refine hK _ ?_; clear hK K) | (refine wpRO_pure rfl rfl _ (fun w' hG => by obtain ⟨g0, g1, g2, g3⟩ := hG; go_simp; exact Gives.mk _ _) (fun K hK => ?_); go_simp; refine hK _ ?_; clear hK K) | (refine wpRO_skip rfl rfl (fun K hK => ?_); go_simp; refine hK _ ?_; clear hK K)
      first | (refine wpRO_free rfl rfl _ (fun w' => by go_simp; exact Gives.mk _ _) (fun K hK => ?_); go_simp; refine hK _ ?_; clear hK K) | (refine wpRO_skipF rfl rfl (fun K hK => ?_); go_simp; refine hK _ ?_; clear hK K)
      refine wpRO_fin ?_
      go_wp2_with fail
      go_roundw
      case rel => exact ⟨k + 1, by omega, by go_num, HK.out.drew⟩
      case measure => simp [intOf]; omega
    · obtain rfl : k = l.length := by omega
      go_wp2_with fail
      go_ret
      exact ⟨rfl, HK.out⟩

end Go.Proofs.Ytjifdalflepcoaa
