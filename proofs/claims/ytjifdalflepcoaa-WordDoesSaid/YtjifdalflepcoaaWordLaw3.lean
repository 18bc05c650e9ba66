/-
  The walk of WordDoes.
-/
import Derived.Test.YtjifdalflepcoaaWordLaw2
namespace Go.Proofs.Ytjifdalflepcoaa
open Go.RowKit
set_option linter.unusedVariables false
set_option linter.unusedSimpArgs false

theorem decW_kind (x : Int) : (x % 4 = 1 ∧ decW x = (3, x / 4, 0) ∧ 0 ≤ x / 4 ∧ x / 4 < 1152921504606846976) ∨ (x % 4 = 1 ∧ ((decW x).2.2 == 0) = false) ∨ (x % 4 ≠ 1 ∧ ((decW x).2.2 == 0) = false) ∨ (x % 4 ≠ 1 ∧ ((decW x).2.2 == 0) = true ∧ ((decW x).1 == 3) = false) := by
  by_cases h : x % 4 = 1
  · by_cases c : 0 ≤ x / 4 ∧ x / 4 < 1152921504606846976
    · exact .inl ⟨h, decW_ref h c, c.1, c.2⟩
    · rw [decW_ref_no h c]; exact .inr (.inl ⟨h, rfl⟩)
  · right; right
    cases hc : ((decW x).2.2 == 0)
    · exact .inl ⟨h, rfl⟩
    · refine .inr ⟨h, rfl, ?_⟩
      unfold decW at hc ⊢
      rw [if_neg h] at hc ⊢
      split
      · split <;> rfl
      · split
        · split <;> rfl
        · rfl

set_option maxHeartbeats 4000000 in
set_option maxRecDepth 100000 in
theorem WordDoes_go (k n x kind fields at_ : Int) (w : World) (n1 : -9223372036854775808 ≤ n) (n2 : n ≤ 9223372036854775807)
    (x1 : -9223372036854775808 ≤ x) (x2 : x ≤ 9223372036854775807) (f1 : -9223372036854775808 ≤ fields) (f2 : fields ≤ 9223372036854775807) :
    Calls Try.prog 10 #[.agg #[.int .i64 k, .int .i64 n], .int .i64 x, .int .i64 kind, .int .i64 fields, .int .i64 at_] w fun e w' => e = .returned (.bool true) ∧ Keeps (fun _ => False) w w' := by
  go_enter Try.func10, Try.ntmps10
  go_wp2_with fail
  refine (wordBegun_c _).mono ?_
  rintro e w1 ⟨rfl, hk1⟩
  have hb0 := hk1.blk (Blk.newAt (w := w) (b := w.heap.size) (T := 54) #[.int .i64 k, .int .i64 n] rfl rfl) (fun h => h)
  have HK1 := Lib.hid (((Keeps.refl (fun _ => False) w).alloc _).trans hk1)
  have c0 := hb0.cell 0; have c1 := hb0.cell 1
  simp only [List.getElem?_cons_zero, List.getElem?_cons_succ] at c0 c1
  have HB0 := Lib.hid hb0; clear hb0 hk1
  go_wp2_with fail
  refine (Encode_c k n _ n1 n2).mono ?_
  rintro e w2 ⟨rfl, hk2⟩
  have HB2 := Lib.hid (hk2.blk HB0.out (fun h => h)); have HK2 := Lib.hid (HK1.out.trans hk2); clear hk2 c0 c1 HB0 HK1
  have c0 := HB2.out.cell 0; have c1 := HB2.out.cell 1
  simp only [List.getElem?_cons_zero, List.getElem?_cons_succ] at c0 c1
  go_wp2_with fail
  refine (WordOf_c k n _ n1 n2).mono ?_
  rintro e w3 ⟨rfl, hk3⟩
  have HK3 := Lib.hid (HK2.out.trans hk3); clear hk3 c0 c1 HB2 HK2
  go_wp2_with fail
  refine (Decode_c x _ x1 x2).mono ?_
  rintro e w4 ⟨rfl, hk4⟩
  have HK4 := Lib.hid (HK3.out.trans hk4); clear hk4 HK3
  go_wp2_with fail
  refine (ValOf_c x _ x1 x2).mono ?_
  rintro e w5 ⟨rfl, hk5⟩
  have hb := hk5.blk (Blk.newAt (w := w4) (b := w4.heap.size) (T := 54) #[.int .i64 (decW x).1, .int .i64 (decW x).2.1] rfl rfl) (fun h => h)
  have HK5 := Lib.hid ((HK4.out.alloc (.cells #[.int .i64 (decW x).1, .int .i64 (decW x).2.1] 54)).trans hk5)
  have c0 := hb.cell 0; have c1 := hb.cell 1
  have hlt := hb.lt
  simp only [List.getElem?_cons_zero, List.getElem?_cons_succ] at c0 c1
  clear hk5 HK4 hb
  go_wp2_with fail
  refine (Head_c kind fields _ f1 f2).mono ?_
  rintro e w' ⟨rfl, rfl⟩
  go_wp2_with fail
  refine (HeadOf_c kind fields _ f1 f2).mono ?_
  rintro e w' ⟨rfl, rfl⟩
  go_wp2_with fail
  refine (Parts_c x _ x1 x2).mono ?_
  rintro e w' ⟨rfl, rfl⟩
  go_wp2_with fail
  refine (PartsOf_c x _).mono ?_
  rintro e w' ⟨rfl, rfl⟩
  go_wp2_with fail
  refine (Nil_c _).mono ?_
  rintro e w' ⟨rfl, rfl⟩
  go_wp2_with fail
  refine (Gone_c _).mono ?_
  rintro e w' ⟨rfl, rfl⟩
  go_wp2_with fail
  have hd0 : w5.cell? ⟨w4.heap.size, 0, none⟩ = some (.int .i64 (decW x).1) := c0
  rcases decW_kind x with ⟨m, hd, _, _⟩ | ⟨m, hz⟩ | ⟨m, hz⟩ | ⟨m, hz, hk⟩
  · have hz : ((decW x).2.2 == 0) = true := by rw [hd]; rfl
    have hk : ((decW x).1 == 3) = true := by rw [hd]; rfl
    have hn : (x / 4 != (decW x).2.1) = false := by rw [hd]; simp
    have M := Lib.hid m; clear m hd
    refine (At_yes x _ M.out).mono ?_
    rintro e w' ⟨rfl, rfl⟩
    by_cases a1 : at_ < 0
    · go_wp2_with fail
      go_ret
      exact ⟨rfl, HK5.out.alloc _⟩
    by_cases a2 : 1152921504606846976 ≤ at_
    · go_wp2_with fail
      go_ret
      exact ⟨rfl, HK5.out.alloc _⟩
    have h4 : (4 * at_ + 1) / 4 = at_ := by omega
    have H4 := Lib.hid h4; clear h4
    go_wp2_with fail
    refine (Ref_c at_ _ (by omega) (by omega)).mono ?_
    rintro e w' ⟨rfl, rfl⟩
    go_wp2_with fail
    refine (At_yes (4 * at_ + 1) _ (by omega)).mono ?_
    rintro e w' ⟨rfl, rfl⟩
    rw [H4.out]
    go_wp2_with fail
    go_ret
    exact ⟨rfl, HK5.out.alloc _⟩
  · have M := Lib.hid m; clear m
    refine (At_yes x _ M.out).mono ?_
    rintro e w' ⟨rfl, rfl⟩
    by_cases a1 : at_ < 0
    · go_wp2_with fail
      go_ret
      exact ⟨rfl, HK5.out.alloc _⟩
    by_cases a2 : 1152921504606846976 ≤ at_
    · go_wp2_with fail
      go_ret
      exact ⟨rfl, HK5.out.alloc _⟩
    have h4 : (4 * at_ + 1) / 4 = at_ := by omega
    have H4 := Lib.hid h4; clear h4
    go_wp2_with fail
    refine (Ref_c at_ _ (by omega) (by omega)).mono ?_
    rintro e w' ⟨rfl, rfl⟩
    go_wp2_with fail
    refine (At_yes (4 * at_ + 1) _ (by omega)).mono ?_
    rintro e w' ⟨rfl, rfl⟩
    rw [H4.out]
    go_wp2_with fail
    go_ret
    exact ⟨rfl, HK5.out.alloc _⟩
  · have M := Lib.hid m; clear m
    refine (At_no x _ M.out).mono ?_
    rintro e w' ⟨rfl, rfl⟩
    by_cases a1 : at_ < 0
    · go_wp2_with fail
      go_ret
      exact ⟨rfl, HK5.out.alloc _⟩
    by_cases a2 : 1152921504606846976 ≤ at_
    · go_wp2_with fail
      go_ret
      exact ⟨rfl, HK5.out.alloc _⟩
    have h4 : (4 * at_ + 1) / 4 = at_ := by omega
    have H4 := Lib.hid h4; clear h4
    go_wp2_with fail
    refine (Ref_c at_ _ (by omega) (by omega)).mono ?_
    rintro e w' ⟨rfl, rfl⟩
    go_wp2_with fail
    refine (At_yes (4 * at_ + 1) _ (by omega)).mono ?_
    rintro e w' ⟨rfl, rfl⟩
    rw [H4.out]
    go_wp2_with fail
    go_ret
    exact ⟨rfl, HK5.out.alloc _⟩
  · have M := Lib.hid m; clear m
    refine (At_no x _ M.out).mono ?_
    rintro e w' ⟨rfl, rfl⟩
    by_cases a1 : at_ < 0
    · go_wp2_with fail
      go_ret
      exact ⟨rfl, HK5.out.alloc _⟩
    by_cases a2 : 1152921504606846976 ≤ at_
    · go_wp2_with fail
      go_ret
      exact ⟨rfl, HK5.out.alloc _⟩
    have h4 : (4 * at_ + 1) / 4 = at_ := by omega
    have H4 := Lib.hid h4; clear h4
    go_wp2_with fail
    refine (Ref_c at_ _ (by omega) (by omega)).mono ?_
    rintro e w' ⟨rfl, rfl⟩
    go_wp2_with fail
    refine (At_yes (4 * at_ + 1) _ (by omega)).mono ?_
    rintro e w' ⟨rfl, rfl⟩
    rw [H4.out]
    go_wp2_with fail
    go_ret
    exact ⟨rfl, HK5.out.alloc _⟩

theorem WordDoes_walk (v : Int × Int) (x kind fields at_ : Int) (w : World)
    (hv : (-9223372036854775808 ≤ v.1 ∧ v.1 ≤ 9223372036854775807) ∧ -9223372036854775808 ≤ v.2 ∧ v.2 ≤ 9223372036854775807)
    (hx : -9223372036854775808 ≤ x ∧ x ≤ 9223372036854775807) (_ : -9223372036854775808 ≤ kind ∧ kind ≤ 9223372036854775807) (hf : -9223372036854775808 ≤ fields ∧ fields ≤ 9223372036854775807) (_ : -9223372036854775808 ≤ at_ ∧ at_ ≤ 9223372036854775807) :
    Calls Try.prog 10 #[.agg #[.int .i64 v.1, .int .i64 v.2], .int .i64 x, .int .i64 kind, .int .i64 fields, .int .i64 at_] w fun e w' => e = .returned (.bool true) ∧ Below w.heap.size w w' :=
  (WordDoes_go v.1 v.2 x kind fields at_ w hv.2.1 hv.2.2 hx.1 hx.2 hf.1 hf.2).mono fun e w' ⟨he, hk⟩ => ⟨he, hk.below (fun _ _ h => h)⟩

end Go.Proofs.Ytjifdalflepcoaa
