/-
  The laws on words: what their Go texts come to.
-/
import Derived.Test.YtjifdalflepcoaaWordR2
namespace Go.Proofs.Ytjifdalflepcoaa
open Go.RowKit
set_option linter.unusedVariables false
set_option linter.unusedSimpArgs false

set_option maxHeartbeats 2000000 in
theorem wordBegun_c (w : World) : Calls Try.prog 33 #[] w fun e w' => e = .returned (.bool true) ∧ Keeps (fun _ => False) w w' := by
  go_enter Try.func33, Try.ntmps33
  go_wp2_with fail
  refine (Encode_c 1 (-5) _ (by omega) (by omega)).mono ?_
  rintro e w1 ⟨rfl, hk1⟩
  rw [show encW 1 (-5) = (-20, 0) from by decide]
  go_wp2_with fail
  refine (Decode_c (-20) _ (by omega) (by omega)).mono ?_
  rintro e w2 ⟨rfl, hk2⟩
  rw [show decW (-20) = (1, -5, 0) from by decide]
  go_wp2_with fail
  refine (Head_c 2 3 _ (by omega) (by omega)).mono ?_
  rintro e w' ⟨rfl, rfl⟩
  rw [show headW 2 3 = (50, 0) from by decide]
  go_wp2_with fail
  refine (Ref_c 7 _ (by omega) (by omega)).mono ?_
  rintro e w' ⟨rfl, rfl⟩
  go_wp2_with fail
  refine (Gone_c _).mono ?_
  rintro e w' ⟨rfl, rfl⟩
  go_wp2_with fail
  go_ret
  exact ⟨rfl, (hk1.trans hk2).alloc _⟩

/-! WordApart. -/
theorem encW_bounds (k n : Int) (h1 : -9223372036854775808 ≤ n) (h2 : n ≤ 9223372036854775807) : -9223372036854775808 ≤ (encW k n).1 ∧ (encW k n).1 ≤ 9223372036854775807 := by
  unfold encW big
  repeat' split
  all_goals (simp only; omega)

theorem encW_at (k n : Int) : (((encW k n).2 == 0) = false ∧ (encW k n).1 = 0) ∨ (((encW k n).2 == 0) = true ∧ k = 3 ∧ (encW k n).1 = 4 * n + 1 ∧ 0 ≤ n ∧ n < 1152921504606846976) ∨ (((encW k n).2 == 0) = true ∧ (k == 3) = false ∧ (encW k n).1 % 4 ≠ 1) := by
  by_cases k3 : k = 3
  · subst k3
    by_cases h : 0 ≤ n ∧ n < 1152921504606846976
    · rw [encW_ref h]; exact .inr (.inl ⟨rfl, rfl, rfl, h.1, h.2⟩)
    · rw [encW_ref_no h]; exact .inl ⟨rfl, rfl⟩
  · have hb : (k == 3) = false := by simpa using k3
    unfold encW
    repeat' split
    all_goals first
      | exact .inl ⟨rfl, rfl⟩
      | exact .inr (.inr ⟨rfl, hb, by simp only; omega⟩)
      | (exact (k3 ‹_›).elim)

theorem decW_of_ref {x : Int} (h : 0 ≤ x ∧ x < 1152921504606846976) : decW (4 * x + 1) = (3, x, 0) := by
  have h4 : (4 * x + 1) / 4 = x := by omega
  rw [decW_ref (by omega) (by rw [h4]; exact h), h4]

theorem headW_range {k f : Int} (h : fitsW k f = true) : 0 < 16 * f + k ∧ 16 * f + k < 256 ∧ (16 * f + k) % 16 = k := by
  have := fitsW_spec h; omega

set_option maxHeartbeats 2000000 in
set_option maxRecDepth 100000 in
theorem apartAIY (k n kind fields at_ : Int) (w : World) (n1 : -9223372036854775808 ≤ n) (n2 : n ≤ 9223372036854775807) (f1 : -9223372036854775808 ≤ fields) (f2 : fields ≤ 9223372036854775807)
    (hc1 : ((encW k n).2 == 0) = false) (hc2 : (encW k n).1 = 0) (a1 : 0 ≤ at_) (a2 : at_ < 1152921504606846976) (hf : fitsW kind fields = true) :
    Calls Try.prog 7 #[.agg #[.int .i64 k, .int .i64 n], .int .i64 kind, .int .i64 fields, .int .i64 at_] w fun e w' => e = .returned (.bool true) ∧ Keeps (fun _ => False) w w' := by
    have HC := Lib.hid hc2; clear hc2
    have HD := Lib.hid (decW_of_ref ⟨a1, a2⟩)
    have HH := Lib.hid (headW_fits hf)
    have hb := headW_range hf
    obtain ⟨b1, b2, b3⟩ := hb
    have ha15 : bits .and .i64 (16 * fields + kind) 15 = kind := by rw [i64_and15]; exact b3
    obtain ⟨b4, b5, b6, b7⟩ := fitsW_spec hf
    have HF := Lib.hid hf; clear hf b3
    go_enter Try.func7, Try.ntmps7
    go_wp2_with fail
    refine (wordBegun_c _).mono ?_
    rintro e w1 ⟨rfl, hk1⟩
    have hbl := hk1.blk (Blk.newAt (w := w) (b := w.heap.size) (T := 54) #[.int .i64 k, .int .i64 n] rfl rfl) (fun h => h)
    have hk0 : Keeps (fun _ => False) w w1 := ((Keeps.refl (fun _ => False) w).alloc _).trans hk1
    have c0 := hbl.cell 0; have c1 := hbl.cell 1
    simp only [List.getElem?_cons_zero, List.getElem?_cons_succ] at c0 c1
    have HB := Lib.hid hbl; clear hbl hk1
    go_wp2_with fail
    refine (Encode_c k n _ (by omega) (by omega)).mono ?_
    rintro e w2 ⟨rfl, hk2⟩
    have HB2 := Lib.hid (hk2.blk HB.out (fun h => h))
    have d0 := HB2.out.cell 0; have d1 := HB2.out.cell 1
    simp only [List.getElem?_cons_zero, List.getElem?_cons_succ] at d0 d1
    clear c0 c1
    rw [HC.out]
    go_wp2_with fail
    refine (At_no 0 _ (by decide)).mono ?_
    rintro e w' ⟨rfl, rfl⟩
    go_wp2_with fail
    refine (Ref_c at_ _ (by omega) (by omega)).mono ?_
    rintro e w' ⟨rfl, rfl⟩
    go_wp2_with fail
    refine (Decode_c (4 * at_ + 1) _ (by omega) (by omega)).mono ?_
    rintro e w3 ⟨rfl, hk3⟩
    rw [HD.out]
    go_wp2_with fail
    refine (Head_c kind fields _ (by omega) (by omega)).mono ?_
    rintro e w' ⟨rfl, rfl⟩
    rw [HH.out]
    go_wp2_with fail
    refine (Nil_c _).mono ?_
    rintro e w' ⟨rfl, rfl⟩
    go_wp2_with fail
    refine (Gone_c _).mono ?_
    rintro e w' ⟨rfl, rfl⟩
    go_wp2_with fail
    go_ret
    exact ⟨rfl, ((hk0.trans hk2).trans hk3).alloc _⟩

set_option maxHeartbeats 2000000 in
set_option maxRecDepth 100000 in
theorem apartAIN (k n kind fields at_ : Int) (w : World) (n1 : -9223372036854775808 ≤ n) (n2 : n ≤ 9223372036854775807) (f1 : -9223372036854775808 ≤ fields) (f2 : fields ≤ 9223372036854775807)
    (hc1 : ((encW k n).2 == 0) = false) (hc2 : (encW k n).1 = 0) (a1 : 0 ≤ at_) (a2 : at_ < 1152921504606846976) (hf : fitsW kind fields = false) :
    Calls Try.prog 7 #[.agg #[.int .i64 k, .int .i64 n], .int .i64 kind, .int .i64 fields, .int .i64 at_] w fun e w' => e = .returned (.bool true) ∧ Keeps (fun _ => False) w w' := by
    have HC := Lib.hid hc2; clear hc2
    have HD := Lib.hid (decW_of_ref ⟨a1, a2⟩)
    have hh := headW_code hf
    have HH1 := Lib.hid hh.1
    have hh2 := hh.2
    have HF := Lib.hid hf; clear hf hh
    go_enter Try.func7, Try.ntmps7
    go_wp2_with fail
    refine (wordBegun_c _).mono ?_
    rintro e w1 ⟨rfl, hk1⟩
    have hbl := hk1.blk (Blk.newAt (w := w) (b := w.heap.size) (T := 54) #[.int .i64 k, .int .i64 n] rfl rfl) (fun h => h)
    have hk0 : Keeps (fun _ => False) w w1 := ((Keeps.refl (fun _ => False) w).alloc _).trans hk1
    have c0 := hbl.cell 0; have c1 := hbl.cell 1
    simp only [List.getElem?_cons_zero, List.getElem?_cons_succ] at c0 c1
    have HB := Lib.hid hbl; clear hbl hk1
    go_wp2_with fail
    refine (Encode_c k n _ (by omega) (by omega)).mono ?_
    rintro e w2 ⟨rfl, hk2⟩
    have HB2 := Lib.hid (hk2.blk HB.out (fun h => h))
    have d0 := HB2.out.cell 0; have d1 := HB2.out.cell 1
    simp only [List.getElem?_cons_zero, List.getElem?_cons_succ] at d0 d1
    clear c0 c1
    rw [HC.out]
    go_wp2_with fail
    refine (At_no 0 _ (by decide)).mono ?_
    rintro e w' ⟨rfl, rfl⟩
    go_wp2_with fail
    refine (Ref_c at_ _ (by omega) (by omega)).mono ?_
    rintro e w' ⟨rfl, rfl⟩
    go_wp2_with fail
    refine (Decode_c (4 * at_ + 1) _ (by omega) (by omega)).mono ?_
    rintro e w3 ⟨rfl, hk3⟩
    rw [HD.out]
    go_wp2_with fail
    refine (Head_c kind fields _ (by omega) (by omega)).mono ?_
    rintro e w' ⟨rfl, rfl⟩
    rw [HH1.out]
    go_wp2_with fail
    go_ret
    exact ⟨rfl, ((hk0.trans hk2).trans hk3).alloc _⟩

set_option maxHeartbeats 2000000 in
set_option maxRecDepth 100000 in
theorem apartALY (k n kind fields at_ : Int) (w : World) (n1 : -9223372036854775808 ≤ n) (n2 : n ≤ 9223372036854775807) (f1 : -9223372036854775808 ≤ fields) (f2 : fields ≤ 9223372036854775807)
    (hc1 : ((encW k n).2 == 0) = false) (hc2 : (encW k n).1 = 0) (a1 : at_ < 0) (hf : fitsW kind fields = true) :
    Calls Try.prog 7 #[.agg #[.int .i64 k, .int .i64 n], .int .i64 kind, .int .i64 fields, .int .i64 at_] w fun e w' => e = .returned (.bool true) ∧ Keeps (fun _ => False) w w' := by
    have HC := Lib.hid hc2; clear hc2
    have HH := Lib.hid (headW_fits hf)
    have hb := headW_range hf
    obtain ⟨b1, b2, b3⟩ := hb
    have ha15 : bits .and .i64 (16 * fields + kind) 15 = kind := by rw [i64_and15]; exact b3
    obtain ⟨b4, b5, b6, b7⟩ := fitsW_spec hf
    have HF := Lib.hid hf; clear hf b3
    go_enter Try.func7, Try.ntmps7
    go_wp2_with fail
    refine (wordBegun_c _).mono ?_
    rintro e w1 ⟨rfl, hk1⟩
    have hbl := hk1.blk (Blk.newAt (w := w) (b := w.heap.size) (T := 54) #[.int .i64 k, .int .i64 n] rfl rfl) (fun h => h)
    have hk0 : Keeps (fun _ => False) w w1 := ((Keeps.refl (fun _ => False) w).alloc _).trans hk1
    have c0 := hbl.cell 0; have c1 := hbl.cell 1
    simp only [List.getElem?_cons_zero, List.getElem?_cons_succ] at c0 c1
    have HB := Lib.hid hbl; clear hbl hk1
    go_wp2_with fail
    refine (Encode_c k n _ (by omega) (by omega)).mono ?_
    rintro e w2 ⟨rfl, hk2⟩
    have HB2 := Lib.hid (hk2.blk HB.out (fun h => h))
    have d0 := HB2.out.cell 0; have d1 := HB2.out.cell 1
    simp only [List.getElem?_cons_zero, List.getElem?_cons_succ] at d0 d1
    clear c0 c1
    rw [HC.out]
    go_wp2_with fail
    refine (At_no 0 _ (by decide)).mono ?_
    rintro e w' ⟨rfl, rfl⟩
    go_wp2_with fail
    refine (Head_c kind fields _ (by omega) (by omega)).mono ?_
    rintro e w' ⟨rfl, rfl⟩
    rw [HH.out]
    go_wp2_with fail
    refine (Nil_c _).mono ?_
    rintro e w' ⟨rfl, rfl⟩
    go_wp2_with fail
    refine (Gone_c _).mono ?_
    rintro e w' ⟨rfl, rfl⟩
    go_wp2_with fail
    go_ret
    exact ⟨rfl, (hk0.trans hk2)⟩

set_option maxHeartbeats 2000000 in
set_option maxRecDepth 100000 in
theorem apartALN (k n kind fields at_ : Int) (w : World) (n1 : -9223372036854775808 ≤ n) (n2 : n ≤ 9223372036854775807) (f1 : -9223372036854775808 ≤ fields) (f2 : fields ≤ 9223372036854775807)
    (hc1 : ((encW k n).2 == 0) = false) (hc2 : (encW k n).1 = 0) (a1 : at_ < 0) (hf : fitsW kind fields = false) :
    Calls Try.prog 7 #[.agg #[.int .i64 k, .int .i64 n], .int .i64 kind, .int .i64 fields, .int .i64 at_] w fun e w' => e = .returned (.bool true) ∧ Keeps (fun _ => False) w w' := by
    have HC := Lib.hid hc2; clear hc2
    have hh := headW_code hf
    have HH1 := Lib.hid hh.1
    have hh2 := hh.2
    have HF := Lib.hid hf; clear hf hh
    go_enter Try.func7, Try.ntmps7
    go_wp2_with fail
    refine (wordBegun_c _).mono ?_
    rintro e w1 ⟨rfl, hk1⟩
    have hbl := hk1.blk (Blk.newAt (w := w) (b := w.heap.size) (T := 54) #[.int .i64 k, .int .i64 n] rfl rfl) (fun h => h)
    have hk0 : Keeps (fun _ => False) w w1 := ((Keeps.refl (fun _ => False) w).alloc _).trans hk1
    have c0 := hbl.cell 0; have c1 := hbl.cell 1
    simp only [List.getElem?_cons_zero, List.getElem?_cons_succ] at c0 c1
    have HB := Lib.hid hbl; clear hbl hk1
    go_wp2_with fail
    refine (Encode_c k n _ (by omega) (by omega)).mono ?_
    rintro e w2 ⟨rfl, hk2⟩
    have HB2 := Lib.hid (hk2.blk HB.out (fun h => h))
    have d0 := HB2.out.cell 0; have d1 := HB2.out.cell 1
    simp only [List.getElem?_cons_zero, List.getElem?_cons_succ] at d0 d1
    clear c0 c1
    rw [HC.out]
    go_wp2_with fail
    refine (At_no 0 _ (by decide)).mono ?_
    rintro e w' ⟨rfl, rfl⟩
    go_wp2_with fail
    refine (Head_c kind fields _ (by omega) (by omega)).mono ?_
    rintro e w' ⟨rfl, rfl⟩
    rw [HH1.out]
    go_wp2_with fail
    go_ret
    exact ⟨rfl, (hk0.trans hk2)⟩

set_option maxHeartbeats 2000000 in
set_option maxRecDepth 100000 in
theorem apartAGY (k n kind fields at_ : Int) (w : World) (n1 : -9223372036854775808 ≤ n) (n2 : n ≤ 9223372036854775807) (f1 : -9223372036854775808 ≤ fields) (f2 : fields ≤ 9223372036854775807)
    (hc1 : ((encW k n).2 == 0) = false) (hc2 : (encW k n).1 = 0) (a1 : 1152921504606846976 ≤ at_) (hf : fitsW kind fields = true) :
    Calls Try.prog 7 #[.agg #[.int .i64 k, .int .i64 n], .int .i64 kind, .int .i64 fields, .int .i64 at_] w fun e w' => e = .returned (.bool true) ∧ Keeps (fun _ => False) w w' := by
    have HC := Lib.hid hc2; clear hc2
    have HH := Lib.hid (headW_fits hf)
    have hb := headW_range hf
    obtain ⟨b1, b2, b3⟩ := hb
    have ha15 : bits .and .i64 (16 * fields + kind) 15 = kind := by rw [i64_and15]; exact b3
    obtain ⟨b4, b5, b6, b7⟩ := fitsW_spec hf
    have HF := Lib.hid hf; clear hf b3
    go_enter Try.func7, Try.ntmps7
    go_wp2_with fail
    refine (wordBegun_c _).mono ?_
    rintro e w1 ⟨rfl, hk1⟩
    have hbl := hk1.blk (Blk.newAt (w := w) (b := w.heap.size) (T := 54) #[.int .i64 k, .int .i64 n] rfl rfl) (fun h => h)
    have hk0 : Keeps (fun _ => False) w w1 := ((Keeps.refl (fun _ => False) w).alloc _).trans hk1
    have c0 := hbl.cell 0; have c1 := hbl.cell 1
    simp only [List.getElem?_cons_zero, List.getElem?_cons_succ] at c0 c1
    have HB := Lib.hid hbl; clear hbl hk1
    go_wp2_with fail
    refine (Encode_c k n _ (by omega) (by omega)).mono ?_
    rintro e w2 ⟨rfl, hk2⟩
    have HB2 := Lib.hid (hk2.blk HB.out (fun h => h))
    have d0 := HB2.out.cell 0; have d1 := HB2.out.cell 1
    simp only [List.getElem?_cons_zero, List.getElem?_cons_succ] at d0 d1
    clear c0 c1
    rw [HC.out]
    go_wp2_with fail
    refine (At_no 0 _ (by decide)).mono ?_
    rintro e w' ⟨rfl, rfl⟩
    go_wp2_with fail
    refine (Head_c kind fields _ (by omega) (by omega)).mono ?_
    rintro e w' ⟨rfl, rfl⟩
    rw [HH.out]
    go_wp2_with fail
    refine (Nil_c _).mono ?_
    rintro e w' ⟨rfl, rfl⟩
    go_wp2_with fail
    refine (Gone_c _).mono ?_
    rintro e w' ⟨rfl, rfl⟩
    go_wp2_with fail
    go_ret
    exact ⟨rfl, (hk0.trans hk2)⟩

set_option maxHeartbeats 2000000 in
set_option maxRecDepth 100000 in
theorem apartAGN (k n kind fields at_ : Int) (w : World) (n1 : -9223372036854775808 ≤ n) (n2 : n ≤ 9223372036854775807) (f1 : -9223372036854775808 ≤ fields) (f2 : fields ≤ 9223372036854775807)
    (hc1 : ((encW k n).2 == 0) = false) (hc2 : (encW k n).1 = 0) (a1 : 1152921504606846976 ≤ at_) (hf : fitsW kind fields = false) :
    Calls Try.prog 7 #[.agg #[.int .i64 k, .int .i64 n], .int .i64 kind, .int .i64 fields, .int .i64 at_] w fun e w' => e = .returned (.bool true) ∧ Keeps (fun _ => False) w w' := by
    have HC := Lib.hid hc2; clear hc2
    have hh := headW_code hf
    have HH1 := Lib.hid hh.1
    have hh2 := hh.2
    have HF := Lib.hid hf; clear hf hh
    go_enter Try.func7, Try.ntmps7
    go_wp2_with fail
    refine (wordBegun_c _).mono ?_
    rintro e w1 ⟨rfl, hk1⟩
    have hbl := hk1.blk (Blk.newAt (w := w) (b := w.heap.size) (T := 54) #[.int .i64 k, .int .i64 n] rfl rfl) (fun h => h)
    have hk0 : Keeps (fun _ => False) w w1 := ((Keeps.refl (fun _ => False) w).alloc _).trans hk1
    have c0 := hbl.cell 0; have c1 := hbl.cell 1
    simp only [List.getElem?_cons_zero, List.getElem?_cons_succ] at c0 c1
    have HB := Lib.hid hbl; clear hbl hk1
    go_wp2_with fail
    refine (Encode_c k n _ (by omega) (by omega)).mono ?_
    rintro e w2 ⟨rfl, hk2⟩
    have HB2 := Lib.hid (hk2.blk HB.out (fun h => h))
    have d0 := HB2.out.cell 0; have d1 := HB2.out.cell 1
    simp only [List.getElem?_cons_zero, List.getElem?_cons_succ] at d0 d1
    clear c0 c1
    rw [HC.out]
    go_wp2_with fail
    refine (At_no 0 _ (by decide)).mono ?_
    rintro e w' ⟨rfl, rfl⟩
    go_wp2_with fail
    refine (Head_c kind fields _ (by omega) (by omega)).mono ?_
    rintro e w' ⟨rfl, rfl⟩
    rw [HH1.out]
    go_wp2_with fail
    go_ret
    exact ⟨rfl, (hk0.trans hk2)⟩

set_option maxHeartbeats 2000000 in
set_option maxRecDepth 100000 in
theorem apartBIY (k n kind fields at_ : Int) (w : World) (n1 : -9223372036854775808 ≤ n) (n2 : n ≤ 9223372036854775807) (f1 : -9223372036854775808 ≤ fields) (f2 : fields ≤ 9223372036854775807)
    (hc1 : ((encW k n).2 == 0) = true) (hk : k = 3) (hc2 : (encW k n).1 = 4 * n + 1) (hn1 : 0 ≤ n) (hn2 : n < 1152921504606846976) (a1 : 0 ≤ at_) (a2 : at_ < 1152921504606846976) (hf : fitsW kind fields = true) :
    Calls Try.prog 7 #[.agg #[.int .i64 k, .int .i64 n], .int .i64 kind, .int .i64 fields, .int .i64 at_] w fun e w' => e = .returned (.bool true) ∧ Keeps (fun _ => False) w w' := by
    subst hk
    have HC := Lib.hid hc2; clear hc2
    have hat : (4 * n + 1) / 4 = n := by omega
    have HAT := Lib.hid hat; clear hat
    have HD := Lib.hid (decW_of_ref ⟨a1, a2⟩)
    have HH := Lib.hid (headW_fits hf)
    have hb := headW_range hf
    obtain ⟨b1, b2, b3⟩ := hb
    have ha15 : bits .and .i64 (16 * fields + kind) 15 = kind := by rw [i64_and15]; exact b3
    obtain ⟨b4, b5, b6, b7⟩ := fitsW_spec hf
    have HF := Lib.hid hf; clear hf b3
    go_enter Try.func7, Try.ntmps7
    go_wp2_with fail
    refine (wordBegun_c _).mono ?_
    rintro e w1 ⟨rfl, hk1⟩
    have hbl := hk1.blk (Blk.newAt (w := w) (b := w.heap.size) (T := 54) #[.int .i64 3, .int .i64 n] rfl rfl) (fun h => h)
    have hk0 : Keeps (fun _ => False) w w1 := ((Keeps.refl (fun _ => False) w).alloc _).trans hk1
    have c0 := hbl.cell 0; have c1 := hbl.cell 1
    simp only [List.getElem?_cons_zero, List.getElem?_cons_succ] at c0 c1
    have HB := Lib.hid hbl; clear hbl hk1
    go_wp2_with fail
    refine (Encode_c 3 n _ (by omega) (by omega)).mono ?_
    rintro e w2 ⟨rfl, hk2⟩
    have HB2 := Lib.hid (hk2.blk HB.out (fun h => h))
    have d0 := HB2.out.cell 0; have d1 := HB2.out.cell 1
    simp only [List.getElem?_cons_zero, List.getElem?_cons_succ] at d0 d1
    clear c0 c1
    rw [HC.out]
    go_wp2_with fail
    refine (At_yes (4 * n + 1) _ (by omega)).mono ?_
    rintro e w' ⟨rfl, rfl⟩
    rw [HAT.out]
    go_wp2_with fail
    refine (Ref_c at_ _ (by omega) (by omega)).mono ?_
    rintro e w' ⟨rfl, rfl⟩
    go_wp2_with fail
    refine (Decode_c (4 * at_ + 1) _ (by omega) (by omega)).mono ?_
    rintro e w3 ⟨rfl, hk3⟩
    rw [HD.out]
    go_wp2_with fail
    refine (Head_c kind fields _ (by omega) (by omega)).mono ?_
    rintro e w' ⟨rfl, rfl⟩
    rw [HH.out]
    go_wp2_with fail
    refine (Nil_c _).mono ?_
    rintro e w' ⟨rfl, rfl⟩
    go_wp2_with fail
    refine (Gone_c _).mono ?_
    rintro e w' ⟨rfl, rfl⟩
    go_wp2_with fail
    go_ret
    exact ⟨rfl, ((hk0.trans hk2).trans hk3).alloc _⟩

set_option maxHeartbeats 2000000 in
set_option maxRecDepth 100000 in
theorem apartBIN (k n kind fields at_ : Int) (w : World) (n1 : -9223372036854775808 ≤ n) (n2 : n ≤ 9223372036854775807) (f1 : -9223372036854775808 ≤ fields) (f2 : fields ≤ 9223372036854775807)
    (hc1 : ((encW k n).2 == 0) = true) (hk : k = 3) (hc2 : (encW k n).1 = 4 * n + 1) (hn1 : 0 ≤ n) (hn2 : n < 1152921504606846976) (a1 : 0 ≤ at_) (a2 : at_ < 1152921504606846976) (hf : fitsW kind fields = false) :
    Calls Try.prog 7 #[.agg #[.int .i64 k, .int .i64 n], .int .i64 kind, .int .i64 fields, .int .i64 at_] w fun e w' => e = .returned (.bool true) ∧ Keeps (fun _ => False) w w' := by
    subst hk
    have HC := Lib.hid hc2; clear hc2
    have hat : (4 * n + 1) / 4 = n := by omega
    have HAT := Lib.hid hat; clear hat
    have HD := Lib.hid (decW_of_ref ⟨a1, a2⟩)
    have hh := headW_code hf
    have HH1 := Lib.hid hh.1
    have hh2 := hh.2
    have HF := Lib.hid hf; clear hf hh
    go_enter Try.func7, Try.ntmps7
    go_wp2_with fail
    refine (wordBegun_c _).mono ?_
    rintro e w1 ⟨rfl, hk1⟩
    have hbl := hk1.blk (Blk.newAt (w := w) (b := w.heap.size) (T := 54) #[.int .i64 3, .int .i64 n] rfl rfl) (fun h => h)
    have hk0 : Keeps (fun _ => False) w w1 := ((Keeps.refl (fun _ => False) w).alloc _).trans hk1
    have c0 := hbl.cell 0; have c1 := hbl.cell 1
    simp only [List.getElem?_cons_zero, List.getElem?_cons_succ] at c0 c1
    have HB := Lib.hid hbl; clear hbl hk1
    go_wp2_with fail
    refine (Encode_c 3 n _ (by omega) (by omega)).mono ?_
    rintro e w2 ⟨rfl, hk2⟩
    have HB2 := Lib.hid (hk2.blk HB.out (fun h => h))
    have d0 := HB2.out.cell 0; have d1 := HB2.out.cell 1
    simp only [List.getElem?_cons_zero, List.getElem?_cons_succ] at d0 d1
    clear c0 c1
    rw [HC.out]
    go_wp2_with fail
    refine (At_yes (4 * n + 1) _ (by omega)).mono ?_
    rintro e w' ⟨rfl, rfl⟩
    rw [HAT.out]
    go_wp2_with fail
    refine (Ref_c at_ _ (by omega) (by omega)).mono ?_
    rintro e w' ⟨rfl, rfl⟩
    go_wp2_with fail
    refine (Decode_c (4 * at_ + 1) _ (by omega) (by omega)).mono ?_
    rintro e w3 ⟨rfl, hk3⟩
    rw [HD.out]
    go_wp2_with fail
    refine (Head_c kind fields _ (by omega) (by omega)).mono ?_
    rintro e w' ⟨rfl, rfl⟩
    rw [HH1.out]
    go_wp2_with fail
    go_ret
    exact ⟨rfl, ((hk0.trans hk2).trans hk3).alloc _⟩

set_option maxHeartbeats 2000000 in
set_option maxRecDepth 100000 in
theorem apartBLY (k n kind fields at_ : Int) (w : World) (n1 : -9223372036854775808 ≤ n) (n2 : n ≤ 9223372036854775807) (f1 : -9223372036854775808 ≤ fields) (f2 : fields ≤ 9223372036854775807)
    (hc1 : ((encW k n).2 == 0) = true) (hk : k = 3) (hc2 : (encW k n).1 = 4 * n + 1) (hn1 : 0 ≤ n) (hn2 : n < 1152921504606846976) (a1 : at_ < 0) (hf : fitsW kind fields = true) :
    Calls Try.prog 7 #[.agg #[.int .i64 k, .int .i64 n], .int .i64 kind, .int .i64 fields, .int .i64 at_] w fun e w' => e = .returned (.bool true) ∧ Keeps (fun _ => False) w w' := by
    subst hk
    have HC := Lib.hid hc2; clear hc2
    have hat : (4 * n + 1) / 4 = n := by omega
    have HAT := Lib.hid hat; clear hat
    have HH := Lib.hid (headW_fits hf)
    have hb := headW_range hf
    obtain ⟨b1, b2, b3⟩ := hb
    have ha15 : bits .and .i64 (16 * fields + kind) 15 = kind := by rw [i64_and15]; exact b3
    obtain ⟨b4, b5, b6, b7⟩ := fitsW_spec hf
    have HF := Lib.hid hf; clear hf b3
    go_enter Try.func7, Try.ntmps7
    go_wp2_with fail
    refine (wordBegun_c _).mono ?_
    rintro e w1 ⟨rfl, hk1⟩
    have hbl := hk1.blk (Blk.newAt (w := w) (b := w.heap.size) (T := 54) #[.int .i64 3, .int .i64 n] rfl rfl) (fun h => h)
    have hk0 : Keeps (fun _ => False) w w1 := ((Keeps.refl (fun _ => False) w).alloc _).trans hk1
    have c0 := hbl.cell 0; have c1 := hbl.cell 1
    simp only [List.getElem?_cons_zero, List.getElem?_cons_succ] at c0 c1
    have HB := Lib.hid hbl; clear hbl hk1
    go_wp2_with fail
    refine (Encode_c 3 n _ (by omega) (by omega)).mono ?_
    rintro e w2 ⟨rfl, hk2⟩
    have HB2 := Lib.hid (hk2.blk HB.out (fun h => h))
    have d0 := HB2.out.cell 0; have d1 := HB2.out.cell 1
    simp only [List.getElem?_cons_zero, List.getElem?_cons_succ] at d0 d1
    clear c0 c1
    rw [HC.out]
    go_wp2_with fail
    refine (At_yes (4 * n + 1) _ (by omega)).mono ?_
    rintro e w' ⟨rfl, rfl⟩
    rw [HAT.out]
    go_wp2_with fail
    refine (Head_c kind fields _ (by omega) (by omega)).mono ?_
    rintro e w' ⟨rfl, rfl⟩
    rw [HH.out]
    go_wp2_with fail
    refine (Nil_c _).mono ?_
    rintro e w' ⟨rfl, rfl⟩
    go_wp2_with fail
    refine (Gone_c _).mono ?_
    rintro e w' ⟨rfl, rfl⟩
    go_wp2_with fail
    go_ret
    exact ⟨rfl, (hk0.trans hk2)⟩

set_option maxHeartbeats 2000000 in
set_option maxRecDepth 100000 in
theorem apartBLN (k n kind fields at_ : Int) (w : World) (n1 : -9223372036854775808 ≤ n) (n2 : n ≤ 9223372036854775807) (f1 : -9223372036854775808 ≤ fields) (f2 : fields ≤ 9223372036854775807)
    (hc1 : ((encW k n).2 == 0) = true) (hk : k = 3) (hc2 : (encW k n).1 = 4 * n + 1) (hn1 : 0 ≤ n) (hn2 : n < 1152921504606846976) (a1 : at_ < 0) (hf : fitsW kind fields = false) :
    Calls Try.prog 7 #[.agg #[.int .i64 k, .int .i64 n], .int .i64 kind, .int .i64 fields, .int .i64 at_] w fun e w' => e = .returned (.bool true) ∧ Keeps (fun _ => False) w w' := by
    subst hk
    have HC := Lib.hid hc2; clear hc2
    have hat : (4 * n + 1) / 4 = n := by omega
    have HAT := Lib.hid hat; clear hat
    have hh := headW_code hf
    have HH1 := Lib.hid hh.1
    have hh2 := hh.2
    have HF := Lib.hid hf; clear hf hh
    go_enter Try.func7, Try.ntmps7
    go_wp2_with fail
    refine (wordBegun_c _).mono ?_
    rintro e w1 ⟨rfl, hk1⟩
    have hbl := hk1.blk (Blk.newAt (w := w) (b := w.heap.size) (T := 54) #[.int .i64 3, .int .i64 n] rfl rfl) (fun h => h)
    have hk0 : Keeps (fun _ => False) w w1 := ((Keeps.refl (fun _ => False) w).alloc _).trans hk1
    have c0 := hbl.cell 0; have c1 := hbl.cell 1
    simp only [List.getElem?_cons_zero, List.getElem?_cons_succ] at c0 c1
    have HB := Lib.hid hbl; clear hbl hk1
    go_wp2_with fail
    refine (Encode_c 3 n _ (by omega) (by omega)).mono ?_
    rintro e w2 ⟨rfl, hk2⟩
    have HB2 := Lib.hid (hk2.blk HB.out (fun h => h))
    have d0 := HB2.out.cell 0; have d1 := HB2.out.cell 1
    simp only [List.getElem?_cons_zero, List.getElem?_cons_succ] at d0 d1
    clear c0 c1
    rw [HC.out]
    go_wp2_with fail
    refine (At_yes (4 * n + 1) _ (by omega)).mono ?_
    rintro e w' ⟨rfl, rfl⟩
    rw [HAT.out]
    go_wp2_with fail
    refine (Head_c kind fields _ (by omega) (by omega)).mono ?_
    rintro e w' ⟨rfl, rfl⟩
    rw [HH1.out]
    go_wp2_with fail
    go_ret
    exact ⟨rfl, (hk0.trans hk2)⟩

set_option maxHeartbeats 2000000 in
set_option maxRecDepth 100000 in
theorem apartBGY (k n kind fields at_ : Int) (w : World) (n1 : -9223372036854775808 ≤ n) (n2 : n ≤ 9223372036854775807) (f1 : -9223372036854775808 ≤ fields) (f2 : fields ≤ 9223372036854775807)
    (hc1 : ((encW k n).2 == 0) = true) (hk : k = 3) (hc2 : (encW k n).1 = 4 * n + 1) (hn1 : 0 ≤ n) (hn2 : n < 1152921504606846976) (a1 : 1152921504606846976 ≤ at_) (hf : fitsW kind fields = true) :
    Calls Try.prog 7 #[.agg #[.int .i64 k, .int .i64 n], .int .i64 kind, .int .i64 fields, .int .i64 at_] w fun e w' => e = .returned (.bool true) ∧ Keeps (fun _ => False) w w' := by
    subst hk
    have HC := Lib.hid hc2; clear hc2
    have hat : (4 * n + 1) / 4 = n := by omega
    have HAT := Lib.hid hat; clear hat
    have HH := Lib.hid (headW_fits hf)
    have hb := headW_range hf
    obtain ⟨b1, b2, b3⟩ := hb
    have ha15 : bits .and .i64 (16 * fields + kind) 15 = kind := by rw [i64_and15]; exact b3
    obtain ⟨b4, b5, b6, b7⟩ := fitsW_spec hf
    have HF := Lib.hid hf; clear hf b3
    go_enter Try.func7, Try.ntmps7
    go_wp2_with fail
    refine (wordBegun_c _).mono ?_
    rintro e w1 ⟨rfl, hk1⟩
    have hbl := hk1.blk (Blk.newAt (w := w) (b := w.heap.size) (T := 54) #[.int .i64 3, .int .i64 n] rfl rfl) (fun h => h)
    have hk0 : Keeps (fun _ => False) w w1 := ((Keeps.refl (fun _ => False) w).alloc _).trans hk1
    have c0 := hbl.cell 0; have c1 := hbl.cell 1
    simp only [List.getElem?_cons_zero, List.getElem?_cons_succ] at c0 c1
    have HB := Lib.hid hbl; clear hbl hk1
    go_wp2_with fail
    refine (Encode_c 3 n _ (by omega) (by omega)).mono ?_
    rintro e w2 ⟨rfl, hk2⟩
    have HB2 := Lib.hid (hk2.blk HB.out (fun h => h))
    have d0 := HB2.out.cell 0; have d1 := HB2.out.cell 1
    simp only [List.getElem?_cons_zero, List.getElem?_cons_succ] at d0 d1
    clear c0 c1
    rw [HC.out]
    go_wp2_with fail
    refine (At_yes (4 * n + 1) _ (by omega)).mono ?_
    rintro e w' ⟨rfl, rfl⟩
    rw [HAT.out]
    go_wp2_with fail
    refine (Head_c kind fields _ (by omega) (by omega)).mono ?_
    rintro e w' ⟨rfl, rfl⟩
    rw [HH.out]
    go_wp2_with fail
    refine (Nil_c _).mono ?_
    rintro e w' ⟨rfl, rfl⟩
    go_wp2_with fail
    refine (Gone_c _).mono ?_
    rintro e w' ⟨rfl, rfl⟩
    go_wp2_with fail
    go_ret
    exact ⟨rfl, (hk0.trans hk2)⟩

set_option maxHeartbeats 2000000 in
set_option maxRecDepth 100000 in
theorem apartBGN (k n kind fields at_ : Int) (w : World) (n1 : -9223372036854775808 ≤ n) (n2 : n ≤ 9223372036854775807) (f1 : -9223372036854775808 ≤ fields) (f2 : fields ≤ 9223372036854775807)
    (hc1 : ((encW k n).2 == 0) = true) (hk : k = 3) (hc2 : (encW k n).1 = 4 * n + 1) (hn1 : 0 ≤ n) (hn2 : n < 1152921504606846976) (a1 : 1152921504606846976 ≤ at_) (hf : fitsW kind fields = false) :
    Calls Try.prog 7 #[.agg #[.int .i64 k, .int .i64 n], .int .i64 kind, .int .i64 fields, .int .i64 at_] w fun e w' => e = .returned (.bool true) ∧ Keeps (fun _ => False) w w' := by
    subst hk
    have HC := Lib.hid hc2; clear hc2
    have hat : (4 * n + 1) / 4 = n := by omega
    have HAT := Lib.hid hat; clear hat
    have hh := headW_code hf
    have HH1 := Lib.hid hh.1
    have hh2 := hh.2
    have HF := Lib.hid hf; clear hf hh
    go_enter Try.func7, Try.ntmps7
    go_wp2_with fail
    refine (wordBegun_c _).mono ?_
    rintro e w1 ⟨rfl, hk1⟩
    have hbl := hk1.blk (Blk.newAt (w := w) (b := w.heap.size) (T := 54) #[.int .i64 3, .int .i64 n] rfl rfl) (fun h => h)
    have hk0 : Keeps (fun _ => False) w w1 := ((Keeps.refl (fun _ => False) w).alloc _).trans hk1
    have c0 := hbl.cell 0; have c1 := hbl.cell 1
    simp only [List.getElem?_cons_zero, List.getElem?_cons_succ] at c0 c1
    have HB := Lib.hid hbl; clear hbl hk1
    go_wp2_with fail
    refine (Encode_c 3 n _ (by omega) (by omega)).mono ?_
    rintro e w2 ⟨rfl, hk2⟩
    have HB2 := Lib.hid (hk2.blk HB.out (fun h => h))
    have d0 := HB2.out.cell 0; have d1 := HB2.out.cell 1
    simp only [List.getElem?_cons_zero, List.getElem?_cons_succ] at d0 d1
    clear c0 c1
    rw [HC.out]
    go_wp2_with fail
    refine (At_yes (4 * n + 1) _ (by omega)).mono ?_
    rintro e w' ⟨rfl, rfl⟩
    rw [HAT.out]
    go_wp2_with fail
    refine (Head_c kind fields _ (by omega) (by omega)).mono ?_
    rintro e w' ⟨rfl, rfl⟩
    rw [HH1.out]
    go_wp2_with fail
    go_ret
    exact ⟨rfl, (hk0.trans hk2)⟩

set_option maxHeartbeats 2000000 in
set_option maxRecDepth 100000 in
theorem apartCIY (k n kind fields at_ : Int) (w : World) (n1 : -9223372036854775808 ≤ n) (n2 : n ≤ 9223372036854775807) (f1 : -9223372036854775808 ≤ fields) (f2 : fields ≤ 9223372036854775807)
    (hc1 : ((encW k n).2 == 0) = true) (hc3 : (k == 3) = false) (hc2 : (encW k n).1 % 4 ≠ 1) (a1 : 0 ≤ at_) (a2 : at_ < 1152921504606846976) (hf : fitsW kind fields = true) :
    Calls Try.prog 7 #[.agg #[.int .i64 k, .int .i64 n], .int .i64 kind, .int .i64 fields, .int .i64 at_] w fun e w' => e = .returned (.bool true) ∧ Keeps (fun _ => False) w w' := by
    have HC := Lib.hid hc2; clear hc2
    have HD := Lib.hid (decW_of_ref ⟨a1, a2⟩)
    have HH := Lib.hid (headW_fits hf)
    have hb := headW_range hf
    obtain ⟨b1, b2, b3⟩ := hb
    have ha15 : bits .and .i64 (16 * fields + kind) 15 = kind := by rw [i64_and15]; exact b3
    obtain ⟨b4, b5, b6, b7⟩ := fitsW_spec hf
    have HF := Lib.hid hf; clear hf b3
    go_enter Try.func7, Try.ntmps7
    go_wp2_with fail
    refine (wordBegun_c _).mono ?_
    rintro e w1 ⟨rfl, hk1⟩
    have hbl := hk1.blk (Blk.newAt (w := w) (b := w.heap.size) (T := 54) #[.int .i64 k, .int .i64 n] rfl rfl) (fun h => h)
    have hk0 : Keeps (fun _ => False) w w1 := ((Keeps.refl (fun _ => False) w).alloc _).trans hk1
    have c0 := hbl.cell 0; have c1 := hbl.cell 1
    simp only [List.getElem?_cons_zero, List.getElem?_cons_succ] at c0 c1
    have HB := Lib.hid hbl; clear hbl hk1
    go_wp2_with fail
    refine (Encode_c k n _ (by omega) (by omega)).mono ?_
    rintro e w2 ⟨rfl, hk2⟩
    have HB2 := Lib.hid (hk2.blk HB.out (fun h => h))
    have d0 := HB2.out.cell 0; have d1 := HB2.out.cell 1
    simp only [List.getElem?_cons_zero, List.getElem?_cons_succ] at d0 d1
    clear c0 c1
    go_wp2_with fail
    refine (At_no _ _ HC.out).mono ?_
    rintro e w' ⟨rfl, rfl⟩
    go_wp2_with fail
    refine (Ref_c at_ _ (by omega) (by omega)).mono ?_
    rintro e w' ⟨rfl, rfl⟩
    go_wp2_with fail
    refine (Decode_c (4 * at_ + 1) _ (by omega) (by omega)).mono ?_
    rintro e w3 ⟨rfl, hk3⟩
    rw [HD.out]
    go_wp2_with fail
    refine (Head_c kind fields _ (by omega) (by omega)).mono ?_
    rintro e w' ⟨rfl, rfl⟩
    rw [HH.out]
    go_wp2_with fail
    refine (Nil_c _).mono ?_
    rintro e w' ⟨rfl, rfl⟩
    go_wp2_with fail
    refine (Gone_c _).mono ?_
    rintro e w' ⟨rfl, rfl⟩
    go_wp2_with fail
    go_ret
    exact ⟨rfl, ((hk0.trans hk2).trans hk3).alloc _⟩

set_option maxHeartbeats 2000000 in
set_option maxRecDepth 100000 in
theorem apartCIN (k n kind fields at_ : Int) (w : World) (n1 : -9223372036854775808 ≤ n) (n2 : n ≤ 9223372036854775807) (f1 : -9223372036854775808 ≤ fields) (f2 : fields ≤ 9223372036854775807)
    (hc1 : ((encW k n).2 == 0) = true) (hc3 : (k == 3) = false) (hc2 : (encW k n).1 % 4 ≠ 1) (a1 : 0 ≤ at_) (a2 : at_ < 1152921504606846976) (hf : fitsW kind fields = false) :
    Calls Try.prog 7 #[.agg #[.int .i64 k, .int .i64 n], .int .i64 kind, .int .i64 fields, .int .i64 at_] w fun e w' => e = .returned (.bool true) ∧ Keeps (fun _ => False) w w' := by
    have HC := Lib.hid hc2; clear hc2
    have HD := Lib.hid (decW_of_ref ⟨a1, a2⟩)
    have hh := headW_code hf
    have HH1 := Lib.hid hh.1
    have hh2 := hh.2
    have HF := Lib.hid hf; clear hf hh
    go_enter Try.func7, Try.ntmps7
    go_wp2_with fail
    refine (wordBegun_c _).mono ?_
    rintro e w1 ⟨rfl, hk1⟩
    have hbl := hk1.blk (Blk.newAt (w := w) (b := w.heap.size) (T := 54) #[.int .i64 k, .int .i64 n] rfl rfl) (fun h => h)
    have hk0 : Keeps (fun _ => False) w w1 := ((Keeps.refl (fun _ => False) w).alloc _).trans hk1
    have c0 := hbl.cell 0; have c1 := hbl.cell 1
    simp only [List.getElem?_cons_zero, List.getElem?_cons_succ] at c0 c1
    have HB := Lib.hid hbl; clear hbl hk1
    go_wp2_with fail
    refine (Encode_c k n _ (by omega) (by omega)).mono ?_
    rintro e w2 ⟨rfl, hk2⟩
    have HB2 := Lib.hid (hk2.blk HB.out (fun h => h))
    have d0 := HB2.out.cell 0; have d1 := HB2.out.cell 1
    simp only [List.getElem?_cons_zero, List.getElem?_cons_succ] at d0 d1
    clear c0 c1
    go_wp2_with fail
    refine (At_no _ _ HC.out).mono ?_
    rintro e w' ⟨rfl, rfl⟩
    go_wp2_with fail
    refine (Ref_c at_ _ (by omega) (by omega)).mono ?_
    rintro e w' ⟨rfl, rfl⟩
    go_wp2_with fail
    refine (Decode_c (4 * at_ + 1) _ (by omega) (by omega)).mono ?_
    rintro e w3 ⟨rfl, hk3⟩
    rw [HD.out]
    go_wp2_with fail
    refine (Head_c kind fields _ (by omega) (by omega)).mono ?_
    rintro e w' ⟨rfl, rfl⟩
    rw [HH1.out]
    go_wp2_with fail
    go_ret
    exact ⟨rfl, ((hk0.trans hk2).trans hk3).alloc _⟩

set_option maxHeartbeats 2000000 in
set_option maxRecDepth 100000 in
theorem apartCLY (k n kind fields at_ : Int) (w : World) (n1 : -9223372036854775808 ≤ n) (n2 : n ≤ 9223372036854775807) (f1 : -9223372036854775808 ≤ fields) (f2 : fields ≤ 9223372036854775807)
    (hc1 : ((encW k n).2 == 0) = true) (hc3 : (k == 3) = false) (hc2 : (encW k n).1 % 4 ≠ 1) (a1 : at_ < 0) (hf : fitsW kind fields = true) :
    Calls Try.prog 7 #[.agg #[.int .i64 k, .int .i64 n], .int .i64 kind, .int .i64 fields, .int .i64 at_] w fun e w' => e = .returned (.bool true) ∧ Keeps (fun _ => False) w w' := by
    have HC := Lib.hid hc2; clear hc2
    have HH := Lib.hid (headW_fits hf)
    have hb := headW_range hf
    obtain ⟨b1, b2, b3⟩ := hb
    have ha15 : bits .and .i64 (16 * fields + kind) 15 = kind := by rw [i64_and15]; exact b3
    obtain ⟨b4, b5, b6, b7⟩ := fitsW_spec hf
    have HF := Lib.hid hf; clear hf b3
    go_enter Try.func7, Try.ntmps7
    go_wp2_with fail
    refine (wordBegun_c _).mono ?_
    rintro e w1 ⟨rfl, hk1⟩
    have hbl := hk1.blk (Blk.newAt (w := w) (b := w.heap.size) (T := 54) #[.int .i64 k, .int .i64 n] rfl rfl) (fun h => h)
    have hk0 : Keeps (fun _ => False) w w1 := ((Keeps.refl (fun _ => False) w).alloc _).trans hk1
    have c0 := hbl.cell 0; have c1 := hbl.cell 1
    simp only [List.getElem?_cons_zero, List.getElem?_cons_succ] at c0 c1
    have HB := Lib.hid hbl; clear hbl hk1
    go_wp2_with fail
    refine (Encode_c k n _ (by omega) (by omega)).mono ?_
    rintro e w2 ⟨rfl, hk2⟩
    have HB2 := Lib.hid (hk2.blk HB.out (fun h => h))
    have d0 := HB2.out.cell 0; have d1 := HB2.out.cell 1
    simp only [List.getElem?_cons_zero, List.getElem?_cons_succ] at d0 d1
    clear c0 c1
    go_wp2_with fail
    refine (At_no _ _ HC.out).mono ?_
    rintro e w' ⟨rfl, rfl⟩
    go_wp2_with fail
    refine (Head_c kind fields _ (by omega) (by omega)).mono ?_
    rintro e w' ⟨rfl, rfl⟩
    rw [HH.out]
    go_wp2_with fail
    refine (Nil_c _).mono ?_
    rintro e w' ⟨rfl, rfl⟩
    go_wp2_with fail
    refine (Gone_c _).mono ?_
    rintro e w' ⟨rfl, rfl⟩
    go_wp2_with fail
    go_ret
    exact ⟨rfl, (hk0.trans hk2)⟩

set_option maxHeartbeats 2000000 in
set_option maxRecDepth 100000 in
theorem apartCLN (k n kind fields at_ : Int) (w : World) (n1 : -9223372036854775808 ≤ n) (n2 : n ≤ 9223372036854775807) (f1 : -9223372036854775808 ≤ fields) (f2 : fields ≤ 9223372036854775807)
    (hc1 : ((encW k n).2 == 0) = true) (hc3 : (k == 3) = false) (hc2 : (encW k n).1 % 4 ≠ 1) (a1 : at_ < 0) (hf : fitsW kind fields = false) :
    Calls Try.prog 7 #[.agg #[.int .i64 k, .int .i64 n], .int .i64 kind, .int .i64 fields, .int .i64 at_] w fun e w' => e = .returned (.bool true) ∧ Keeps (fun _ => False) w w' := by
    have HC := Lib.hid hc2; clear hc2
    have hh := headW_code hf
    have HH1 := Lib.hid hh.1
    have hh2 := hh.2
    have HF := Lib.hid hf; clear hf hh
    go_enter Try.func7, Try.ntmps7
    go_wp2_with fail
    refine (wordBegun_c _).mono ?_
    rintro e w1 ⟨rfl, hk1⟩
    have hbl := hk1.blk (Blk.newAt (w := w) (b := w.heap.size) (T := 54) #[.int .i64 k, .int .i64 n] rfl rfl) (fun h => h)
    have hk0 : Keeps (fun _ => False) w w1 := ((Keeps.refl (fun _ => False) w).alloc _).trans hk1
    have c0 := hbl.cell 0; have c1 := hbl.cell 1
    simp only [List.getElem?_cons_zero, List.getElem?_cons_succ] at c0 c1
    have HB := Lib.hid hbl; clear hbl hk1
    go_wp2_with fail
    refine (Encode_c k n _ (by omega) (by omega)).mono ?_
    rintro e w2 ⟨rfl, hk2⟩
    have HB2 := Lib.hid (hk2.blk HB.out (fun h => h))
    have d0 := HB2.out.cell 0; have d1 := HB2.out.cell 1
    simp only [List.getElem?_cons_zero, List.getElem?_cons_succ] at d0 d1
    clear c0 c1
    go_wp2_with fail
    refine (At_no _ _ HC.out).mono ?_
    rintro e w' ⟨rfl, rfl⟩
    go_wp2_with fail
    refine (Head_c kind fields _ (by omega) (by omega)).mono ?_
    rintro e w' ⟨rfl, rfl⟩
    rw [HH1.out]
    go_wp2_with fail
    go_ret
    exact ⟨rfl, (hk0.trans hk2)⟩

set_option maxHeartbeats 2000000 in
set_option maxRecDepth 100000 in
theorem apartCGY (k n kind fields at_ : Int) (w : World) (n1 : -9223372036854775808 ≤ n) (n2 : n ≤ 9223372036854775807) (f1 : -9223372036854775808 ≤ fields) (f2 : fields ≤ 9223372036854775807)
    (hc1 : ((encW k n).2 == 0) = true) (hc3 : (k == 3) = false) (hc2 : (encW k n).1 % 4 ≠ 1) (a1 : 1152921504606846976 ≤ at_) (hf : fitsW kind fields = true) :
    Calls Try.prog 7 #[.agg #[.int .i64 k, .int .i64 n], .int .i64 kind, .int .i64 fields, .int .i64 at_] w fun e w' => e = .returned (.bool true) ∧ Keeps (fun _ => False) w w' := by
    have HC := Lib.hid hc2; clear hc2
    have HH := Lib.hid (headW_fits hf)
    have hb := headW_range hf
    obtain ⟨b1, b2, b3⟩ := hb
    have ha15 : bits .and .i64 (16 * fields + kind) 15 = kind := by rw [i64_and15]; exact b3
    obtain ⟨b4, b5, b6, b7⟩ := fitsW_spec hf
    have HF := Lib.hid hf; clear hf b3
    go_enter Try.func7, Try.ntmps7
    go_wp2_with fail
    refine (wordBegun_c _).mono ?_
    rintro e w1 ⟨rfl, hk1⟩
    have hbl := hk1.blk (Blk.newAt (w := w) (b := w.heap.size) (T := 54) #[.int .i64 k, .int .i64 n] rfl rfl) (fun h => h)
    have hk0 : Keeps (fun _ => False) w w1 := ((Keeps.refl (fun _ => False) w).alloc _).trans hk1
    have c0 := hbl.cell 0; have c1 := hbl.cell 1
    simp only [List.getElem?_cons_zero, List.getElem?_cons_succ] at c0 c1
    have HB := Lib.hid hbl; clear hbl hk1
    go_wp2_with fail
    refine (Encode_c k n _ (by omega) (by omega)).mono ?_
    rintro e w2 ⟨rfl, hk2⟩
    have HB2 := Lib.hid (hk2.blk HB.out (fun h => h))
    have d0 := HB2.out.cell 0; have d1 := HB2.out.cell 1
    simp only [List.getElem?_cons_zero, List.getElem?_cons_succ] at d0 d1
    clear c0 c1
    go_wp2_with fail
    refine (At_no _ _ HC.out).mono ?_
    rintro e w' ⟨rfl, rfl⟩
    go_wp2_with fail
    refine (Head_c kind fields _ (by omega) (by omega)).mono ?_
    rintro e w' ⟨rfl, rfl⟩
    rw [HH.out]
    go_wp2_with fail
    refine (Nil_c _).mono ?_
    rintro e w' ⟨rfl, rfl⟩
    go_wp2_with fail
    refine (Gone_c _).mono ?_
    rintro e w' ⟨rfl, rfl⟩
    go_wp2_with fail
    go_ret
    exact ⟨rfl, (hk0.trans hk2)⟩

set_option maxHeartbeats 2000000 in
set_option maxRecDepth 100000 in
theorem apartCGN (k n kind fields at_ : Int) (w : World) (n1 : -9223372036854775808 ≤ n) (n2 : n ≤ 9223372036854775807) (f1 : -9223372036854775808 ≤ fields) (f2 : fields ≤ 9223372036854775807)
    (hc1 : ((encW k n).2 == 0) = true) (hc3 : (k == 3) = false) (hc2 : (encW k n).1 % 4 ≠ 1) (a1 : 1152921504606846976 ≤ at_) (hf : fitsW kind fields = false) :
    Calls Try.prog 7 #[.agg #[.int .i64 k, .int .i64 n], .int .i64 kind, .int .i64 fields, .int .i64 at_] w fun e w' => e = .returned (.bool true) ∧ Keeps (fun _ => False) w w' := by
    have HC := Lib.hid hc2; clear hc2
    have hh := headW_code hf
    have HH1 := Lib.hid hh.1
    have hh2 := hh.2
    have HF := Lib.hid hf; clear hf hh
    go_enter Try.func7, Try.ntmps7
    go_wp2_with fail
    refine (wordBegun_c _).mono ?_
    rintro e w1 ⟨rfl, hk1⟩
    have hbl := hk1.blk (Blk.newAt (w := w) (b := w.heap.size) (T := 54) #[.int .i64 k, .int .i64 n] rfl rfl) (fun h => h)
    have hk0 : Keeps (fun _ => False) w w1 := ((Keeps.refl (fun _ => False) w).alloc _).trans hk1
    have c0 := hbl.cell 0; have c1 := hbl.cell 1
    simp only [List.getElem?_cons_zero, List.getElem?_cons_succ] at c0 c1
    have HB := Lib.hid hbl; clear hbl hk1
    go_wp2_with fail
    refine (Encode_c k n _ (by omega) (by omega)).mono ?_
    rintro e w2 ⟨rfl, hk2⟩
    have HB2 := Lib.hid (hk2.blk HB.out (fun h => h))
    have d0 := HB2.out.cell 0; have d1 := HB2.out.cell 1
    simp only [List.getElem?_cons_zero, List.getElem?_cons_succ] at d0 d1
    clear c0 c1
    go_wp2_with fail
    refine (At_no _ _ HC.out).mono ?_
    rintro e w' ⟨rfl, rfl⟩
    go_wp2_with fail
    refine (Head_c kind fields _ (by omega) (by omega)).mono ?_
    rintro e w' ⟨rfl, rfl⟩
    rw [HH1.out]
    go_wp2_with fail
    go_ret
    exact ⟨rfl, (hk0.trans hk2)⟩

theorem WordApart_walk (v : Int × Int) (kind fields at_ : Int) (w : World)
    (hv : (-9223372036854775808 ≤ v.1 ∧ v.1 ≤ 9223372036854775807) ∧ -9223372036854775808 ≤ v.2 ∧ v.2 ≤ 9223372036854775807) (_ : -9223372036854775808 ≤ kind ∧ kind ≤ 9223372036854775807) (hf : -9223372036854775808 ≤ fields ∧ fields ≤ 9223372036854775807) (_ : -9223372036854775808 ≤ at_ ∧ at_ ≤ 9223372036854775807) :
    Calls Try.prog 7 #[.agg #[.int .i64 v.1, .int .i64 v.2], .int .i64 kind, .int .i64 fields, .int .i64 at_] w fun e w' => e = .returned (.bool true) ∧ Below w.heap.size w w' := by
  obtain ⟨k, n⟩ := v
  obtain ⟨_, n1, n2⟩ := hv
  obtain ⟨f1, f2⟩ := hf
  suffices h : Calls Try.prog 7 #[.agg #[.int .i64 k, .int .i64 n], .int .i64 kind, .int .i64 fields, .int .i64 at_] w fun e w' => e = .returned (.bool true) ∧ Keeps (fun _ => False) w w' from
    h.mono fun e w' ⟨he, hk⟩ => ⟨he, hk.below (fun _ _ h => h)⟩
  rcases encW_at k n with ⟨e1, e2⟩ | ⟨e1, e2, e3, e4, e5⟩ | ⟨e1, e2, e3⟩ <;> (cases hf : fitsW kind fields) <;> by_cases a1 : at_ < 0
  · exact apartALN k n kind fields at_ w n1 n2 f1 f2 e1 e2 a1 hf
  · by_cases a2 : 1152921504606846976 ≤ at_
    · exact apartAGN k n kind fields at_ w n1 n2 f1 f2 e1 e2 a2 hf
    · exact apartAIN k n kind fields at_ w n1 n2 f1 f2 e1 e2 (by omega) (by omega) hf
  · exact apartALY k n kind fields at_ w n1 n2 f1 f2 e1 e2 a1 hf
  · by_cases a2 : 1152921504606846976 ≤ at_
    · exact apartAGY k n kind fields at_ w n1 n2 f1 f2 e1 e2 a2 hf
    · exact apartAIY k n kind fields at_ w n1 n2 f1 f2 e1 e2 (by omega) (by omega) hf
  · exact apartBLN k n kind fields at_ w n1 n2 f1 f2 e1 e2 e3 e4 e5 a1 hf
  · by_cases a2 : 1152921504606846976 ≤ at_
    · exact apartBGN k n kind fields at_ w n1 n2 f1 f2 e1 e2 e3 e4 e5 a2 hf
    · exact apartBIN k n kind fields at_ w n1 n2 f1 f2 e1 e2 e3 e4 e5 (by omega) (by omega) hf
  · exact apartBLY k n kind fields at_ w n1 n2 f1 f2 e1 e2 e3 e4 e5 a1 hf
  · by_cases a2 : 1152921504606846976 ≤ at_
    · exact apartBGY k n kind fields at_ w n1 n2 f1 f2 e1 e2 e3 e4 e5 a2 hf
    · exact apartBIY k n kind fields at_ w n1 n2 f1 f2 e1 e2 e3 e4 e5 (by omega) (by omega) hf
  · exact apartCLN k n kind fields at_ w n1 n2 f1 f2 e1 e2 e3 a1 hf
  · by_cases a2 : 1152921504606846976 ≤ at_
    · exact apartCGN k n kind fields at_ w n1 n2 f1 f2 e1 e2 e3 a2 hf
    · exact apartCIN k n kind fields at_ w n1 n2 f1 f2 e1 e2 e3 (by omega) (by omega) hf
  · exact apartCLY k n kind fields at_ w n1 n2 f1 f2 e1 e2 e3 a1 hf
  · by_cases a2 : 1152921504606846976 ≤ at_
    · exact apartCGY k n kind fields at_ w n1 n2 f1 f2 e1 e2 e3 a2 hf
    · exact apartCIY k n kind fields at_ w n1 n2 f1 f2 e1 e2 e3 (by omega) (by omega) hf

end Go.Proofs.Ytjifdalflepcoaa
