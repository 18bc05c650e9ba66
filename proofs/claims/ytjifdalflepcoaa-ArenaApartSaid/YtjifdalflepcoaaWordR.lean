/-
  The references of words: what they compute.
-/
import Derived.Test.YtjifdalflepcoaaWord2
namespace Go.Proofs.Ytjifdalflepcoaa
open Go.RowKit
set_option linter.unusedVariables false
set_option linter.unusedSimpArgs false

set_option maxHeartbeats 1000000 in
theorem WordOf_c (k n : Int) (w : World) (h1 : -9223372036854775808 ≤ n) (h2 : n ≤ 9223372036854775807) :
    Calls Try.prog 46 #[.agg #[.int .i64 k, .int .i64 n]] w fun e w' => e = .returned (.tuple #[.int .i64 (encW k n).1, .int .i64 (encW k n).2]) ∧ Keeps (fun _ => False) w w' := by
  by_cases k0 : k = 0
  · subst k0
    by_cases n0 : n = 0
    · subst n0
      go_enter Try.func46, Try.ntmps46
      go_wp2
      go_ret2
      exact ⟨rfl, (Keeps.refl _ _).alloc _⟩
    · have hz : (n != 0) = true := by simpa using n0
      have he : encW 0 n = (0, 7) := by simp [encW, n0]
      have HE := Lib.hid he; clear he n0
      go_enter Try.func46, Try.ntmps46
      go_wp2
      go_ret2
      exact ⟨by rw [HE.out]; rfl, (Keeps.refl _ _).alloc _⟩
  by_cases k2 : k = 2
  · subst k2
    by_cases n0 : n = 0
    · subst n0
      go_enter Try.func46, Try.ntmps46
      go_wp2
      go_ret2
      exact ⟨rfl, (Keeps.refl _ _).alloc _⟩
    · have hz : (n != 0) = true := by simpa using n0
      have he : encW 2 n = (0, 7) := by simp [encW, n0]
      have HE := Lib.hid he; clear he n0
      go_enter Try.func46, Try.ntmps46
      go_wp2
      go_ret2
      exact ⟨by rw [HE.out]; rfl, (Keeps.refl _ _).alloc _⟩
  by_cases k1 : k = 1
  · subst k1
    by_cases c1 : n < -1152921504606846976
    · have he : encW 1 n = (0, 1) := encW_int_no (by omega)
      have HE := Lib.hid he; clear he
      go_enter Try.func46, Try.ntmps46
      go_wp2
      go_ret2
      exact ⟨by rw [HE.out]; rfl, (Keeps.refl _ _).alloc _⟩
    by_cases c2 : 1152921504606846976 ≤ n
    · have he : encW 1 n = (0, 1) := encW_int_no (by omega)
      have HE := Lib.hid he; clear he
      go_enter Try.func46, Try.ntmps46
      go_wp2
      go_ret2
      exact ⟨by rw [HE.out]; rfl, (Keeps.refl _ _).alloc _⟩
    have he : encW 1 n = (4 * n, 0) := encW_int (by omega)
    have HE := Lib.hid he; clear he
    have hor := i64_or0 (n * 4) (by omega) (by omega)
    go_enter Try.func46, Try.ntmps46
    go_wp2
    go_ret2
    exact ⟨by rw [HE.out]; rfl, (Keeps.refl _ _).alloc _⟩
  by_cases k3 : k = 3
  · subst k3
    by_cases c1 : n < 0
    · have he : encW 3 n = (0, 1) := encW_ref_no (by omega)
      have HE := Lib.hid he; clear he
      go_enter Try.func46, Try.ntmps46
      go_wp2
      go_ret2
      exact ⟨by rw [HE.out]; rfl, (Keeps.refl _ _).alloc _⟩
    by_cases c2 : 1152921504606846976 ≤ n
    · have he : encW 3 n = (0, 1) := encW_ref_no (by omega)
      have HE := Lib.hid he; clear he
      go_enter Try.func46, Try.ntmps46
      go_wp2
      go_ret2
      exact ⟨by rw [HE.out]; rfl, (Keeps.refl _ _).alloc _⟩
    have he : encW 3 n = (4 * n + 1, 0) := encW_ref (by omega)
    have HE := Lib.hid he; clear he
    have hor := i64_or1 n (by omega) (by omega)
    go_enter Try.func46, Try.ntmps46
    go_wp2
    go_ret2
    exact ⟨by rw [HE.out]; exact ret_two (by omega) rfl, (Keeps.refl _ _).alloc _⟩
  have e0 : (k == 0) = false := by simpa using k0
  have e1 : (k == 1) = false := by simpa using k1
  have e2 : (k == 2) = false := by simpa using k2
  have e3 : (k == 3) = false := by simpa using k3
  have he : encW k n = (0, 2) := encW_other k0 k1 k2 k3
  have HE := Lib.hid he; clear he k0 k1 k2 k3
  go_enter Try.func46, Try.ntmps46
  go_wp2
  go_ret2
  exact ⟨by rw [HE.out]; rfl, (Keeps.refl _ _).alloc _⟩


set_option maxHeartbeats 2000000 in
theorem Fits_c (k f : Int) (w : World) (h1 : -9223372036854775808 ≤ f) (h2 : f ≤ 9223372036854775807) :
    Calls Try.prog 62 #[.int .i64 k, .int .i64 f] w fun e w' => e = .returned (.int .i64 (headW k f).2) ∧ w = w' := by
  by_cases hk : k = 1 ∨ k = 2 ∨ k = 3 ∨ k = 4 ∨ k = 5
  · rcases hk with rfl | rfl | rfl | rfl | rfl
    · by_cases c : f = 2
      · subst c
        have HE := Lib.hid (headW_yes (k := 1) (f := 2) (by omega) (by decide))
        go_enter Try.func62, Try.ntmps62
        go_wp2
        go_ret
        exact ⟨by rw [HE.out]; rfl, rfl⟩
      · have hne : (f != 2) = true := by simpa using c
        have HE := Lib.hid (headW_no (k := 1) (f := f) (by omega) (by rw [fitsW_2 (by omega)]; simpa using c)); clear c
        go_enter Try.func62, Try.ntmps62
        go_wp2
        go_ret
        exact ⟨by rw [HE.out]; rfl, rfl⟩
    · by_cases c1 : f < 0
      · have HE := Lib.hid (headW_no (k := 2) (f := f) (by omega) (by rw [fitsW_vec]; simp; omega))
        go_enter Try.func62, Try.ntmps62
        go_wp2
        go_ret
        exact ⟨by rw [HE.out]; rfl, rfl⟩
      by_cases c2 : 12 < f
      · have HE := Lib.hid (headW_no (k := 2) (f := f) (by omega) (by rw [fitsW_vec]; simp; omega))
        go_enter Try.func62, Try.ntmps62
        go_wp2
        go_ret
        exact ⟨by rw [HE.out]; rfl, rfl⟩
      have HE := Lib.hid (headW_yes (k := 2) (f := f) (by omega) (by rw [fitsW_vec]; simp; omega))
      go_enter Try.func62, Try.ntmps62
      go_wp2
      go_ret
      exact ⟨by rw [HE.out]; rfl, rfl⟩
    · by_cases c : f = 2
      · subst c
        have HE := Lib.hid (headW_yes (k := 3) (f := 2) (by omega) (by decide))
        go_enter Try.func62, Try.ntmps62
        go_wp2
        go_ret
        exact ⟨by rw [HE.out]; rfl, rfl⟩
      · have hne : (f != 2) = true := by simpa using c
        have HE := Lib.hid (headW_no (k := 3) (f := f) (by omega) (by rw [fitsW_2 (by omega)]; simpa using c)); clear c
        go_enter Try.func62, Try.ntmps62
        go_wp2
        go_ret
        exact ⟨by rw [HE.out]; rfl, rfl⟩
    · by_cases c : f = 2
      · subst c
        have HE := Lib.hid (headW_yes (k := 4) (f := 2) (by omega) (by decide))
        go_enter Try.func62, Try.ntmps62
        go_wp2
        go_ret
        exact ⟨by rw [HE.out]; rfl, rfl⟩
      · have hne : (f != 2) = true := by simpa using c
        have HE := Lib.hid (headW_no (k := 4) (f := f) (by omega) (by rw [fitsW_2 (by omega)]; simpa using c)); clear c
        go_enter Try.func62, Try.ntmps62
        go_wp2
        go_ret
        exact ⟨by rw [HE.out]; rfl, rfl⟩
    · by_cases c : f = 0
      · subst c
        have HE := Lib.hid (headW_yes (k := 5) (f := 0) (by omega) (by decide))
        go_enter Try.func62, Try.ntmps62
        go_wp2
        go_ret
        exact ⟨by rw [HE.out]; rfl, rfl⟩
      · have hne : (f != 0) = true := by simpa using c
        have HE := Lib.hid (headW_no (k := 5) (f := f) (by omega) (by rw [fitsW_5]; simpa using c)); clear c
        go_enter Try.func62, Try.ntmps62
        go_wp2
        go_ret
        exact ⟨by rw [HE.out]; rfl, rfl⟩
  · have HE := Lib.hid (headW_kind (k := k) (f := f) (by omega))
    have e1 : (k == 1) = false := by simp; omega
    have e2 : (k == 2) = false := by simp; omega
    have e3 : (k == 3) = false := by simp; omega
    have e4 : (k == 4) = false := by simp; omega
    have e5 : (k == 5) = false := by simp; omega
    clear hk
    go_enter Try.func62, Try.ntmps62
    go_wp2
    go_ret
    exact ⟨by rw [HE.out]; rfl, rfl⟩

set_option maxHeartbeats 1000000 in
theorem HeadOf_c (k f : Int) (w : World) (h1 : -9223372036854775808 ≤ f) (h2 : f ≤ 9223372036854775807) :
    Calls Try.prog 48 #[.int .i64 k, .int .i64 f] w fun e w' => e = .returned (.tuple #[.int .i64 (headW k f).1, .int .i64 (headW k f).2]) ∧ w = w' := by
  cases hf : fitsW k f
  · have HC := Lib.hid (headW_code hf).1
    have hc := (headW_code hf).2
    have HF := Lib.hid hf; clear hf
    go_enter Try.func48, Try.ntmps48
    go_wp2_with fail
    refine (Fits_c k f _ h1 h2).mono ?_
    rintro e w' ⟨rfl, rfl⟩
    go_wp2_with fail
    go_ret2
    exact ⟨by rw [HC.out]; rfl, rfl⟩
  · have HC := Lib.hid (headW_fits hf)
    have hb := fitsW_spec hf
    obtain ⟨b1, b2, b3, b4⟩ := hb
    have HF := Lib.hid hf; clear hf
    go_enter Try.func48, Try.ntmps48
    go_wp2_with fail
    refine (Fits_c k f _ h1 h2).mono ?_
    rintro e w' ⟨rfl, rfl⟩
    rw [HC.out]
    go_wp2_with fail
    go_ret2
    exact ⟨by rw [HC.out]; rfl, rfl⟩

theorem decW_enc0 (n : Int) : decW (4 * n) = if (encW 1 n).2 = 0 then (1, n, 0) else (0, 0, (encW 1 n).2) := by
  by_cases h : -1152921504606846976 ≤ n ∧ n < 1152921504606846976
  · rw [encW_int h, decW_int (by omega) (by omega), if_pos rfl]; simp
  · rw [encW_int_no h, decW_int_no (by omega) (by omega), if_neg (by decide)]

theorem decW_enc1 (n : Int) : decW (4 * n + 1) = if (encW 3 n).2 = 0 then (3, n, 0) else (0, 0, (encW 3 n).2) := by
  have h4 : (4 * n + 1) / 4 = n := by omega
  by_cases h : 0 ≤ n ∧ n < 1152921504606846976
  · rw [encW_ref h, decW_ref (by omega) (by omega), if_pos rfl, h4]
  · rw [encW_ref_no h, decW_ref_no (by omega) (by omega), if_neg (by decide)]

theorem decW_enc2 (n : Int) : decW (4 * n + 2) = if (encW 0 n).2 = 0 then (0, n, 0) else (0, 0, (encW 0 n).2) := by
  by_cases h : n = 0
  · subst h; rfl
  · rw [decW_bits (by omega) (by omega) (by omega)]; simp [encW, h]

theorem decW_enc3 (n : Int) : decW (4 * n + 3) = if (encW 2 n).2 = 0 then (2, n, 0) else (0, 0, (encW 2 n).2) := by
  by_cases h : n = 0
  · subst h; rfl
  · rw [decW_bits (by omega) (by omega) (by omega)]; simp [encW, h]

set_option maxHeartbeats 1000000 in
theorem ValOf_0 (n : Int) (w : World) (h1 : -9223372036854775808 ≤ 4 * n) (h2 : 4 * n ≤ 9223372036854775807) :
    Calls Try.prog 47 #[.int .i64 (4 * n)] w fun e w' => e = .returned (.tuple #[.agg #[.int .i64 (decW (4 * n)).1, .int .i64 (decW (4 * n)).2.1], .int .i64 (decW (4 * n)).2.2]) ∧ Keeps (fun _ => False) w w' := by
  have ha : bits .and .i64 (4 * n) 3 = 0 := by rw [i64_and3]; omega
  have hq : (4 * n).tdiv 4 = n := Int.mul_tdiv_cancel_left _ (by omega)
  have HE := Lib.hid (decW_enc0 n)
  by_cases hc : (encW 1 n).2 = 0
  · have HC := Lib.hid hc; clear hc
    go_enter Try.func47, Try.ntmps47
    go_wp2_with fail
    refine (WordOf_c 1 n _ (by omega) (by omega)).mono ?_
    rintro e w3 ⟨rfl, hk⟩
    rw [HC.out]
    have hb := Blk.newAt (w := (w.alloc (Obj.cells #[.int .i64 0, .int .i64 0] 54))) (b := w.heap.size + 1) (T := 54) #[.int .i64 1, .int .i64 n] (by simp) rfl
    have hb0 := (Blk.newAt (w := w) (b := w.heap.size) (T := 54) #[.int .i64 0, .int .i64 0] rfl rfl).alloc (.cells #[.int .i64 1, .int .i64 n] 54)
    have hb' := hk.blk hb (fun h => h)
    have hb0' := hk.blk hb0 (fun h => h)
    have c0 := hb'.cell 0; have c1 := hb'.cell 1; have d0 := hb0'.cell 0; have d1 := hb0'.cell 1; have f0 := hb0'.free 0; have f1 := hb0'.free 1
    have hkk : Keeps (fun _ => False) w w3 := (((Keeps.refl (fun _ => False) w).alloc _).alloc _).trans hk
    simp only [List.getElem?_cons_zero, List.getElem?_cons_succ] at c0 c1 d0 d1
    have HK := Lib.hid hkk
    clear hk hkk hb hb0 hb' hb0'
    go_wp2_with fail
    refine bodyPost_ret (v := .tuple #[.agg #[.int .i64 1, .int .i64 n], .int .i64 0]) ?_ rfl ⟨ret_val (by rw [HE.out, if_pos HC.out]), (HK.out.setCell (.inr (Nat.le_refl _)) _).setCell (.inr (Nat.le_refl _)) _⟩
    · simp [results, Try.results47, go_sem, c0, c1, d0, d1, f0, f1]
  · have hcb : ((encW 1 n).2 != 0) = true := by simpa using hc
    have HC := Lib.hid hc; clear hc
    go_enter Try.func47, Try.ntmps47
    go_wp2_with fail
    refine (WordOf_c 1 n _ (by omega) (by omega)).mono ?_
    rintro e w3 ⟨rfl, hk⟩
    have hb0 := (Blk.newAt (w := w) (b := w.heap.size) (T := 54) #[.int .i64 0, .int .i64 0] rfl rfl).alloc (.cells #[.int .i64 1, .int .i64 n] 54)
    have hb0' := hk.blk hb0 (fun h => h)
    have d0 := hb0'.cell 0; have d1 := hb0'.cell 1; have f0 := hb0'.free 0; have f1 := hb0'.free 1
    have hkk : Keeps (fun _ => False) w w3 := (((Keeps.refl (fun _ => False) w).alloc _).alloc _).trans hk
    simp only [List.getElem?_cons_zero, List.getElem?_cons_succ] at d0 d1
    have HK := Lib.hid hkk
    clear hk hkk hb0 hb0'
    go_wp2_with fail
    refine bodyPost_ret (v := .tuple #[.agg #[.int .i64 0, .int .i64 0], .int .i64 (encW 1 n).2]) ?_ rfl ⟨ret_val (by rw [HE.out, if_neg HC.out]), (HK.out.setCell (.inr (Nat.le_refl _)) _).setCell (.inr (Nat.le_refl _)) _⟩
    · simp [results, Try.results47, go_sem, d0, d1, f0, f1]

set_option maxHeartbeats 1000000 in
theorem ValOf_1 (n : Int) (w : World) (h1 : -9223372036854775808 ≤ 4 * n + 1) (h2 : 4 * n + 1 ≤ 9223372036854775807) :
    Calls Try.prog 47 #[.int .i64 (4 * n + 1)] w fun e w' => e = .returned (.tuple #[.agg #[.int .i64 (decW (4 * n + 1)).1, .int .i64 (decW (4 * n + 1)).2.1], .int .i64 (decW (4 * n + 1)).2.2]) ∧ Keeps (fun _ => False) w w' := by
  have ha : bits .and .i64 (4 * n + 1) 3 = 1 := by rw [i64_and3]; omega
  have hq : (4 * n).tdiv 4 = n := Int.mul_tdiv_cancel_left _ (by omega)
  have HE := Lib.hid (decW_enc1 n)
  by_cases hc : (encW 3 n).2 = 0
  · have HC := Lib.hid hc; clear hc
    go_enter Try.func47, Try.ntmps47
    go_wp2_with fail
    refine (WordOf_c 3 n _ (by omega) (by omega)).mono ?_
    rintro e w3 ⟨rfl, hk⟩
    rw [HC.out]
    have hb := Blk.newAt (w := (w.alloc (Obj.cells #[.int .i64 0, .int .i64 0] 54))) (b := w.heap.size + 1) (T := 54) #[.int .i64 3, .int .i64 n] (by simp) rfl
    have hb0 := (Blk.newAt (w := w) (b := w.heap.size) (T := 54) #[.int .i64 0, .int .i64 0] rfl rfl).alloc (.cells #[.int .i64 3, .int .i64 n] 54)
    have hb' := hk.blk hb (fun h => h)
    have hb0' := hk.blk hb0 (fun h => h)
    have c0 := hb'.cell 0; have c1 := hb'.cell 1; have d0 := hb0'.cell 0; have d1 := hb0'.cell 1; have f0 := hb0'.free 0; have f1 := hb0'.free 1
    have hkk : Keeps (fun _ => False) w w3 := (((Keeps.refl (fun _ => False) w).alloc _).alloc _).trans hk
    simp only [List.getElem?_cons_zero, List.getElem?_cons_succ] at c0 c1 d0 d1
    have HK := Lib.hid hkk
    clear hk hkk hb hb0 hb' hb0'
    go_wp2_with fail
    refine bodyPost_ret (v := .tuple #[.agg #[.int .i64 3, .int .i64 n], .int .i64 0]) ?_ rfl ⟨ret_val (by rw [HE.out, if_pos HC.out]), (HK.out.setCell (.inr (Nat.le_refl _)) _).setCell (.inr (Nat.le_refl _)) _⟩
    · simp [results, Try.results47, go_sem, c0, c1, d0, d1, f0, f1]
  · have hcb : ((encW 3 n).2 != 0) = true := by simpa using hc
    have HC := Lib.hid hc; clear hc
    go_enter Try.func47, Try.ntmps47
    go_wp2_with fail
    refine (WordOf_c 3 n _ (by omega) (by omega)).mono ?_
    rintro e w3 ⟨rfl, hk⟩
    have hb0 := (Blk.newAt (w := w) (b := w.heap.size) (T := 54) #[.int .i64 0, .int .i64 0] rfl rfl).alloc (.cells #[.int .i64 3, .int .i64 n] 54)
    have hb0' := hk.blk hb0 (fun h => h)
    have d0 := hb0'.cell 0; have d1 := hb0'.cell 1; have f0 := hb0'.free 0; have f1 := hb0'.free 1
    have hkk : Keeps (fun _ => False) w w3 := (((Keeps.refl (fun _ => False) w).alloc _).alloc _).trans hk
    simp only [List.getElem?_cons_zero, List.getElem?_cons_succ] at d0 d1
    have HK := Lib.hid hkk
    clear hk hkk hb0 hb0'
    go_wp2_with fail
    refine bodyPost_ret (v := .tuple #[.agg #[.int .i64 0, .int .i64 0], .int .i64 (encW 3 n).2]) ?_ rfl ⟨ret_val (by rw [HE.out, if_neg HC.out]), (HK.out.setCell (.inr (Nat.le_refl _)) _).setCell (.inr (Nat.le_refl _)) _⟩
    · simp [results, Try.results47, go_sem, d0, d1, f0, f1]

set_option maxHeartbeats 1000000 in
theorem ValOf_2 (n : Int) (w : World) (h1 : -9223372036854775808 ≤ 4 * n + 2) (h2 : 4 * n + 2 ≤ 9223372036854775807) :
    Calls Try.prog 47 #[.int .i64 (4 * n + 2)] w fun e w' => e = .returned (.tuple #[.agg #[.int .i64 (decW (4 * n + 2)).1, .int .i64 (decW (4 * n + 2)).2.1], .int .i64 (decW (4 * n + 2)).2.2]) ∧ Keeps (fun _ => False) w w' := by
  have ha : bits .and .i64 (4 * n + 2) 3 = 2 := by rw [i64_and3]; omega
  have hq : (4 * n).tdiv 4 = n := Int.mul_tdiv_cancel_left _ (by omega)
  have HE := Lib.hid (decW_enc2 n)
  by_cases hc : (encW 0 n).2 = 0
  · have HC := Lib.hid hc; clear hc
    go_enter Try.func47, Try.ntmps47
    go_wp2_with fail
    refine (WordOf_c 0 n _ (by omega) (by omega)).mono ?_
    rintro e w3 ⟨rfl, hk⟩
    rw [HC.out]
    have hb := Blk.newAt (w := (w.alloc (Obj.cells #[.int .i64 0, .int .i64 0] 54))) (b := w.heap.size + 1) (T := 54) #[.int .i64 0, .int .i64 n] (by simp) rfl
    have hb0 := (Blk.newAt (w := w) (b := w.heap.size) (T := 54) #[.int .i64 0, .int .i64 0] rfl rfl).alloc (.cells #[.int .i64 0, .int .i64 n] 54)
    have hb' := hk.blk hb (fun h => h)
    have hb0' := hk.blk hb0 (fun h => h)
    have c0 := hb'.cell 0; have c1 := hb'.cell 1; have d0 := hb0'.cell 0; have d1 := hb0'.cell 1; have f0 := hb0'.free 0; have f1 := hb0'.free 1
    have hkk : Keeps (fun _ => False) w w3 := (((Keeps.refl (fun _ => False) w).alloc _).alloc _).trans hk
    simp only [List.getElem?_cons_zero, List.getElem?_cons_succ] at c0 c1 d0 d1
    have HK := Lib.hid hkk
    clear hk hkk hb hb0 hb' hb0'
    go_wp2_with fail
    refine bodyPost_ret (v := .tuple #[.agg #[.int .i64 0, .int .i64 n], .int .i64 0]) ?_ rfl ⟨ret_val (by rw [HE.out, if_pos HC.out]), (HK.out.setCell (.inr (Nat.le_refl _)) _).setCell (.inr (Nat.le_refl _)) _⟩
    · simp [results, Try.results47, go_sem, c0, c1, d0, d1, f0, f1]
  · have hcb : ((encW 0 n).2 != 0) = true := by simpa using hc
    have HC := Lib.hid hc; clear hc
    go_enter Try.func47, Try.ntmps47
    go_wp2_with fail
    refine (WordOf_c 0 n _ (by omega) (by omega)).mono ?_
    rintro e w3 ⟨rfl, hk⟩
    have hb0 := (Blk.newAt (w := w) (b := w.heap.size) (T := 54) #[.int .i64 0, .int .i64 0] rfl rfl).alloc (.cells #[.int .i64 0, .int .i64 n] 54)
    have hb0' := hk.blk hb0 (fun h => h)
    have d0 := hb0'.cell 0; have d1 := hb0'.cell 1; have f0 := hb0'.free 0; have f1 := hb0'.free 1
    have hkk : Keeps (fun _ => False) w w3 := (((Keeps.refl (fun _ => False) w).alloc _).alloc _).trans hk
    simp only [List.getElem?_cons_zero, List.getElem?_cons_succ] at d0 d1
    have HK := Lib.hid hkk
    clear hk hkk hb0 hb0'
    go_wp2_with fail
    refine bodyPost_ret (v := .tuple #[.agg #[.int .i64 0, .int .i64 0], .int .i64 (encW 0 n).2]) ?_ rfl ⟨ret_val (by rw [HE.out, if_neg HC.out]), (HK.out.setCell (.inr (Nat.le_refl _)) _).setCell (.inr (Nat.le_refl _)) _⟩
    · simp [results, Try.results47, go_sem, d0, d1, f0, f1]

set_option maxHeartbeats 1000000 in
theorem ValOf_3 (n : Int) (w : World) (h1 : -9223372036854775808 ≤ 4 * n + 3) (h2 : 4 * n + 3 ≤ 9223372036854775807) :
    Calls Try.prog 47 #[.int .i64 (4 * n + 3)] w fun e w' => e = .returned (.tuple #[.agg #[.int .i64 (decW (4 * n + 3)).1, .int .i64 (decW (4 * n + 3)).2.1], .int .i64 (decW (4 * n + 3)).2.2]) ∧ Keeps (fun _ => False) w w' := by
  have ha : bits .and .i64 (4 * n + 3) 3 = 3 := by rw [i64_and3]; omega
  have hq : (4 * n).tdiv 4 = n := Int.mul_tdiv_cancel_left _ (by omega)
  have HE := Lib.hid (decW_enc3 n)
  by_cases hc : (encW 2 n).2 = 0
  · have HC := Lib.hid hc; clear hc
    go_enter Try.func47, Try.ntmps47
    go_wp2_with fail
    refine (WordOf_c 2 n _ (by omega) (by omega)).mono ?_
    rintro e w3 ⟨rfl, hk⟩
    rw [HC.out]
    have hb := Blk.newAt (w := (w.alloc (Obj.cells #[.int .i64 0, .int .i64 0] 54))) (b := w.heap.size + 1) (T := 54) #[.int .i64 2, .int .i64 n] (by simp) rfl
    have hb0 := (Blk.newAt (w := w) (b := w.heap.size) (T := 54) #[.int .i64 0, .int .i64 0] rfl rfl).alloc (.cells #[.int .i64 2, .int .i64 n] 54)
    have hb' := hk.blk hb (fun h => h)
    have hb0' := hk.blk hb0 (fun h => h)
    have c0 := hb'.cell 0; have c1 := hb'.cell 1; have d0 := hb0'.cell 0; have d1 := hb0'.cell 1; have f0 := hb0'.free 0; have f1 := hb0'.free 1
    have hkk : Keeps (fun _ => False) w w3 := (((Keeps.refl (fun _ => False) w).alloc _).alloc _).trans hk
    simp only [List.getElem?_cons_zero, List.getElem?_cons_succ] at c0 c1 d0 d1
    have HK := Lib.hid hkk
    clear hk hkk hb hb0 hb' hb0'
    go_wp2_with fail
    refine bodyPost_ret (v := .tuple #[.agg #[.int .i64 2, .int .i64 n], .int .i64 0]) ?_ rfl ⟨ret_val (by rw [HE.out, if_pos HC.out]), (HK.out.setCell (.inr (Nat.le_refl _)) _).setCell (.inr (Nat.le_refl _)) _⟩
    · simp [results, Try.results47, go_sem, c0, c1, d0, d1, f0, f1]
  · have hcb : ((encW 2 n).2 != 0) = true := by simpa using hc
    have HC := Lib.hid hc; clear hc
    go_enter Try.func47, Try.ntmps47
    go_wp2_with fail
    refine (WordOf_c 2 n _ (by omega) (by omega)).mono ?_
    rintro e w3 ⟨rfl, hk⟩
    have hb0 := (Blk.newAt (w := w) (b := w.heap.size) (T := 54) #[.int .i64 0, .int .i64 0] rfl rfl).alloc (.cells #[.int .i64 2, .int .i64 n] 54)
    have hb0' := hk.blk hb0 (fun h => h)
    have d0 := hb0'.cell 0; have d1 := hb0'.cell 1; have f0 := hb0'.free 0; have f1 := hb0'.free 1
    have hkk : Keeps (fun _ => False) w w3 := (((Keeps.refl (fun _ => False) w).alloc _).alloc _).trans hk
    simp only [List.getElem?_cons_zero, List.getElem?_cons_succ] at d0 d1
    have HK := Lib.hid hkk
    clear hk hkk hb0 hb0'
    go_wp2_with fail
    refine bodyPost_ret (v := .tuple #[.agg #[.int .i64 0, .int .i64 0], .int .i64 (encW 2 n).2]) ?_ rfl ⟨ret_val (by rw [HE.out, if_neg HC.out]), (HK.out.setCell (.inr (Nat.le_refl _)) _).setCell (.inr (Nat.le_refl _)) _⟩
    · simp [results, Try.results47, go_sem, d0, d1, f0, f1]

theorem ValOf_c (x : Int) (w : World) (h1 : -9223372036854775808 ≤ x) (h2 : x ≤ 9223372036854775807) :
    Calls Try.prog 47 #[.int .i64 x] w fun e w' => e = .returned (.tuple #[.agg #[.int .i64 (decW x).1, .int .i64 (decW x).2.1], .int .i64 (decW x).2.2]) ∧ Keeps (fun _ => False) w w' := by
  have hx : x = 4 * (x / 4) ∨ x = 4 * (x / 4) + 1 ∨ x = 4 * (x / 4) + 2 ∨ x = 4 * (x / 4) + 3 := by omega
  rcases hx with h | h | h | h
  · rw [h] at h1 h2 ⊢; exact ValOf_0 _ w h1 h2
  · rw [h] at h1 h2 ⊢; exact ValOf_1 _ w h1 h2
  · rw [h] at h1 h2 ⊢; exact ValOf_2 _ w h1 h2
  · rw [h] at h1 h2 ⊢; exact ValOf_3 _ w h1 h2

end Go.Proofs.Ytjifdalflepcoaa
