/-
  The references of words: what they compute.
-/
import Derived.Test.YtjifdalflepcoabWord2
namespace Go.Proofs.Ytjifdalflepcoab
open Go.RowKit
set_option linter.unusedVariables false
set_option linter.unusedSimpArgs false

set_option maxHeartbeats 2000000 in
theorem Fits_c (k f : Int) (w : World) (h1 : -9223372036854775808 ≤ f) (h2 : f ≤ 9223372036854775807) :
    Calls Try.prog 51 #[.int .i64 k, .int .i64 f] w fun e w' => e = .returned (.int .i64 (headW k f).2) ∧ w = w' := by
  by_cases hk : k = 1 ∨ k = 2 ∨ k = 3 ∨ k = 4 ∨ k = 5
  · rcases hk with rfl | rfl | rfl | rfl | rfl
    · by_cases c : f = 2
      · subst c
        have HE := Lib.hid (headW_yes (k := 1) (f := 2) (by omega) (by decide))
        go_enter Try.func51, Try.ntmps51
        go_wp2
        go_ret
        exact ⟨by rw [HE.out]; rfl, rfl⟩
      · have hne : (f != 2) = true := by simpa using c
        have HE := Lib.hid (headW_no (k := 1) (f := f) (by omega) (by rw [fitsW_2 (by omega)]; simpa using c)); clear c
        go_enter Try.func51, Try.ntmps51
        go_wp2
        go_ret
        exact ⟨by rw [HE.out]; rfl, rfl⟩
    · by_cases c1 : f < 0
      · have HE := Lib.hid (headW_no (k := 2) (f := f) (by omega) (by rw [fitsW_vec]; simp; omega))
        go_enter Try.func51, Try.ntmps51
        go_wp2
        go_ret
        exact ⟨by rw [HE.out]; rfl, rfl⟩
      by_cases c2 : 12 < f
      · have HE := Lib.hid (headW_no (k := 2) (f := f) (by omega) (by rw [fitsW_vec]; simp; omega))
        go_enter Try.func51, Try.ntmps51
        go_wp2
        go_ret
        exact ⟨by rw [HE.out]; rfl, rfl⟩
      have HE := Lib.hid (headW_yes (k := 2) (f := f) (by omega) (by rw [fitsW_vec]; simp; omega))
      go_enter Try.func51, Try.ntmps51
      go_wp2
      go_ret
      exact ⟨by rw [HE.out]; rfl, rfl⟩
    · by_cases c : f = 2
      · subst c
        have HE := Lib.hid (headW_yes (k := 3) (f := 2) (by omega) (by decide))
        go_enter Try.func51, Try.ntmps51
        go_wp2
        go_ret
        exact ⟨by rw [HE.out]; rfl, rfl⟩
      · have hne : (f != 2) = true := by simpa using c
        have HE := Lib.hid (headW_no (k := 3) (f := f) (by omega) (by rw [fitsW_2 (by omega)]; simpa using c)); clear c
        go_enter Try.func51, Try.ntmps51
        go_wp2
        go_ret
        exact ⟨by rw [HE.out]; rfl, rfl⟩
    · by_cases c : f = 2
      · subst c
        have HE := Lib.hid (headW_yes (k := 4) (f := 2) (by omega) (by decide))
        go_enter Try.func51, Try.ntmps51
        go_wp2
        go_ret
        exact ⟨by rw [HE.out]; rfl, rfl⟩
      · have hne : (f != 2) = true := by simpa using c
        have HE := Lib.hid (headW_no (k := 4) (f := f) (by omega) (by rw [fitsW_2 (by omega)]; simpa using c)); clear c
        go_enter Try.func51, Try.ntmps51
        go_wp2
        go_ret
        exact ⟨by rw [HE.out]; rfl, rfl⟩
    · by_cases c : f = 0
      · subst c
        have HE := Lib.hid (headW_yes (k := 5) (f := 0) (by omega) (by decide))
        go_enter Try.func51, Try.ntmps51
        go_wp2
        go_ret
        exact ⟨by rw [HE.out]; rfl, rfl⟩
      · have hne : (f != 0) = true := by simpa using c
        have HE := Lib.hid (headW_no (k := 5) (f := f) (by omega) (by rw [fitsW_5]; simpa using c)); clear c
        go_enter Try.func51, Try.ntmps51
        go_wp2
        go_ret
        exact ⟨by rw [HE.out]; rfl, rfl⟩
  · have HE := Lib.hid (headW_kind (k := k) (f := f) (by omega))
    have e1 : (k == 1) = false := by simp; omega
    have e2 : (k == 2) = false := by simp; omega
    have e3 : (k == 3) = false := by simp; omega
    have e4 : (k == 4) = false := by simp; omega
    have e5 : (k == 5) = false := by simp; omega
    clear hk
    go_enter Try.func51, Try.ntmps51
    go_wp2
    go_ret
    exact ⟨by rw [HE.out]; rfl, rfl⟩

set_option maxHeartbeats 1000000 in
theorem HeadOf_c (k f : Int) (w : World) (h1 : -9223372036854775808 ≤ f) (h2 : f ≤ 9223372036854775807) :
    Calls Try.prog 82 #[.int .i64 k, .int .i64 f] w fun e w' => e = .returned (.tuple #[.int .i64 (headW k f).1, .int .i64 (headW k f).2]) ∧ w = w' := by
  cases hf : fitsW k f
  · have HC := Lib.hid (headW_code hf).1
    have hc := (headW_code hf).2
    have HF := Lib.hid hf; clear hf
    go_enter Try.func82, Try.ntmps82
    go_wp2_with fail
    refine (Fits_c k f _ h1 h2).mono ?_
    rintro e w' ⟨rfl, rfl⟩
    go_wp2_with fail
    go_ret2
    exact ⟨by rw [HC.out]; rfl, rfl⟩
  · have HC := Lib.hid (headW_fits hf)
    have hb := fitsW_spec hf
    obtain ⟨b1, b2, b3, b4⟩ := hb
    have HF := Lib.hid hf; clear hf
    go_enter Try.func82, Try.ntmps82
    go_wp2_with fail
    refine (Fits_c k f _ h1 h2).mono ?_
    rintro e w' ⟨rfl, rfl⟩
    rw [HC.out]
    go_wp2_with fail
    go_ret2
    exact ⟨by rw [HC.out]; rfl, rfl⟩

theorem decW_enc0 (n : Int) : decW (4 * n) = if (encW 1 n).2 = 0 then (1, n, 0) else (0, 0, (encW 1 n).2) := by
  by_cases h : -1152921504606846976 ≤ n ∧ n < 1152921504606846976
  · rw [encW_int h, decW_int (by omega) (by omega), if_pos rfl]; simp
  · rw [encW_int_no h, decW_int_no (by omega) (by omega), if_neg (by decide)]

theorem decW_enc1 (n : Int) : decW (4 * n + 1) = if (encW 3 n).2 = 0 then (3, n, 0) else (0, 0, (encW 3 n).2) := by
  have h4 : (4 * n + 1) / 4 = n := by omega
  by_cases h : 0 ≤ n ∧ n < 1152921504606846976
  · rw [encW_ref h, decW_ref (by omega) (by omega), if_pos rfl, h4]
  · rw [encW_ref_no h, decW_ref_no (by omega) (by omega), if_neg (by decide)]

theorem decW_enc2 (n : Int) : decW (4 * n + 2) = if (encW 0 n).2 = 0 then (0, n, 0) else (0, 0, (encW 0 n).2) := by
  by_cases h : n = 0
  · subst h; rfl
  · rw [decW_bits (by omega) (by omega) (by omega)]; simp [encW, h]

theorem decW_enc3 (n : Int) : decW (4 * n + 3) = if (encW 2 n).2 = 0 then (2, n, 0) else (0, 0, (encW 2 n).2) := by
  by_cases h : n = 0
  · subst h; rfl
  · rw [decW_bits (by omega) (by omega) (by omega)]; simp [encW, h]

end Go.Proofs.Ytjifdalflepcoab
