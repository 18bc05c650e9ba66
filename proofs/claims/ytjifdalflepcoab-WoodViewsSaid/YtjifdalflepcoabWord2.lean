/-
  word.Head, word.Parts, and the references of words.
-/
import Derived.Test.YtjifdalflepcoabWord
namespace Go.Proofs.Ytjifdalflepcoab
open Go.RowKit
set_option linter.unusedVariables false
set_option linter.unusedSimpArgs false

theorem headW_kind {k f : Int} (h : k < 1 ∨ 5 < k) : headW k f = (0, 2) := if_pos h
theorem headW_no {k f : Int} (h : 1 ≤ k ∧ k ≤ 5) (hf : fitsW k f = false) : headW k f = (0, 1) := by
  unfold headW; rw [if_neg (by omega), if_neg (by simp [hf])]
theorem headW_yes {k f : Int} (h : 1 ≤ k ∧ k ≤ 5) (hf : fitsW k f = true) : headW k f = (16 * f + k, 0) := by
  unfold headW; rw [if_neg (by omega), if_pos hf]

theorem fitsW_2 {k f : Int} (hk : k = 1 ∨ k = 3 ∨ k = 4) : fitsW k f = (f == 2) := by
  rcases hk with rfl | rfl | rfl <;> simp [fitsW]
theorem fitsW_5 {f : Int} : fitsW 5 f = (f == 0) := by simp [fitsW]
theorem fitsW_vec {f : Int} : fitsW 2 f = (decide (0 ≤ f) && decide (f ≤ 12)) := by simp [fitsW]

set_option maxHeartbeats 2000000 in
theorem Head_c (k f : Int) (w : World) (h1 : -9223372036854775808 ≤ f) (h2 : f ≤ 9223372036854775807) :
    Calls Try.prog 128 #[.int .i64 k, .int .i64 f] w fun e w' => e = .returned (.tuple #[.int .i64 (headW k f).1, .int .i64 (headW k f).2]) ∧ w = w' := by
  by_cases c1 : k < 1
  · have HE := Lib.hid (headW_kind (f := f) (.inl c1))
    go_enter Try.func128, Try.ntmps128
    go_wp2
    go_ret2
    exact ⟨by rw [HE.out]; rfl, rfl⟩
  by_cases c2 : 5 < k
  · have HE := Lib.hid (headW_kind (f := f) (.inr c2))
    go_enter Try.func128, Try.ntmps128
    go_wp2
    go_ret2
    exact ⟨by rw [HE.out]; rfl, rfl⟩
  have hk : k = 1 ∨ k = 2 ∨ k = 3 ∨ k = 4 ∨ k = 5 := by omega
  clear c1 c2
  rcases hk with rfl | rfl | rfl | rfl | rfl
  · by_cases c : f = 2
    · subst c
      have hor := i64_or16 2 1 (by omega) (by omega) (by omega) (by omega)
      have HE := Lib.hid (headW_yes (k := 1) (f := 2) (by omega) (by decide))
      go_enter Try.func128, Try.ntmps128
      go_wp2
      go_ret2
      exact ⟨by rw [HE.out]; rfl, rfl⟩
    · have hne : (f != 2) = true := by simpa using c
      have HE := Lib.hid (headW_no (k := 1) (f := f) (by omega) (by rw [fitsW_2 (by omega)]; simpa using c)); clear c
      go_enter Try.func128, Try.ntmps128
      go_wp2
      go_ret2
      exact ⟨by rw [HE.out]; rfl, rfl⟩
  · by_cases c1 : f < 0
    · have HE := Lib.hid (headW_no (k := 2) (f := f) (by omega) (by rw [fitsW_vec]; simp; omega))
      go_enter Try.func128, Try.ntmps128
      go_wp2
      go_ret2
      exact ⟨by rw [HE.out]; rfl, rfl⟩
    by_cases c2 : 12 < f
    · have HE := Lib.hid (headW_no (k := 2) (f := f) (by omega) (by rw [fitsW_vec]; simp; omega))
      go_enter Try.func128, Try.ntmps128
      go_wp2
      go_ret2
      exact ⟨by rw [HE.out]; rfl, rfl⟩
    have hor := i64_or16 f 2 (by omega) (by omega) (by omega) (by omega)
    have HE := Lib.hid (headW_yes (k := 2) (f := f) (by omega) (by rw [fitsW_vec]; simp; omega))
    go_enter Try.func128, Try.ntmps128
    go_wp2
    go_ret2
    exact ⟨by rw [HE.out]; exact ret_two (by omega) rfl, rfl⟩
  · by_cases c : f = 2
    · subst c
      have hor := i64_or16 2 3 (by omega) (by omega) (by omega) (by omega)
      have HE := Lib.hid (headW_yes (k := 3) (f := 2) (by omega) (by decide))
      go_enter Try.func128, Try.ntmps128
      go_wp2
      go_ret2
      exact ⟨by rw [HE.out]; rfl, rfl⟩
    · have hne : (f != 2) = true := by simpa using c
      have HE := Lib.hid (headW_no (k := 3) (f := f) (by omega) (by rw [fitsW_2 (by omega)]; simpa using c)); clear c
      go_enter Try.func128, Try.ntmps128
      go_wp2
      go_ret2
      exact ⟨by rw [HE.out]; rfl, rfl⟩
  · by_cases c : f = 2
    · subst c
      have hor := i64_or16 2 4 (by omega) (by omega) (by omega) (by omega)
      have HE := Lib.hid (headW_yes (k := 4) (f := 2) (by omega) (by decide))
      go_enter Try.func128, Try.ntmps128
      go_wp2
      go_ret2
      exact ⟨by rw [HE.out]; rfl, rfl⟩
    · have hne : (f != 2) = true := by simpa using c
      have HE := Lib.hid (headW_no (k := 4) (f := f) (by omega) (by rw [fitsW_2 (by omega)]; simpa using c)); clear c
      go_enter Try.func128, Try.ntmps128
      go_wp2
      go_ret2
      exact ⟨by rw [HE.out]; rfl, rfl⟩
  · by_cases c : f = 0
    · subst c
      have hor := i64_or16 0 5 (by omega) (by omega) (by omega) (by omega)
      have HE := Lib.hid (headW_yes (k := 5) (f := 0) (by omega) (by decide))
      go_enter Try.func128, Try.ntmps128
      go_wp2
      go_ret2
      exact ⟨by rw [HE.out]; rfl, rfl⟩
    · have hne : (f != 0) = true := by simpa using c
      have HE := Lib.hid (headW_no (k := 5) (f := f) (by omega) (by rw [fitsW_5]; simpa using c)); clear c
      go_enter Try.func128, Try.ntmps128
      go_wp2
      go_ret2
      exact ⟨by rw [HE.out]; rfl, rfl⟩

theorem ret_three {a b c : Int} {y : Int × Int × Int} (h : y = (a, b, c)) :
    Ending.returned (.tuple #[.int .i64 a, .int .i64 b, .int .i64 c]) = Ending.returned (.tuple #[.int .i64 y.1, .int .i64 y.2.1, .int .i64 y.2.2]) := by subst h; rfl

theorem partsW_no {h : Int} (hf : fitsW (h % 16) (h / 16) = false) : partsW h = (0, 0, 7) := by unfold partsW; rw [if_neg (by simp [hf])]
theorem partsW_yes {h : Int} (hf : fitsW (h % 16) (h / 16) = true) : partsW h = (h % 16, h / 16, 0) := by unfold partsW; rw [if_pos hf]
theorem partsW_out {h : Int} (c : h < 0 ∨ 207 < h) : partsW h = (0, 0, 7) := by
  apply partsW_no
  cases hf : fitsW (h % 16) (h / 16)
  · rfl
  · have := fitsW_spec hf; omega

theorem headW_code {k f : Int} (h : fitsW k f = false) : (headW k f).1 = 0 ∧ ((headW k f).2 != 0) = true := by
  unfold headW
  split
  · exact ⟨rfl, rfl⟩
  · rw [if_neg (by simp [h])]; exact ⟨rfl, rfl⟩
theorem headW_fits {k f : Int} (h : fitsW k f = true) : headW k f = (16 * f + k, 0) := headW_yes ⟨(fitsW_spec h).1, (fitsW_spec h).2.1⟩ h

set_option maxHeartbeats 1000000 in
theorem Parts_c (h : Int) (w : World) (h1 : -9223372036854775808 ≤ h) (h2 : h ≤ 9223372036854775807) :
    Calls Try.prog 84 #[.int .i64 h] w fun e w' => e = .returned (.tuple #[.int .i64 (partsW h).1, .int .i64 (partsW h).2.1, .int .i64 (partsW h).2.2]) ∧ w = w' := by
  by_cases c1 : h < 0
  · have HE := Lib.hid (partsW_out (.inl c1))
    go_enter Try.func84, Try.ntmps84
    go_wp2_with fail
    go_ret3
    exact ⟨ret_three HE.out, rfl⟩
  by_cases c2 : 207 < h
  · have HE := Lib.hid (partsW_out (.inr c2))
    go_enter Try.func84, Try.ntmps84
    go_wp2_with fail
    go_ret3
    exact ⟨ret_three HE.out, rfl⟩
  have ha := i64_and15 h
  cases hf : fitsW (h % 16) (h / 16)
  · have HE := Lib.hid (partsW_no hf)
    have hc := (headW_code hf).2
    have HF := Lib.hid hf; clear hf
    go_enter Try.func84, Try.ntmps84
    go_wp2_with fail
    refine (Head_c (h % 16) (h / 16) _ (by omega) (by omega)).mono ?_
    rintro e w' ⟨rfl, rfl⟩
    go_wp2_with fail
    go_ret3
    exact ⟨ret_three HE.out, rfl⟩
  · have HE := Lib.hid (partsW_yes hf)
    have HC := Lib.hid (headW_fits hf)
    have HF := Lib.hid hf; clear hf
    go_enter Try.func84, Try.ntmps84
    go_wp2_with fail
    refine (Head_c (h % 16) (h / 16) _ (by omega) (by omega)).mono ?_
    rintro e w' ⟨rfl, rfl⟩
    rw [HC.out]
    go_wp2_with fail
    go_ret3
    exact ⟨ret_three HE.out, rfl⟩

end Go.Proofs.Ytjifdalflepcoab
