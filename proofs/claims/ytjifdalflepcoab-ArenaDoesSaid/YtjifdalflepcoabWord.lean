/-
  What the functions of package word compute.
-/
import Derived.Test.YtjifdalflepcoabProg
import Derived.Test.YtjifdalflepcoabWordP
namespace Go.Proofs.Ytjifdalflepcoab
open Go.RowKit
set_option linter.unusedVariables false
set_option linter.unusedSimpArgs false

theorem ret_two {a b c d : Int} (h1 : a = c) (h2 : b = d) : Ending.returned (.tuple #[.int .i64 a, .int .i64 b]) = Ending.returned (.tuple #[.int .i64 c, .int .i64 d]) := by rw [h1, h2]

set_option maxHeartbeats 1000000 in
theorem Encode_c (k n : Int) (w : World) (h1 : -9223372036854775808 ≤ n) (h2 : n ≤ 9223372036854775807) :
    Calls Try.prog 114 #[.agg #[.int .i64 k, .int .i64 n]] w fun e w' => e = .returned (.tuple #[.int .i64 (encW k n).1, .int .i64 (encW k n).2]) ∧ Keeps (fun _ => False) w w' := by
  by_cases k0 : k = 0
  · subst k0
    by_cases n0 : n = 0
    · subst n0
      go_enter Try.func114, Try.ntmps114
      go_wp2
      go_ret2
      exact ⟨rfl, (Keeps.refl _ _).alloc _⟩
    · have hz : (n != 0) = true := by simpa using n0
      have he : encW 0 n = (0, 7) := by simp [encW, n0]
      have HE := Lib.hid he; clear he n0
      go_enter Try.func114, Try.ntmps114
      go_wp2
      go_ret2
      exact ⟨by rw [HE.out]; rfl, (Keeps.refl _ _).alloc _⟩
  by_cases k2 : k = 2
  · subst k2
    by_cases n0 : n = 0
    · subst n0
      go_enter Try.func114, Try.ntmps114
      go_wp2
      go_ret2
      exact ⟨rfl, (Keeps.refl _ _).alloc _⟩
    · have hz : (n != 0) = true := by simpa using n0
      have he : encW 2 n = (0, 7) := by simp [encW, n0]
      have HE := Lib.hid he; clear he n0
      go_enter Try.func114, Try.ntmps114
      go_wp2
      go_ret2
      exact ⟨by rw [HE.out]; rfl, (Keeps.refl _ _).alloc _⟩
  by_cases k1 : k = 1
  · subst k1
    by_cases c1 : n < -1152921504606846976
    · have he : encW 1 n = (0, 1) := encW_int_no (by omega)
      have HE := Lib.hid he; clear he
      go_enter Try.func114, Try.ntmps114
      go_wp2
      go_ret2
      exact ⟨by rw [HE.out]; rfl, (Keeps.refl _ _).alloc _⟩
    by_cases c2 : 1152921504606846976 ≤ n
    · have he : encW 1 n = (0, 1) := encW_int_no (by omega)
      have HE := Lib.hid he; clear he
      go_enter Try.func114, Try.ntmps114
      go_wp2
      go_ret2
      exact ⟨by rw [HE.out]; rfl, (Keeps.refl _ _).alloc _⟩
    have he : encW 1 n = (4 * n, 0) := encW_int (by omega)
    have HE := Lib.hid he; clear he
    have hor := i64_or0 (n * 4) (by omega) (by omega)
    go_enter Try.func114, Try.ntmps114
    go_wp2
    go_ret2
    exact ⟨by rw [HE.out]; exact ret_two (Int.mul_comm _ _) rfl, (Keeps.refl _ _).alloc _⟩
  by_cases k3 : k = 3
  · subst k3
    by_cases c1 : n < 0
    · have he : encW 3 n = (0, 1) := encW_ref_no (by omega)
      have HE := Lib.hid he; clear he
      go_enter Try.func114, Try.ntmps114
      go_wp2
      go_ret2
      exact ⟨by rw [HE.out]; rfl, (Keeps.refl _ _).alloc _⟩
    by_cases c2 : 1152921504606846976 ≤ n
    · have he : encW 3 n = (0, 1) := encW_ref_no (by omega)
      have HE := Lib.hid he; clear he
      go_enter Try.func114, Try.ntmps114
      go_wp2
      go_ret2
      exact ⟨by rw [HE.out]; rfl, (Keeps.refl _ _).alloc _⟩
    have he : encW 3 n = (4 * n + 1, 0) := encW_ref (by omega)
    have HE := Lib.hid he; clear he
    have hor := i64_or1 n (by omega) (by omega)
    go_enter Try.func114, Try.ntmps114
    go_wp2
    go_ret2
    exact ⟨by rw [HE.out]; exact ret_two (by omega) rfl, (Keeps.refl _ _).alloc _⟩
  have e0 : (k == 0) = false := by simpa using k0
  have e1 : (k == 1) = false := by simpa using k1
  have e2 : (k == 2) = false := by simpa using k2
  have e3 : (k == 3) = false := by simpa using k3
  have he : encW k n = (0, 2) := encW_other k0 k1 k2 k3
  have HE := Lib.hid he; clear he k0 k1 k2 k3
  go_enter Try.func114, Try.ntmps114
  go_wp2
  go_ret2
  exact ⟨by rw [HE.out]; rfl, (Keeps.refl _ _).alloc _⟩

set_option maxHeartbeats 400000 in
theorem Ref_c (x : Int) (w : World) (h1 : 0 ≤ x) (h2 : x < 1152921504606846976) :
    Calls Try.prog 43 #[.int .i64 x] w fun e w' => e = .returned (.int .i64 (4 * x + 1)) ∧ w = w' := by
  have hor := i64_or1 x (by omega) (by omega)
  go_enter Try.func43, Try.ntmps43
  go_wp2
  go_ret
  exact ⟨ret_int (by omega), rfl⟩

set_option maxHeartbeats 400000 in
theorem Nil_c (w : World) : Calls Try.prog 89 #[] w fun e w' => e = .returned (.int .i64 2) ∧ w = w' := by
  go_enter Try.func89, Try.ntmps89
  go_wp2
  go_ret
  exact ⟨rfl, rfl⟩

set_option maxHeartbeats 400000 in
theorem Gone_c (w : World) : Calls Try.prog 153 #[] w fun e w' => e = .returned (.int .i64 3) ∧ w = w' := by
  go_enter Try.func153, Try.ntmps153
  go_wp2
  go_ret
  exact ⟨rfl, rfl⟩

set_option maxHeartbeats 400000 in
theorem At_yes (x : Int) (w : World) (h : x % 4 = 1) :
    Calls Try.prog 52 #[.int .i64 x] w fun e w' => e = .returned (.tuple #[.int .i64 (x / 4), .bool true]) ∧ w = w' := by
  have ha : bits .and .i64 x 3 = 1 := by rw [i64_and3, h]
  clear h
  go_enter Try.func52, Try.ntmps52
  go_wp2
  go_ret2
  exact ⟨rfl, rfl⟩

set_option maxHeartbeats 400000 in
theorem At_no (x : Int) (w : World) (h : x % 4 ≠ 1) :
    Calls Try.prog 52 #[.int .i64 x] w fun e w' => e = .returned (.tuple #[.int .i64 0, .bool false]) ∧ w = w' := by
  have ha : (bits .and .i64 x 3 != 1) = true := by rw [i64_and3]; simpa using h
  clear h
  go_enter Try.func52, Try.ntmps52
  go_wp2
  go_ret2
  exact ⟨rfl, rfl⟩

theorem ret_val {k n c : Int} {y : Int × Int × Int} (h : y = (k, n, c)) :
    Ending.returned (.tuple #[.agg #[.int .i64 k, .int .i64 n], .int .i64 c]) = Ending.returned (.tuple #[.agg #[.int .i64 y.1, .int .i64 y.2.1], .int .i64 y.2.2]) := by subst h; rfl

set_option maxHeartbeats 1000000 in
theorem Decode_c (x : Int) (w : World) (h1 : -9223372036854775808 ≤ x) (h2 : x ≤ 9223372036854775807) :
    Calls Try.prog 50 #[.int .i64 x] w fun e w' => e = .returned (.tuple #[.agg #[.int .i64 (decW x).1, .int .i64 (decW x).2.1], .int .i64 (decW x).2.2]) ∧ Keeps (fun _ => False) w w' := by
  have hm := Lib.hid (i64_and3 x)
  by_cases m0 : x % 4 = 0
  · have ha : bits .and .i64 x 3 = 0 := by rw [hm.out, m0]
    by_cases c1 : x / 4 < -1152921504606846976
    · have HE := Lib.hid (decW_int_no m0 (by omega)); clear m0
      go_enter Try.func50, Try.ntmps50
      go_wp2
      exact bodyPost_ret (v := .tuple #[.agg #[.int .i64 0, .int .i64 0], .int .i64 1]) (by simp [results, Try.results50, go_sem]) rfl ⟨ret_val HE.out, (((Keeps.refl _ _).alloc _))⟩
    by_cases c2 : 1152921504606846976 ≤ x / 4
    · have HE := Lib.hid (decW_int_no m0 (by omega)); clear m0
      go_enter Try.func50, Try.ntmps50
      go_wp2
      exact bodyPost_ret (v := .tuple #[.agg #[.int .i64 0, .int .i64 0], .int .i64 1]) (by simp [results, Try.results50, go_sem]) rfl ⟨ret_val HE.out, (((Keeps.refl _ _).alloc _))⟩
    have HE := Lib.hid (decW_int m0 (by omega)); clear m0
    go_enter Try.func50, Try.ntmps50
    go_wp2
    exact bodyPost_ret (v := .tuple #[.agg #[.int .i64 1, .int .i64 (x / 4)], .int .i64 0]) (by simp [results, Try.results50, go_sem]) rfl ⟨ret_val HE.out, (((Keeps.refl _ _).alloc _))⟩
  by_cases m1 : x % 4 = 1
  · have ha : bits .and .i64 x 3 = 1 := by rw [hm.out, m1]
    by_cases c1 : x / 4 < 0
    · have HE := Lib.hid (decW_ref_no m1 (by omega)); clear m1
      go_enter Try.func50, Try.ntmps50
      go_wp2
      exact bodyPost_ret (v := .tuple #[.agg #[.int .i64 0, .int .i64 0], .int .i64 1]) (by simp [results, Try.results50, go_sem]) rfl ⟨ret_val HE.out, (((Keeps.refl _ _).alloc _))⟩
    by_cases c2 : 1152921504606846976 ≤ x / 4
    · have HE := Lib.hid (decW_ref_no m1 (by omega)); clear m1
      go_enter Try.func50, Try.ntmps50
      go_wp2
      exact bodyPost_ret (v := .tuple #[.agg #[.int .i64 0, .int .i64 0], .int .i64 1]) (by simp [results, Try.results50, go_sem]) rfl ⟨ret_val HE.out, (((Keeps.refl _ _).alloc _))⟩
    have HE := Lib.hid (decW_ref m1 (by omega)); clear m1
    go_enter Try.func50, Try.ntmps50
    go_wp2
    exact bodyPost_ret (v := .tuple #[.agg #[.int .i64 3, .int .i64 (x / 4)], .int .i64 0]) (by simp [results, Try.results50, go_sem]) rfl ⟨ret_val HE.out, (((Keeps.refl _ _).alloc _))⟩
  have ha0 : (bits .and .i64 x 3 == 0) = false := by rw [hm.out]; simpa using m0
  have ha1 : (bits .and .i64 x 3 == 1) = false := by rw [hm.out]; simpa using m1
  by_cases c1 : x / 4 = 0
  · have h23 : x = 2 ∨ x = 3 := by omega
    clear m0 m1 ha0 ha1 c1 hm
    rcases h23 with rfl | rfl
    · go_enter Try.func50, Try.ntmps50
      go_wp2
      exact bodyPost_ret (v := .tuple #[.agg #[.int .i64 0, .int .i64 0], .int .i64 0]) (by simp [results, Try.results50, go_sem]) rfl ⟨rfl, (((Keeps.refl _ _).alloc _))⟩
    · go_enter Try.func50, Try.ntmps50
      go_wp2
      exact bodyPost_ret (v := .tuple #[.agg #[.int .i64 2, .int .i64 0], .int .i64 0]) (by simp [results, Try.results50, go_sem]) rfl ⟨rfl, (((Keeps.refl _ _).alloc _))⟩
  · have hz : (x / 4 != 0) = true := by simpa using c1
    have HE := Lib.hid (decW_bits m0 m1 c1); clear m0 m1 c1
    go_enter Try.func50, Try.ntmps50
    go_wp2
    exact bodyPost_ret (v := .tuple #[.agg #[.int .i64 0, .int .i64 0], .int .i64 7]) (by simp [results, Try.results50, go_sem]) rfl ⟨ret_val HE.out, (((Keeps.refl _ _).alloc _))⟩

end Go.Proofs.Ytjifdalflepcoab
