/-
  Words, plainly: no program in sight.
-/
import Derived.Test.YtjifdalflepcoabBase
namespace Go.Proofs.Ytjifdalflepcoab
open Go.RowKit
set_option linter.unusedVariables false
set_option linter.unusedSimpArgs false

theorem i64_and3 (n : Int) : bits .and .i64 n 3 = n % 4 := by
  have h3 : (BitVec.ofInt 64 3).toNat = 2 ^ 2 - 1 := by decide
  have key : (BitVec.ofInt 64 n &&& BitVec.ofInt 64 3).toNat = (n % ((2 ^ 64 : Nat) : Int)).toNat % 2 ^ 2 := by
    rw [BitVec.toNat_and, BitVec.toNat_ofInt, h3, Nat.and_two_pow_sub_one_eq_mod]
  show IntKind.i64.wrap ((BitVec.ofInt 64 n &&& BitVec.ofInt 64 3).toNat : Nat) = n % 4
  rw [key, IntKind.wrap_i64]
  omega

theorem i64_and15 (n : Int) : bits .and .i64 n 15 = n % 16 := by
  have h3 : (BitVec.ofInt 64 15).toNat = 2 ^ 4 - 1 := by decide
  have key : (BitVec.ofInt 64 n &&& BitVec.ofInt 64 15).toNat = (n % ((2 ^ 64 : Nat) : Int)).toNat % 2 ^ 4 := by
    rw [BitVec.toNat_and, BitVec.toNat_ofInt, h3, Nat.and_two_pow_sub_one_eq_mod]
  show IntKind.i64.wrap ((BitVec.ofInt 64 n &&& BitVec.ofInt 64 15).toNat : Nat) = n % 16
  rw [key, IntKind.wrap_i64]
  omega

theorem i64_or0 (n : Int) (h1 : -9223372036854775808 ≤ n) (h2 : n ≤ 9223372036854775807) : bits .or .i64 n 0 = n := by
  have key : (BitVec.ofInt 64 n ||| BitVec.ofInt 64 0).toNat = (n % ((2 ^ 64 : Nat) : Int)).toNat := by
    rw [show BitVec.ofInt 64 0 = 0#64 from by decide, BitVec.or_zero, BitVec.toNat_ofInt]
  show IntKind.i64.wrap ((BitVec.ofInt 64 n ||| BitVec.ofInt 64 0).toNat : Nat) = n
  rw [key, IntKind.wrap_i64]
  omega

theorem wraps_i64 (n : Int) (h₀ : 0 ≤ n) (h₁ : n < 2 ^ 63) : IntKind.i64.wrap n = n := by rw [IntKind.wrap_i64]; omega

theorem i64_or1 (n : Int) (h1 : 0 ≤ n) (h2 : n < 2305843009213693951) : bits .or .i64 (n * 4) 1 = n * 4 + 1 :=
  bits_join .i64 63 (by decide) wraps_i64 2 (n * 4) 1 (by omega) (by omega) (by omega) (by omega) (by omega) (by omega)

theorem i64_or16 (f k : Int) (h1 : 0 ≤ f) (h2 : f ≤ 100) (h3 : 0 ≤ k) (h4 : k < 16) : bits .or .i64 (f * 16) k = f * 16 + k :=
  bits_join .i64 63 (by decide) wraps_i64 4 (f * 16) k (by omega) (by omega) (by omega) (by omega) (by omega) (by omega)

/-- The greatest number, behind a name. -/
def big : Int := 1152921504606846976

/-- word.Encode. -/
def encW (k n : Int) : Int × Int :=
  if k = 0 then if n = 0 then (2, 0) else (0, 7)
  else if k = 2 then if n = 0 then (3, 0) else (0, 7)
  else if k = 1 then if -big ≤ n ∧ n < big then (4 * n, 0) else (0, 1)
  else if k = 3 then if 0 ≤ n ∧ n < big then (4 * n + 1, 0) else (0, 1)
  else (0, 2)

/-- word.Decode: kind, N, code. -/
def decW (x : Int) : Int × Int × Int :=
  if x % 4 = 0 then if -big ≤ x / 4 ∧ x / 4 < big then (1, x / 4, 0) else (0, 0, 1)
  else if x % 4 = 1 then if 0 ≤ x / 4 ∧ x / 4 < big then (3, x / 4, 0) else (0, 0, 1)
  else if x / 4 = 0 then if x = 2 then (0, 0, 0) else (2, 0, 0)
  else (0, 0, 7)

/-- May a thing of kind k have f fields? -/
def fitsW (k f : Int) : Bool := ((k == 1 || k == 3 || k == 4) && f == 2) || (k == 5 && f == 0) || (k == 2 && decide (0 ≤ f) && decide (f ≤ 12))

def headW (k f : Int) : Int × Int := if k < 1 ∨ 5 < k then (0, 2) else if fitsW k f = true then (16 * f + k, 0) else (0, 1)

/-- word.Parts: kind, fields, code. -/
def partsW (h : Int) : Int × Int × Int := if fitsW (h % 16) (h / 16) = true then (h % 16, h / 16, 0) else (0, 0, 7)

theorem fitsW_spec {k f : Int} (h : fitsW k f = true) : 1 ≤ k ∧ k ≤ 5 ∧ 0 ≤ f ∧ f ≤ 12 := by
  simp [fitsW] at h
  omega

theorem encW_int {n : Int} (h : -1152921504606846976 ≤ n ∧ n < 1152921504606846976) : encW 1 n = (4 * n, 0) := if_pos (c := -big ≤ n ∧ n < big) h
theorem encW_int_no {n : Int} (h : ¬ (-1152921504606846976 ≤ n ∧ n < 1152921504606846976)) : encW 1 n = (0, 1) := if_neg (c := -big ≤ n ∧ n < big) h
theorem encW_ref {n : Int} (h : 0 ≤ n ∧ n < 1152921504606846976) : encW 3 n = (4 * n + 1, 0) := if_pos (c := 0 ≤ n ∧ n < big) h
theorem encW_ref_no {n : Int} (h : ¬ (0 ≤ n ∧ n < 1152921504606846976)) : encW 3 n = (0, 1) := if_neg (c := 0 ≤ n ∧ n < big) h
theorem encW_other {k n : Int} (h0 : k ≠ 0) (h1 : k ≠ 1) (h2 : k ≠ 2) (h3 : k ≠ 3) : encW k n = (0, 2) := by
  unfold encW; rw [if_neg h0, if_neg h2, if_neg h1, if_neg h3]

theorem decW_int {x : Int} (h : x % 4 = 0) (h1 : -1152921504606846976 ≤ x / 4 ∧ x / 4 < 1152921504606846976) : decW x = (1, x / 4, 0) := by
  unfold decW; rw [if_pos h, if_pos (show -big ≤ x / 4 ∧ x / 4 < big from h1)]
theorem decW_int_no {x : Int} (h : x % 4 = 0) (h1 : ¬ (-1152921504606846976 ≤ x / 4 ∧ x / 4 < 1152921504606846976)) : decW x = (0, 0, 1) := by
  unfold decW; rw [if_pos h, if_neg (show ¬ (-big ≤ x / 4 ∧ x / 4 < big) from h1)]
theorem decW_ref {x : Int} (h : x % 4 = 1) (h1 : 0 ≤ x / 4 ∧ x / 4 < 1152921504606846976) : decW x = (3, x / 4, 0) := by
  unfold decW; rw [if_neg (by omega), if_pos h, if_pos (show 0 ≤ x / 4 ∧ x / 4 < big from h1)]
theorem decW_ref_no {x : Int} (h : x % 4 = 1) (h1 : ¬ (0 ≤ x / 4 ∧ x / 4 < 1152921504606846976)) : decW x = (0, 0, 1) := by
  unfold decW; rw [if_neg (by omega), if_pos h, if_neg (show ¬ (0 ≤ x / 4 ∧ x / 4 < big) from h1)]
theorem decW_bits {x : Int} (h0 : x % 4 ≠ 0) (h : x % 4 ≠ 1) (h1 : x / 4 ≠ 0) : decW x = (0, 0, 7) := by
  unfold decW; rw [if_neg h0, if_neg h, if_neg h1]
theorem decW_gone {x : Int} (h : x = 3) : decW x = (2, 0, 0) := by subst h; rfl

end Go.Proofs.Ytjifdalflepcoab
