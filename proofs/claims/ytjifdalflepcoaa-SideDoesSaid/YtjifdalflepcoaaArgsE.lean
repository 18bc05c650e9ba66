/-
  The arguments of the side's statements, opened: slices of entries and of pairs.
-/
import Derived.Test.YtjifdalflepcoaaProg
import Derived.Test.YtjifdalflepcoaaArgs
import Derived.Test.YtjifdalflepcoaaSide
namespace Go.Proofs.Ytjifdalflepcoaa
open Go.RowKit Go.ChangeShapes Go.WideShapes Go.Deep Go.Joins
set_option linter.unusedVariables false
set_option linter.unusedSimpArgs false

theorem ents_list : ∀ (n : Nat) (xs : List Value), xs.length = n * 2 → (∀ c ∈ xs, I64 c) → ∃ l : List (Int × Int), xs = entV l ∧ l.length = n ∧ ∀ e ∈ l, (-9223372036854775808 ≤ e.1 ∧ e.1 ≤ 9223372036854775807) ∧ -9223372036854775808 ≤ e.2 ∧ e.2 ≤ 9223372036854775807
  | 0, xs, h, _ => ⟨[], by rw [List.eq_nil_of_length_eq_zero (by omega : xs.length = 0)]; rfl, rfl, by simp⟩
  | n + 1, xs, h, hc => by
    match xs, h with
    | a :: b :: xs, h =>
      obtain ⟨x, rfl, hx⟩ := hc a (by simp)
      obtain ⟨y, rfl, hy⟩ := hc b (by simp)
      obtain ⟨l, rfl, hl, hb⟩ := ents_list n xs (by simp at h; omega) (fun c h => hc c (by simp [h]))
      exact ⟨(x, y) :: l, by simp [entV], by simp [hl], by
        intro e he
        rcases List.mem_cons.1 he with rfl | he
        · exact ⟨hx, hy⟩
        · exact hb e he⟩
    | [a], h => simp at h; omega
    | [], h => simp at h

section
variable {H : Type} {enc : TypeId × Value → H} {w : World} {base : Nat} {spare : Nat → Bool} {held : Bool}

theorem flat_i64 : Flat enc Try.prog w base spare held 2 := flat_int Try.underlying2 (by kernel_rfl)

theorem flat_entry : Flat enc Try.prog w base spare held 40 := by
  refine flat_struct Try.underlying40 (by kernel_rfl) ?_
  intro i f hf
  match i with
  | 0 => simp at hf; subst hf; exact flat_i64
  | 1 => simp at hf; subst hf; exact flat_i64
  | i + 2 => simp at hf

theorem flat_pair : Flat enc Try.prog w base spare held 103 := flat_array Try.underlying103 (by kernel_rfl) flat_i64

set_option maxRecDepth 100000 in
theorem arg_ents {r : Reach} {b0 : Nat} {v : Value} {d : DataW H} {p : List MemPlace} (hv : Value.okWide Try.prog w r b0 31 v) (h : DataW.Trod enc Try.prog w base spare held 31 v d p) :
    ∃ (ao : Option Addr) (cap : Nat) (l : List (Int × Int)), v = .slice ao l.length cap ∧ Rd w ao (entV l) ∧ l.length ≤ maxLen ∧ ∀ e ∈ l, (-9223372036854775808 ≤ e.1 ∧ e.1 ≤ 9223372036854775807) ∧ -9223372036854775808 ≤ e.2 ∧ e.2 ≤ 9223372036854775807 := by
  obtain ⟨ao, cap, n, xs, rfl, hl, hr, hm, h64⟩ := arg_flat Try.underlying31 (C := 2) (by kernel_rfl) (Nat.succ_pos 1) flat_entry hv h
  obtain ⟨l, rfl, rfl, hb⟩ := ents_list n xs hl h64
  exact ⟨ao, cap, l, rfl, hr, hm, hb⟩

set_option maxRecDepth 100000 in
theorem arg_pairs {r : Reach} {b0 : Nat} {v : Value} {d : DataW H} {p : List MemPlace} (hv : Value.okWide Try.prog w r b0 33 v) (h : DataW.Trod enc Try.prog w base spare held 33 v d p) :
    ∃ (ao : Option Addr) (cap : Nat) (l : List (Int × Int)), v = .slice ao l.length cap ∧ Rd w ao (entV l) ∧ l.length ≤ maxLen ∧ ∀ e ∈ l, (-9223372036854775808 ≤ e.1 ∧ e.1 ≤ 9223372036854775807) ∧ -9223372036854775808 ≤ e.2 ∧ e.2 ≤ 9223372036854775807 := by
  obtain ⟨ao, cap, n, xs, rfl, hl, hr, hm, h64⟩ := arg_flat Try.underlying33 (C := 2) (by kernel_rfl) (Nat.succ_pos 1) flat_pair hv h
  obtain ⟨l, rfl, rfl, hb⟩ := ents_list n xs hl h64
  exact ⟨ao, cap, l, rfl, hr, hm, hb⟩
end
end Go.Proofs.Ytjifdalflepcoaa
