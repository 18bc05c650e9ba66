/-
  Lists of rows of cells. No program in sight.
-/
import Derived.Test.YtjifdalflepcoabMem
namespace Go.Proofs.Ytjifdalflepcoab
open Go.RowKit
set_option linter.unusedVariables false
set_option linter.unusedSimpArgs false

/-- cs is rows of c cells, each as R says of the list's elements. -/
def RowsC {α : Type} (c : Nat) (R : α → List Value → Prop) : List α → List Value → Prop
  | [], cs => cs = []
  | a :: l, cs => ∃ r rest, cs = r ++ rest ∧ r.length = c ∧ R a r ∧ RowsC c R l rest

section
variable {α : Type} {c : Nat} {R Q : α → List Value → Prop}

theorem RowsC.length : ∀ {l : List α} {cs : List Value}, RowsC c R l cs → cs.length = l.length * c
  | [], cs, h => by cases h; simp
  | a :: l, cs, h => by
    obtain ⟨r, rest, rfl, h1, _, h2⟩ := h
    rw [List.length_append, h1, RowsC.length h2, List.length_cons, Nat.succ_mul]
    omega

theorem RowsC.mono {l : List α} (hq : ∀ a ∈ l, ∀ r, R a r → Q a r) : ∀ {cs : List Value}, RowsC c R l cs → RowsC c Q l cs := by
  induction l with
  | nil => intro cs h; exact h
  | cons a l ih =>
    intro cs h
    obtain ⟨r, rest, rfl, h1, h2, h3⟩ := h
    exact ⟨r, rest, rfl, h1, hq a (by simp) r h2, ih (fun b hb => hq b (by simp [hb])) h3⟩

theorem RowsC.app : ∀ {l : List α} {cs : List Value} {a : α} {r : List Value}, RowsC c R l cs → r.length = c → R a r → RowsC c R (l ++ [a]) (cs ++ r)
  | [], cs, a, r, h, h1, h2 => by cases h; exact ⟨r, [], by simp, h1, h2, rfl⟩
  | b :: l, cs, a, r, h, h1, h2 => by
    obtain ⟨r', rest, rfl, h3, h4, h5⟩ := h
    exact ⟨r', rest ++ r, by simp, h3, h4, RowsC.app h5 h1 h2⟩

/-- The row of an element. -/
theorem RowsC.get : ∀ {l : List α} {cs : List Value} {i : Nat} (h : i < l.length), RowsC c R l cs → ∃ r, (cs.drop (i * c)).take c = r ∧ r.length = c ∧ R l[i] r
  | a :: l, cs, 0, _, h => by
    obtain ⟨r, rest, rfl, h1, h2, _⟩ := h
    exact ⟨r, by simp [← h1], h1, h2⟩
  | a :: l, cs, i + 1, hi, h => by
    obtain ⟨r, rest, rfl, h1, _, h2⟩ := h
    obtain ⟨r', e, h3, h4⟩ := RowsC.get (i := i) (by simpa using hi) h2
    refine ⟨r', ?_, h3, h4⟩
    rw [← e, Nat.succ_mul, Nat.add_comm, ← h1, ← List.drop_drop, List.drop_left]

theorem RowsC.cell {l : List α} {cs : List Value} {i : Nat} (h : i < l.length) (hr : RowsC c R l cs) : ∃ r, r.length = c ∧ R l[i] r ∧ ∀ j, j < c → cs[i * c + j]? = r[j]? := by
  obtain ⟨r, e, h1, h2⟩ := RowsC.get h hr
  refine ⟨r, h1, h2, fun j hj => ?_⟩
  rw [← e, List.getElem?_take, if_pos hj, List.getElem?_drop]

/-- A row is another one. -/
theorem RowsC.set : ∀ {l : List α} {cs : List Value} {i : Nat} {a : α} {r : List Value} (_ : i < l.length), RowsC c R l cs → r.length = c → R a r →
    RowsC c R (l.set i a) (cs.take (i * c) ++ r ++ cs.drop (i * c + c))
  | b :: l, cs, 0, a, r, _, h, h1, h2 => by
    obtain ⟨r', rest, rfl, h3, _, h5⟩ := h
    refine ⟨r, rest, ?_, h1, h2, h5⟩
    simp [← h3]
  | b :: l, cs, i + 1, a, r, hi, h, h1, h2 => by
    obtain ⟨r', rest, rfl, h3, h4, h5⟩ := h
    refine ⟨r', _, ?_, h3, h4, RowsC.set (i := i) (by simpa using hi) h5 h1 h2⟩
    have e : (i + 1) * c = r'.length + i * c := by rw [Nat.succ_mul, h3]; omega
    rw [e, List.take_append, List.take_of_length_le (by omega), show r'.length + i * c - r'.length = i * c by omega, show r'.length + i * c + c = r'.length + (i * c + c) by omega, ← List.drop_drop, List.drop_left]
    simp

/-- One cell of a row is another one. -/
theorem RowsC.setCell {l : List α} {cs : List Value} {i j : Nat} {a : α} {u : Value} (h : i < l.length) (hj : j < c) (hr : RowsC c R l cs) (hR : ∀ r, r.length = c → R l[i] r → R a (r.set j u)) :
    RowsC c R (l.set i a) (cs.set (i * c + j) u) := by
  obtain ⟨r, e, h1, h2⟩ := RowsC.get h hr
  have hlen := RowsC.length hr
  have hm : i * c + c ≤ l.length * c := by rw [← Nat.succ_mul]; exact Nat.mul_le_mul_right _ h
  have := RowsC.set (a := a) (r := r.set j u) h hr (by simpa using h1) (hR r h1 h2)
  have e2 : cs.set (i * c + j) u = cs.take (i * c) ++ r.set j u ++ cs.drop (i * c + c) := by
    apply List.ext_getElem?
    intro k
    rw [List.getElem?_set]
    by_cases k1 : k < i * c
    · rw [if_neg (by omega), List.append_assoc, List.getElem?_append_left (by simp; omega), List.getElem?_take, if_pos k1]
    · by_cases k2 : k < i * c + c
      · rw [List.append_assoc, List.getElem?_append_right (by simp; omega), List.length_take, List.getElem?_append_left (by simp; omega), List.getElem?_set, Nat.min_eq_left (by omega)]
        by_cases e3 : i * c + j = k
        · rw [if_pos e3, if_pos (by omega), if_pos (by omega), if_pos (by omega)]
        · rw [if_neg e3, if_neg (by omega), ← e, List.getElem?_take, if_pos (by omega), List.getElem?_drop]
          congr 1; omega
      · rw [if_neg (by omega), List.getElem?_append_right (by simp; omega), List.getElem?_drop]
        congr 1; simp; omega
  rw [e2]; exact this
end

end Go.Proofs.Ytjifdalflepcoab
