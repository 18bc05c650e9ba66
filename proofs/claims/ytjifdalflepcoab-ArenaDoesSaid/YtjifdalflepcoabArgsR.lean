/-
  Slices of structs of numbers that come in. No program in sight.
-/
import Derived.Test.YtjifdalflepcoabArgs
namespace Go.Proofs.Ytjifdalflepcoab
open Go.RowKit Go.ChangeShapes Go.WideShapes Go.ChangeAt Go.Joins
set_option linter.unusedVariables false
set_option linter.unusedSimpArgs false
section
variable {H : Type} {enc : TypeId × Value → H} {P : Program} {w : World} {base : Nat} {spare : Nat → Bool} {held : Bool}

theorem arg_rows {r : Reach} {b0 : Nat} {t e : TypeId} {C : Nat} {v : Value} {d : DataW H} {p : List MemPlace} (ht : P.underlying t = some (.slice e)) (hC : P.cellsOf e = C) (hpos : 0 < C) (he : Flat enc P w base spare held e)
    (hv : Value.okWide P w r b0 t v) (h : DataW.Trod enc P w base spare held t v d p) :
    ∃ (ao : Option Addr) (cap m : Nat) (l : List Int), v = .slice ao m cap ∧ Rd w ao (l.map (Value.int .i64)) ∧ l.length = m * C ∧ m ≤ maxLen ∧ ∀ x ∈ l, -9223372036854775808 ≤ x ∧ x ≤ 9223372036854775807 := by
  obtain ⟨ao, cap, n, xs, rfl, hl, hr, hm, h64⟩ := arg_flat ht hC hpos he hv h
  obtain ⟨l, rfl, hb⟩ := i64_list h64
  exact ⟨ao, cap, n, l, rfl, hr, by simpa using hl, hm, hb⟩

/-- A slice that came in leads into a block that is there. -/
theorem slice_lt {r : Reach} {b n c : Nat} {t e : TypeId} {a : Addr} (ht : P.underlying t = some (.slice e)) (hv : Value.okWide P w r b t (.slice (some a) n c)) : a.block < w.heap.size := by
  simp only [Value.okWide, ht, Cell.okWide, Cell.ok] at hv
  obtain ⟨_, _, _, _, row, cells, hs, _⟩ := hv
  unfold World.shape? at hs
  cases hb : w.heap[a.block]? with
  | none => rw [hb] at hs; simp at hs
  | some o => exact (Array.getElem?_eq_some_iff.1 hb).1
end
end Go.Proofs.Ytjifdalflepcoab
