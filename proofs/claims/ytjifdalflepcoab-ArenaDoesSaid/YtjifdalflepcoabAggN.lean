/-
  Loads of structs of several cells. No program in sight.
-/
import Derived.Test.YtjifdalflepcoabAppR
namespace Go.Proofs.Ytjifdalflepcoab
open Go.RowKit
set_option linter.unusedVariables false
set_option linter.unusedSimpArgs false
section
variable {P : Program} {w : World} {ops : Array Oper} {o : Oper} {a : Act}

theorem gives_agg {t : TypeId} {x : Operand} {b off : Nat} {cs : List Value} (ho : o.op = .load t x) (hr : rowB P t cs.length = true) (hx : a.eval x = .pointer (some ⟨b, off, none⟩)) (h : w.rangeAt b off cs) : Gives (.agg cs.toArray) w ((execOp a.eval o).run P w) := by
  obtain ⟨d, hu, hd, hi⟩ := rowB_spec hr
  have := run_loadAt_mid (P := P) w b off t cs d h hu hd hi
  unfold Gives execOp
  simp only [ho, hx, Sem.run_bind, Sem.run_pure, Result.andThen_ok, this]

theorem wpList_agg {rest : List Oper} {Q : Exit → Act → World → Prop} (hgd : o.guard = none) (t : TypeId) (x : Operand) (ho : o.op = .load t x) (cs : List Value) (hr : rowB P t cs.length = true) (b off : Nat) (hx : a.eval x = .pointer (some ⟨b, off, none⟩))
    (h0 : w.rangeAt b off cs) (h : wpList P ops Q rest (a.put o.dst (.agg cs.toArray)) w) : wpList P ops Q (o :: rest) a w := by
  obtain ⟨d, hu, hd, hi⟩ := rowB_spec hr
  exact wpList_load_mid hgd t x ho b off hx cs d h0 hu hd hi h

theorem rangeAt_nil {b off : Nat} : w.rangeAt b off [] := by intro j v hj; simp at hj
theorem rangeAt_cons {b off : Nat} {v : Value} {cs : List Value} (h : w.cell? ⟨b, off, none⟩ = some v) (hr : w.rangeAt b (off + 1) cs) : w.rangeAt b off (v :: cs) := by
  intro j u hj
  cases j with
  | zero => simp at hj; subst hj; exact h
  | succ j => simp at hj; rw [show off + (j + 1) = off + 1 + j by omega]; exact hr j u hj
end

/-- A struct in a list of cells. -/
theorem Rd.rows {w : World} {ao : Option Addr} {l : List Int} {c m : Nat} (h : Rd w ao (l.map (Value.int .i64))) (hl : l.length = m * c) (hc : 0 < c) (i : Nat) (hi : i < m) :
    ∃ g o, ao = some ⟨g, o, none⟩ ∧ g < w.heap.size ∧ w.rangeAt g (o + i * c) (((l.drop (i * c)).take c).map (Value.int .i64)) := by
  have hm : i * c + c ≤ m * c := by rw [← Nat.succ_mul]; exact Nat.mul_le_mul_right _ hi
  obtain ⟨g, o, rfl, hg, hcs⟩ := h (by intro e; simp at e; subst e; simp at hl; omega)
  refine ⟨g, o, rfl, hg, fun j v hj => ?_⟩
  simp only [List.getElem?_map, List.getElem?_take, List.getElem?_drop] at hj
  split at hj
  · rw [Nat.add_assoc, hcs _ (by simp; omega), List.getElem?_map]; exact hj
  · simp at hj
end Go.Proofs.Ytjifdalflepcoab
