/-
  Nodes in memory; a map of what was met. No program in sight but the types' numbers.
-/
import Derived.Test.YtjifdalflepcoabRowsC
import Derived.Test.YtjifdalflepcoabSide
import Derived.Test.YtjifdalflepcoabGraph2
import Derived.Maps.Own
import Derived.Maps.OwnSet
namespace Go.Proofs.Ytjifdalflepcoab
open Go.RowKit Go.Maps
set_option linter.unusedVariables false
set_option linter.unusedSimpArgs false

/-- A number in a slice. -/
theorem Rd.int64 {w : World} {ao : Option Addr} {l : List Int} (h : Rd w ao (l.map (Value.int .i64))) (i : Nat) (hi : i < l.length) :
    ∃ g o, ao = some ⟨g, o, none⟩ ∧ g < w.heap.size ∧ w.cell? ⟨g, o + i, none⟩ = some (.int .i64 (l.getD i 0)) := by
  obtain ⟨g, o, rfl, hg, hc⟩ := h (by intro e; simp at e; subst e; simp at hi)
  refine ⟨g, o, rfl, hg, ?_⟩
  rw [hc i (by simpa using hi)]
  simp [List.getD, hi]

/-- A cell of a slice is another one. -/
theorem Sl.set {w : World} {e size : Nat} {g o n cap j : Nat} {xs : List Value} {u : Value} (h : Sl w e size (.slice (some ⟨g, o, none⟩) n cap) n xs) (hj : j < n * size) :
    Sl (w.setCell ⟨g, o + j, none⟩ u) e size (.slice (some ⟨g, o, none⟩) n cap) n (xs.set j u) := by
  obtain ⟨hl, ⟨h1, _⟩ | ⟨g', o', cap', cur, e1, hb, h1, h2, h3, h4⟩⟩ := h
  · cases h1
  · cases e1
    refine ⟨by simpa using hl, .inr ⟨g, o, cap, _, rfl, hb.setSame _ _, h1, h2, by simpa using h3, ?_⟩⟩
    rw [← h4]
    apply List.ext_getElem?
    intro k
    simp only [List.getElem?_take, List.getElem?_drop, List.getElem?_set, List.length_take, List.length_drop]
    by_cases hk : k < n * size
    · rw [if_pos hk, if_pos hk]
      by_cases e : j = k
      · subst e
        have : n * size ≤ cap * size := Nat.mul_le_mul_right _ h1
        rw [if_pos rfl, if_pos rfl, if_pos (by omega), if_pos (by omega)]
      · rw [if_neg (by omega), if_neg e]
    · rw [if_neg hk, if_neg (by omega)]
      rw [if_neg hk]

/-- A node's cells: its kind, and its fields in blocks of F. -/
def NodeRow (w : World) (F : Nat → Prop) (nd : Nd) (r : List Value) : Prop :=
  ∃ ao cap, r = [.int .i64 nd.1, .slice ao nd.2.length cap] ∧ Rd w ao (entV nd.2) ∧ (∀ a, ao = some a → F a.block) ∧ nd.2.length ≤ maxLen

theorem NodeRow.keep {w w' : World} {F S : Nat → Prop} {nd : Nd} {r : List Value} (h : NodeRow w F nd r) (k : Keeps S w w') (hn : ∀ b, F b → b < w.heap.size → ¬ S b) : NodeRow w' F nd r := by
  obtain ⟨ao, cap, e, hr, hf, hc⟩ := h
  exact ⟨ao, cap, e, hr.keep k (fun a ha hb => hn _ (hf a ha) hb), hf, hc⟩

theorem NodeRow.more {w : World} {F F' : Nat → Prop} {nd : Nd} {r : List Value} (h : NodeRow w F nd r) (hF : ∀ b, F b → F' b) : NodeRow w F' nd r := by
  obtain ⟨ao, cap, e, hr, hf, hc⟩ := h
  exact ⟨ao, cap, e, hr, fun a ha => hF _ (hf a ha), hc⟩

/-- A slice of nodes. -/
def NodesAt (w : World) (nv : Value) (F : Nat → Prop) (l : List Nd) : Prop := ∃ cs, Sl w 83 2 nv l.length cs ∧ RowsC 2 (NodeRow w F) l cs

theorem NodesAt.keep {w w' : World} {F S : Nat → Prop} {nv : Value} {l : List Nd} (h : NodesAt w nv F l) (k : Keeps S w w') (hn : ∀ b, F b → b < w.heap.size → ¬ S b) (hv : ∀ b, ownB nv b → ¬ S b) : NodesAt w' nv F l := by
  obtain ⟨cs, h1, h2⟩ := h
  exact ⟨cs, h1.keep k hv, h2.mono (fun a _ r hr => hr.keep k hn)⟩

theorem NodesAt.more {w : World} {F F' : Nat → Prop} {nv : Value} {l : List Nd} (h : NodesAt w nv F l) (hF : ∀ b, F b → F' b) : NodesAt w nv F' l := by
  obtain ⟨cs, h1, h2⟩ := h
  exact ⟨cs, h1, h2.mono (fun a _ r hr => hr.more hF)⟩

theorem NodesAt.nil (w : World) (F : Nat → Prop) : NodesAt w (.slice none 0 0) F [] := ⟨[], Sl.nil _ _ _, rfl⟩

/-- Block b is a map: of what was met its number. -/
def SeenAt (w : World) (b : Nat) (met : List Int) : Prop :=
  ∃ n D, w.ownsMap (H := Unit) Try.prog 3 (plainElem Try.prog 3) b n D ∧ n ≤ met.length ∧
    ∀ x : Int, -9223372036854775808 ≤ x → x ≤ 9223372036854775807 → Maps.has D (.int .i64 x) = decide (x ∈ met) ∧ (x ∈ met → D.atKey (.int .i64 x) (.lit (.int .i64 0)) = .lit (.int .i64 (met.idxOf x : Nat)))

theorem SeenAt.lt {w : World} {b : Nat} {met : List Int} (h : SeenAt w b met) : b < w.heap.size := by
  obtain ⟨n, D, h, _⟩ := h; exact h.lt

theorem SeenAt.ne {w : World} {b : Nat} {met : List Int} (h : SeenAt w b met) {k : Nat} {c : List Value} {T : TypeId} (hk : Blk w k c T) : k ≠ b := by
  rintro rfl
  obtain ⟨n, D, ⟨es, clock, hb, _⟩, _⟩ := h
  unfold Blk at hk
  rw [hb] at hk; cases hk

theorem SeenAt.keep {w w' : World} {b : Nat} {met : List Int} {S : Nat → Prop} (h : SeenAt w b met) (k : Keeps S w w') (hn : ¬ S b) : SeenAt w' b met := by
  obtain ⟨n, D, ⟨es, clock, hb, hr⟩, h2⟩ := h
  exact ⟨n, D, ⟨es, clock, (k.block b (Array.getElem?_eq_some_iff.1 hb).1 hn).trans hb, hr⟩, h2⟩

theorem SeenAt.made (w : World) : SeenAt (w.alloc (.map #[] 0)) w.heap.size [] :=
  ⟨0, .map [], World.ownsMap_made _ _ _ _, Nat.le_refl _, fun x _ _ => ⟨rfl, fun h => by cases h⟩⟩

theorem grown_keeps {w w' : World} {b : Nat} (h : w.grownBy w' (some b)) : Keeps (· = b) w w' :=
  ⟨h.os, h.tape, h.output, h.size, fun k hk hn => h.block k hk (fun e => hn (by cases e; rfl))⟩

theorem SeenAt.push {w w' : World} {b n : Nat} {met : List Int} {x : Int} {D : DataW Unit} (hown : w.ownsMap (H := Unit) Try.prog 3 (plainElem Try.prog 3) b n D) (hn : n ≤ met.length)
    (hD : ∀ x : Int, -9223372036854775808 ≤ x → x ≤ 9223372036854775807 → Maps.has D (.int .i64 x) = decide (x ∈ met) ∧ (x ∈ met → D.atKey (.int .i64 x) (.lit (.int .i64 0)) = .lit (.int .i64 (met.idxOf x : Nat))))
    (hm : ¬ x ∈ met) (h1 : w'.ownsMap Try.prog 3 (plainElem Try.prog 3) b (n + 1) (D.put (.int .i64 x) (.lit (.int .i64 (met.length : Nat))))) : SeenAt w' b (met ++ [x]) := by
  refine ⟨n + 1, _, h1, by simp; omega, fun y y1 y2 => ?_⟩
  have hM := hown.isMap
  by_cases e : y = x
  · subst e
    refine ⟨by rw [has_put_same hM (show WideAt.IsKeyLit (.int .i64 y) from trivial)]; simp, fun _ => ?_⟩
    rw [atKey_put_same hM (show WideAt.IsKeyLit (.int .i64 y) from trivial), List.idxOf_append, if_neg hm]
    simp
  · have hne : (Lit.int .i64 y) ≠ (Lit.int .i64 x) := fun h => e (by cases h; rfl)
    have := hD y y1 y2
    refine ⟨by rw [has_put_other hne, this.1]; simp [e], fun hy => ?_⟩
    have hy' : y ∈ met := by simpa [e] using hy
    rw [atKey_put_other hne, this.2 hy', List.idxOf_append, if_pos hy']

end Go.Proofs.Ytjifdalflepcoab
