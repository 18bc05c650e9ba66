/-
  Loops and cuts over great frames: what a piece of code writes is told at once. No program in sight.
-/
import Derived.Test.YtjifdalflepcoabMem
import Derived.Deep.CutBlock
import Derived.Deep.DeepCutAuto
namespace Go.Proofs.Ytjifdalflepcoab
open Go.RowKit
set_option linter.unusedVariables false
set_option linter.unusedSimpArgs false

/-- Of a list the values from number i on, those that p tells as u has them. -/
def overL (p : Nat → Bool) (u : Nat → Value) : Nat → List Value → List Value
  | _, [] => []
  | i, v :: l => (bif p i then u i else v) :: overL p u (i + 1) l

def overA (a : Act) (p : Nat → Bool) (u : Nat → Value) : Act := { a with tmps := (overL p u 0 a.tmps.toList).toArray }

/-- The slots of a frame. -/
def slotsOf (a : Act) (i : Nat) : Value := a.tmps.toList.getD i undef

/-- A frame like a, but for the slots that p tells; R holds of it. -/
def Meets (a : Act) (p : Nat → Bool) (R : (Nat → Value) → World → Prop) (a' : Act) (w' : World) : Prop := a' = overA a p (slotsOf a') ∧ R (slotsOf a') w'

def Again (a : Act) (p : Nat → Bool) (R : (Nat → Value) → World → Prop) (mu : (Nat → Value) → World → Nat) (n : Nat) (a' : Act) (w' : World) : Prop := Meets a p R a' w' ∧ mu (slotsOf a') w' < n

variable {P : Program} {a : Act} {w : World} {c : Code} {Q : Exit → Act → World → Prop}

theorem overL_self (p : Nat → Bool) (u : Nat → Value) : ∀ (l : List Value) (i : Nat), (∀ j, j < l.length → u (i + j) = l.getD j undef) → overL p u i l = l
  | [], i, _ => rfl
  | v :: l, i, h => by
    have h0 := h 0 (by simp)
    simp only [Nat.add_zero, List.getD_cons_zero] at h0
    have ih := overL_self p u l (i + 1) (fun j hj => by
      have := h (j + 1) (by simp; omega)
      rw [show i + (j + 1) = i + 1 + j by omega, List.getD_cons_succ] at this
      exact this)
    simp only [overL, ih, h0]
    cases p i <;> rfl

theorem overA_self (a : Act) (p : Nat → Bool) : a = overA a p (slotsOf a) := by
  cases a with
  | mk t d =>
    unfold overA slotsOf
    dsimp only
    rw [overL_self p _ t.toList 0 (fun j hj => by rw [Nat.zero_add])]

theorem wp_loop_over (p : Nat → Bool) (R : (Nat → Value) → World → Prop) (mu : (Nat → Value) → World → Nat) (h0 : R (slotsOf a) w)
    (round : ∀ (u : Nat → Value) (w' : World), R (slotsOf (overA a p u)) w' → ∀ K : Act → World → Prop, (∀ a'' w'', Again a p R mu (mu (slotsOf (overA a p u)) w') a'' w'' → K a'' w'') → c.wp P (Exit.then K Q) (overA a p u) w') :
    (Code.loop c).wp P Q a w := by
  refine wp_loop (Meets a p R) (fun a' w' => mu (slotsOf a') w') ⟨overA_self a p, h0⟩ ?_
  rintro a' w' ⟨e, hR⟩
  obtain ⟨u, hu⟩ : ∃ u, u = slotsOf a' := ⟨_, rfl⟩
  rw [← hu] at e
  subst e
  exact round u w' hR _ (fun a'' w'' h => h)

theorem wp_cut_over {K : Act → World → Prop} (p : Nat → Bool) (R : (Nat → Value) → World → Prop)
    (first : ∀ K' : Act → World → Prop, (∀ a'' w'', Meets a p R a'' w'' → K' a'' w'') → c.wp P (Exit.then K' Q) a w)
    (rest : ∀ (u : Nat → Value) (w' : World), R (slotsOf (overA a p u)) w' → K (overA a p u) w') : c.wp P (Exit.then K Q) a w := by
  refine wp_mono (first (Meets a p R) (fun _ _ h => h)) ?_
  intro e a' w' hq
  cases e with
  | normal =>
    obtain ⟨e, hR⟩ := hq
    obtain ⟨u, hu⟩ : ∃ u, u = slotsOf a' := ⟨_, rfl⟩
    rw [← hu] at e
    subst e
    exact rest u w' hR
  | exit id => exact hq
  | goto l => exact hq
  | ret => exact hq
  | panic ch => exact hq
  | outgrown => exact hq

end Go.Proofs.Ytjifdalflepcoab
