/-
  What Wake and Settle do, plainly. No program in sight.
-/
import Derived.Test.YtjifdalflepcoabBase
namespace Go.Proofs.Ytjifdalflepcoab
set_option linter.unusedVariables false
set_option linter.unusedSimpArgs false
variable {τ : Type}

/-- What Wake does, if Keep leaves alone what waits. -/
def wakeM (alive : τ → Int → Bool) (keep : τ → Int → τ × Int) : τ → List (Int × Int) → τ × List (Int × Int) × Bool
  | t, [] => (t, [], false)
  | t, e :: l =>
    if alive t e.1 && !alive t e.2 then
      let r := wakeM alive keep (keep t e.2).1 l
      (r.1, (e.1, (keep t e.2).2) :: r.2.1, true)
    else
      let r := wakeM alive keep t l
      (r.1, e :: r.2.1, r.2.2)

/-- What is registered; was it dead? was it moved? -/
abbrev It := (Int × Int) × Bool × Bool

/-- One pass over what is registered. -/
def scanM (alive : τ → Int → Bool) (keep : τ → List (Int × Int) → Int → τ × List (Int × Int) × Int) : τ → List (Int × Int) → List It → τ × List (Int × Int) × List It × Bool
  | t, q, [] => (t, q, [], false)
  | t, q, i :: l =>
    if (i.2.1 && !i.2.2) && alive t i.1.1 then
      let r := scanM alive keep (keep t q i.1.2).1 ((keep t q i.1.2).2.1 ++ [(i.1.1, (keep t q i.1.2).2.2)]) l
      (r.1, r.2.1, (i.1, i.2.1, true) :: r.2.2.1, true)
    else
      let r := scanM alive keep t q l
      (r.1, r.2.1, i :: r.2.2.1, r.2.2.2)

/-- Passes, until nothing more comes. -/
def roundsM (alive : τ → Int → Bool) (keep : τ → List (Int × Int) → Int → τ × List (Int × Int) × Int) : Nat → τ → List (Int × Int) → List It → τ × List (Int × Int) × List It
  | 0, t, q, l => (t, q, l)
  | n + 1, t, q, l =>
    let r := scanM alive keep t q l
    if r.2.2.2 then roundsM alive keep n r.1 r.2.1 r.2.2.1 else (r.1, r.2.1, r.2.2.1)

/-- How many were not moved. -/
def unN (l : List It) : Nat := (l.filter fun i => !i.2.2).length

theorem unN_cons (i : It) (l : List It) : unN (i :: l) = (if i.2.2 then 0 else 1) + unN l := by
  unfold unN
  cases h : i.2.2 <;> simp [List.filter_cons, h]; omega

theorem unN_app (a b : List It) : unN (a ++ b) = unN a + unN b := by unfold unN; simp

theorem scanM_fst (alive : τ → Int → Bool) (keep) : ∀ (l : List It) (t : τ) (q : List (Int × Int)), (scanM alive keep t q l).2.2.1.map (fun i => (i.1, i.2.1)) = l.map (fun i => (i.1, i.2.1))
  | [], _, _ => rfl
  | i :: l, t, q => by
    simp only [scanM]
    split
    · simp only [List.map_cons]; rw [scanM_fst alive keep l]
    · simp only [List.map_cons]; rw [scanM_fst alive keep l]

theorem scanM_un (alive : τ → Int → Bool) (keep) : ∀ (l : List It) (t : τ) (q : List (Int × Int)), unN (scanM alive keep t q l).2.2.1 ≤ unN l ∧ ((scanM alive keep t q l).2.2.2 = true → unN (scanM alive keep t q l).2.2.1 < unN l)
  | [], _, _ => by simp [scanM]
  | i :: l, t, q => by
    simp only [scanM]
    split
    · rename_i h
      have ih := scanM_un alive keep l (keep t q i.1.2).1 ((keep t q i.1.2).2.1 ++ [(i.1.1, (keep t q i.1.2).2.2)])
      simp only [Bool.and_eq_true, Bool.not_eq_true'] at h
      simp only [unN_cons, h.1.2]
      simp
      omega
    · have ih := scanM_un alive keep l t q
      simp only [unN_cons]
      refine ⟨by omega, fun h => ?_⟩
      have := ih.2 h
      omega

/-- What is registered behind Settle. -/
def newRegs (alive : τ → Int → Bool) (now : τ → Int → Int) (t : τ) (l : List It) : List (Int × Int) := (l.filter fun i => !i.2.1 && alive t i.1.1).map fun i => (now t i.1.1, now t i.1.2)

/-- What waits behind Settle. -/
def newWait (alive : τ → Int → Bool) (now : τ → Int → Int) (t : τ) (l : List (Int × Int)) : List (Int × Int) := (l.filter fun e => alive t e.1).map fun e => (now t e.1, now t e.2)

/-- What is gone over at first. -/
def itemsM (alive : τ → Int → Bool) (t : τ) (regs : List (Int × Int)) : List It := regs.map fun e => (e, !alive t e.2, false)

/-- Behind the passes. -/
def passM (alive : τ → Int → Bool) (keep : τ → List (Int × Int) → Int → τ × List (Int × Int) × Int) (t : τ) (regs wait : List (Int × Int)) : τ × List (Int × Int) × List It :=
  roundsM alive keep (regs.length + 1) t wait (itemsM alive t regs)

end Go.Proofs.Ytjifdalflepcoab
