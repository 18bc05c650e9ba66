/-
  Cards, in plain words. No program in sight.
-/
import Derived.Test.YtjifdalflepcoabBase
namespace Go.Proofs.Ytjifdalflepcoab
set_option linter.unusedVariables false
set_option linter.unusedSimpArgs false

/-- The card of a place, -1: none. -/
def cardOf (base : Int) (n : Nat) (at_ : Int) : Int := if base ≤ at_ ∧ (at_ - base) / 8 < n then (at_ - base) / 8 else -1

/-- What a mark makes of the list. -/
def markL (base : Int) (l : List Bool) (at_ : Int) : List Bool := if 0 ≤ cardOf base l.length at_ then l.set (cardOf base l.length at_).toNat true else l

theorem markL_length (base : Int) (l : List Bool) (at_ : Int) : (markL base l at_).length = l.length := by unfold markL; split <;> simp

def dirtyL (base : Int) (l : List Bool) (at_ : Int) : Bool := decide (0 ≤ cardOf base l.length at_) && l.getD (cardOf base l.length at_).toNat false

theorem cardOf_lt {base : Int} {n : Nat} {at_ : Int} (h : 0 ≤ cardOf base n at_) : (cardOf base n at_).toNat < n := by
  unfold cardOf at *
  split at h
  · rename_i c; rw [if_pos c]; omega
  · omega

/-- How many cards so many words have. -/
def cardsN (words : Int) : Nat := ((max words 0 + 7) / 8).toNat

end Go.Proofs.Ytjifdalflepcoab
