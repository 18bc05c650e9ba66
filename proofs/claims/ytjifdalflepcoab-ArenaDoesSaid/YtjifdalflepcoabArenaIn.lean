/-
  An arena while a statement runs.
-/
import Derived.Test.YtjifdalflepcoabArenaBegun
import Derived.Test.YtjifdalflepcoabLongs
namespace Go.Proofs.Ytjifdalflepcoab
open Go.RowKit
set_option linter.unusedVariables false
set_option linter.unusedSimpArgs false

/-- An arena while a statement runs: of so many words, in memory of its own. -/
structure ArIn (w0 w : World) (p g : Nat) (A : Ar) (a b : Nat) : Prop where
  hA : ArenaAt w p g A
  hn : A.nur = a
  hl : A.ws.length = a + b
  hK : Keeps (fun _ => False) w0 w
  hp : w0.heap.size ≤ p
  hg : w0.heap.size ≤ g

section
variable {w0 w w' : World} {p g a b : Nat} {A : Ar}
theorem ArIn.keep (h : ArIn w0 w p g A a b) (k : Keeps (fun _ => False) w w') : ArIn w0 w' p g A a b := ⟨h.hA.keep k (fun h => h) (fun h => h), h.hn, h.hl, h.hK.trans k, h.hp, h.hg⟩
theorem ArIn.to {B : Ar} (h : ArIn w0 w p g A a b) (t : ArenaTo w p g w' B) (h1 : B.nur = A.nur) (h2 : B.ws.length = A.ws.length) : ArIn w0 w' p g B a b := ⟨t.at_, h1.trans h.hn, h2.trans h.hl, t.fresh h.hK h.hp h.hg, h.hp, h.hg⟩
theorem ArIn.make (h : ArIn w0 w p g A a b) {k f : Int} (t : ArenaTo w p g w' (A.make k f).2) : ArIn w0 w' p g (A.make k f).2 a b := h.to t Ar.make_nur (Ar.make_len h.hA.ok)
theorem ArIn.copy (h : ArIn w0 w p g A a b) {i : Int} (t : ArenaTo w p g w' (A.copy i).2) : ArIn w0 w' p g (A.copy i).2 a b := h.to t (Ar.copy_nur i) (Ar.copy_len h.hA.ok i)
theorem ArIn.store (h : ArIn w0 w p g A a b) {i x : Int} (t : ArenaTo w p g w' (A.store i x)) : ArIn w0 w' p g (A.store i x) a b := h.to t (by unfold Ar.store; split <;> rfl) (by unfold Ar.store; split <;> simp)
end

end Go.Proofs.Ytjifdalflepcoab
