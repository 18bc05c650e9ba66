/-
  No cell of these rows narrows 'for every input' (looked for: loops, veiled, ifaces, maps, wideKeys, modest, calm, conditions, laid).
  DERIVED. THE GIVEN ROWS OF THIS SEAT. 11 by the template 'for every input the law returns true; each argument reads behind the call as it read before'; 0 by the template 'total and deterministic' (their statements: YtjifdalflepcoaaTotals.lean).
  GIVEN WITH THE SEED: the statements are not yours to turn. If you find one false, say at which input.
  Laid BY PROGRAM, IN A SANDBOX (cutbox-rows.mjs): the forced cells as the released guide's own fill.sh prints them over the translation c5ad59bd96c7b748… (all of the seat's roots in one cut). By AI agents, Wed Nov 11 2026. No macro, syntax, notation, axiom, sorry.
-/
import Derived.Test.YtjifdalflepcoaaChecked
import GoSem.Claim
import GoSem.ClaimJoined
import GoSem.ClaimMapViews
import Derived.JoinedTies
import Derived.KernelRfl
namespace Go.Proofs.Ytjifdalflepcoaa
/- THE CELL 'sum', in the pinned program and in every row, IS THE sha256 OF THE DUMP (.gsa) THAT YtjifdalflepcoaaProg.lean LOADS. Nothing in Lean hashes anything: it is a label: what it is worth is what the hold of that sum in a sandbox is worth. -/
noncomputable def Try.pinned : Pinned := { name := "ytjifdalflepcoaa", sum := "c5ad59bd96c7b7480e029d6e04255d2a375e1ac65b1a1756b48486efde86bad6", checked := Try.checked }
namespace Rows
def none {H : Type} : Left H := { results := [], args := [] }

/-- 'underwoodlaw.CardsApart': WHATEVER THE INPUT: true; the input reads as it did. -/
def cardsApartSpec : ChangeSpec := { name := "cardsApart", fn := fun _ => fun
  | [d1, d2, d3, d4] => { results := [.lit (.bool true)], args := [d1, d2, d3, d4] }
  | _ => none }
def cardsApartRow : OpenClaim := { program := "ytjifdalflepcoaa", sum := "c5ad59bd96c7b7480e029d6e04255d2a375e1ac65b1a1756b48486efde86bad6", func := "underwood/underwoodlaw.CardsApart", spec := "cardsApart", apart := false }
def CardsApartSaid : Prop := cardsApartRow.holds Try.pinned (OpenSpec.ofChange cardsApartSpec)

/-- ITS FALSE NEIGHBOUR: 'it returns false'. Refute it at one input. -/
def cardsApartWrong : ChangeSpec := { name := "cardsApart", fn := fun _ => fun
  | [d1, d2, d3, d4] => { results := [.lit (.bool false)], args := [d1, d2, d3, d4] }
  | _ => none }
def CardsApartWrongFalsely : Prop := cardsApartRow.holds Try.pinned (OpenSpec.ofChange cardsApartWrong)

/-- 'underwoodlaw.CardsDoes': WHATEVER THE INPUT: true; the input reads as it did. -/
def cardsDoesSpec : ChangeSpec := { name := "cardsDoes", fn := fun _ => fun
  | [d1, d2, d3, d4] => { results := [.lit (.bool true)], args := [d1, d2, d3, d4] }
  | _ => none }
def cardsDoesRow : OpenClaim := { program := "ytjifdalflepcoaa", sum := "c5ad59bd96c7b7480e029d6e04255d2a375e1ac65b1a1756b48486efde86bad6", func := "underwood/underwoodlaw.CardsDoes", spec := "cardsDoes", apart := false }
def CardsDoesSaid : Prop := cardsDoesRow.holds Try.pinned (OpenSpec.ofChange cardsDoesSpec)

/-- ITS FALSE NEIGHBOUR: 'it returns false'. Refute it at one input. -/
def cardsDoesWrong : ChangeSpec := { name := "cardsDoes", fn := fun _ => fun
  | [d1, d2, d3, d4] => { results := [.lit (.bool false)], args := [d1, d2, d3, d4] }
  | _ => none }
def CardsDoesWrongFalsely : Prop := cardsDoesRow.holds Try.pinned (OpenSpec.ofChange cardsDoesWrong)

/-- 'underwoodlaw.SideSettles': WHATEVER THE INPUT: true; the input reads as it did. -/
def sideSettlesSpec : ChangeSpec := { name := "sideSettles", fn := fun _ => fun
  | [d1, d2, d3, d4] => { results := [.lit (.bool true)], args := [d1, d2, d3, d4] }
  | _ => none }
def sideSettlesRow : OpenClaim := { program := "ytjifdalflepcoaa", sum := "c5ad59bd96c7b7480e029d6e04255d2a375e1ac65b1a1756b48486efde86bad6", func := "underwood/underwoodlaw.SideSettles", spec := "sideSettles", unfollowed := true, recurses := true, apart := false }
def SideSettlesSaid : Prop := sideSettlesRow.holds Try.pinned (OpenSpec.ofChange sideSettlesSpec)

/-- ITS FALSE NEIGHBOUR: 'it returns false'. Refute it at one input. -/
def sideSettlesWrong : ChangeSpec := { name := "sideSettles", fn := fun _ => fun
  | [d1, d2, d3, d4] => { results := [.lit (.bool false)], args := [d1, d2, d3, d4] }
  | _ => none }
def SideSettlesWrongFalsely : Prop := sideSettlesRow.holds Try.pinned (OpenSpec.ofChange sideSettlesWrong)

/-- 'underwoodlaw.SideOnce': WHATEVER THE INPUT: true; the input reads as it did. -/
def sideOnceSpec : ChangeSpec := { name := "sideOnce", fn := fun _ => fun
  | [d1, d2, d3, d4] => { results := [.lit (.bool true)], args := [d1, d2, d3, d4] }
  | _ => none }
def sideOnceRow : OpenClaim := { program := "ytjifdalflepcoaa", sum := "c5ad59bd96c7b7480e029d6e04255d2a375e1ac65b1a1756b48486efde86bad6", func := "underwood/underwoodlaw.SideOnce", spec := "sideOnce", unfollowed := true, recurses := true, apart := false }
def SideOnceSaid : Prop := sideOnceRow.holds Try.pinned (OpenSpec.ofChange sideOnceSpec)

/-- ITS FALSE NEIGHBOUR: 'it returns false'. Refute it at one input. -/
def sideOnceWrong : ChangeSpec := { name := "sideOnce", fn := fun _ => fun
  | [d1, d2, d3, d4] => { results := [.lit (.bool false)], args := [d1, d2, d3, d4] }
  | _ => none }
def SideOnceWrongFalsely : Prop := sideOnceRow.holds Try.pinned (OpenSpec.ofChange sideOnceWrong)

/-- 'underwoodlaw.WordApart': WHATEVER THE INPUT: true; the input reads as it did. -/
def wordApartSpec : ChangeSpec := { name := "wordApart", fn := fun _ => fun
  | [d1, d2, d3, d4] => { results := [.lit (.bool true)], args := [d1, d2, d3, d4] }
  | _ => none }
def wordApartRow : OpenClaim := { program := "ytjifdalflepcoaa", sum := "c5ad59bd96c7b7480e029d6e04255d2a375e1ac65b1a1756b48486efde86bad6", func := "underwood/underwoodlaw.WordApart", spec := "wordApart", apart := false }
def WordApartSaid : Prop := wordApartRow.holds Try.pinned (OpenSpec.ofChange wordApartSpec)

/-- ITS FALSE NEIGHBOUR: 'it returns false'. Refute it at one input. -/
def wordApartWrong : ChangeSpec := { name := "wordApart", fn := fun _ => fun
  | [d1, d2, d3, d4] => { results := [.lit (.bool false)], args := [d1, d2, d3, d4] }
  | _ => none }
def WordApartWrongFalsely : Prop := wordApartRow.holds Try.pinned (OpenSpec.ofChange wordApartWrong)

/-- 'underwoodlaw.WordBack': WHATEVER THE INPUT: true; the input reads as it did. -/
def wordBackSpec : ChangeSpec := { name := "wordBack", fn := fun _ => fun
  | [d1, d2, d3, d4, d5] => { results := [.lit (.bool true)], args := [d1, d2, d3, d4, d5] }
  | _ => none }
def wordBackRow : OpenClaim := { program := "ytjifdalflepcoaa", sum := "c5ad59bd96c7b7480e029d6e04255d2a375e1ac65b1a1756b48486efde86bad6", func := "underwood/underwoodlaw.WordBack", spec := "wordBack", apart := false }
def WordBackSaid : Prop := wordBackRow.holds Try.pinned (OpenSpec.ofChange wordBackSpec)

/-- ITS FALSE NEIGHBOUR: 'it returns false'. Refute it at one input. -/
def wordBackWrong : ChangeSpec := { name := "wordBack", fn := fun _ => fun
  | [d1, d2, d3, d4, d5] => { results := [.lit (.bool false)], args := [d1, d2, d3, d4, d5] }
  | _ => none }
def WordBackWrongFalsely : Prop := wordBackRow.holds Try.pinned (OpenSpec.ofChange wordBackWrong)

/-- 'underwoodlaw.SideWakes': WHATEVER THE INPUT: true; the input reads as it did. -/
def sideWakesSpec : ChangeSpec := { name := "sideWakes", fn := fun _ => fun
  | [d1, d2, d3] => { results := [.lit (.bool true)], args := [d1, d2, d3] }
  | _ => none }
def sideWakesRow : OpenClaim := { program := "ytjifdalflepcoaa", sum := "c5ad59bd96c7b7480e029d6e04255d2a375e1ac65b1a1756b48486efde86bad6", func := "underwood/underwoodlaw.SideWakes", spec := "sideWakes", unfollowed := true, recurses := true, apart := false }
def SideWakesSaid : Prop := sideWakesRow.holds Try.pinned (OpenSpec.ofChange sideWakesSpec)

/-- ITS FALSE NEIGHBOUR: 'it returns false'. Refute it at one input. -/
def sideWakesWrong : ChangeSpec := { name := "sideWakes", fn := fun _ => fun
  | [d1, d2, d3] => { results := [.lit (.bool false)], args := [d1, d2, d3] }
  | _ => none }
def SideWakesWrongFalsely : Prop := sideWakesRow.holds Try.pinned (OpenSpec.ofChange sideWakesWrong)

/-- 'underwoodlaw.WordDoes': WHATEVER THE INPUT: true; the input reads as it did. -/
def wordDoesSpec : ChangeSpec := { name := "wordDoes", fn := fun _ => fun
  | [d1, d2, d3, d4, d5] => { results := [.lit (.bool true)], args := [d1, d2, d3, d4, d5] }
  | _ => none }
def wordDoesRow : OpenClaim := { program := "ytjifdalflepcoaa", sum := "c5ad59bd96c7b7480e029d6e04255d2a375e1ac65b1a1756b48486efde86bad6", func := "underwood/underwoodlaw.WordDoes", spec := "wordDoes", apart := false }
def WordDoesSaid : Prop := wordDoesRow.holds Try.pinned (OpenSpec.ofChange wordDoesSpec)

/-- ITS FALSE NEIGHBOUR: 'it returns false'. Refute it at one input. -/
def wordDoesWrong : ChangeSpec := { name := "wordDoes", fn := fun _ => fun
  | [d1, d2, d3, d4, d5] => { results := [.lit (.bool false)], args := [d1, d2, d3, d4, d5] }
  | _ => none }
def WordDoesWrongFalsely : Prop := wordDoesRow.holds Try.pinned (OpenSpec.ofChange wordDoesWrong)

/-- 'underwoodlaw.SideDoes': WHATEVER THE INPUT: true; the input reads as it did. -/
def sideDoesSpec : ChangeSpec := { name := "sideDoes", fn := fun _ => fun
  | [d] => { results := [.lit (.bool true)], args := [d] }
  | _ => none }
def sideDoesRow : OpenClaim := { program := "ytjifdalflepcoaa", sum := "c5ad59bd96c7b7480e029d6e04255d2a375e1ac65b1a1756b48486efde86bad6", func := "underwood/underwoodlaw.SideDoes", spec := "sideDoes", unfollowed := true, recurses := true, apart := false }
def SideDoesSaid : Prop := sideDoesRow.holds Try.pinned (OpenSpec.ofChange sideDoesSpec)

/-- ITS FALSE NEIGHBOUR: 'it returns false'. Refute it at one input. -/
def sideDoesWrong : ChangeSpec := { name := "sideDoes", fn := fun _ => fun
  | [d] => { results := [.lit (.bool false)], args := [d] }
  | _ => none }
def SideDoesWrongFalsely : Prop := sideDoesRow.holds Try.pinned (OpenSpec.ofChange sideDoesWrong)

/-- 'underwoodlaw.ArenaFull': WHATEVER THE INPUT: true; the input reads as it did. -/
def arenaFullSpec : ChangeSpec := { name := "arenaFull", fn := fun _ => fun
  | [d1, d2, d3, d4, d5] => { results := [.lit (.bool true)], args := [d1, d2, d3, d4, d5] }
  | _ => none }
def arenaFullRow : OpenClaim := { program := "ytjifdalflepcoaa", sum := "c5ad59bd96c7b7480e029d6e04255d2a375e1ac65b1a1756b48486efde86bad6", func := "underwood/underwoodlaw.ArenaFull", spec := "arenaFull", unfollowed := true, recurses := true, apart := false }
def ArenaFullSaid : Prop := arenaFullRow.holds Try.pinned (OpenSpec.ofChange arenaFullSpec)

/-- ITS FALSE NEIGHBOUR: 'it returns false'. Refute it at one input. -/
def arenaFullWrong : ChangeSpec := { name := "arenaFull", fn := fun _ => fun
  | [d1, d2, d3, d4, d5] => { results := [.lit (.bool false)], args := [d1, d2, d3, d4, d5] }
  | _ => none }
def ArenaFullWrongFalsely : Prop := arenaFullRow.holds Try.pinned (OpenSpec.ofChange arenaFullWrong)

/-- 'underwoodlaw.ArenaApart': WHATEVER THE INPUT: true; the input reads as it did. -/
def arenaApartSpec : ChangeSpec := { name := "arenaApart", fn := fun _ => fun
  | [d1, d2, d3] => { results := [.lit (.bool true)], args := [d1, d2, d3] }
  | _ => none }
def arenaApartRow : OpenClaim := { program := "ytjifdalflepcoaa", sum := "c5ad59bd96c7b7480e029d6e04255d2a375e1ac65b1a1756b48486efde86bad6", func := "underwood/underwoodlaw.ArenaApart", spec := "arenaApart", unfollowed := true, recurses := true, apart := false }
def ArenaApartSaid : Prop := arenaApartRow.holds Try.pinned (OpenSpec.ofChange arenaApartSpec)

/-- ITS FALSE NEIGHBOUR: 'it returns false'. Refute it at one input. -/
def arenaApartWrong : ChangeSpec := { name := "arenaApart", fn := fun _ => fun
  | [d1, d2, d3] => { results := [.lit (.bool false)], args := [d1, d2, d3] }
  | _ => none }
def ArenaApartWrongFalsely : Prop := arenaApartRow.holds Try.pinned (OpenSpec.ofChange arenaApartWrong)

/- THE SECOND FORM. 'bulk': how many values and letters a reading holds, each counted each time it is reached (what is shared counts as often as it is met; a slice's spare places count too). A statement '..UptoSaid' is the law's where the arguments, and the package variables that the reading takes, are together of bulk at most 1048576: NARROWER than '..Said'. Prove '..Said' where nothing that the law and all that it calls make is longer than what came in: it says more and counts as full. Else prove '..UptoSaid'. A law counts once. -/
mutual
def uptoBulk {H : Type} : DataW H → Nat
  | .lit (.string bytes) => bytes.length + 1
  | .lit _ => 1
  | .nil => 1
  | .ptr d => uptoBulk d + 1
  | .slice elems spare => uptoBulkAll elems + uptoBulkAll spare + 1
  | .agg parts => uptoBulkAll parts + 1
  | .iface _ d => uptoBulk d + 1
  | .map entries => uptoBulkEntries entries + 1
  | .held _ => 1
def uptoBulkAll {H : Type} : List (DataW H) → Nat
  | [] => 0
  | d :: r => uptoBulk d + uptoBulkAll r
def uptoBulkEntries {H : Type} : List (Lit × DataW H) → Nat
  | [] => 0
  | x :: r => uptoBulkEntry x + uptoBulkEntries r
def uptoBulkEntry {H : Type} : Lit × DataW H → Nat
  | (.string bytes, d) => bytes.length + uptoBulk d + 1
  | (_, d) => uptoBulk d + 1
 end
def uptoSmall : (H : Type) → List (DataW H) → Bool := fun _ ds => decide (uptoBulkAll ds ≤ 1048576)
def OpenSpec.upto (s : _root_.Go.ChangeSpec) : _root_.Go.OpenSpec := { _root_.Go.OpenSpec.ofChange s with cond := some uptoSmall }

/-- 'underwoodlaw.CardsApart', WHERE WHAT IT READS IS OF BULK AT MOST 1048576: true; the input reads as it did. -/
def cardsApartUptoRow : OpenClaim := { program := "ytjifdalflepcoaa", sum := "c5ad59bd96c7b7480e029d6e04255d2a375e1ac65b1a1756b48486efde86bad6", func := "underwood/underwoodlaw.CardsApart", spec := "cardsApart", apart := false, narrowed := true }
def CardsApartUptoSaid : Prop := cardsApartUptoRow.holds Try.pinned (OpenSpec.upto cardsApartSpec)

/-- 'underwoodlaw.CardsDoes', WHERE WHAT IT READS IS OF BULK AT MOST 1048576: true; the input reads as it did. -/
def cardsDoesUptoRow : OpenClaim := { program := "ytjifdalflepcoaa", sum := "c5ad59bd96c7b7480e029d6e04255d2a375e1ac65b1a1756b48486efde86bad6", func := "underwood/underwoodlaw.CardsDoes", spec := "cardsDoes", apart := false, narrowed := true }
def CardsDoesUptoSaid : Prop := cardsDoesUptoRow.holds Try.pinned (OpenSpec.upto cardsDoesSpec)

/-- 'underwoodlaw.SideSettles', WHERE WHAT IT READS IS OF BULK AT MOST 1048576: true; the input reads as it did. -/
def sideSettlesUptoRow : OpenClaim := { program := "ytjifdalflepcoaa", sum := "c5ad59bd96c7b7480e029d6e04255d2a375e1ac65b1a1756b48486efde86bad6", func := "underwood/underwoodlaw.SideSettles", spec := "sideSettles", unfollowed := true, recurses := true, apart := false, narrowed := true }
def SideSettlesUptoSaid : Prop := sideSettlesUptoRow.holds Try.pinned (OpenSpec.upto sideSettlesSpec)

/-- 'underwoodlaw.SideOnce', WHERE WHAT IT READS IS OF BULK AT MOST 1048576: true; the input reads as it did. -/
def sideOnceUptoRow : OpenClaim := { program := "ytjifdalflepcoaa", sum := "c5ad59bd96c7b7480e029d6e04255d2a375e1ac65b1a1756b48486efde86bad6", func := "underwood/underwoodlaw.SideOnce", spec := "sideOnce", unfollowed := true, recurses := true, apart := false, narrowed := true }
def SideOnceUptoSaid : Prop := sideOnceUptoRow.holds Try.pinned (OpenSpec.upto sideOnceSpec)

/-- 'underwoodlaw.WordApart', WHERE WHAT IT READS IS OF BULK AT MOST 1048576: true; the input reads as it did. -/
def wordApartUptoRow : OpenClaim := { program := "ytjifdalflepcoaa", sum := "c5ad59bd96c7b7480e029d6e04255d2a375e1ac65b1a1756b48486efde86bad6", func := "underwood/underwoodlaw.WordApart", spec := "wordApart", apart := false, narrowed := true }
def WordApartUptoSaid : Prop := wordApartUptoRow.holds Try.pinned (OpenSpec.upto wordApartSpec)

/-- 'underwoodlaw.WordBack', WHERE WHAT IT READS IS OF BULK AT MOST 1048576: true; the input reads as it did. -/
def wordBackUptoRow : OpenClaim := { program := "ytjifdalflepcoaa", sum := "c5ad59bd96c7b7480e029d6e04255d2a375e1ac65b1a1756b48486efde86bad6", func := "underwood/underwoodlaw.WordBack", spec := "wordBack", apart := false, narrowed := true }
def WordBackUptoSaid : Prop := wordBackUptoRow.holds Try.pinned (OpenSpec.upto wordBackSpec)

/-- 'underwoodlaw.SideWakes', WHERE WHAT IT READS IS OF BULK AT MOST 1048576: true; the input reads as it did. -/
def sideWakesUptoRow : OpenClaim := { program := "ytjifdalflepcoaa", sum := "c5ad59bd96c7b7480e029d6e04255d2a375e1ac65b1a1756b48486efde86bad6", func := "underwood/underwoodlaw.SideWakes", spec := "sideWakes", unfollowed := true, recurses := true, apart := false, narrowed := true }
def SideWakesUptoSaid : Prop := sideWakesUptoRow.holds Try.pinned (OpenSpec.upto sideWakesSpec)

/-- 'underwoodlaw.WordDoes', WHERE WHAT IT READS IS OF BULK AT MOST 1048576: true; the input reads as it did. -/
def wordDoesUptoRow : OpenClaim := { program := "ytjifdalflepcoaa", sum := "c5ad59bd96c7b7480e029d6e04255d2a375e1ac65b1a1756b48486efde86bad6", func := "underwood/underwoodlaw.WordDoes", spec := "wordDoes", apart := false, narrowed := true }
def WordDoesUptoSaid : Prop := wordDoesUptoRow.holds Try.pinned (OpenSpec.upto wordDoesSpec)

/-- 'underwoodlaw.SideDoes', WHERE WHAT IT READS IS OF BULK AT MOST 1048576: true; the input reads as it did. -/
def sideDoesUptoRow : OpenClaim := { program := "ytjifdalflepcoaa", sum := "c5ad59bd96c7b7480e029d6e04255d2a375e1ac65b1a1756b48486efde86bad6", func := "underwood/underwoodlaw.SideDoes", spec := "sideDoes", unfollowed := true, recurses := true, apart := false, narrowed := true }
def SideDoesUptoSaid : Prop := sideDoesUptoRow.holds Try.pinned (OpenSpec.upto sideDoesSpec)

/-- 'underwoodlaw.ArenaFull', WHERE WHAT IT READS IS OF BULK AT MOST 1048576: true; the input reads as it did. -/
def arenaFullUptoRow : OpenClaim := { program := "ytjifdalflepcoaa", sum := "c5ad59bd96c7b7480e029d6e04255d2a375e1ac65b1a1756b48486efde86bad6", func := "underwood/underwoodlaw.ArenaFull", spec := "arenaFull", unfollowed := true, recurses := true, apart := false, narrowed := true }
def ArenaFullUptoSaid : Prop := arenaFullUptoRow.holds Try.pinned (OpenSpec.upto arenaFullSpec)

/-- 'underwoodlaw.ArenaApart', WHERE WHAT IT READS IS OF BULK AT MOST 1048576: true; the input reads as it did. -/
def arenaApartUptoRow : OpenClaim := { program := "ytjifdalflepcoaa", sum := "c5ad59bd96c7b7480e029d6e04255d2a375e1ac65b1a1756b48486efde86bad6", func := "underwood/underwoodlaw.ArenaApart", spec := "arenaApart", unfollowed := true, recurses := true, apart := false, narrowed := true }
def ArenaApartUptoSaid : Prop := arenaApartUptoRow.holds Try.pinned (OpenSpec.upto arenaApartSpec)

end Rows
end Go.Proofs.Ytjifdalflepcoaa
