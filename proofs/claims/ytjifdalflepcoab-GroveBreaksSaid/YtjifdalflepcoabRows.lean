/-
  No cell of these rows narrows 'for every input' (looked for: loops, veiled, ifaces, maps, wideKeys, modest, calm, conditions, laid).
  DERIVED. THE GIVEN ROWS OF THIS SEAT. 11 by the template 'for every input the law returns true; each argument reads behind the call as it read before'; 0 by the template 'total and deterministic' (their statements: YtjifdalflepcoabTotals.lean).
  GIVEN WITH THE SEED: the statements are not yours to turn. If you find one false, say at which input.
  Laid BY PROGRAM, IN A SANDBOX (cutbox-rows.mjs): the forced cells as the released guide's own fill.sh prints them over the translation 1b85d25cf70241fd… (all of the seat's roots in one cut). By AI agents, Wed Nov 11 2026. No macro, syntax, notation, axiom, sorry.
-/
import Derived.Test.YtjifdalflepcoabChecked
import GoSem.Claim
import GoSem.ClaimJoined
import GoSem.ClaimMapViews
import Derived.JoinedTies
import Derived.KernelRfl
namespace Go.Proofs.Ytjifdalflepcoab
/- THE CELL 'sum', in the pinned program and in every row, IS THE sha256 OF THE DUMP (.gsa) THAT YtjifdalflepcoabProg.lean LOADS. Nothing in Lean hashes anything: it is a label: what it is worth is what the hold of that sum in a sandbox is worth. -/
noncomputable def Try.pinned : Pinned := { name := "ytjifdalflepcoab", sum := "1b85d25cf70241fdf1e9c39cf42a194034803160b7ec74d4b35da7caadb927c4", checked := Try.checked }
namespace Rows
def none {H : Type} : Left H := { results := [], args := [] }

/-- 'underwoodlaw.ArenaMoves': WHATEVER THE INPUT: true; the input reads as it did. -/
def arenaMovesSpec : ChangeSpec := { name := "arenaMoves", fn := fun _ => fun
  | [d1, d2, d3, d4, d5, d6] => { results := [.lit (.bool true)], args := [d1, d2, d3, d4, d5, d6] }
  | _ => none }
def arenaMovesRow : OpenClaim := { program := "ytjifdalflepcoab", sum := "1b85d25cf70241fdf1e9c39cf42a194034803160b7ec74d4b35da7caadb927c4", func := "underwood/underwoodlaw.ArenaMoves", spec := "arenaMoves", unfollowed := true, recurses := true, apart := false }
def ArenaMovesSaid : Prop := arenaMovesRow.holds Try.pinned (OpenSpec.ofChange arenaMovesSpec)

/-- ITS FALSE NEIGHBOUR: 'it returns false'. Refute it at one input. -/
def arenaMovesWrong : ChangeSpec := { name := "arenaMoves", fn := fun _ => fun
  | [d1, d2, d3, d4, d5, d6] => { results := [.lit (.bool false)], args := [d1, d2, d3, d4, d5, d6] }
  | _ => none }
def ArenaMovesWrongFalsely : Prop := arenaMovesRow.holds Try.pinned (OpenSpec.ofChange arenaMovesWrong)

/-- 'underwoodlaw.ArenaDoes': WHATEVER THE INPUT: true; the input reads as it did. -/
def arenaDoesSpec : ChangeSpec := { name := "arenaDoes", fn := fun _ => fun
  | [d1, d2, d3] => { results := [.lit (.bool true)], args := [d1, d2, d3] }
  | _ => none }
def arenaDoesRow : OpenClaim := { program := "ytjifdalflepcoab", sum := "1b85d25cf70241fdf1e9c39cf42a194034803160b7ec74d4b35da7caadb927c4", func := "underwood/underwoodlaw.ArenaDoes", spec := "arenaDoes", unfollowed := true, recurses := true, apart := false }
def ArenaDoesSaid : Prop := arenaDoesRow.holds Try.pinned (OpenSpec.ofChange arenaDoesSpec)

/-- ITS FALSE NEIGHBOUR: 'it returns false'. Refute it at one input. -/
def arenaDoesWrong : ChangeSpec := { name := "arenaDoes", fn := fun _ => fun
  | [d1, d2, d3] => { results := [.lit (.bool false)], args := [d1, d2, d3] }
  | _ => none }
def ArenaDoesWrongFalsely : Prop := arenaDoesRow.holds Try.pinned (OpenSpec.ofChange arenaDoesWrong)

/-- 'underwoodlaw.WoodViews': WHATEVER THE INPUT: true; the input reads as it did. -/
def woodViewsSpec : ChangeSpec := { name := "woodViews", fn := fun _ => fun
  | [d1, d2, d3] => { results := [.lit (.bool true)], args := [d1, d2, d3] }
  | _ => none }
def woodViewsRow : OpenClaim := { program := "ytjifdalflepcoab", sum := "1b85d25cf70241fdf1e9c39cf42a194034803160b7ec74d4b35da7caadb927c4", func := "underwood/underwoodlaw.WoodViews", spec := "woodViews", unfollowed := true, recurses := true, apart := false }
def WoodViewsSaid : Prop := woodViewsRow.holds Try.pinned (OpenSpec.ofChange woodViewsSpec)

/-- ITS FALSE NEIGHBOUR: 'it returns false'. Refute it at one input. -/
def woodViewsWrong : ChangeSpec := { name := "woodViews", fn := fun _ => fun
  | [d1, d2, d3] => { results := [.lit (.bool false)], args := [d1, d2, d3] }
  | _ => none }
def WoodViewsWrongFalsely : Prop := woodViewsRow.holds Try.pinned (OpenSpec.ofChange woodViewsWrong)

/-- 'underwoodlaw.WoodDoes': WHATEVER THE INPUT: true; the input reads as it did. -/
def woodDoesSpec : ChangeSpec := { name := "woodDoes", fn := fun _ => fun
  | [d1, d2, d3] => { results := [.lit (.bool true)], args := [d1, d2, d3] }
  | _ => none }
def woodDoesRow : OpenClaim := { program := "ytjifdalflepcoab", sum := "1b85d25cf70241fdf1e9c39cf42a194034803160b7ec74d4b35da7caadb927c4", func := "underwood/underwoodlaw.WoodDoes", spec := "woodDoes", recurses := true, apart := false }
def WoodDoesSaid : Prop := woodDoesRow.holds Try.pinned (OpenSpec.ofChange woodDoesSpec)

/-- ITS FALSE NEIGHBOUR: 'it returns false'. Refute it at one input. -/
def woodDoesWrong : ChangeSpec := { name := "woodDoes", fn := fun _ => fun
  | [d1, d2, d3] => { results := [.lit (.bool false)], args := [d1, d2, d3] }
  | _ => none }
def WoodDoesWrongFalsely : Prop := woodDoesRow.holds Try.pinned (OpenSpec.ofChange woodDoesWrong)

/-- 'underwoodlaw.GroveDoes': WHATEVER THE INPUT: true; the input reads as it did. -/
def groveDoesSpec : ChangeSpec := { name := "groveDoes", fn := fun _ => fun
  | [d1, d2, d3] => { results := [.lit (.bool true)], args := [d1, d2, d3] }
  | _ => none }
def groveDoesRow : OpenClaim := { program := "ytjifdalflepcoab", sum := "1b85d25cf70241fdf1e9c39cf42a194034803160b7ec74d4b35da7caadb927c4", func := "underwood/underwoodlaw.GroveDoes", spec := "groveDoes", unfollowed := true, recurses := true, apart := false }
def GroveDoesSaid : Prop := groveDoesRow.holds Try.pinned (OpenSpec.ofChange groveDoesSpec)

/-- ITS FALSE NEIGHBOUR: 'it returns false'. Refute it at one input. -/
def groveDoesWrong : ChangeSpec := { name := "groveDoes", fn := fun _ => fun
  | [d1, d2, d3] => { results := [.lit (.bool false)], args := [d1, d2, d3] }
  | _ => none }
def GroveDoesWrongFalsely : Prop := groveDoesRow.holds Try.pinned (OpenSpec.ofChange groveDoesWrong)

/-- 'underwoodlaw.GroveBreaks': WHATEVER THE INPUT: true; the input reads as it did. -/
def groveBreaksSpec : ChangeSpec := { name := "groveBreaks", fn := fun _ => fun
  | [d1, d2, d3] => { results := [.lit (.bool true)], args := [d1, d2, d3] }
  | _ => none }
def groveBreaksRow : OpenClaim := { program := "ytjifdalflepcoab", sum := "1b85d25cf70241fdf1e9c39cf42a194034803160b7ec74d4b35da7caadb927c4", func := "underwood/underwoodlaw.GroveBreaks", spec := "groveBreaks", unfollowed := true, recurses := true, apart := false }
def GroveBreaksSaid : Prop := groveBreaksRow.holds Try.pinned (OpenSpec.ofChange groveBreaksSpec)

/-- ITS FALSE NEIGHBOUR: 'it returns false'. Refute it at one input. -/
def groveBreaksWrong : ChangeSpec := { name := "groveBreaks", fn := fun _ => fun
  | [d1, d2, d3] => { results := [.lit (.bool false)], args := [d1, d2, d3] }
  | _ => none }
def GroveBreaksWrongFalsely : Prop := groveBreaksRow.holds Try.pinned (OpenSpec.ofChange groveBreaksWrong)

/-- 'underwoodlaw.GroveGuards': WHATEVER THE INPUT: true; the input reads as it did. -/
def groveGuardsSpec : ChangeSpec := { name := "groveGuards", fn := fun _ => fun
  | [d1, d2, d3, d4, d5] => { results := [.lit (.bool true)], args := [d1, d2, d3, d4, d5] }
  | _ => none }
def groveGuardsRow : OpenClaim := { program := "ytjifdalflepcoab", sum := "1b85d25cf70241fdf1e9c39cf42a194034803160b7ec74d4b35da7caadb927c4", func := "underwood/underwoodlaw.GroveGuards", spec := "groveGuards", unfollowed := true, recurses := true, apart := false }
def GroveGuardsSaid : Prop := groveGuardsRow.holds Try.pinned (OpenSpec.ofChange groveGuardsSpec)

/-- ITS FALSE NEIGHBOUR: 'it returns false'. Refute it at one input. -/
def groveGuardsWrong : ChangeSpec := { name := "groveGuards", fn := fun _ => fun
  | [d1, d2, d3, d4, d5] => { results := [.lit (.bool false)], args := [d1, d2, d3, d4, d5] }
  | _ => none }
def GroveGuardsWrongFalsely : Prop := groveGuardsRow.holds Try.pinned (OpenSpec.ofChange groveGuardsWrong)

/-- 'underwoodlaw.GroveWeak': WHATEVER THE INPUT: true; the input reads as it did. -/
def groveWeakSpec : ChangeSpec := { name := "groveWeak", fn := fun _ => fun
  | [d1, d2, d3, d4] => { results := [.lit (.bool true)], args := [d1, d2, d3, d4] }
  | _ => none }
def groveWeakRow : OpenClaim := { program := "ytjifdalflepcoab", sum := "1b85d25cf70241fdf1e9c39cf42a194034803160b7ec74d4b35da7caadb927c4", func := "underwood/underwoodlaw.GroveWeak", spec := "groveWeak", unfollowed := true, recurses := true, apart := false }
def GroveWeakSaid : Prop := groveWeakRow.holds Try.pinned (OpenSpec.ofChange groveWeakSpec)

/-- ITS FALSE NEIGHBOUR: 'it returns false'. Refute it at one input. -/
def groveWeakWrong : ChangeSpec := { name := "groveWeak", fn := fun _ => fun
  | [d1, d2, d3, d4] => { results := [.lit (.bool false)], args := [d1, d2, d3, d4] }
  | _ => none }
def GroveWeakWrongFalsely : Prop := groveWeakRow.holds Try.pinned (OpenSpec.ofChange groveWeakWrong)

/-- 'underwoodlaw.MinorStrong': WHATEVER THE INPUT: true; the input reads as it did. -/
def minorStrongSpec : ChangeSpec := { name := "minorStrong", fn := fun _ => fun
  | [d1, d2, d3] => { results := [.lit (.bool true)], args := [d1, d2, d3] }
  | _ => none }
def minorStrongRow : OpenClaim := { program := "ytjifdalflepcoab", sum := "1b85d25cf70241fdf1e9c39cf42a194034803160b7ec74d4b35da7caadb927c4", func := "underwood/underwoodlaw.MinorStrong", spec := "minorStrong", unfollowed := true, recurses := true, apart := false }
def MinorStrongSaid : Prop := minorStrongRow.holds Try.pinned (OpenSpec.ofChange minorStrongSpec)

/-- ITS FALSE NEIGHBOUR: 'it returns false'. Refute it at one input. -/
def minorStrongWrong : ChangeSpec := { name := "minorStrong", fn := fun _ => fun
  | [d1, d2, d3] => { results := [.lit (.bool false)], args := [d1, d2, d3] }
  | _ => none }
def MinorStrongWrongFalsely : Prop := minorStrongRow.holds Try.pinned (OpenSpec.ofChange minorStrongWrong)

/-- 'underwoodlaw.MinorCards': WHATEVER THE INPUT: true; the input reads as it did. -/
def minorCardsSpec : ChangeSpec := { name := "minorCards", fn := fun _ => fun
  | [d1, d2, d3] => { results := [.lit (.bool true)], args := [d1, d2, d3] }
  | _ => none }
def minorCardsRow : OpenClaim := { program := "ytjifdalflepcoab", sum := "1b85d25cf70241fdf1e9c39cf42a194034803160b7ec74d4b35da7caadb927c4", func := "underwood/underwoodlaw.MinorCards", spec := "minorCards", unfollowed := true, recurses := true, apart := false }
def MinorCardsSaid : Prop := minorCardsRow.holds Try.pinned (OpenSpec.ofChange minorCardsSpec)

/-- ITS FALSE NEIGHBOUR: 'it returns false'. Refute it at one input. -/
def minorCardsWrong : ChangeSpec := { name := "minorCards", fn := fun _ => fun
  | [d1, d2, d3] => { results := [.lit (.bool false)], args := [d1, d2, d3] }
  | _ => none }
def MinorCardsWrongFalsely : Prop := minorCardsRow.holds Try.pinned (OpenSpec.ofChange minorCardsWrong)

/-- 'underwoodlaw.MinorDoes': WHATEVER THE INPUT: true; the input reads as it did. -/
def minorDoesSpec : ChangeSpec := { name := "minorDoes", fn := fun _ => fun
  | [d1, d2, d3] => { results := [.lit (.bool true)], args := [d1, d2, d3] }
  | _ => none }
def minorDoesRow : OpenClaim := { program := "ytjifdalflepcoab", sum := "1b85d25cf70241fdf1e9c39cf42a194034803160b7ec74d4b35da7caadb927c4", func := "underwood/underwoodlaw.MinorDoes", spec := "minorDoes", unfollowed := true, recurses := true, apart := false }
def MinorDoesSaid : Prop := minorDoesRow.holds Try.pinned (OpenSpec.ofChange minorDoesSpec)

/-- ITS FALSE NEIGHBOUR: 'it returns false'. Refute it at one input. -/
def minorDoesWrong : ChangeSpec := { name := "minorDoes", fn := fun _ => fun
  | [d1, d2, d3] => { results := [.lit (.bool false)], args := [d1, d2, d3] }
  | _ => none }
def MinorDoesWrongFalsely : Prop := minorDoesRow.holds Try.pinned (OpenSpec.ofChange minorDoesWrong)

/- THE SECOND FORM. 'bulk': how many values and letters a reading holds, each counted each time it is reached (what is shared counts as often as it is met; a slice's spare places count too). A statement '..UptoSaid' is the law's where the arguments, and the package variables that the reading takes, are together of bulk at most 1048576: NARROWER than '..Said'. Prove '..Said' where nothing that the law and all that it calls make is longer than what came in: it says more and counts as full. Else prove '..UptoSaid'. A law counts once. -/
mutual
def uptoBulk {H : Type} : DataW H → Nat
  | .lit (.string bytes) => bytes.length + 1
  | .lit _ => 1
  | .nil => 1
  | .ptr d => uptoBulk d + 1
  | .slice elems spare => uptoBulkAll elems + uptoBulkAll spare + 1
  | .agg parts => uptoBulkAll parts + 1
  | .iface _ d => uptoBulk d + 1
  | .map entries => uptoBulkEntries entries + 1
  | .held _ => 1
def uptoBulkAll {H : Type} : List (DataW H) → Nat
  | [] => 0
  | d :: r => uptoBulk d + uptoBulkAll r
def uptoBulkEntries {H : Type} : List (Lit × DataW H) → Nat
  | [] => 0
  | x :: r => uptoBulkEntry x + uptoBulkEntries r
def uptoBulkEntry {H : Type} : Lit × DataW H → Nat
  | (.string bytes, d) => bytes.length + uptoBulk d + 1
  | (_, d) => uptoBulk d + 1
 end
def uptoSmall : (H : Type) → List (DataW H) → Bool := fun _ ds => decide (uptoBulkAll ds ≤ 1048576)
def OpenSpec.upto (s : _root_.Go.ChangeSpec) : _root_.Go.OpenSpec := { _root_.Go.OpenSpec.ofChange s with cond := some uptoSmall }

/-- 'underwoodlaw.ArenaMoves', WHERE WHAT IT READS IS OF BULK AT MOST 1048576: true; the input reads as it did. -/
def arenaMovesUptoRow : OpenClaim := { program := "ytjifdalflepcoab", sum := "1b85d25cf70241fdf1e9c39cf42a194034803160b7ec74d4b35da7caadb927c4", func := "underwood/underwoodlaw.ArenaMoves", spec := "arenaMoves", unfollowed := true, recurses := true, apart := false, narrowed := true }
def ArenaMovesUptoSaid : Prop := arenaMovesUptoRow.holds Try.pinned (OpenSpec.upto arenaMovesSpec)

/-- 'underwoodlaw.ArenaDoes', WHERE WHAT IT READS IS OF BULK AT MOST 1048576: true; the input reads as it did. -/
def arenaDoesUptoRow : OpenClaim := { program := "ytjifdalflepcoab", sum := "1b85d25cf70241fdf1e9c39cf42a194034803160b7ec74d4b35da7caadb927c4", func := "underwood/underwoodlaw.ArenaDoes", spec := "arenaDoes", unfollowed := true, recurses := true, apart := false, narrowed := true }
def ArenaDoesUptoSaid : Prop := arenaDoesUptoRow.holds Try.pinned (OpenSpec.upto arenaDoesSpec)

/-- 'underwoodlaw.WoodViews', WHERE WHAT IT READS IS OF BULK AT MOST 1048576: true; the input reads as it did. -/
def woodViewsUptoRow : OpenClaim := { program := "ytjifdalflepcoab", sum := "1b85d25cf70241fdf1e9c39cf42a194034803160b7ec74d4b35da7caadb927c4", func := "underwood/underwoodlaw.WoodViews", spec := "woodViews", unfollowed := true, recurses := true, apart := false, narrowed := true }
def WoodViewsUptoSaid : Prop := woodViewsUptoRow.holds Try.pinned (OpenSpec.upto woodViewsSpec)

/-- 'underwoodlaw.WoodDoes', WHERE WHAT IT READS IS OF BULK AT MOST 1048576: true; the input reads as it did. -/
def woodDoesUptoRow : OpenClaim := { program := "ytjifdalflepcoab", sum := "1b85d25cf70241fdf1e9c39cf42a194034803160b7ec74d4b35da7caadb927c4", func := "underwood/underwoodlaw.WoodDoes", spec := "woodDoes", recurses := true, apart := false, narrowed := true }
def WoodDoesUptoSaid : Prop := woodDoesUptoRow.holds Try.pinned (OpenSpec.upto woodDoesSpec)

/-- 'underwoodlaw.GroveDoes', WHERE WHAT IT READS IS OF BULK AT MOST 1048576: true; the input reads as it did. -/
def groveDoesUptoRow : OpenClaim := { program := "ytjifdalflepcoab", sum := "1b85d25cf70241fdf1e9c39cf42a194034803160b7ec74d4b35da7caadb927c4", func := "underwood/underwoodlaw.GroveDoes", spec := "groveDoes", unfollowed := true, recurses := true, apart := false, narrowed := true }
def GroveDoesUptoSaid : Prop := groveDoesUptoRow.holds Try.pinned (OpenSpec.upto groveDoesSpec)

/-- 'underwoodlaw.GroveBreaks', WHERE WHAT IT READS IS OF BULK AT MOST 1048576: true; the input reads as it did. -/
def groveBreaksUptoRow : OpenClaim := { program := "ytjifdalflepcoab", sum := "1b85d25cf70241fdf1e9c39cf42a194034803160b7ec74d4b35da7caadb927c4", func := "underwood/underwoodlaw.GroveBreaks", spec := "groveBreaks", unfollowed := true, recurses := true, apart := false, narrowed := true }
def GroveBreaksUptoSaid : Prop := groveBreaksUptoRow.holds Try.pinned (OpenSpec.upto groveBreaksSpec)

/-- 'underwoodlaw.GroveGuards', WHERE WHAT IT READS IS OF BULK AT MOST 1048576: true; the input reads as it did. -/
def groveGuardsUptoRow : OpenClaim := { program := "ytjifdalflepcoab", sum := "1b85d25cf70241fdf1e9c39cf42a194034803160b7ec74d4b35da7caadb927c4", func := "underwood/underwoodlaw.GroveGuards", spec := "groveGuards", unfollowed := true, recurses := true, apart := false, narrowed := true }
def GroveGuardsUptoSaid : Prop := groveGuardsUptoRow.holds Try.pinned (OpenSpec.upto groveGuardsSpec)

/-- 'underwoodlaw.GroveWeak', WHERE WHAT IT READS IS OF BULK AT MOST 1048576: true; the input reads as it did. -/
def groveWeakUptoRow : OpenClaim := { program := "ytjifdalflepcoab", sum := "1b85d25cf70241fdf1e9c39cf42a194034803160b7ec74d4b35da7caadb927c4", func := "underwood/underwoodlaw.GroveWeak", spec := "groveWeak", unfollowed := true, recurses := true, apart := false, narrowed := true }
def GroveWeakUptoSaid : Prop := groveWeakUptoRow.holds Try.pinned (OpenSpec.upto groveWeakSpec)

/-- 'underwoodlaw.MinorStrong', WHERE WHAT IT READS IS OF BULK AT MOST 1048576: true; the input reads as it did. -/
def minorStrongUptoRow : OpenClaim := { program := "ytjifdalflepcoab", sum := "1b85d25cf70241fdf1e9c39cf42a194034803160b7ec74d4b35da7caadb927c4", func := "underwood/underwoodlaw.MinorStrong", spec := "minorStrong", unfollowed := true, recurses := true, apart := false, narrowed := true }
def MinorStrongUptoSaid : Prop := minorStrongUptoRow.holds Try.pinned (OpenSpec.upto minorStrongSpec)

/-- 'underwoodlaw.MinorCards', WHERE WHAT IT READS IS OF BULK AT MOST 1048576: true; the input reads as it did. -/
def minorCardsUptoRow : OpenClaim := { program := "ytjifdalflepcoab", sum := "1b85d25cf70241fdf1e9c39cf42a194034803160b7ec74d4b35da7caadb927c4", func := "underwood/underwoodlaw.MinorCards", spec := "minorCards", unfollowed := true, recurses := true, apart := false, narrowed := true }
def MinorCardsUptoSaid : Prop := minorCardsUptoRow.holds Try.pinned (OpenSpec.upto minorCardsSpec)

/-- 'underwoodlaw.MinorDoes', WHERE WHAT IT READS IS OF BULK AT MOST 1048576: true; the input reads as it did. -/
def minorDoesUptoRow : OpenClaim := { program := "ytjifdalflepcoab", sum := "1b85d25cf70241fdf1e9c39cf42a194034803160b7ec74d4b35da7caadb927c4", func := "underwood/underwoodlaw.MinorDoes", spec := "minorDoes", unfollowed := true, recurses := true, apart := false, narrowed := true }
def MinorDoesUptoSaid : Prop := minorDoesUptoRow.holds Try.pinned (OpenSpec.upto minorDoesSpec)

end Rows
end Go.Proofs.Ytjifdalflepcoab
