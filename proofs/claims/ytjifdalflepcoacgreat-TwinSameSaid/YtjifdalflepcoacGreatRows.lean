/-
  No cell of these rows narrows 'for every input' (looked for: loops, veiled, ifaces, maps, wideKeys, modest, calm, conditions, laid).
  DERIVED. THE GIVEN ROWS OF THIS SEAT. 9 by the template 'for every input the law returns true; each argument reads behind the call as it read before'; 0 by the template 'total and deterministic' (their statements: YtjifdalflepcoacGreatTotals.lean).
  GIVEN WITH THE SEED: the statements are not yours to turn. If you find one false, say at which input.
  Laid BY PROGRAM, IN A SANDBOX (cutbox-rows.mjs): the forced cells as the released guide's own fill.sh prints them over the translation f996416f5afaa8a4… (all of the seat's roots in one cut). By AI agents, Wed Nov 11 2026. No macro, syntax, notation, axiom, sorry.
-/
import Derived.Test.YtjifdalflepcoacGreatChecked
import GoSem.Claim
import GoSem.ClaimJoined
import GoSem.ClaimMapViews
import Derived.JoinedTies
import Derived.KernelRfl
namespace Go.Proofs.YtjifdalflepcoacGreat
/- THE CELL 'sum', in the pinned program and in every row, IS THE sha256 OF THE DUMP (.gsa) THAT YtjifdalflepcoacGreatProg.lean LOADS. Nothing in Lean hashes anything: it is a label: what it is worth is what the hold of that sum in a sandbox is worth. -/
noncomputable def Tryz.pinned : Pinned := { name := "ytjifdalflepcoacgreat", sum := "f996416f5afaa8a4b9f0f0dd54510acc095d24c1745e00cb82bf8b0c04feee69", checked := Tryz.checked }
namespace Rows
def none {H : Type} : Left H := { results := [], args := [] }

/-- 'underwoodlaw.MajorLeast': WHATEVER THE INPUT: true; the input reads as it did. -/
def majorLeastSpec : ChangeSpec := { name := "majorLeast", fn := fun _ => fun
  | [d1, d2, d3] => { results := [.lit (.bool true)], args := [d1, d2, d3] }
  | _ => none }
def majorLeastRow : OpenClaim := { program := "ytjifdalflepcoacgreat", sum := "f996416f5afaa8a4b9f0f0dd54510acc095d24c1745e00cb82bf8b0c04feee69", func := "underwood/underwoodlaw.MajorLeast", spec := "majorLeast", unfollowed := true, recurses := true, apart := false }
def MajorLeastSaid : Prop := majorLeastRow.holds Tryz.pinned (OpenSpec.ofChange majorLeastSpec)

/-- ITS FALSE NEIGHBOUR: 'it returns false'. Refute it at one input. -/
def majorLeastWrong : ChangeSpec := { name := "majorLeast", fn := fun _ => fun
  | [d1, d2, d3] => { results := [.lit (.bool false)], args := [d1, d2, d3] }
  | _ => none }
def MajorLeastWrongFalsely : Prop := majorLeastRow.holds Tryz.pinned (OpenSpec.ofChange majorLeastWrong)

/-- 'underwoodlaw.MajorAgain': WHATEVER THE INPUT: true; the input reads as it did. -/
def majorAgainSpec : ChangeSpec := { name := "majorAgain", fn := fun _ => fun
  | [d1, d2, d3] => { results := [.lit (.bool true)], args := [d1, d2, d3] }
  | _ => none }
def majorAgainRow : OpenClaim := { program := "ytjifdalflepcoacgreat", sum := "f996416f5afaa8a4b9f0f0dd54510acc095d24c1745e00cb82bf8b0c04feee69", func := "underwood/underwoodlaw.MajorAgain", spec := "majorAgain", unfollowed := true, recurses := true, apart := false }
def MajorAgainSaid : Prop := majorAgainRow.holds Tryz.pinned (OpenSpec.ofChange majorAgainSpec)

/-- ITS FALSE NEIGHBOUR: 'it returns false'. Refute it at one input. -/
def majorAgainWrong : ChangeSpec := { name := "majorAgain", fn := fun _ => fun
  | [d1, d2, d3] => { results := [.lit (.bool false)], args := [d1, d2, d3] }
  | _ => none }
def MajorAgainWrongFalsely : Prop := majorAgainRow.holds Tryz.pinned (OpenSpec.ofChange majorAgainWrong)

/-- 'underwoodlaw.MajorSlides': WHATEVER THE INPUT: true; the input reads as it did. -/
def majorSlidesSpec : ChangeSpec := { name := "majorSlides", fn := fun _ => fun
  | [d1, d2, d3] => { results := [.lit (.bool true)], args := [d1, d2, d3] }
  | _ => none }
def majorSlidesRow : OpenClaim := { program := "ytjifdalflepcoacgreat", sum := "f996416f5afaa8a4b9f0f0dd54510acc095d24c1745e00cb82bf8b0c04feee69", func := "underwood/underwoodlaw.MajorSlides", spec := "majorSlides", unfollowed := true, recurses := true, apart := false }
def MajorSlidesSaid : Prop := majorSlidesRow.holds Tryz.pinned (OpenSpec.ofChange majorSlidesSpec)

/-- ITS FALSE NEIGHBOUR: 'it returns false'. Refute it at one input. -/
def majorSlidesWrong : ChangeSpec := { name := "majorSlides", fn := fun _ => fun
  | [d1, d2, d3] => { results := [.lit (.bool false)], args := [d1, d2, d3] }
  | _ => none }
def MajorSlidesWrongFalsely : Prop := majorSlidesRow.holds Tryz.pinned (OpenSpec.ofChange majorSlidesWrong)

/-- 'underwoodlaw.MajorDoes': WHATEVER THE INPUT: true; the input reads as it did. -/
def majorDoesSpec : ChangeSpec := { name := "majorDoes", fn := fun _ => fun
  | [d1, d2, d3] => { results := [.lit (.bool true)], args := [d1, d2, d3] }
  | _ => none }
def majorDoesRow : OpenClaim := { program := "ytjifdalflepcoacgreat", sum := "f996416f5afaa8a4b9f0f0dd54510acc095d24c1745e00cb82bf8b0c04feee69", func := "underwood/underwoodlaw.MajorDoes", spec := "majorDoes", unfollowed := true, recurses := true, apart := false }
def MajorDoesSaid : Prop := majorDoesRow.holds Tryz.pinned (OpenSpec.ofChange majorDoesSpec)

/-- ITS FALSE NEIGHBOUR: 'it returns false'. Refute it at one input. -/
def majorDoesWrong : ChangeSpec := { name := "majorDoes", fn := fun _ => fun
  | [d1, d2, d3] => { results := [.lit (.bool false)], args := [d1, d2, d3] }
  | _ => none }
def MajorDoesWrongFalsely : Prop := majorDoesRow.holds Tryz.pinned (OpenSpec.ofChange majorDoesWrong)

/-- 'underwoodlaw.HeapDoes': WHATEVER THE INPUT: true; the input reads as it did. -/
def heapDoesSpec : ChangeSpec := { name := "heapDoes", fn := fun _ => fun
  | [d1, d2, d3] => { results := [.lit (.bool true)], args := [d1, d2, d3] }
  | _ => none }
def heapDoesRow : OpenClaim := { program := "ytjifdalflepcoacgreat", sum := "f996416f5afaa8a4b9f0f0dd54510acc095d24c1745e00cb82bf8b0c04feee69", func := "underwood/underwoodlaw.HeapDoes", spec := "heapDoes", unfollowed := true, recurses := true, apart := false }
def HeapDoesSaid : Prop := heapDoesRow.holds Tryz.pinned (OpenSpec.ofChange heapDoesSpec)

/-- ITS FALSE NEIGHBOUR: 'it returns false'. Refute it at one input. -/
def heapDoesWrong : ChangeSpec := { name := "heapDoes", fn := fun _ => fun
  | [d1, d2, d3] => { results := [.lit (.bool false)], args := [d1, d2, d3] }
  | _ => none }
def HeapDoesWrongFalsely : Prop := heapDoesRow.holds Tryz.pinned (OpenSpec.ofChange heapDoesWrong)

/-- 'underwoodlaw.TwinSame': WHATEVER THE INPUT: true; the input reads as it did. -/
def twinSameSpec : ChangeSpec := { name := "twinSame", fn := fun _ => fun
  | [d1, d2, d3] => { results := [.lit (.bool true)], args := [d1, d2, d3] }
  | _ => none }
def twinSameRow : OpenClaim := { program := "ytjifdalflepcoacgreat", sum := "f996416f5afaa8a4b9f0f0dd54510acc095d24c1745e00cb82bf8b0c04feee69", func := "underwood/underwoodlaw.TwinSame", spec := "twinSame", unfollowed := true, recurses := true, apart := false }
def TwinSameSaid : Prop := twinSameRow.holds Tryz.pinned (OpenSpec.ofChange twinSameSpec)

/-- ITS FALSE NEIGHBOUR: 'it returns false'. Refute it at one input. -/
def twinSameWrong : ChangeSpec := { name := "twinSame", fn := fun _ => fun
  | [d1, d2, d3] => { results := [.lit (.bool false)], args := [d1, d2, d3] }
  | _ => none }
def TwinSameWrongFalsely : Prop := twinSameRow.holds Tryz.pinned (OpenSpec.ofChange twinSameWrong)

/-- 'underwoodlaw.TwinDoes': WHATEVER THE INPUT: true; the input reads as it did. -/
def twinDoesSpec : ChangeSpec := { name := "twinDoes", fn := fun _ => fun
  | [d1, d2, d3, d4] => { results := [.lit (.bool true)], args := [d1, d2, d3, d4] }
  | _ => none }
def twinDoesRow : OpenClaim := { program := "ytjifdalflepcoacgreat", sum := "f996416f5afaa8a4b9f0f0dd54510acc095d24c1745e00cb82bf8b0c04feee69", func := "underwood/underwoodlaw.TwinDoes", spec := "twinDoes", unfollowed := true, recurses := true, apart := false }
def TwinDoesSaid : Prop := twinDoesRow.holds Tryz.pinned (OpenSpec.ofChange twinDoesSpec)

/-- ITS FALSE NEIGHBOUR: 'it returns false'. Refute it at one input. -/
def twinDoesWrong : ChangeSpec := { name := "twinDoes", fn := fun _ => fun
  | [d1, d2, d3, d4] => { results := [.lit (.bool false)], args := [d1, d2, d3, d4] }
  | _ => none }
def TwinDoesWrongFalsely : Prop := twinDoesRow.holds Tryz.pinned (OpenSpec.ofChange twinDoesWrong)

/-- 'underwoodlaw.TwinRoom': WHATEVER THE INPUT: true; the input reads as it did. -/
def twinRoomSpec : ChangeSpec := { name := "twinRoom", fn := fun _ => fun
  | [d1, d2, d3] => { results := [.lit (.bool true)], args := [d1, d2, d3] }
  | _ => none }
def twinRoomRow : OpenClaim := { program := "ytjifdalflepcoacgreat", sum := "f996416f5afaa8a4b9f0f0dd54510acc095d24c1745e00cb82bf8b0c04feee69", func := "underwood/underwoodlaw.TwinRoom", spec := "twinRoom", unfollowed := true, recurses := true, apart := false }
def TwinRoomSaid : Prop := twinRoomRow.holds Tryz.pinned (OpenSpec.ofChange twinRoomSpec)

/-- ITS FALSE NEIGHBOUR: 'it returns false'. Refute it at one input. -/
def twinRoomWrong : ChangeSpec := { name := "twinRoom", fn := fun _ => fun
  | [d1, d2, d3] => { results := [.lit (.bool false)], args := [d1, d2, d3] }
  | _ => none }
def TwinRoomWrongFalsely : Prop := twinRoomRow.holds Tryz.pinned (OpenSpec.ofChange twinRoomWrong)

/-- 'underwoodlaw.TraceRuns': WHATEVER THE INPUT: true; the input reads as it did. -/
def traceRunsSpec : ChangeSpec := { name := "traceRuns", fn := fun _ => fun
  | [d1, d2, d3] => { results := [.lit (.bool true)], args := [d1, d2, d3] }
  | _ => none }
def traceRunsRow : OpenClaim := { program := "ytjifdalflepcoacgreat", sum := "f996416f5afaa8a4b9f0f0dd54510acc095d24c1745e00cb82bf8b0c04feee69", func := "underwood/underwoodlaw.TraceRuns", spec := "traceRuns", unfollowed := true, recurses := true, apart := false }
def TraceRunsSaid : Prop := traceRunsRow.holds Tryz.pinned (OpenSpec.ofChange traceRunsSpec)

/-- ITS FALSE NEIGHBOUR: 'it returns false'. Refute it at one input. -/
def traceRunsWrong : ChangeSpec := { name := "traceRuns", fn := fun _ => fun
  | [d1, d2, d3] => { results := [.lit (.bool false)], args := [d1, d2, d3] }
  | _ => none }
def TraceRunsWrongFalsely : Prop := traceRunsRow.holds Tryz.pinned (OpenSpec.ofChange traceRunsWrong)

/- THE SECOND FORM. 'bulk': how many values and letters a reading holds, each counted each time it is reached (what is shared counts as often as it is met; a slice's spare places count too). A statement '..UptoSaid' is the law's where the arguments, and the package variables that the reading takes, are together of bulk at most 1048576: NARROWER than '..Said'. Prove '..Said' where nothing that the law and all that it calls make is longer than what came in: it says more and counts as full. Else prove '..UptoSaid'. A law counts once. -/
mutual
def uptoBulk {H : Type} : DataW H → Nat
  | .lit (.string bytes) => bytes.length + 1
  | .lit _ => 1
  | .nil => 1
  | .ptr d => uptoBulk d + 1
  | .slice elems spare => uptoBulkAll elems + uptoBulkAll spare + 1
  | .agg parts => uptoBulkAll parts + 1
  | .iface _ d => uptoBulk d + 1
  | .map entries => uptoBulkEntries entries + 1
  | .held _ => 1
def uptoBulkAll {H : Type} : List (DataW H) → Nat
  | [] => 0
  | d :: r => uptoBulk d + uptoBulkAll r
def uptoBulkEntries {H : Type} : List (Lit × DataW H) → Nat
  | [] => 0
  | x :: r => uptoBulkEntry x + uptoBulkEntries r
def uptoBulkEntry {H : Type} : Lit × DataW H → Nat
  | (.string bytes, d) => bytes.length + uptoBulk d + 1
  | (_, d) => uptoBulk d + 1
 end
def uptoSmall : (H : Type) → List (DataW H) → Bool := fun _ ds => decide (uptoBulkAll ds ≤ 1048576)
def OpenSpec.upto (s : _root_.Go.ChangeSpec) : _root_.Go.OpenSpec := { _root_.Go.OpenSpec.ofChange s with cond := some uptoSmall }

/-- 'underwoodlaw.MajorLeast', WHERE WHAT IT READS IS OF BULK AT MOST 1048576: true; the input reads as it did. -/
def majorLeastUptoRow : OpenClaim := { program := "ytjifdalflepcoacgreat", sum := "f996416f5afaa8a4b9f0f0dd54510acc095d24c1745e00cb82bf8b0c04feee69", func := "underwood/underwoodlaw.MajorLeast", spec := "majorLeast", unfollowed := true, recurses := true, apart := false, narrowed := true }
def MajorLeastUptoSaid : Prop := majorLeastUptoRow.holds Tryz.pinned (OpenSpec.upto majorLeastSpec)

/-- 'underwoodlaw.MajorAgain', WHERE WHAT IT READS IS OF BULK AT MOST 1048576: true; the input reads as it did. -/
def majorAgainUptoRow : OpenClaim := { program := "ytjifdalflepcoacgreat", sum := "f996416f5afaa8a4b9f0f0dd54510acc095d24c1745e00cb82bf8b0c04feee69", func := "underwood/underwoodlaw.MajorAgain", spec := "majorAgain", unfollowed := true, recurses := true, apart := false, narrowed := true }
def MajorAgainUptoSaid : Prop := majorAgainUptoRow.holds Tryz.pinned (OpenSpec.upto majorAgainSpec)

/-- 'underwoodlaw.MajorSlides', WHERE WHAT IT READS IS OF BULK AT MOST 1048576: true; the input reads as it did. -/
def majorSlidesUptoRow : OpenClaim := { program := "ytjifdalflepcoacgreat", sum := "f996416f5afaa8a4b9f0f0dd54510acc095d24c1745e00cb82bf8b0c04feee69", func := "underwood/underwoodlaw.MajorSlides", spec := "majorSlides", unfollowed := true, recurses := true, apart := false, narrowed := true }
def MajorSlidesUptoSaid : Prop := majorSlidesUptoRow.holds Tryz.pinned (OpenSpec.upto majorSlidesSpec)

/-- 'underwoodlaw.MajorDoes', WHERE WHAT IT READS IS OF BULK AT MOST 1048576: true; the input reads as it did. -/
def majorDoesUptoRow : OpenClaim := { program := "ytjifdalflepcoacgreat", sum := "f996416f5afaa8a4b9f0f0dd54510acc095d24c1745e00cb82bf8b0c04feee69", func := "underwood/underwoodlaw.MajorDoes", spec := "majorDoes", unfollowed := true, recurses := true, apart := false, narrowed := true }
def MajorDoesUptoSaid : Prop := majorDoesUptoRow.holds Tryz.pinned (OpenSpec.upto majorDoesSpec)

/-- 'underwoodlaw.HeapDoes', WHERE WHAT IT READS IS OF BULK AT MOST 1048576: true; the input reads as it did. -/
def heapDoesUptoRow : OpenClaim := { program := "ytjifdalflepcoacgreat", sum := "f996416f5afaa8a4b9f0f0dd54510acc095d24c1745e00cb82bf8b0c04feee69", func := "underwood/underwoodlaw.HeapDoes", spec := "heapDoes", unfollowed := true, recurses := true, apart := false, narrowed := true }
def HeapDoesUptoSaid : Prop := heapDoesUptoRow.holds Tryz.pinned (OpenSpec.upto heapDoesSpec)

/-- 'underwoodlaw.TwinSame', WHERE WHAT IT READS IS OF BULK AT MOST 1048576: true; the input reads as it did. -/
def twinSameUptoRow : OpenClaim := { program := "ytjifdalflepcoacgreat", sum := "f996416f5afaa8a4b9f0f0dd54510acc095d24c1745e00cb82bf8b0c04feee69", func := "underwood/underwoodlaw.TwinSame", spec := "twinSame", unfollowed := true, recurses := true, apart := false, narrowed := true }
def TwinSameUptoSaid : Prop := twinSameUptoRow.holds Tryz.pinned (OpenSpec.upto twinSameSpec)

/-- 'underwoodlaw.TwinDoes', WHERE WHAT IT READS IS OF BULK AT MOST 1048576: true; the input reads as it did. -/
def twinDoesUptoRow : OpenClaim := { program := "ytjifdalflepcoacgreat", sum := "f996416f5afaa8a4b9f0f0dd54510acc095d24c1745e00cb82bf8b0c04feee69", func := "underwood/underwoodlaw.TwinDoes", spec := "twinDoes", unfollowed := true, recurses := true, apart := false, narrowed := true }
def TwinDoesUptoSaid : Prop := twinDoesUptoRow.holds Tryz.pinned (OpenSpec.upto twinDoesSpec)

/-- 'underwoodlaw.TwinRoom', WHERE WHAT IT READS IS OF BULK AT MOST 1048576: true; the input reads as it did. -/
def twinRoomUptoRow : OpenClaim := { program := "ytjifdalflepcoacgreat", sum := "f996416f5afaa8a4b9f0f0dd54510acc095d24c1745e00cb82bf8b0c04feee69", func := "underwood/underwoodlaw.TwinRoom", spec := "twinRoom", unfollowed := true, recurses := true, apart := false, narrowed := true }
def TwinRoomUptoSaid : Prop := twinRoomUptoRow.holds Tryz.pinned (OpenSpec.upto twinRoomSpec)

/-- 'underwoodlaw.TraceRuns', WHERE WHAT IT READS IS OF BULK AT MOST 1048576: true; the input reads as it did. -/
def traceRunsUptoRow : OpenClaim := { program := "ytjifdalflepcoacgreat", sum := "f996416f5afaa8a4b9f0f0dd54510acc095d24c1745e00cb82bf8b0c04feee69", func := "underwood/underwoodlaw.TraceRuns", spec := "traceRuns", unfollowed := true, recurses := true, apart := false, narrowed := true }
def TraceRunsUptoSaid : Prop := traceRunsUptoRow.holds Tryz.pinned (OpenSpec.upto traceRunsSpec)

end Rows
end Go.Proofs.YtjifdalflepcoacGreat
