/-
  No cell of these rows narrows 'for every input' (looked for: loops, veiled, ifaces, maps, wideKeys, modest, calm, conditions, laid).
  DERIVED. THE GIVEN ROWS OF THIS SEAT. 10 by the template 'for every input the law returns true; each argument reads behind the call as it read before'; 0 by the template 'total and deterministic' (their statements: YtjngmhngedecdaaTotals.lean).
  GIVEN WITH THE SEED: the statements are not yours to turn. If you find one false, say at which input.
  Laid BY PROGRAM, IN A SANDBOX (cutbox-rows.mjs): the forced cells as the released guide's own fill.sh prints them over the translation 9bbd093d200008d6… (all of the seat's roots in one cut). By AI agents, Wed Nov 11 2026. No macro, syntax, notation, axiom, sorry.
-/
import Derived.Test.YtjngmhngedecdaaChecked
import GoSem.Claim
import GoSem.ClaimJoined
import GoSem.ClaimMapViews
import Derived.JoinedTies
import Derived.KernelRfl
namespace Go.Proofs.Ytjngmhngedecdaa
/- THE CELL 'sum', in the pinned program and in every row, IS THE sha256 OF THE DUMP (.gsa) THAT YtjngmhngedecdaaProg.lean LOADS. Nothing in Lean hashes anything: it is a label: what it is worth is what the hold of that sum in a sandbox is worth. -/
noncomputable def Try.pinned : Pinned := { name := "ytjngmhngedecdaa", sum := "9bbd093d200008d671bf57f364c70bc4bc630cb152886e7c5e406e5222d1a10f", checked := Try.checked }
namespace Rows
def none {H : Type} : Left H := { results := [], args := [] }

/-- 'laws.FnExactReverseHunks': WHATEVER THE INPUT: true; the input reads as it did. -/
def fnExactReverseHunksSpec : ChangeSpec := { name := "fnExactReverseHunks", fn := fun _ => fun
  | [d] => { results := [.lit (.bool true)], args := [d] }
  | _ => none }
def fnExactReverseHunksRow : OpenClaim := { program := "ytjngmhngedecdaa", sum := "9bbd093d200008d671bf57f364c70bc4bc630cb152886e7c5e406e5222d1a10f", func := "loop.example/g00172/laws.FnExactReverseHunks", spec := "fnExactReverseHunks", inPlace := ["internal/bytealg.IndexByteString", "internal/bytealg.IndexString"], named := ["internal/bytealg.MaxLen"], apart := false }
def FnExactReverseHunksSaid : Prop := fnExactReverseHunksRow.holds Try.pinned (OpenSpec.ofChange fnExactReverseHunksSpec)

/-- ITS FALSE NEIGHBOUR: 'it returns false'. Refute it at one input. -/
def fnExactReverseHunksWrong : ChangeSpec := { name := "fnExactReverseHunks", fn := fun _ => fun
  | [d] => { results := [.lit (.bool false)], args := [d] }
  | _ => none }
def FnExactReverseHunksWrongFalsely : Prop := fnExactReverseHunksRow.holds Try.pinned (OpenSpec.ofChange fnExactReverseHunksWrong)

/-- 'laws.FnExactApplyHunks': WHATEVER THE INPUT: true; the input reads as it did. -/
def fnExactApplyHunksSpec : ChangeSpec := { name := "fnExactApplyHunks", fn := fun _ => fun
  | [d1, d2] => { results := [.lit (.bool true)], args := [d1, d2] }
  | _ => none }
def fnExactApplyHunksRow : OpenClaim := { program := "ytjngmhngedecdaa", sum := "9bbd093d200008d671bf57f364c70bc4bc630cb152886e7c5e406e5222d1a10f", func := "loop.example/g00172/laws.FnExactApplyHunks", spec := "fnExactApplyHunks", inPlace := ["internal/abi.NoEscape", "internal/bytealg.MakeNoZero", "internal/bytealg.IndexByteString", "internal/bytealg.IndexString"], named := ["internal/bytealg.MaxLen"], apart := false }
def FnExactApplyHunksSaid : Prop := fnExactApplyHunksRow.holds Try.pinned (OpenSpec.ofChange fnExactApplyHunksSpec)

/-- ITS FALSE NEIGHBOUR: 'it returns false'. Refute it at one input. -/
def fnExactApplyHunksWrong : ChangeSpec := { name := "fnExactApplyHunks", fn := fun _ => fun
  | [d1, d2] => { results := [.lit (.bool false)], args := [d1, d2] }
  | _ => none }
def FnExactApplyHunksWrongFalsely : Prop := fnExactApplyHunksRow.holds Try.pinned (OpenSpec.ofChange fnExactApplyHunksWrong)

/-- 'laws.FnExactWeaveSide': WHATEVER THE INPUT: true; the input reads as it did. -/
def fnExactWeaveSideSpec : ChangeSpec := { name := "fnExactWeaveSide", fn := fun _ => fun
  | [d1, d2] => { results := [.lit (.bool true)], args := [d1, d2] }
  | _ => none }
def fnExactWeaveSideRow : OpenClaim := { program := "ytjngmhngedecdaa", sum := "9bbd093d200008d671bf57f364c70bc4bc630cb152886e7c5e406e5222d1a10f", func := "loop.example/g00172/laws.FnExactWeaveSide", spec := "fnExactWeaveSide", inPlace := ["internal/abi.NoEscape", "internal/bytealg.MakeNoZero", "internal/bytealg.IndexByteString", "internal/bytealg.IndexString"], named := ["internal/bytealg.MaxLen"], apart := false }
def FnExactWeaveSideSaid : Prop := fnExactWeaveSideRow.holds Try.pinned (OpenSpec.ofChange fnExactWeaveSideSpec)

/-- ITS FALSE NEIGHBOUR: 'it returns false'. Refute it at one input. -/
def fnExactWeaveSideWrong : ChangeSpec := { name := "fnExactWeaveSide", fn := fun _ => fun
  | [d1, d2] => { results := [.lit (.bool false)], args := [d1, d2] }
  | _ => none }
def FnExactWeaveSideWrongFalsely : Prop := fnExactWeaveSideRow.holds Try.pinned (OpenSpec.ofChange fnExactWeaveSideWrong)

/-- 'laws.FnExactClashText': WHATEVER THE INPUT: true; the input reads as it did. -/
def fnExactClashTextSpec : ChangeSpec := { name := "fnExactClashText", fn := fun _ => fun
  | [d] => { results := [.lit (.bool true)], args := [d] }
  | _ => none }
def fnExactClashTextRow : OpenClaim := { program := "ytjngmhngedecdaa", sum := "9bbd093d200008d671bf57f364c70bc4bc630cb152886e7c5e406e5222d1a10f", func := "loop.example/g00172/laws.FnExactClashText", spec := "fnExactClashText", inPlace := ["internal/bytealg.IndexByteString", "internal/bytealg.IndexString", "internal/abi.NoEscape"], unfollowed := true, recurses := true, named := ["internal/bytealg.MaxLen"], apart := false }
def FnExactClashTextSaid : Prop := fnExactClashTextRow.holds Try.pinned (OpenSpec.ofChange fnExactClashTextSpec)

/-- ITS FALSE NEIGHBOUR: 'it returns false'. Refute it at one input. -/
def fnExactClashTextWrong : ChangeSpec := { name := "fnExactClashText", fn := fun _ => fun
  | [d] => { results := [.lit (.bool false)], args := [d] }
  | _ => none }
def FnExactClashTextWrongFalsely : Prop := fnExactClashTextRow.holds Try.pinned (OpenSpec.ofChange fnExactClashTextWrong)

/-- 'laws.FnRejects': WHATEVER THE INPUT: true; the input reads as it did. -/
def fnRejectsSpec : ChangeSpec := { name := "fnRejects", fn := fun _ => fun
  | [d] => { results := [.lit (.bool true)], args := [d] }
  | _ => none }
def fnRejectsRow : OpenClaim := { program := "ytjngmhngedecdaa", sum := "9bbd093d200008d671bf57f364c70bc4bc630cb152886e7c5e406e5222d1a10f", func := "loop.example/g00172/laws.FnRejects", spec := "fnRejects", inPlace := ["internal/abi.NoEscape", "internal/bytealg.MakeNoZero", "internal/bytealg.IndexByteString", "internal/bytealg.IndexString"], named := ["internal/bytealg.MaxLen"], apart := false }
def FnRejectsSaid : Prop := fnRejectsRow.holds Try.pinned (OpenSpec.ofChange fnRejectsSpec)

/-- ITS FALSE NEIGHBOUR: 'it returns false'. Refute it at one input. -/
def fnRejectsWrong : ChangeSpec := { name := "fnRejects", fn := fun _ => fun
  | [d] => { results := [.lit (.bool false)], args := [d] }
  | _ => none }
def FnRejectsWrongFalsely : Prop := fnRejectsRow.holds Try.pinned (OpenSpec.ofChange fnRejectsWrong)

/-- 'laws.FnExactHunksOf': WHATEVER THE INPUT: true; the input reads as it did. -/
def fnExactHunksOfSpec : ChangeSpec := { name := "fnExactHunksOf", fn := fun _ => fun
  | [d1, d2, d3] => { results := [.lit (.bool true)], args := [d1, d2, d3] }
  | _ => none }
def fnExactHunksOfRow : OpenClaim := { program := "ytjngmhngedecdaa", sum := "9bbd093d200008d671bf57f364c70bc4bc630cb152886e7c5e406e5222d1a10f", func := "loop.example/g00172/laws.FnExactHunksOf", spec := "fnExactHunksOf", inPlace := ["internal/abi.NoEscape", "internal/bytealg.MakeNoZero", "internal/bytealg.IndexByteString", "internal/bytealg.IndexString"], named := ["internal/bytealg.MaxLen"], apart := false }
def FnExactHunksOfSaid : Prop := fnExactHunksOfRow.holds Try.pinned (OpenSpec.ofChange fnExactHunksOfSpec)

/-- ITS FALSE NEIGHBOUR: 'it returns false'. Refute it at one input. -/
def fnExactHunksOfWrong : ChangeSpec := { name := "fnExactHunksOf", fn := fun _ => fun
  | [d1, d2, d3] => { results := [.lit (.bool false)], args := [d1, d2, d3] }
  | _ => none }
def FnExactHunksOfWrongFalsely : Prop := fnExactHunksOfRow.holds Try.pinned (OpenSpec.ofChange fnExactHunksOfWrong)

/-- 'laws.FnExactSwapChunks': WHATEVER THE INPUT: true; the input reads as it did. -/
def fnExactSwapChunksSpec : ChangeSpec := { name := "fnExactSwapChunks", fn := fun _ => fun
  | [d] => { results := [.lit (.bool true)], args := [d] }
  | _ => none }
def fnExactSwapChunksRow : OpenClaim := { program := "ytjngmhngedecdaa", sum := "9bbd093d200008d671bf57f364c70bc4bc630cb152886e7c5e406e5222d1a10f", func := "loop.example/g00172/laws.FnExactSwapChunks", spec := "fnExactSwapChunks", inPlace := ["internal/abi.NoEscape", "internal/bytealg.MakeNoZero", "internal/bytealg.IndexByteString", "internal/bytealg.IndexString"], named := ["internal/bytealg.MaxLen"], apart := false }
def FnExactSwapChunksSaid : Prop := fnExactSwapChunksRow.holds Try.pinned (OpenSpec.ofChange fnExactSwapChunksSpec)

/-- ITS FALSE NEIGHBOUR: 'it returns false'. Refute it at one input. -/
def fnExactSwapChunksWrong : ChangeSpec := { name := "fnExactSwapChunks", fn := fun _ => fun
  | [d] => { results := [.lit (.bool false)], args := [d] }
  | _ => none }
def FnExactSwapChunksWrongFalsely : Prop := fnExactSwapChunksRow.holds Try.pinned (OpenSpec.ofChange fnExactSwapChunksWrong)

/-- 'laws.FnExactChunksOf': WHATEVER THE INPUT: true; the input reads as it did. -/
def fnExactChunksOfSpec : ChangeSpec := { name := "fnExactChunksOf", fn := fun _ => fun
  | [d1, d2, d3] => { results := [.lit (.bool true)], args := [d1, d2, d3] }
  | _ => none }
def fnExactChunksOfRow : OpenClaim := { program := "ytjngmhngedecdaa", sum := "9bbd093d200008d671bf57f364c70bc4bc630cb152886e7c5e406e5222d1a10f", func := "loop.example/g00172/laws.FnExactChunksOf", spec := "fnExactChunksOf", inPlace := ["internal/abi.NoEscape", "internal/bytealg.MakeNoZero", "internal/bytealg.IndexByteString", "internal/bytealg.IndexString"], unfollowed := true, recurses := true, named := ["internal/bytealg.MaxLen"], apart := false }
def FnExactChunksOfSaid : Prop := fnExactChunksOfRow.holds Try.pinned (OpenSpec.ofChange fnExactChunksOfSpec)

/-- ITS FALSE NEIGHBOUR: 'it returns false'. Refute it at one input. -/
def fnExactChunksOfWrong : ChangeSpec := { name := "fnExactChunksOf", fn := fun _ => fun
  | [d1, d2, d3] => { results := [.lit (.bool false)], args := [d1, d2, d3] }
  | _ => none }
def FnExactChunksOfWrongFalsely : Prop := fnExactChunksOfRow.holds Try.pinned (OpenSpec.ofChange fnExactChunksOfWrong)

/-- 'laws.FnPatches': WHATEVER THE INPUT: true; the input reads as it did. -/
def fnPatchesSpec : ChangeSpec := { name := "fnPatches", fn := fun _ => fun
  | [d] => { results := [.lit (.bool true)], args := [d] }
  | _ => none }
def fnPatchesRow : OpenClaim := { program := "ytjngmhngedecdaa", sum := "9bbd093d200008d671bf57f364c70bc4bc630cb152886e7c5e406e5222d1a10f", func := "loop.example/g00172/laws.FnPatches", spec := "fnPatches", inPlace := ["internal/abi.NoEscape", "internal/bytealg.MakeNoZero", "internal/bytealg.IndexByteString", "internal/bytealg.IndexString"], named := ["internal/bytealg.MaxLen"], apart := false }
def FnPatchesSaid : Prop := fnPatchesRow.holds Try.pinned (OpenSpec.ofChange fnPatchesSpec)

/-- ITS FALSE NEIGHBOUR: 'it returns false'. Refute it at one input. -/
def fnPatchesWrong : ChangeSpec := { name := "fnPatches", fn := fun _ => fun
  | [d] => { results := [.lit (.bool false)], args := [d] }
  | _ => none }
def FnPatchesWrongFalsely : Prop := fnPatchesRow.holds Try.pinned (OpenSpec.ofChange fnPatchesWrong)

/-- 'laws.FnChunks': WHATEVER THE INPUT: true; the input reads as it did. -/
def fnChunksSpec : ChangeSpec := { name := "fnChunks", fn := fun _ => fun
  | [d] => { results := [.lit (.bool true)], args := [d] }
  | _ => none }
def fnChunksRow : OpenClaim := { program := "ytjngmhngedecdaa", sum := "9bbd093d200008d671bf57f364c70bc4bc630cb152886e7c5e406e5222d1a10f", func := "loop.example/g00172/laws.FnChunks", spec := "fnChunks", inPlace := ["internal/abi.NoEscape", "internal/bytealg.MakeNoZero", "internal/bytealg.IndexByteString", "internal/bytealg.IndexString"], unfollowed := true, recurses := true, named := ["internal/bytealg.MaxLen"], apart := false }
def FnChunksSaid : Prop := fnChunksRow.holds Try.pinned (OpenSpec.ofChange fnChunksSpec)

/-- ITS FALSE NEIGHBOUR: 'it returns false'. Refute it at one input. -/
def fnChunksWrong : ChangeSpec := { name := "fnChunks", fn := fun _ => fun
  | [d] => { results := [.lit (.bool false)], args := [d] }
  | _ => none }
def FnChunksWrongFalsely : Prop := fnChunksRow.holds Try.pinned (OpenSpec.ofChange fnChunksWrong)

/- THE SECOND FORM. 'bulk': how many values and letters a reading holds, each counted each time it is reached (what is shared counts as often as it is met; a slice's spare places count too). A statement '..UptoSaid' is the law's where the arguments, and the package variables that the reading takes, are together of bulk at most 1048576: NARROWER than '..Said'. Prove '..Said' where nothing that the law and all that it calls make is longer than what came in: it says more and counts as full. Else prove '..UptoSaid'. A law counts once. -/
mutual
def uptoBulk {H : Type} : DataW H → Nat
  | .lit (.string bytes) => bytes.length + 1
  | .lit _ => 1
  | .nil => 1
  | .ptr d => uptoBulk d + 1
  | .slice elems spare => uptoBulkAll elems + uptoBulkAll spare + 1
  | .agg parts => uptoBulkAll parts + 1
  | .iface _ d => uptoBulk d + 1
  | .map entries => uptoBulkEntries entries + 1
  | .held _ => 1
def uptoBulkAll {H : Type} : List (DataW H) → Nat
  | [] => 0
  | d :: r => uptoBulk d + uptoBulkAll r
def uptoBulkEntries {H : Type} : List (Lit × DataW H) → Nat
  | [] => 0
  | x :: r => uptoBulkEntry x + uptoBulkEntries r
def uptoBulkEntry {H : Type} : Lit × DataW H → Nat
  | (.string bytes, d) => bytes.length + uptoBulk d + 1
  | (_, d) => uptoBulk d + 1
 end
def uptoSmall : (H : Type) → List (DataW H) → Bool := fun _ ds => decide (uptoBulkAll ds ≤ 1048576)
def OpenSpec.upto (s : _root_.Go.ChangeSpec) : _root_.Go.OpenSpec := { _root_.Go.OpenSpec.ofChange s with cond := some uptoSmall }

/-- 'laws.FnExactReverseHunks', WHERE WHAT IT READS IS OF BULK AT MOST 1048576: true; the input reads as it did. -/
def fnExactReverseHunksUptoRow : OpenClaim := { program := "ytjngmhngedecdaa", sum := "9bbd093d200008d671bf57f364c70bc4bc630cb152886e7c5e406e5222d1a10f", func := "loop.example/g00172/laws.FnExactReverseHunks", spec := "fnExactReverseHunks", inPlace := ["internal/bytealg.IndexByteString", "internal/bytealg.IndexString"], named := ["internal/bytealg.MaxLen"], apart := false, narrowed := true }
def FnExactReverseHunksUptoSaid : Prop := fnExactReverseHunksUptoRow.holds Try.pinned (OpenSpec.upto fnExactReverseHunksSpec)

/-- 'laws.FnExactApplyHunks', WHERE WHAT IT READS IS OF BULK AT MOST 1048576: true; the input reads as it did. -/
def fnExactApplyHunksUptoRow : OpenClaim := { program := "ytjngmhngedecdaa", sum := "9bbd093d200008d671bf57f364c70bc4bc630cb152886e7c5e406e5222d1a10f", func := "loop.example/g00172/laws.FnExactApplyHunks", spec := "fnExactApplyHunks", inPlace := ["internal/abi.NoEscape", "internal/bytealg.MakeNoZero", "internal/bytealg.IndexByteString", "internal/bytealg.IndexString"], named := ["internal/bytealg.MaxLen"], apart := false, narrowed := true }
def FnExactApplyHunksUptoSaid : Prop := fnExactApplyHunksUptoRow.holds Try.pinned (OpenSpec.upto fnExactApplyHunksSpec)

/-- 'laws.FnExactWeaveSide', WHERE WHAT IT READS IS OF BULK AT MOST 1048576: true; the input reads as it did. -/
def fnExactWeaveSideUptoRow : OpenClaim := { program := "ytjngmhngedecdaa", sum := "9bbd093d200008d671bf57f364c70bc4bc630cb152886e7c5e406e5222d1a10f", func := "loop.example/g00172/laws.FnExactWeaveSide", spec := "fnExactWeaveSide", inPlace := ["internal/abi.NoEscape", "internal/bytealg.MakeNoZero", "internal/bytealg.IndexByteString", "internal/bytealg.IndexString"], named := ["internal/bytealg.MaxLen"], apart := false, narrowed := true }
def FnExactWeaveSideUptoSaid : Prop := fnExactWeaveSideUptoRow.holds Try.pinned (OpenSpec.upto fnExactWeaveSideSpec)

/-- 'laws.FnExactClashText', WHERE WHAT IT READS IS OF BULK AT MOST 1048576: true; the input reads as it did. -/
def fnExactClashTextUptoRow : OpenClaim := { program := "ytjngmhngedecdaa", sum := "9bbd093d200008d671bf57f364c70bc4bc630cb152886e7c5e406e5222d1a10f", func := "loop.example/g00172/laws.FnExactClashText", spec := "fnExactClashText", inPlace := ["internal/bytealg.IndexByteString", "internal/bytealg.IndexString", "internal/abi.NoEscape"], unfollowed := true, recurses := true, named := ["internal/bytealg.MaxLen"], apart := false, narrowed := true }
def FnExactClashTextUptoSaid : Prop := fnExactClashTextUptoRow.holds Try.pinned (OpenSpec.upto fnExactClashTextSpec)

/-- 'laws.FnRejects', WHERE WHAT IT READS IS OF BULK AT MOST 1048576: true; the input reads as it did. -/
def fnRejectsUptoRow : OpenClaim := { program := "ytjngmhngedecdaa", sum := "9bbd093d200008d671bf57f364c70bc4bc630cb152886e7c5e406e5222d1a10f", func := "loop.example/g00172/laws.FnRejects", spec := "fnRejects", inPlace := ["internal/abi.NoEscape", "internal/bytealg.MakeNoZero", "internal/bytealg.IndexByteString", "internal/bytealg.IndexString"], named := ["internal/bytealg.MaxLen"], apart := false, narrowed := true }
def FnRejectsUptoSaid : Prop := fnRejectsUptoRow.holds Try.pinned (OpenSpec.upto fnRejectsSpec)

/-- 'laws.FnExactHunksOf', WHERE WHAT IT READS IS OF BULK AT MOST 1048576: true; the input reads as it did. -/
def fnExactHunksOfUptoRow : OpenClaim := { program := "ytjngmhngedecdaa", sum := "9bbd093d200008d671bf57f364c70bc4bc630cb152886e7c5e406e5222d1a10f", func := "loop.example/g00172/laws.FnExactHunksOf", spec := "fnExactHunksOf", inPlace := ["internal/abi.NoEscape", "internal/bytealg.MakeNoZero", "internal/bytealg.IndexByteString", "internal/bytealg.IndexString"], named := ["internal/bytealg.MaxLen"], apart := false, narrowed := true }
def FnExactHunksOfUptoSaid : Prop := fnExactHunksOfUptoRow.holds Try.pinned (OpenSpec.upto fnExactHunksOfSpec)

/-- 'laws.FnExactSwapChunks', WHERE WHAT IT READS IS OF BULK AT MOST 1048576: true; the input reads as it did. -/
def fnExactSwapChunksUptoRow : OpenClaim := { program := "ytjngmhngedecdaa", sum := "9bbd093d200008d671bf57f364c70bc4bc630cb152886e7c5e406e5222d1a10f", func := "loop.example/g00172/laws.FnExactSwapChunks", spec := "fnExactSwapChunks", inPlace := ["internal/abi.NoEscape", "internal/bytealg.MakeNoZero", "internal/bytealg.IndexByteString", "internal/bytealg.IndexString"], named := ["internal/bytealg.MaxLen"], apart := false, narrowed := true }
def FnExactSwapChunksUptoSaid : Prop := fnExactSwapChunksUptoRow.holds Try.pinned (OpenSpec.upto fnExactSwapChunksSpec)

/-- 'laws.FnExactChunksOf', WHERE WHAT IT READS IS OF BULK AT MOST 1048576: true; the input reads as it did. -/
def fnExactChunksOfUptoRow : OpenClaim := { program := "ytjngmhngedecdaa", sum := "9bbd093d200008d671bf57f364c70bc4bc630cb152886e7c5e406e5222d1a10f", func := "loop.example/g00172/laws.FnExactChunksOf", spec := "fnExactChunksOf", inPlace := ["internal/abi.NoEscape", "internal/bytealg.MakeNoZero", "internal/bytealg.IndexByteString", "internal/bytealg.IndexString"], unfollowed := true, recurses := true, named := ["internal/bytealg.MaxLen"], apart := false, narrowed := true }
def FnExactChunksOfUptoSaid : Prop := fnExactChunksOfUptoRow.holds Try.pinned (OpenSpec.upto fnExactChunksOfSpec)

/-- 'laws.FnPatches', WHERE WHAT IT READS IS OF BULK AT MOST 1048576: true; the input reads as it did. -/
def fnPatchesUptoRow : OpenClaim := { program := "ytjngmhngedecdaa", sum := "9bbd093d200008d671bf57f364c70bc4bc630cb152886e7c5e406e5222d1a10f", func := "loop.example/g00172/laws.FnPatches", spec := "fnPatches", inPlace := ["internal/abi.NoEscape", "internal/bytealg.MakeNoZero", "internal/bytealg.IndexByteString", "internal/bytealg.IndexString"], named := ["internal/bytealg.MaxLen"], apart := false, narrowed := true }
def FnPatchesUptoSaid : Prop := fnPatchesUptoRow.holds Try.pinned (OpenSpec.upto fnPatchesSpec)

/-- 'laws.FnChunks', WHERE WHAT IT READS IS OF BULK AT MOST 1048576: true; the input reads as it did. -/
def fnChunksUptoRow : OpenClaim := { program := "ytjngmhngedecdaa", sum := "9bbd093d200008d671bf57f364c70bc4bc630cb152886e7c5e406e5222d1a10f", func := "loop.example/g00172/laws.FnChunks", spec := "fnChunks", inPlace := ["internal/abi.NoEscape", "internal/bytealg.MakeNoZero", "internal/bytealg.IndexByteString", "internal/bytealg.IndexString"], unfollowed := true, recurses := true, named := ["internal/bytealg.MaxLen"], apart := false, narrowed := true }
def FnChunksUptoSaid : Prop := fnChunksUptoRow.holds Try.pinned (OpenSpec.upto fnChunksSpec)

end Rows
end Go.Proofs.Ytjngmhngedecdaa
