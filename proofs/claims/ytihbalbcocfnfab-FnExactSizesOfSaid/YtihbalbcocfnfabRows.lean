/-
  No cell of these rows narrows 'for every input' (looked for: loops, veiled, ifaces, maps, wideKeys, modest, calm, conditions, laid).
  DERIVED. THE GIVEN ROWS OF THIS SEAT. 7 by the template 'for every input the law returns true; each argument reads behind the call as it read before'; 0 by the template 'total and deterministic' (their statements: YtihbalbcocfnfabTotals.lean).
  GIVEN WITH THE SEED: the statements are not yours to turn. If you find one false, say at which input.
  Laid BY PROGRAM, IN A SANDBOX (cutbox-rows.mjs): the forced cells as the released guide's own fill.sh prints them over the translation 4e9c1c3744fca21c… (all of the seat's roots in one cut). By AI agents, Wed Nov 11 2026. No macro, syntax, notation, axiom, sorry.
-/
import Derived.Test.YtihbalbcocfnfabChecked
import GoSem.Claim
import GoSem.ClaimJoined
import GoSem.ClaimMapViews
import Derived.JoinedTies
import Derived.KernelRfl
namespace Go.Proofs.Ytihbalbcocfnfab
/- THE CELL 'sum', in the pinned program and in every row, IS THE sha256 OF THE DUMP (.gsa) THAT YtihbalbcocfnfabProg.lean LOADS. Nothing in Lean hashes anything: it is a label: what it is worth is what the hold of that sum in a sandbox is worth. -/
noncomputable def Try.pinned : Pinned := { name := "ytihbalbcocfnfab", sum := "4e9c1c3744fca21ca0e7cd47489f412cb791aef640e372d10b3b6a26023ee7c7", checked := Try.checked }
namespace Rows
def none {H : Type} : Left H := { results := [], args := [] }

/-- 'laws.FnExactSizesOf': WHATEVER THE INPUT: true; the input reads as it did. -/
def fnExactSizesOfSpec : ChangeSpec := { name := "fnExactSizesOf", fn := fun _ => fun
  | [d] => { results := [.lit (.bool true)], args := [d] }
  | _ => none }
def fnExactSizesOfRow : OpenClaim := { program := "ytihbalbcocfnfab", sum := "4e9c1c3744fca21ca0e7cd47489f412cb791aef640e372d10b3b6a26023ee7c7", func := "loop.example/g00172/laws.FnExactSizesOf", spec := "fnExactSizesOf", inPlace := ["internal/bytealg.IndexByteString", "internal/bytealg.IndexString"], named := ["internal/bytealg.MaxLen"], apart := false }
def FnExactSizesOfSaid : Prop := fnExactSizesOfRow.holds Try.pinned (OpenSpec.ofChange fnExactSizesOfSpec)

/-- ITS FALSE NEIGHBOUR: 'it returns false'. Refute it at one input. -/
def fnExactSizesOfWrong : ChangeSpec := { name := "fnExactSizesOf", fn := fun _ => fun
  | [d] => { results := [.lit (.bool false)], args := [d] }
  | _ => none }
def FnExactSizesOfWrongFalsely : Prop := fnExactSizesOfRow.holds Try.pinned (OpenSpec.ofChange fnExactSizesOfWrong)

/-- 'laws.FnExactHunksFault': WHATEVER THE INPUT: true; the input reads as it did. -/
def fnExactHunksFaultSpec : ChangeSpec := { name := "fnExactHunksFault", fn := fun _ => fun
  | [d] => { results := [.lit (.bool true)], args := [d] }
  | _ => none }
def fnExactHunksFaultRow : OpenClaim := { program := "ytihbalbcocfnfab", sum := "4e9c1c3744fca21ca0e7cd47489f412cb791aef640e372d10b3b6a26023ee7c7", func := "loop.example/g00172/laws.FnExactHunksFault", spec := "fnExactHunksFault", inPlace := ["internal/bytealg.IndexByteString", "internal/bytealg.IndexString"], named := ["internal/bytealg.MaxLen"], apart := false }
def FnExactHunksFaultSaid : Prop := fnExactHunksFaultRow.holds Try.pinned (OpenSpec.ofChange fnExactHunksFaultSpec)

/-- ITS FALSE NEIGHBOUR: 'it returns false'. Refute it at one input. -/
def fnExactHunksFaultWrong : ChangeSpec := { name := "fnExactHunksFault", fn := fun _ => fun
  | [d] => { results := [.lit (.bool false)], args := [d] }
  | _ => none }
def FnExactHunksFaultWrongFalsely : Prop := fnExactHunksFaultRow.holds Try.pinned (OpenSpec.ofChange fnExactHunksFaultWrong)

/-- 'laws.FnExactReverseHunks': WHATEVER THE INPUT: true; the input reads as it did. -/
def fnExactReverseHunksSpec : ChangeSpec := { name := "fnExactReverseHunks", fn := fun _ => fun
  | [d] => { results := [.lit (.bool true)], args := [d] }
  | _ => none }
def fnExactReverseHunksRow : OpenClaim := { program := "ytihbalbcocfnfab", sum := "4e9c1c3744fca21ca0e7cd47489f412cb791aef640e372d10b3b6a26023ee7c7", func := "loop.example/g00172/laws.FnExactReverseHunks", spec := "fnExactReverseHunks", inPlace := ["internal/bytealg.IndexByteString", "internal/bytealg.IndexString"], named := ["internal/bytealg.MaxLen"], apart := false }
def FnExactReverseHunksSaid : Prop := fnExactReverseHunksRow.holds Try.pinned (OpenSpec.ofChange fnExactReverseHunksSpec)

/-- ITS FALSE NEIGHBOUR: 'it returns false'. Refute it at one input. -/
def fnExactReverseHunksWrong : ChangeSpec := { name := "fnExactReverseHunks", fn := fun _ => fun
  | [d] => { results := [.lit (.bool false)], args := [d] }
  | _ => none }
def FnExactReverseHunksWrongFalsely : Prop := fnExactReverseHunksRow.holds Try.pinned (OpenSpec.ofChange fnExactReverseHunksWrong)

/-- 'laws.FnExactApplyHunks': WHATEVER THE INPUT: true; the input reads as it did. -/
def fnExactApplyHunksSpec : ChangeSpec := { name := "fnExactApplyHunks", fn := fun _ => fun
  | [d1, d2] => { results := [.lit (.bool true)], args := [d1, d2] }
  | _ => none }
def fnExactApplyHunksRow : OpenClaim := { program := "ytihbalbcocfnfab", sum := "4e9c1c3744fca21ca0e7cd47489f412cb791aef640e372d10b3b6a26023ee7c7", func := "loop.example/g00172/laws.FnExactApplyHunks", spec := "fnExactApplyHunks", inPlace := ["internal/abi.NoEscape", "internal/bytealg.MakeNoZero", "internal/bytealg.IndexByteString", "internal/bytealg.IndexString"], named := ["internal/bytealg.MaxLen"], apart := false }
def FnExactApplyHunksSaid : Prop := fnExactApplyHunksRow.holds Try.pinned (OpenSpec.ofChange fnExactApplyHunksSpec)

/-- ITS FALSE NEIGHBOUR: 'it returns false'. Refute it at one input. -/
def fnExactApplyHunksWrong : ChangeSpec := { name := "fnExactApplyHunks", fn := fun _ => fun
  | [d1, d2] => { results := [.lit (.bool false)], args := [d1, d2] }
  | _ => none }
def FnExactApplyHunksWrongFalsely : Prop := fnExactApplyHunksRow.holds Try.pinned (OpenSpec.ofChange fnExactApplyHunksWrong)

/-- 'laws.FnExactHunksOf': WHATEVER THE INPUT: true; the input reads as it did. -/
def fnExactHunksOfSpec : ChangeSpec := { name := "fnExactHunksOf", fn := fun _ => fun
  | [d1, d2, d3] => { results := [.lit (.bool true)], args := [d1, d2, d3] }
  | _ => none }
def fnExactHunksOfRow : OpenClaim := { program := "ytihbalbcocfnfab", sum := "4e9c1c3744fca21ca0e7cd47489f412cb791aef640e372d10b3b6a26023ee7c7", func := "loop.example/g00172/laws.FnExactHunksOf", spec := "fnExactHunksOf", inPlace := ["internal/abi.NoEscape", "internal/bytealg.MakeNoZero", "internal/bytealg.IndexByteString", "internal/bytealg.IndexString"], named := ["internal/bytealg.MaxLen"], apart := false }
def FnExactHunksOfSaid : Prop := fnExactHunksOfRow.holds Try.pinned (OpenSpec.ofChange fnExactHunksOfSpec)

/-- ITS FALSE NEIGHBOUR: 'it returns false'. Refute it at one input. -/
def fnExactHunksOfWrong : ChangeSpec := { name := "fnExactHunksOf", fn := fun _ => fun
  | [d1, d2, d3] => { results := [.lit (.bool false)], args := [d1, d2, d3] }
  | _ => none }
def FnExactHunksOfWrongFalsely : Prop := fnExactHunksOfRow.holds Try.pinned (OpenSpec.ofChange fnExactHunksOfWrong)

/-- 'laws.FnRejects': WHATEVER THE INPUT: true; the input reads as it did. -/
def fnRejectsSpec : ChangeSpec := { name := "fnRejects", fn := fun _ => fun
  | [d] => { results := [.lit (.bool true)], args := [d] }
  | _ => none }
def fnRejectsRow : OpenClaim := { program := "ytihbalbcocfnfab", sum := "4e9c1c3744fca21ca0e7cd47489f412cb791aef640e372d10b3b6a26023ee7c7", func := "loop.example/g00172/laws.FnRejects", spec := "fnRejects", inPlace := ["internal/abi.NoEscape", "internal/bytealg.MakeNoZero", "internal/bytealg.IndexByteString", "internal/bytealg.IndexString"], named := ["internal/bytealg.MaxLen"], apart := false }
def FnRejectsSaid : Prop := fnRejectsRow.holds Try.pinned (OpenSpec.ofChange fnRejectsSpec)

/-- ITS FALSE NEIGHBOUR: 'it returns false'. Refute it at one input. -/
def fnRejectsWrong : ChangeSpec := { name := "fnRejects", fn := fun _ => fun
  | [d] => { results := [.lit (.bool false)], args := [d] }
  | _ => none }
def FnRejectsWrongFalsely : Prop := fnRejectsRow.holds Try.pinned (OpenSpec.ofChange fnRejectsWrong)

/-- 'laws.FnPatches': WHATEVER THE INPUT: true; the input reads as it did. -/
def fnPatchesSpec : ChangeSpec := { name := "fnPatches", fn := fun _ => fun
  | [d] => { results := [.lit (.bool true)], args := [d] }
  | _ => none }
def fnPatchesRow : OpenClaim := { program := "ytihbalbcocfnfab", sum := "4e9c1c3744fca21ca0e7cd47489f412cb791aef640e372d10b3b6a26023ee7c7", func := "loop.example/g00172/laws.FnPatches", spec := "fnPatches", inPlace := ["internal/abi.NoEscape", "internal/bytealg.MakeNoZero", "internal/bytealg.IndexByteString", "internal/bytealg.IndexString"], named := ["internal/bytealg.MaxLen"], apart := false }
def FnPatchesSaid : Prop := fnPatchesRow.holds Try.pinned (OpenSpec.ofChange fnPatchesSpec)

/-- ITS FALSE NEIGHBOUR: 'it returns false'. Refute it at one input. -/
def fnPatchesWrong : ChangeSpec := { name := "fnPatches", fn := fun _ => fun
  | [d] => { results := [.lit (.bool false)], args := [d] }
  | _ => none }
def FnPatchesWrongFalsely : Prop := fnPatchesRow.holds Try.pinned (OpenSpec.ofChange fnPatchesWrong)

/- THE SECOND FORM. 'bulk': how many values and letters a reading holds, each counted each time it is reached (what is shared counts as often as it is met; a slice's spare places count too). A statement '..UptoSaid' is the law's where the arguments, and the package variables that the reading takes, are together of bulk at most 1048576: NARROWER than '..Said'. Prove '..Said' where nothing that the law and all that it calls make is longer than what came in: it says more and counts as full. Else prove '..UptoSaid'. A law counts once. -/
mutual
def uptoBulk {H : Type} : DataW H → Nat
  | .lit (.string bytes) => bytes.length + 1
  | .lit _ => 1
  | .nil => 1
  | .ptr d => uptoBulk d + 1
  | .slice elems spare => uptoBulkAll elems + uptoBulkAll spare + 1
  | .agg parts => uptoBulkAll parts + 1
  | .iface _ d => uptoBulk d + 1
  | .map entries => uptoBulkEntries entries + 1
  | .held _ => 1
def uptoBulkAll {H : Type} : List (DataW H) → Nat
  | [] => 0
  | d :: r => uptoBulk d + uptoBulkAll r
def uptoBulkEntries {H : Type} : List (Lit × DataW H) → Nat
  | [] => 0
  | x :: r => uptoBulkEntry x + uptoBulkEntries r
def uptoBulkEntry {H : Type} : Lit × DataW H → Nat
  | (.string bytes, d) => bytes.length + uptoBulk d + 1
  | (_, d) => uptoBulk d + 1
 end
def uptoSmall : (H : Type) → List (DataW H) → Bool := fun _ ds => decide (uptoBulkAll ds ≤ 1048576)
def OpenSpec.upto (s : _root_.Go.ChangeSpec) : _root_.Go.OpenSpec := { _root_.Go.OpenSpec.ofChange s with cond := some uptoSmall }

/-- 'laws.FnExactSizesOf', WHERE WHAT IT READS IS OF BULK AT MOST 1048576: true; the input reads as it did. -/
def fnExactSizesOfUptoRow : OpenClaim := { program := "ytihbalbcocfnfab", sum := "4e9c1c3744fca21ca0e7cd47489f412cb791aef640e372d10b3b6a26023ee7c7", func := "loop.example/g00172/laws.FnExactSizesOf", spec := "fnExactSizesOf", inPlace := ["internal/bytealg.IndexByteString", "internal/bytealg.IndexString"], named := ["internal/bytealg.MaxLen"], apart := false, narrowed := true }
def FnExactSizesOfUptoSaid : Prop := fnExactSizesOfUptoRow.holds Try.pinned (OpenSpec.upto fnExactSizesOfSpec)

/-- 'laws.FnExactHunksFault', WHERE WHAT IT READS IS OF BULK AT MOST 1048576: true; the input reads as it did. -/
def fnExactHunksFaultUptoRow : OpenClaim := { program := "ytihbalbcocfnfab", sum := "4e9c1c3744fca21ca0e7cd47489f412cb791aef640e372d10b3b6a26023ee7c7", func := "loop.example/g00172/laws.FnExactHunksFault", spec := "fnExactHunksFault", inPlace := ["internal/bytealg.IndexByteString", "internal/bytealg.IndexString"], named := ["internal/bytealg.MaxLen"], apart := false, narrowed := true }
def FnExactHunksFaultUptoSaid : Prop := fnExactHunksFaultUptoRow.holds Try.pinned (OpenSpec.upto fnExactHunksFaultSpec)

/-- 'laws.FnExactReverseHunks', WHERE WHAT IT READS IS OF BULK AT MOST 1048576: true; the input reads as it did. -/
def fnExactReverseHunksUptoRow : OpenClaim := { program := "ytihbalbcocfnfab", sum := "4e9c1c3744fca21ca0e7cd47489f412cb791aef640e372d10b3b6a26023ee7c7", func := "loop.example/g00172/laws.FnExactReverseHunks", spec := "fnExactReverseHunks", inPlace := ["internal/bytealg.IndexByteString", "internal/bytealg.IndexString"], named := ["internal/bytealg.MaxLen"], apart := false, narrowed := true }
def FnExactReverseHunksUptoSaid : Prop := fnExactReverseHunksUptoRow.holds Try.pinned (OpenSpec.upto fnExactReverseHunksSpec)

/-- 'laws.FnExactApplyHunks', WHERE WHAT IT READS IS OF BULK AT MOST 1048576: true; the input reads as it did. -/
def fnExactApplyHunksUptoRow : OpenClaim := { program := "ytihbalbcocfnfab", sum := "4e9c1c3744fca21ca0e7cd47489f412cb791aef640e372d10b3b6a26023ee7c7", func := "loop.example/g00172/laws.FnExactApplyHunks", spec := "fnExactApplyHunks", inPlace := ["internal/abi.NoEscape", "internal/bytealg.MakeNoZero", "internal/bytealg.IndexByteString", "internal/bytealg.IndexString"], named := ["internal/bytealg.MaxLen"], apart := false, narrowed := true }
def FnExactApplyHunksUptoSaid : Prop := fnExactApplyHunksUptoRow.holds Try.pinned (OpenSpec.upto fnExactApplyHunksSpec)

/-- 'laws.FnExactHunksOf', WHERE WHAT IT READS IS OF BULK AT MOST 1048576: true; the input reads as it did. -/
def fnExactHunksOfUptoRow : OpenClaim := { program := "ytihbalbcocfnfab", sum := "4e9c1c3744fca21ca0e7cd47489f412cb791aef640e372d10b3b6a26023ee7c7", func := "loop.example/g00172/laws.FnExactHunksOf", spec := "fnExactHunksOf", inPlace := ["internal/abi.NoEscape", "internal/bytealg.MakeNoZero", "internal/bytealg.IndexByteString", "internal/bytealg.IndexString"], named := ["internal/bytealg.MaxLen"], apart := false, narrowed := true }
def FnExactHunksOfUptoSaid : Prop := fnExactHunksOfUptoRow.holds Try.pinned (OpenSpec.upto fnExactHunksOfSpec)

/-- 'laws.FnRejects', WHERE WHAT IT READS IS OF BULK AT MOST 1048576: true; the input reads as it did. -/
def fnRejectsUptoRow : OpenClaim := { program := "ytihbalbcocfnfab", sum := "4e9c1c3744fca21ca0e7cd47489f412cb791aef640e372d10b3b6a26023ee7c7", func := "loop.example/g00172/laws.FnRejects", spec := "fnRejects", inPlace := ["internal/abi.NoEscape", "internal/bytealg.MakeNoZero", "internal/bytealg.IndexByteString", "internal/bytealg.IndexString"], named := ["internal/bytealg.MaxLen"], apart := false, narrowed := true }
def FnRejectsUptoSaid : Prop := fnRejectsUptoRow.holds Try.pinned (OpenSpec.upto fnRejectsSpec)

/-- 'laws.FnPatches', WHERE WHAT IT READS IS OF BULK AT MOST 1048576: true; the input reads as it did. -/
def fnPatchesUptoRow : OpenClaim := { program := "ytihbalbcocfnfab", sum := "4e9c1c3744fca21ca0e7cd47489f412cb791aef640e372d10b3b6a26023ee7c7", func := "loop.example/g00172/laws.FnPatches", spec := "fnPatches", inPlace := ["internal/abi.NoEscape", "internal/bytealg.MakeNoZero", "internal/bytealg.IndexByteString", "internal/bytealg.IndexString"], named := ["internal/bytealg.MaxLen"], apart := false, narrowed := true }
def FnPatchesUptoSaid : Prop := fnPatchesUptoRow.holds Try.pinned (OpenSpec.upto fnPatchesSpec)

end Rows
end Go.Proofs.Ytihbalbcocfnfab
