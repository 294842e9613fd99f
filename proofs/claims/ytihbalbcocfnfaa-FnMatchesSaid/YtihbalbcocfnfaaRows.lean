/-
  No cell of these rows narrows 'for every input' (looked for: loops, veiled, ifaces, maps, wideKeys, modest, calm, conditions, laid).
  DERIVED. THE GIVEN ROWS OF THIS SEAT. 10 by the template 'for every input the law returns true; each argument reads behind the call as it read before'; 0 by the template 'total and deterministic' (their statements: YtihbalbcocfnfaaTotals.lean).
  GIVEN WITH THE SEED: the statements are not yours to turn. If you find one false, say at which input.
  Laid BY PROGRAM, IN A SANDBOX (cutbox-rows.mjs): the forced cells as the released guide's own fill.sh prints them over the translation b56a5b98409267de… (all of the seat's roots in one cut). By AI agents, Wed Nov 11 2026. No macro, syntax, notation, axiom, sorry.
-/
import Derived.Test.YtihbalbcocfnfaaChecked
import GoSem.Claim
import GoSem.ClaimJoined
import GoSem.ClaimMapViews
import Derived.JoinedTies
import Derived.KernelRfl
namespace Go.Proofs.Ytihbalbcocfnfaa
/- THE CELL 'sum', in the pinned program and in every row, IS THE sha256 OF THE DUMP (.gsa) THAT YtihbalbcocfnfaaProg.lean LOADS. Nothing in Lean hashes anything: it is a label: what it is worth is what the hold of that sum in a sandbox is worth. -/
noncomputable def Try.pinned : Pinned := { name := "ytihbalbcocfnfaa", sum := "b56a5b98409267debffb72d5952544046825648462fafba44b0ef8229435c995", checked := Try.checked }
namespace Rows
def none {H : Type} : Left H := { results := [], args := [] }

/-- 'laws.FnExactJoinLines': WHATEVER THE INPUT: true; the input reads as it did. -/
def fnExactJoinLinesSpec : ChangeSpec := { name := "fnExactJoinLines", fn := fun _ => fun
  | [d] => { results := [.lit (.bool true)], args := [d] }
  | _ => none }
def fnExactJoinLinesRow : OpenClaim := { program := "ytihbalbcocfnfaa", sum := "b56a5b98409267debffb72d5952544046825648462fafba44b0ef8229435c995", func := "loop.example/g00172/laws.FnExactJoinLines", spec := "fnExactJoinLines", inPlace := ["internal/abi.NoEscape", "internal/bytealg.MakeNoZero", "internal/bytealg.IndexByteString", "internal/bytealg.IndexString"], named := ["internal/bytealg.MaxLen"], apart := false }
def FnExactJoinLinesSaid : Prop := fnExactJoinLinesRow.holds Try.pinned (OpenSpec.ofChange fnExactJoinLinesSpec)

/-- ITS FALSE NEIGHBOUR: 'it returns false'. Refute it at one input. -/
def fnExactJoinLinesWrong : ChangeSpec := { name := "fnExactJoinLines", fn := fun _ => fun
  | [d] => { results := [.lit (.bool false)], args := [d] }
  | _ => none }
def FnExactJoinLinesWrongFalsely : Prop := fnExactJoinLinesRow.holds Try.pinned (OpenSpec.ofChange fnExactJoinLinesWrong)

/-- 'laws.FnExactCommonOf': WHATEVER THE INPUT: true; the input reads as it did. -/
def fnExactCommonOfSpec : ChangeSpec := { name := "fnExactCommonOf", fn := fun _ => fun
  | [d1, d2] => { results := [.lit (.bool true)], args := [d1, d2] }
  | _ => none }
def fnExactCommonOfRow : OpenClaim := { program := "ytihbalbcocfnfaa", sum := "b56a5b98409267debffb72d5952544046825648462fafba44b0ef8229435c995", func := "loop.example/g00172/laws.FnExactCommonOf", spec := "fnExactCommonOf", inPlace := ["internal/abi.NoEscape", "internal/bytealg.MakeNoZero", "internal/bytealg.IndexByteString", "internal/bytealg.IndexString"], named := ["internal/bytealg.MaxLen"], apart := false }
def FnExactCommonOfSaid : Prop := fnExactCommonOfRow.holds Try.pinned (OpenSpec.ofChange fnExactCommonOfSpec)

/-- ITS FALSE NEIGHBOUR: 'it returns false'. Refute it at one input. -/
def fnExactCommonOfWrong : ChangeSpec := { name := "fnExactCommonOf", fn := fun _ => fun
  | [d1, d2] => { results := [.lit (.bool false)], args := [d1, d2] }
  | _ => none }
def FnExactCommonOfWrongFalsely : Prop := fnExactCommonOfRow.holds Try.pinned (OpenSpec.ofChange fnExactCommonOfWrong)

/-- 'laws.FnExactEditCount': WHATEVER THE INPUT: true; the input reads as it did. -/
def fnExactEditCountSpec : ChangeSpec := { name := "fnExactEditCount", fn := fun _ => fun
  | [d1, d2] => { results := [.lit (.bool true)], args := [d1, d2] }
  | _ => none }
def fnExactEditCountRow : OpenClaim := { program := "ytihbalbcocfnfaa", sum := "b56a5b98409267debffb72d5952544046825648462fafba44b0ef8229435c995", func := "loop.example/g00172/laws.FnExactEditCount", spec := "fnExactEditCount", inPlace := ["internal/abi.NoEscape", "internal/bytealg.MakeNoZero", "internal/bytealg.IndexByteString", "internal/bytealg.IndexString"], named := ["internal/bytealg.MaxLen"], apart := false }
def FnExactEditCountSaid : Prop := fnExactEditCountRow.holds Try.pinned (OpenSpec.ofChange fnExactEditCountSpec)

/-- ITS FALSE NEIGHBOUR: 'it returns false'. Refute it at one input. -/
def fnExactEditCountWrong : ChangeSpec := { name := "fnExactEditCount", fn := fun _ => fun
  | [d1, d2] => { results := [.lit (.bool false)], args := [d1, d2] }
  | _ => none }
def FnExactEditCountWrongFalsely : Prop := fnExactEditCountRow.holds Try.pinned (OpenSpec.ofChange fnExactEditCountWrong)

/-- 'laws.FnExactChangesFault': WHATEVER THE INPUT: true; the input reads as it did. -/
def fnExactChangesFaultSpec : ChangeSpec := { name := "fnExactChangesFault", fn := fun _ => fun
  | [d1, d2, d3] => { results := [.lit (.bool true)], args := [d1, d2, d3] }
  | _ => none }
def fnExactChangesFaultRow : OpenClaim := { program := "ytihbalbcocfnfaa", sum := "b56a5b98409267debffb72d5952544046825648462fafba44b0ef8229435c995", func := "loop.example/g00172/laws.FnExactChangesFault", spec := "fnExactChangesFault", inPlace := ["internal/abi.NoEscape", "internal/bytealg.MakeNoZero", "internal/bytealg.IndexByteString", "internal/bytealg.IndexString"], named := ["internal/bytealg.MaxLen"], apart := false }
def FnExactChangesFaultSaid : Prop := fnExactChangesFaultRow.holds Try.pinned (OpenSpec.ofChange fnExactChangesFaultSpec)

/-- ITS FALSE NEIGHBOUR: 'it returns false'. Refute it at one input. -/
def fnExactChangesFaultWrong : ChangeSpec := { name := "fnExactChangesFault", fn := fun _ => fun
  | [d1, d2, d3] => { results := [.lit (.bool false)], args := [d1, d2, d3] }
  | _ => none }
def FnExactChangesFaultWrongFalsely : Prop := fnExactChangesFaultRow.holds Try.pinned (OpenSpec.ofChange fnExactChangesFaultWrong)

/-- 'laws.FnExactMatchLines': WHATEVER THE INPUT: true; the input reads as it did. -/
def fnExactMatchLinesSpec : ChangeSpec := { name := "fnExactMatchLines", fn := fun _ => fun
  | [d1, d2] => { results := [.lit (.bool true)], args := [d1, d2] }
  | _ => none }
def fnExactMatchLinesRow : OpenClaim := { program := "ytihbalbcocfnfaa", sum := "b56a5b98409267debffb72d5952544046825648462fafba44b0ef8229435c995", func := "loop.example/g00172/laws.FnExactMatchLines", spec := "fnExactMatchLines", inPlace := ["internal/abi.NoEscape", "internal/bytealg.MakeNoZero", "internal/bytealg.IndexByteString", "internal/bytealg.IndexString"], named := ["internal/bytealg.MaxLen"], apart := false }
def FnExactMatchLinesSaid : Prop := fnExactMatchLinesRow.holds Try.pinned (OpenSpec.ofChange fnExactMatchLinesSpec)

/-- ITS FALSE NEIGHBOUR: 'it returns false'. Refute it at one input. -/
def fnExactMatchLinesWrong : ChangeSpec := { name := "fnExactMatchLines", fn := fun _ => fun
  | [d1, d2] => { results := [.lit (.bool false)], args := [d1, d2] }
  | _ => none }
def FnExactMatchLinesWrongFalsely : Prop := fnExactMatchLinesRow.holds Try.pinned (OpenSpec.ofChange fnExactMatchLinesWrong)

/-- 'laws.FnExactWeaveChanges': WHATEVER THE INPUT: true; the input reads as it did. -/
def fnExactWeaveChangesSpec : ChangeSpec := { name := "fnExactWeaveChanges", fn := fun _ => fun
  | [d1, d2, d3] => { results := [.lit (.bool true)], args := [d1, d2, d3] }
  | _ => none }
def fnExactWeaveChangesRow : OpenClaim := { program := "ytihbalbcocfnfaa", sum := "b56a5b98409267debffb72d5952544046825648462fafba44b0ef8229435c995", func := "loop.example/g00172/laws.FnExactWeaveChanges", spec := "fnExactWeaveChanges", inPlace := ["internal/abi.NoEscape", "internal/bytealg.MakeNoZero", "internal/bytealg.IndexByteString", "internal/bytealg.IndexString"], named := ["internal/bytealg.MaxLen"], apart := false }
def FnExactWeaveChangesSaid : Prop := fnExactWeaveChangesRow.holds Try.pinned (OpenSpec.ofChange fnExactWeaveChangesSpec)

/-- ITS FALSE NEIGHBOUR: 'it returns false'. Refute it at one input. -/
def fnExactWeaveChangesWrong : ChangeSpec := { name := "fnExactWeaveChanges", fn := fun _ => fun
  | [d1, d2, d3] => { results := [.lit (.bool false)], args := [d1, d2, d3] }
  | _ => none }
def FnExactWeaveChangesWrongFalsely : Prop := fnExactWeaveChangesRow.holds Try.pinned (OpenSpec.ofChange fnExactWeaveChangesWrong)

/-- 'laws.FnExactChangesOf': WHATEVER THE INPUT: true; the input reads as it did. -/
def fnExactChangesOfSpec : ChangeSpec := { name := "fnExactChangesOf", fn := fun _ => fun
  | [d1, d2] => { results := [.lit (.bool true)], args := [d1, d2] }
  | _ => none }
def fnExactChangesOfRow : OpenClaim := { program := "ytihbalbcocfnfaa", sum := "b56a5b98409267debffb72d5952544046825648462fafba44b0ef8229435c995", func := "loop.example/g00172/laws.FnExactChangesOf", spec := "fnExactChangesOf", inPlace := ["internal/abi.NoEscape", "internal/bytealg.MakeNoZero", "internal/bytealg.IndexByteString", "internal/bytealg.IndexString"], named := ["internal/bytealg.MaxLen"], apart := false }
def FnExactChangesOfSaid : Prop := fnExactChangesOfRow.holds Try.pinned (OpenSpec.ofChange fnExactChangesOfSpec)

/-- ITS FALSE NEIGHBOUR: 'it returns false'. Refute it at one input. -/
def fnExactChangesOfWrong : ChangeSpec := { name := "fnExactChangesOf", fn := fun _ => fun
  | [d1, d2] => { results := [.lit (.bool false)], args := [d1, d2] }
  | _ => none }
def FnExactChangesOfWrongFalsely : Prop := fnExactChangesOfRow.holds Try.pinned (OpenSpec.ofChange fnExactChangesOfWrong)

/-- 'laws.FnEdits': WHATEVER THE INPUT: true; the input reads as it did. -/
def fnEditsSpec : ChangeSpec := { name := "fnEdits", fn := fun _ => fun
  | [d] => { results := [.lit (.bool true)], args := [d] }
  | _ => none }
def fnEditsRow : OpenClaim := { program := "ytihbalbcocfnfaa", sum := "b56a5b98409267debffb72d5952544046825648462fafba44b0ef8229435c995", func := "loop.example/g00172/laws.FnEdits", spec := "fnEdits", inPlace := ["internal/abi.NoEscape", "internal/bytealg.MakeNoZero", "internal/bytealg.IndexByteString", "internal/bytealg.IndexString"], named := ["internal/bytealg.MaxLen"], apart := false }
def FnEditsSaid : Prop := fnEditsRow.holds Try.pinned (OpenSpec.ofChange fnEditsSpec)

/-- ITS FALSE NEIGHBOUR: 'it returns false'. Refute it at one input. -/
def fnEditsWrong : ChangeSpec := { name := "fnEdits", fn := fun _ => fun
  | [d] => { results := [.lit (.bool false)], args := [d] }
  | _ => none }
def FnEditsWrongFalsely : Prop := fnEditsRow.holds Try.pinned (OpenSpec.ofChange fnEditsWrong)

/-- 'laws.FnMatches': WHATEVER THE INPUT: true; the input reads as it did. -/
def fnMatchesSpec : ChangeSpec := { name := "fnMatches", fn := fun _ => fun
  | [d] => { results := [.lit (.bool true)], args := [d] }
  | _ => none }
def fnMatchesRow : OpenClaim := { program := "ytihbalbcocfnfaa", sum := "b56a5b98409267debffb72d5952544046825648462fafba44b0ef8229435c995", func := "loop.example/g00172/laws.FnMatches", spec := "fnMatches", inPlace := ["internal/abi.NoEscape", "internal/bytealg.MakeNoZero", "internal/bytealg.IndexByteString", "internal/bytealg.IndexString"], named := ["internal/bytealg.MaxLen"], apart := false }
def FnMatchesSaid : Prop := fnMatchesRow.holds Try.pinned (OpenSpec.ofChange fnMatchesSpec)

/-- ITS FALSE NEIGHBOUR: 'it returns false'. Refute it at one input. -/
def fnMatchesWrong : ChangeSpec := { name := "fnMatches", fn := fun _ => fun
  | [d] => { results := [.lit (.bool false)], args := [d] }
  | _ => none }
def FnMatchesWrongFalsely : Prop := fnMatchesRow.holds Try.pinned (OpenSpec.ofChange fnMatchesWrong)

/-- 'laws.FnWeaves': WHATEVER THE INPUT: true; the input reads as it did. -/
def fnWeavesSpec : ChangeSpec := { name := "fnWeaves", fn := fun _ => fun
  | [d] => { results := [.lit (.bool true)], args := [d] }
  | _ => none }
def fnWeavesRow : OpenClaim := { program := "ytihbalbcocfnfaa", sum := "b56a5b98409267debffb72d5952544046825648462fafba44b0ef8229435c995", func := "loop.example/g00172/laws.FnWeaves", spec := "fnWeaves", inPlace := ["internal/abi.NoEscape", "internal/bytealg.MakeNoZero", "internal/bytealg.IndexByteString", "internal/bytealg.IndexString"], named := ["internal/bytealg.MaxLen"], apart := false }
def FnWeavesSaid : Prop := fnWeavesRow.holds Try.pinned (OpenSpec.ofChange fnWeavesSpec)

/-- ITS FALSE NEIGHBOUR: 'it returns false'. Refute it at one input. -/
def fnWeavesWrong : ChangeSpec := { name := "fnWeaves", fn := fun _ => fun
  | [d] => { results := [.lit (.bool false)], args := [d] }
  | _ => none }
def FnWeavesWrongFalsely : Prop := fnWeavesRow.holds Try.pinned (OpenSpec.ofChange fnWeavesWrong)

/- THE SECOND FORM. 'bulk': how many values and letters a reading holds, each counted each time it is reached (what is shared counts as often as it is met; a slice's spare places count too). A statement '..UptoSaid' is the law's where the arguments, and the package variables that the reading takes, are together of bulk at most 1048576: NARROWER than '..Said'. Prove '..Said' where nothing that the law and all that it calls make is longer than what came in: it says more and counts as full. Else prove '..UptoSaid'. A law counts once. -/
mutual
def uptoBulk {H : Type} : DataW H → Nat
  | .lit (.string bytes) => bytes.length + 1
  | .lit _ => 1
  | .nil => 1
  | .ptr d => uptoBulk d + 1
  | .slice elems spare => uptoBulkAll elems + uptoBulkAll spare + 1
  | .agg parts => uptoBulkAll parts + 1
  | .iface _ d => uptoBulk d + 1
  | .map entries => uptoBulkEntries entries + 1
  | .held _ => 1
def uptoBulkAll {H : Type} : List (DataW H) → Nat
  | [] => 0
  | d :: r => uptoBulk d + uptoBulkAll r
def uptoBulkEntries {H : Type} : List (Lit × DataW H) → Nat
  | [] => 0
  | x :: r => uptoBulkEntry x + uptoBulkEntries r
def uptoBulkEntry {H : Type} : Lit × DataW H → Nat
  | (.string bytes, d) => bytes.length + uptoBulk d + 1
  | (_, d) => uptoBulk d + 1
 end
def uptoSmall : (H : Type) → List (DataW H) → Bool := fun _ ds => decide (uptoBulkAll ds ≤ 1048576)
def OpenSpec.upto (s : _root_.Go.ChangeSpec) : _root_.Go.OpenSpec := { _root_.Go.OpenSpec.ofChange s with cond := some uptoSmall }

/-- 'laws.FnExactJoinLines', WHERE WHAT IT READS IS OF BULK AT MOST 1048576: true; the input reads as it did. -/
def fnExactJoinLinesUptoRow : OpenClaim := { program := "ytihbalbcocfnfaa", sum := "b56a5b98409267debffb72d5952544046825648462fafba44b0ef8229435c995", func := "loop.example/g00172/laws.FnExactJoinLines", spec := "fnExactJoinLines", inPlace := ["internal/abi.NoEscape", "internal/bytealg.MakeNoZero", "internal/bytealg.IndexByteString", "internal/bytealg.IndexString"], named := ["internal/bytealg.MaxLen"], apart := false, narrowed := true }
def FnExactJoinLinesUptoSaid : Prop := fnExactJoinLinesUptoRow.holds Try.pinned (OpenSpec.upto fnExactJoinLinesSpec)

/-- 'laws.FnExactCommonOf', WHERE WHAT IT READS IS OF BULK AT MOST 1048576: true; the input reads as it did. -/
def fnExactCommonOfUptoRow : OpenClaim := { program := "ytihbalbcocfnfaa", sum := "b56a5b98409267debffb72d5952544046825648462fafba44b0ef8229435c995", func := "loop.example/g00172/laws.FnExactCommonOf", spec := "fnExactCommonOf", inPlace := ["internal/abi.NoEscape", "internal/bytealg.MakeNoZero", "internal/bytealg.IndexByteString", "internal/bytealg.IndexString"], named := ["internal/bytealg.MaxLen"], apart := false, narrowed := true }
def FnExactCommonOfUptoSaid : Prop := fnExactCommonOfUptoRow.holds Try.pinned (OpenSpec.upto fnExactCommonOfSpec)

/-- 'laws.FnExactEditCount', WHERE WHAT IT READS IS OF BULK AT MOST 1048576: true; the input reads as it did. -/
def fnExactEditCountUptoRow : OpenClaim := { program := "ytihbalbcocfnfaa", sum := "b56a5b98409267debffb72d5952544046825648462fafba44b0ef8229435c995", func := "loop.example/g00172/laws.FnExactEditCount", spec := "fnExactEditCount", inPlace := ["internal/abi.NoEscape", "internal/bytealg.MakeNoZero", "internal/bytealg.IndexByteString", "internal/bytealg.IndexString"], named := ["internal/bytealg.MaxLen"], apart := false, narrowed := true }
def FnExactEditCountUptoSaid : Prop := fnExactEditCountUptoRow.holds Try.pinned (OpenSpec.upto fnExactEditCountSpec)

/-- 'laws.FnExactChangesFault', WHERE WHAT IT READS IS OF BULK AT MOST 1048576: true; the input reads as it did. -/
def fnExactChangesFaultUptoRow : OpenClaim := { program := "ytihbalbcocfnfaa", sum := "b56a5b98409267debffb72d5952544046825648462fafba44b0ef8229435c995", func := "loop.example/g00172/laws.FnExactChangesFault", spec := "fnExactChangesFault", inPlace := ["internal/abi.NoEscape", "internal/bytealg.MakeNoZero", "internal/bytealg.IndexByteString", "internal/bytealg.IndexString"], named := ["internal/bytealg.MaxLen"], apart := false, narrowed := true }
def FnExactChangesFaultUptoSaid : Prop := fnExactChangesFaultUptoRow.holds Try.pinned (OpenSpec.upto fnExactChangesFaultSpec)

/-- 'laws.FnExactMatchLines', WHERE WHAT IT READS IS OF BULK AT MOST 1048576: true; the input reads as it did. -/
def fnExactMatchLinesUptoRow : OpenClaim := { program := "ytihbalbcocfnfaa", sum := "b56a5b98409267debffb72d5952544046825648462fafba44b0ef8229435c995", func := "loop.example/g00172/laws.FnExactMatchLines", spec := "fnExactMatchLines", inPlace := ["internal/abi.NoEscape", "internal/bytealg.MakeNoZero", "internal/bytealg.IndexByteString", "internal/bytealg.IndexString"], named := ["internal/bytealg.MaxLen"], apart := false, narrowed := true }
def FnExactMatchLinesUptoSaid : Prop := fnExactMatchLinesUptoRow.holds Try.pinned (OpenSpec.upto fnExactMatchLinesSpec)

/-- 'laws.FnExactWeaveChanges', WHERE WHAT IT READS IS OF BULK AT MOST 1048576: true; the input reads as it did. -/
def fnExactWeaveChangesUptoRow : OpenClaim := { program := "ytihbalbcocfnfaa", sum := "b56a5b98409267debffb72d5952544046825648462fafba44b0ef8229435c995", func := "loop.example/g00172/laws.FnExactWeaveChanges", spec := "fnExactWeaveChanges", inPlace := ["internal/abi.NoEscape", "internal/bytealg.MakeNoZero", "internal/bytealg.IndexByteString", "internal/bytealg.IndexString"], named := ["internal/bytealg.MaxLen"], apart := false, narrowed := true }
def FnExactWeaveChangesUptoSaid : Prop := fnExactWeaveChangesUptoRow.holds Try.pinned (OpenSpec.upto fnExactWeaveChangesSpec)

/-- 'laws.FnExactChangesOf', WHERE WHAT IT READS IS OF BULK AT MOST 1048576: true; the input reads as it did. -/
def fnExactChangesOfUptoRow : OpenClaim := { program := "ytihbalbcocfnfaa", sum := "b56a5b98409267debffb72d5952544046825648462fafba44b0ef8229435c995", func := "loop.example/g00172/laws.FnExactChangesOf", spec := "fnExactChangesOf", inPlace := ["internal/abi.NoEscape", "internal/bytealg.MakeNoZero", "internal/bytealg.IndexByteString", "internal/bytealg.IndexString"], named := ["internal/bytealg.MaxLen"], apart := false, narrowed := true }
def FnExactChangesOfUptoSaid : Prop := fnExactChangesOfUptoRow.holds Try.pinned (OpenSpec.upto fnExactChangesOfSpec)

/-- 'laws.FnEdits', WHERE WHAT IT READS IS OF BULK AT MOST 1048576: true; the input reads as it did. -/
def fnEditsUptoRow : OpenClaim := { program := "ytihbalbcocfnfaa", sum := "b56a5b98409267debffb72d5952544046825648462fafba44b0ef8229435c995", func := "loop.example/g00172/laws.FnEdits", spec := "fnEdits", inPlace := ["internal/abi.NoEscape", "internal/bytealg.MakeNoZero", "internal/bytealg.IndexByteString", "internal/bytealg.IndexString"], named := ["internal/bytealg.MaxLen"], apart := false, narrowed := true }
def FnEditsUptoSaid : Prop := fnEditsUptoRow.holds Try.pinned (OpenSpec.upto fnEditsSpec)

/-- 'laws.FnMatches', WHERE WHAT IT READS IS OF BULK AT MOST 1048576: true; the input reads as it did. -/
def fnMatchesUptoRow : OpenClaim := { program := "ytihbalbcocfnfaa", sum := "b56a5b98409267debffb72d5952544046825648462fafba44b0ef8229435c995", func := "loop.example/g00172/laws.FnMatches", spec := "fnMatches", inPlace := ["internal/abi.NoEscape", "internal/bytealg.MakeNoZero", "internal/bytealg.IndexByteString", "internal/bytealg.IndexString"], named := ["internal/bytealg.MaxLen"], apart := false, narrowed := true }
def FnMatchesUptoSaid : Prop := fnMatchesUptoRow.holds Try.pinned (OpenSpec.upto fnMatchesSpec)

/-- 'laws.FnWeaves', WHERE WHAT IT READS IS OF BULK AT MOST 1048576: true; the input reads as it did. -/
def fnWeavesUptoRow : OpenClaim := { program := "ytihbalbcocfnfaa", sum := "b56a5b98409267debffb72d5952544046825648462fafba44b0ef8229435c995", func := "loop.example/g00172/laws.FnWeaves", spec := "fnWeaves", inPlace := ["internal/abi.NoEscape", "internal/bytealg.MakeNoZero", "internal/bytealg.IndexByteString", "internal/bytealg.IndexString"], named := ["internal/bytealg.MaxLen"], apart := false, narrowed := true }
def FnWeavesUptoSaid : Prop := fnWeavesUptoRow.holds Try.pinned (OpenSpec.upto fnWeavesSpec)

end Rows
end Go.Proofs.Ytihbalbcocfnfaa
