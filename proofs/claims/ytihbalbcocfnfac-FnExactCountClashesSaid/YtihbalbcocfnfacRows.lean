/-
  No cell of these rows narrows 'for every input' (looked for: loops, veiled, ifaces, maps, wideKeys, modest, calm, conditions, laid).
  DERIVED. THE GIVEN ROWS OF THIS SEAT. 7 by the template 'for every input the law returns true; each argument reads behind the call as it read before'; 0 by the template 'total and deterministic' (their statements: YtihbalbcocfnfacTotals.lean).
  GIVEN WITH THE SEED: the statements are not yours to turn. If you find one false, say at which input.
  Laid BY PROGRAM, IN A SANDBOX (cutbox-rows.mjs): the forced cells as the released guide's own fill.sh prints them over the translation a25d7ca21e4f1c28… (all of the seat's roots in one cut). By AI agents, Wed Nov 11 2026. No macro, syntax, notation, axiom, sorry.
-/
import Derived.Test.YtihbalbcocfnfacChecked
import GoSem.Claim
import GoSem.ClaimJoined
import GoSem.ClaimMapViews
import Derived.JoinedTies
import Derived.KernelRfl
namespace Go.Proofs.Ytihbalbcocfnfac
/- THE CELL 'sum', in the pinned program and in every row, IS THE sha256 OF THE DUMP (.gsa) THAT YtihbalbcocfnfacProg.lean LOADS. Nothing in Lean hashes anything: it is a label: what it is worth is what the hold of that sum in a sandbox is worth. -/
noncomputable def Try.pinned : Pinned := { name := "ytihbalbcocfnfac", sum := "a25d7ca21e4f1c283685bc043d4e1d220f91a338d1ef8332ab40dd95914b7ab9", checked := Try.checked }
namespace Rows
def none {H : Type} : Left H := { results := [], args := [] }

/-- 'laws.FnExactClashText': WHATEVER THE INPUT: true; the input reads as it did. -/
def fnExactClashTextSpec : ChangeSpec := { name := "fnExactClashText", fn := fun _ => fun
  | [d] => { results := [.lit (.bool true)], args := [d] }
  | _ => none }
def fnExactClashTextRow : OpenClaim := { program := "ytihbalbcocfnfac", sum := "a25d7ca21e4f1c283685bc043d4e1d220f91a338d1ef8332ab40dd95914b7ab9", func := "loop.example/g00172/laws.FnExactClashText", spec := "fnExactClashText", inPlace := ["internal/bytealg.IndexByteString", "internal/bytealg.IndexString", "internal/abi.NoEscape"], unfollowed := true, recurses := true, named := ["internal/bytealg.MaxLen"], apart := false }
def FnExactClashTextSaid : Prop := fnExactClashTextRow.holds Try.pinned (OpenSpec.ofChange fnExactClashTextSpec)

/-- ITS FALSE NEIGHBOUR: 'it returns false'. Refute it at one input. -/
def fnExactClashTextWrong : ChangeSpec := { name := "fnExactClashText", fn := fun _ => fun
  | [d] => { results := [.lit (.bool false)], args := [d] }
  | _ => none }
def FnExactClashTextWrongFalsely : Prop := fnExactClashTextRow.holds Try.pinned (OpenSpec.ofChange fnExactClashTextWrong)

/-- 'laws.FnExactChunksFault': WHATEVER THE INPUT: true; the input reads as it did. -/
def fnExactChunksFaultSpec : ChangeSpec := { name := "fnExactChunksFault", fn := fun _ => fun
  | [d] => { results := [.lit (.bool true)], args := [d] }
  | _ => none }
def fnExactChunksFaultRow : OpenClaim := { program := "ytihbalbcocfnfac", sum := "a25d7ca21e4f1c283685bc043d4e1d220f91a338d1ef8332ab40dd95914b7ab9", func := "loop.example/g00172/laws.FnExactChunksFault", spec := "fnExactChunksFault", inPlace := ["internal/abi.NoEscape", "internal/bytealg.MakeNoZero", "internal/bytealg.IndexByteString", "internal/bytealg.IndexString"], named := ["internal/bytealg.MaxLen"], apart := false }
def FnExactChunksFaultSaid : Prop := fnExactChunksFaultRow.holds Try.pinned (OpenSpec.ofChange fnExactChunksFaultSpec)

/-- ITS FALSE NEIGHBOUR: 'it returns false'. Refute it at one input. -/
def fnExactChunksFaultWrong : ChangeSpec := { name := "fnExactChunksFault", fn := fun _ => fun
  | [d] => { results := [.lit (.bool false)], args := [d] }
  | _ => none }
def FnExactChunksFaultWrongFalsely : Prop := fnExactChunksFaultRow.holds Try.pinned (OpenSpec.ofChange fnExactChunksFaultWrong)

/-- 'laws.FnExactCountClashes': WHATEVER THE INPUT: true; the input reads as it did. -/
def fnExactCountClashesSpec : ChangeSpec := { name := "fnExactCountClashes", fn := fun _ => fun
  | [d] => { results := [.lit (.bool true)], args := [d] }
  | _ => none }
def fnExactCountClashesRow : OpenClaim := { program := "ytihbalbcocfnfac", sum := "a25d7ca21e4f1c283685bc043d4e1d220f91a338d1ef8332ab40dd95914b7ab9", func := "loop.example/g00172/laws.FnExactCountClashes", spec := "fnExactCountClashes", inPlace := ["internal/abi.NoEscape", "internal/bytealg.MakeNoZero", "internal/bytealg.IndexByteString", "internal/bytealg.IndexString"], named := ["internal/bytealg.MaxLen"], apart := false }
def FnExactCountClashesSaid : Prop := fnExactCountClashesRow.holds Try.pinned (OpenSpec.ofChange fnExactCountClashesSpec)

/-- ITS FALSE NEIGHBOUR: 'it returns false'. Refute it at one input. -/
def fnExactCountClashesWrong : ChangeSpec := { name := "fnExactCountClashes", fn := fun _ => fun
  | [d] => { results := [.lit (.bool false)], args := [d] }
  | _ => none }
def FnExactCountClashesWrongFalsely : Prop := fnExactCountClashesRow.holds Try.pinned (OpenSpec.ofChange fnExactCountClashesWrong)

/-- 'laws.FnExactWeaveSide': WHATEVER THE INPUT: true; the input reads as it did. -/
def fnExactWeaveSideSpec : ChangeSpec := { name := "fnExactWeaveSide", fn := fun _ => fun
  | [d1, d2] => { results := [.lit (.bool true)], args := [d1, d2] }
  | _ => none }
def fnExactWeaveSideRow : OpenClaim := { program := "ytihbalbcocfnfac", sum := "a25d7ca21e4f1c283685bc043d4e1d220f91a338d1ef8332ab40dd95914b7ab9", func := "loop.example/g00172/laws.FnExactWeaveSide", spec := "fnExactWeaveSide", inPlace := ["internal/abi.NoEscape", "internal/bytealg.MakeNoZero", "internal/bytealg.IndexByteString", "internal/bytealg.IndexString"], named := ["internal/bytealg.MaxLen"], apart := false }
def FnExactWeaveSideSaid : Prop := fnExactWeaveSideRow.holds Try.pinned (OpenSpec.ofChange fnExactWeaveSideSpec)

/-- ITS FALSE NEIGHBOUR: 'it returns false'. Refute it at one input. -/
def fnExactWeaveSideWrong : ChangeSpec := { name := "fnExactWeaveSide", fn := fun _ => fun
  | [d1, d2] => { results := [.lit (.bool false)], args := [d1, d2] }
  | _ => none }
def FnExactWeaveSideWrongFalsely : Prop := fnExactWeaveSideRow.holds Try.pinned (OpenSpec.ofChange fnExactWeaveSideWrong)

/-- 'laws.FnExactSwapChunks': WHATEVER THE INPUT: true; the input reads as it did. -/
def fnExactSwapChunksSpec : ChangeSpec := { name := "fnExactSwapChunks", fn := fun _ => fun
  | [d] => { results := [.lit (.bool true)], args := [d] }
  | _ => none }
def fnExactSwapChunksRow : OpenClaim := { program := "ytihbalbcocfnfac", sum := "a25d7ca21e4f1c283685bc043d4e1d220f91a338d1ef8332ab40dd95914b7ab9", func := "loop.example/g00172/laws.FnExactSwapChunks", spec := "fnExactSwapChunks", inPlace := ["internal/abi.NoEscape", "internal/bytealg.MakeNoZero", "internal/bytealg.IndexByteString", "internal/bytealg.IndexString"], named := ["internal/bytealg.MaxLen"], apart := false }
def FnExactSwapChunksSaid : Prop := fnExactSwapChunksRow.holds Try.pinned (OpenSpec.ofChange fnExactSwapChunksSpec)

/-- ITS FALSE NEIGHBOUR: 'it returns false'. Refute it at one input. -/
def fnExactSwapChunksWrong : ChangeSpec := { name := "fnExactSwapChunks", fn := fun _ => fun
  | [d] => { results := [.lit (.bool false)], args := [d] }
  | _ => none }
def FnExactSwapChunksWrongFalsely : Prop := fnExactSwapChunksRow.holds Try.pinned (OpenSpec.ofChange fnExactSwapChunksWrong)

/-- 'laws.FnExactChunksOf': WHATEVER THE INPUT: true; the input reads as it did. -/
def fnExactChunksOfSpec : ChangeSpec := { name := "fnExactChunksOf", fn := fun _ => fun
  | [d1, d2, d3] => { results := [.lit (.bool true)], args := [d1, d2, d3] }
  | _ => none }
def fnExactChunksOfRow : OpenClaim := { program := "ytihbalbcocfnfac", sum := "a25d7ca21e4f1c283685bc043d4e1d220f91a338d1ef8332ab40dd95914b7ab9", func := "loop.example/g00172/laws.FnExactChunksOf", spec := "fnExactChunksOf", inPlace := ["internal/abi.NoEscape", "internal/bytealg.MakeNoZero", "internal/bytealg.IndexByteString", "internal/bytealg.IndexString"], unfollowed := true, recurses := true, named := ["internal/bytealg.MaxLen"], apart := false }
def FnExactChunksOfSaid : Prop := fnExactChunksOfRow.holds Try.pinned (OpenSpec.ofChange fnExactChunksOfSpec)

/-- ITS FALSE NEIGHBOUR: 'it returns false'. Refute it at one input. -/
def fnExactChunksOfWrong : ChangeSpec := { name := "fnExactChunksOf", fn := fun _ => fun
  | [d1, d2, d3] => { results := [.lit (.bool false)], args := [d1, d2, d3] }
  | _ => none }
def FnExactChunksOfWrongFalsely : Prop := fnExactChunksOfRow.holds Try.pinned (OpenSpec.ofChange fnExactChunksOfWrong)

/-- 'laws.FnChunks': WHATEVER THE INPUT: true; the input reads as it did. -/
def fnChunksSpec : ChangeSpec := { name := "fnChunks", fn := fun _ => fun
  | [d] => { results := [.lit (.bool true)], args := [d] }
  | _ => none }
def fnChunksRow : OpenClaim := { program := "ytihbalbcocfnfac", sum := "a25d7ca21e4f1c283685bc043d4e1d220f91a338d1ef8332ab40dd95914b7ab9", func := "loop.example/g00172/laws.FnChunks", spec := "fnChunks", inPlace := ["internal/abi.NoEscape", "internal/bytealg.MakeNoZero", "internal/bytealg.IndexByteString", "internal/bytealg.IndexString"], unfollowed := true, recurses := true, named := ["internal/bytealg.MaxLen"], apart := false }
def FnChunksSaid : Prop := fnChunksRow.holds Try.pinned (OpenSpec.ofChange fnChunksSpec)

/-- ITS FALSE NEIGHBOUR: 'it returns false'. Refute it at one input. -/
def fnChunksWrong : ChangeSpec := { name := "fnChunks", fn := fun _ => fun
  | [d] => { results := [.lit (.bool false)], args := [d] }
  | _ => none }
def FnChunksWrongFalsely : Prop := fnChunksRow.holds Try.pinned (OpenSpec.ofChange fnChunksWrong)

/- THE SECOND FORM. 'bulk': how many values and letters a reading holds, each counted each time it is reached (what is shared counts as often as it is met; a slice's spare places count too). A statement '..UptoSaid' is the law's where the arguments, and the package variables that the reading takes, are together of bulk at most 1048576: NARROWER than '..Said'. Prove '..Said' where nothing that the law and all that it calls make is longer than what came in: it says more and counts as full. Else prove '..UptoSaid'. A law counts once. -/
mutual
def uptoBulk {H : Type} : DataW H → Nat
  | .lit (.string bytes) => bytes.length + 1
  | .lit _ => 1
  | .nil => 1
  | .ptr d => uptoBulk d + 1
  | .slice elems spare => uptoBulkAll elems + uptoBulkAll spare + 1
  | .agg parts => uptoBulkAll parts + 1
  | .iface _ d => uptoBulk d + 1
  | .map entries => uptoBulkEntries entries + 1
  | .held _ => 1
def uptoBulkAll {H : Type} : List (DataW H) → Nat
  | [] => 0
  | d :: r => uptoBulk d + uptoBulkAll r
def uptoBulkEntries {H : Type} : List (Lit × DataW H) → Nat
  | [] => 0
  | x :: r => uptoBulkEntry x + uptoBulkEntries r
def uptoBulkEntry {H : Type} : Lit × DataW H → Nat
  | (.string bytes, d) => bytes.length + uptoBulk d + 1
  | (_, d) => uptoBulk d + 1
 end
def uptoSmall : (H : Type) → List (DataW H) → Bool := fun _ ds => decide (uptoBulkAll ds ≤ 1048576)
def OpenSpec.upto (s : _root_.Go.ChangeSpec) : _root_.Go.OpenSpec := { _root_.Go.OpenSpec.ofChange s with cond := some uptoSmall }

/-- 'laws.FnExactClashText', WHERE WHAT IT READS IS OF BULK AT MOST 1048576: true; the input reads as it did. -/
def fnExactClashTextUptoRow : OpenClaim := { program := "ytihbalbcocfnfac", sum := "a25d7ca21e4f1c283685bc043d4e1d220f91a338d1ef8332ab40dd95914b7ab9", func := "loop.example/g00172/laws.FnExactClashText", spec := "fnExactClashText", inPlace := ["internal/bytealg.IndexByteString", "internal/bytealg.IndexString", "internal/abi.NoEscape"], unfollowed := true, recurses := true, named := ["internal/bytealg.MaxLen"], apart := false, narrowed := true }
def FnExactClashTextUptoSaid : Prop := fnExactClashTextUptoRow.holds Try.pinned (OpenSpec.upto fnExactClashTextSpec)

/-- 'laws.FnExactChunksFault', WHERE WHAT IT READS IS OF BULK AT MOST 1048576: true; the input reads as it did. -/
def fnExactChunksFaultUptoRow : OpenClaim := { program := "ytihbalbcocfnfac", sum := "a25d7ca21e4f1c283685bc043d4e1d220f91a338d1ef8332ab40dd95914b7ab9", func := "loop.example/g00172/laws.FnExactChunksFault", spec := "fnExactChunksFault", inPlace := ["internal/abi.NoEscape", "internal/bytealg.MakeNoZero", "internal/bytealg.IndexByteString", "internal/bytealg.IndexString"], named := ["internal/bytealg.MaxLen"], apart := false, narrowed := true }
def FnExactChunksFaultUptoSaid : Prop := fnExactChunksFaultUptoRow.holds Try.pinned (OpenSpec.upto fnExactChunksFaultSpec)

/-- 'laws.FnExactCountClashes', WHERE WHAT IT READS IS OF BULK AT MOST 1048576: true; the input reads as it did. -/
def fnExactCountClashesUptoRow : OpenClaim := { program := "ytihbalbcocfnfac", sum := "a25d7ca21e4f1c283685bc043d4e1d220f91a338d1ef8332ab40dd95914b7ab9", func := "loop.example/g00172/laws.FnExactCountClashes", spec := "fnExactCountClashes", inPlace := ["internal/abi.NoEscape", "internal/bytealg.MakeNoZero", "internal/bytealg.IndexByteString", "internal/bytealg.IndexString"], named := ["internal/bytealg.MaxLen"], apart := false, narrowed := true }
def FnExactCountClashesUptoSaid : Prop := fnExactCountClashesUptoRow.holds Try.pinned (OpenSpec.upto fnExactCountClashesSpec)

/-- 'laws.FnExactWeaveSide', WHERE WHAT IT READS IS OF BULK AT MOST 1048576: true; the input reads as it did. -/
def fnExactWeaveSideUptoRow : OpenClaim := { program := "ytihbalbcocfnfac", sum := "a25d7ca21e4f1c283685bc043d4e1d220f91a338d1ef8332ab40dd95914b7ab9", func := "loop.example/g00172/laws.FnExactWeaveSide", spec := "fnExactWeaveSide", inPlace := ["internal/abi.NoEscape", "internal/bytealg.MakeNoZero", "internal/bytealg.IndexByteString", "internal/bytealg.IndexString"], named := ["internal/bytealg.MaxLen"], apart := false, narrowed := true }
def FnExactWeaveSideUptoSaid : Prop := fnExactWeaveSideUptoRow.holds Try.pinned (OpenSpec.upto fnExactWeaveSideSpec)

/-- 'laws.FnExactSwapChunks', WHERE WHAT IT READS IS OF BULK AT MOST 1048576: true; the input reads as it did. -/
def fnExactSwapChunksUptoRow : OpenClaim := { program := "ytihbalbcocfnfac", sum := "a25d7ca21e4f1c283685bc043d4e1d220f91a338d1ef8332ab40dd95914b7ab9", func := "loop.example/g00172/laws.FnExactSwapChunks", spec := "fnExactSwapChunks", inPlace := ["internal/abi.NoEscape", "internal/bytealg.MakeNoZero", "internal/bytealg.IndexByteString", "internal/bytealg.IndexString"], named := ["internal/bytealg.MaxLen"], apart := false, narrowed := true }
def FnExactSwapChunksUptoSaid : Prop := fnExactSwapChunksUptoRow.holds Try.pinned (OpenSpec.upto fnExactSwapChunksSpec)

/-- 'laws.FnExactChunksOf', WHERE WHAT IT READS IS OF BULK AT MOST 1048576: true; the input reads as it did. -/
def fnExactChunksOfUptoRow : OpenClaim := { program := "ytihbalbcocfnfac", sum := "a25d7ca21e4f1c283685bc043d4e1d220f91a338d1ef8332ab40dd95914b7ab9", func := "loop.example/g00172/laws.FnExactChunksOf", spec := "fnExactChunksOf", inPlace := ["internal/abi.NoEscape", "internal/bytealg.MakeNoZero", "internal/bytealg.IndexByteString", "internal/bytealg.IndexString"], unfollowed := true, recurses := true, named := ["internal/bytealg.MaxLen"], apart := false, narrowed := true }
def FnExactChunksOfUptoSaid : Prop := fnExactChunksOfUptoRow.holds Try.pinned (OpenSpec.upto fnExactChunksOfSpec)

/-- 'laws.FnChunks', WHERE WHAT IT READS IS OF BULK AT MOST 1048576: true; the input reads as it did. -/
def fnChunksUptoRow : OpenClaim := { program := "ytihbalbcocfnfac", sum := "a25d7ca21e4f1c283685bc043d4e1d220f91a338d1ef8332ab40dd95914b7ab9", func := "loop.example/g00172/laws.FnChunks", spec := "fnChunks", inPlace := ["internal/abi.NoEscape", "internal/bytealg.MakeNoZero", "internal/bytealg.IndexByteString", "internal/bytealg.IndexString"], unfollowed := true, recurses := true, named := ["internal/bytealg.MaxLen"], apart := false, narrowed := true }
def FnChunksUptoSaid : Prop := fnChunksUptoRow.holds Try.pinned (OpenSpec.upto fnChunksSpec)

end Rows
end Go.Proofs.Ytihbalbcocfnfac
