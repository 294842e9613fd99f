/-
  No cell of these rows narrows 'for every input' (looked for: loops, veiled, ifaces, maps, wideKeys, modest, calm, conditions, laid).
  DERIVED. THE GIVEN ROWS OF THIS SEAT. 5 by the template 'for every input the law returns true; each argument reads behind the call as it read before'; 0 by the template 'total and deterministic' (their statements: YtdkjgijnnogniaaTotals.lean).
  GIVEN WITH THE SEED: the statements are not yours to turn. If you find one false, say at which input.
  Laid BY PROGRAM, IN A SANDBOX (cutbox-rows.mjs): the forced cells as the released guide's own fill.sh prints them over the translation 74dfb4388e405c93… (all of the seat's roots in one cut). By AI agents, Wed Nov 11 2026. No macro, syntax, notation, axiom, sorry.
-/
import Derived.Test.YtdkjgijnnogniaaChecked
import GoSem.Claim
import GoSem.ClaimJoined
import GoSem.ClaimMapViews
import Derived.JoinedTies
import Derived.KernelRfl
namespace Go.Proofs.Ytdkjgijnnogniaa
/- THE CELL 'sum', in the pinned program and in every row, IS THE sha256 OF THE DUMP (.gsa) THAT YtdkjgijnnogniaaProg.lean LOADS. Nothing in Lean hashes anything: it is a label: what it is worth is what the hold of that sum in a sandbox is worth. -/
noncomputable def Try.pinned : Pinned := { name := "ytdkjgijnnogniaa", sum := "74dfb4388e405c93a3df5ea84b5c127bc5067a7e0d086310ee2230d2806a8211", checked := Try.checked }
namespace Rows
def none {H : Type} : Left H := { results := [], args := [] }

/-- 'laws.FnExactConstants': WHATEVER THE INPUT: true; the input reads as it did. -/
def fnExactConstantsSpec : ChangeSpec := { name := "fnExactConstants", fn := fun _ => fun
  | [] => { results := [.lit (.bool true)], args := [] }
  | _ => none }
def fnExactConstantsRow : OpenClaim := { program := "ytdkjgijnnogniaa", sum := "74dfb4388e405c93a3df5ea84b5c127bc5067a7e0d086310ee2230d2806a8211", func := "loop.example/g00172/laws.FnExactConstants", spec := "fnExactConstants", apart := false }
def FnExactConstantsSaid : Prop := fnExactConstantsRow.holds Try.pinned (OpenSpec.ofChange fnExactConstantsSpec)

/-- ITS FALSE NEIGHBOUR: 'it returns false'. Refute it at one input. -/
def fnExactConstantsWrong : ChangeSpec := { name := "fnExactConstants", fn := fun _ => fun
  | [] => { results := [.lit (.bool false)], args := [] }
  | _ => none }
def FnExactConstantsWrongFalsely : Prop := fnExactConstantsRow.holds Try.pinned (OpenSpec.ofChange fnExactConstantsWrong)

/-- 'laws.FnExactDigestOf': WHATEVER THE INPUT: true; the input reads as it did. -/
def fnExactDigestOfSpec : ChangeSpec := { name := "fnExactDigestOf", fn := fun _ => fun
  | [d] => { results := [.lit (.bool true)], args := [d] }
  | _ => none }
def fnExactDigestOfRow : OpenClaim := { program := "ytdkjgijnnogniaa", sum := "74dfb4388e405c93a3df5ea84b5c127bc5067a7e0d086310ee2230d2806a8211", func := "loop.example/g00172/laws.FnExactDigestOf", spec := "fnExactDigestOf", apart := false }
def FnExactDigestOfSaid : Prop := fnExactDigestOfRow.holds Try.pinned (OpenSpec.ofChange fnExactDigestOfSpec)

/-- ITS FALSE NEIGHBOUR: 'it returns false'. Refute it at one input. -/
def fnExactDigestOfWrong : ChangeSpec := { name := "fnExactDigestOf", fn := fun _ => fun
  | [d] => { results := [.lit (.bool false)], args := [d] }
  | _ => none }
def FnExactDigestOfWrongFalsely : Prop := fnExactDigestOfRow.holds Try.pinned (OpenSpec.ofChange fnExactDigestOfWrong)

/-- 'laws.FnExactIsBinary': WHATEVER THE INPUT: true; the input reads as it did. -/
def fnExactIsBinarySpec : ChangeSpec := { name := "fnExactIsBinary", fn := fun _ => fun
  | [d] => { results := [.lit (.bool true)], args := [d] }
  | _ => none }
def fnExactIsBinaryRow : OpenClaim := { program := "ytdkjgijnnogniaa", sum := "74dfb4388e405c93a3df5ea84b5c127bc5067a7e0d086310ee2230d2806a8211", func := "loop.example/g00172/laws.FnExactIsBinary", spec := "fnExactIsBinary", inPlace := ["internal/bytealg.IndexByteString"], apart := false }
def FnExactIsBinarySaid : Prop := fnExactIsBinaryRow.holds Try.pinned (OpenSpec.ofChange fnExactIsBinarySpec)

/-- ITS FALSE NEIGHBOUR: 'it returns false'. Refute it at one input. -/
def fnExactIsBinaryWrong : ChangeSpec := { name := "fnExactIsBinary", fn := fun _ => fun
  | [d] => { results := [.lit (.bool false)], args := [d] }
  | _ => none }
def FnExactIsBinaryWrongFalsely : Prop := fnExactIsBinaryRow.holds Try.pinned (OpenSpec.ofChange fnExactIsBinaryWrong)

/-- 'laws.FnExactSameLines': WHATEVER THE INPUT: true; the input reads as it did. -/
def fnExactSameLinesSpec : ChangeSpec := { name := "fnExactSameLines", fn := fun _ => fun
  | [d1, d2] => { results := [.lit (.bool true)], args := [d1, d2] }
  | _ => none }
def fnExactSameLinesRow : OpenClaim := { program := "ytdkjgijnnogniaa", sum := "74dfb4388e405c93a3df5ea84b5c127bc5067a7e0d086310ee2230d2806a8211", func := "loop.example/g00172/laws.FnExactSameLines", spec := "fnExactSameLines", apart := false }
def FnExactSameLinesSaid : Prop := fnExactSameLinesRow.holds Try.pinned (OpenSpec.ofChange fnExactSameLinesSpec)

/-- ITS FALSE NEIGHBOUR: 'it returns false'. Refute it at one input. -/
def fnExactSameLinesWrong : ChangeSpec := { name := "fnExactSameLines", fn := fun _ => fun
  | [d1, d2] => { results := [.lit (.bool false)], args := [d1, d2] }
  | _ => none }
def FnExactSameLinesWrongFalsely : Prop := fnExactSameLinesRow.holds Try.pinned (OpenSpec.ofChange fnExactSameLinesWrong)

/-- 'laws.FnExactLinesFault': WHATEVER THE INPUT: true; the input reads as it did. -/
def fnExactLinesFaultSpec : ChangeSpec := { name := "fnExactLinesFault", fn := fun _ => fun
  | [d] => { results := [.lit (.bool true)], args := [d] }
  | _ => none }
def fnExactLinesFaultRow : OpenClaim := { program := "ytdkjgijnnogniaa", sum := "74dfb4388e405c93a3df5ea84b5c127bc5067a7e0d086310ee2230d2806a8211", func := "loop.example/g00172/laws.FnExactLinesFault", spec := "fnExactLinesFault", inPlace := ["internal/abi.NoEscape", "internal/bytealg.MakeNoZero", "internal/bytealg.IndexByteString", "internal/bytealg.IndexString"], named := ["internal/bytealg.MaxLen"], apart := false }
def FnExactLinesFaultSaid : Prop := fnExactLinesFaultRow.holds Try.pinned (OpenSpec.ofChange fnExactLinesFaultSpec)

/-- ITS FALSE NEIGHBOUR: 'it returns false'. Refute it at one input. -/
def fnExactLinesFaultWrong : ChangeSpec := { name := "fnExactLinesFault", fn := fun _ => fun
  | [d] => { results := [.lit (.bool false)], args := [d] }
  | _ => none }
def FnExactLinesFaultWrongFalsely : Prop := fnExactLinesFaultRow.holds Try.pinned (OpenSpec.ofChange fnExactLinesFaultWrong)

/- THE SECOND FORM. 'bulk': how many values and letters a reading holds, each counted each time it is reached (what is shared counts as often as it is met; a slice's spare places count too). A statement '..UptoSaid' is the law's where the arguments, and the package variables that the reading takes, are together of bulk at most 1048576: NARROWER than '..Said'. Prove '..Said' where nothing that the law and all that it calls make is longer than what came in: it says more and counts as full. Else prove '..UptoSaid'. A law counts once. -/
mutual
def uptoBulk {H : Type} : DataW H → Nat
  | .lit (.string bytes) => bytes.length + 1
  | .lit _ => 1
  | .nil => 1
  | .ptr d => uptoBulk d + 1
  | .slice elems spare => uptoBulkAll elems + uptoBulkAll spare + 1
  | .agg parts => uptoBulkAll parts + 1
  | .iface _ d => uptoBulk d + 1
  | .map entries => uptoBulkEntries entries + 1
  | .held _ => 1
def uptoBulkAll {H : Type} : List (DataW H) → Nat
  | [] => 0
  | d :: r => uptoBulk d + uptoBulkAll r
def uptoBulkEntries {H : Type} : List (Lit × DataW H) → Nat
  | [] => 0
  | x :: r => uptoBulkEntry x + uptoBulkEntries r
def uptoBulkEntry {H : Type} : Lit × DataW H → Nat
  | (.string bytes, d) => bytes.length + uptoBulk d + 1
  | (_, d) => uptoBulk d + 1
 end
def uptoSmall : (H : Type) → List (DataW H) → Bool := fun _ ds => decide (uptoBulkAll ds ≤ 1048576)
def OpenSpec.upto (s : _root_.Go.ChangeSpec) : _root_.Go.OpenSpec := { _root_.Go.OpenSpec.ofChange s with cond := some uptoSmall }

/-- 'laws.FnExactConstants', WHERE WHAT IT READS IS OF BULK AT MOST 1048576: true; the input reads as it did. -/
def fnExactConstantsUptoRow : OpenClaim := { program := "ytdkjgijnnogniaa", sum := "74dfb4388e405c93a3df5ea84b5c127bc5067a7e0d086310ee2230d2806a8211", func := "loop.example/g00172/laws.FnExactConstants", spec := "fnExactConstants", apart := false, narrowed := true }
def FnExactConstantsUptoSaid : Prop := fnExactConstantsUptoRow.holds Try.pinned (OpenSpec.upto fnExactConstantsSpec)

/-- 'laws.FnExactDigestOf', WHERE WHAT IT READS IS OF BULK AT MOST 1048576: true; the input reads as it did. -/
def fnExactDigestOfUptoRow : OpenClaim := { program := "ytdkjgijnnogniaa", sum := "74dfb4388e405c93a3df5ea84b5c127bc5067a7e0d086310ee2230d2806a8211", func := "loop.example/g00172/laws.FnExactDigestOf", spec := "fnExactDigestOf", apart := false, narrowed := true }
def FnExactDigestOfUptoSaid : Prop := fnExactDigestOfUptoRow.holds Try.pinned (OpenSpec.upto fnExactDigestOfSpec)

/-- 'laws.FnExactIsBinary', WHERE WHAT IT READS IS OF BULK AT MOST 1048576: true; the input reads as it did. -/
def fnExactIsBinaryUptoRow : OpenClaim := { program := "ytdkjgijnnogniaa", sum := "74dfb4388e405c93a3df5ea84b5c127bc5067a7e0d086310ee2230d2806a8211", func := "loop.example/g00172/laws.FnExactIsBinary", spec := "fnExactIsBinary", inPlace := ["internal/bytealg.IndexByteString"], apart := false, narrowed := true }
def FnExactIsBinaryUptoSaid : Prop := fnExactIsBinaryUptoRow.holds Try.pinned (OpenSpec.upto fnExactIsBinarySpec)

/-- 'laws.FnExactSameLines', WHERE WHAT IT READS IS OF BULK AT MOST 1048576: true; the input reads as it did. -/
def fnExactSameLinesUptoRow : OpenClaim := { program := "ytdkjgijnnogniaa", sum := "74dfb4388e405c93a3df5ea84b5c127bc5067a7e0d086310ee2230d2806a8211", func := "loop.example/g00172/laws.FnExactSameLines", spec := "fnExactSameLines", apart := false, narrowed := true }
def FnExactSameLinesUptoSaid : Prop := fnExactSameLinesUptoRow.holds Try.pinned (OpenSpec.upto fnExactSameLinesSpec)

/-- 'laws.FnExactLinesFault', WHERE WHAT IT READS IS OF BULK AT MOST 1048576: true; the input reads as it did. -/
def fnExactLinesFaultUptoRow : OpenClaim := { program := "ytdkjgijnnogniaa", sum := "74dfb4388e405c93a3df5ea84b5c127bc5067a7e0d086310ee2230d2806a8211", func := "loop.example/g00172/laws.FnExactLinesFault", spec := "fnExactLinesFault", inPlace := ["internal/abi.NoEscape", "internal/bytealg.MakeNoZero", "internal/bytealg.IndexByteString", "internal/bytealg.IndexString"], named := ["internal/bytealg.MaxLen"], apart := false, narrowed := true }
def FnExactLinesFaultUptoSaid : Prop := fnExactLinesFaultUptoRow.holds Try.pinned (OpenSpec.upto fnExactLinesFaultSpec)

end Rows
end Go.Proofs.Ytdkjgijnnogniaa
