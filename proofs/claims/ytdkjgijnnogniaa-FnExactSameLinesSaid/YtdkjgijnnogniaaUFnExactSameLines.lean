import Derived.Test.YtdkjgijnnogniaaQ6
set_option linter.unusedVariables false
namespace Go.Proofs.Ytdkjgijnnogniaa.P
open Go.RowKit Go.Proofs.YtdkjgijnnogniaaW.PrintWords Go.Proofs.YtdkjgijnnogniaaW.PrintLast
namespace UFnExactSameLines
/-- The pure statement. -/
def Pure : Prop := ∀ (l0 : List ByteArray) (l1 : List ByteArray), (l0.length ≤ 9223372036854775807 ∧ ∀ x ∈ l0, x.size ≤ 9223372036854775807) → (l1.length ≤ 9223372036854775807 ∧ ∀ x ∈ l1, x.size ≤ 9223372036854775807) → ∃ k, laws_FnExactSameLines.f k l0 l1 = some true
end UFnExactSameLines
end Go.Proofs.Ytdkjgijnnogniaa.P
