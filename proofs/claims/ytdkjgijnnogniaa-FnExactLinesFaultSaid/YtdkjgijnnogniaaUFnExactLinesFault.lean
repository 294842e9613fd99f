import Derived.Test.YtdkjgijnnogniaaQ7
set_option linter.unusedVariables false
namespace Go.Proofs.Ytdkjgijnnogniaa.P
open Go.RowKit Go.Proofs.YtdkjgijnnogniaaW.PrintWords Go.Proofs.YtdkjgijnnogniaaW.PrintLast
namespace UFnExactLinesFault
/-- The pure statement. -/
def Pure : Prop := ∀ (l0 : List ByteArray), (l0.length ≤ 9223372036854775807 ∧ ∀ x ∈ l0, x.size ≤ 9223372036854775807) → ∃ k, laws_FnExactLinesFault.f k l0 = some true
end UFnExactLinesFault
end Go.Proofs.Ytdkjgijnnogniaa.P
