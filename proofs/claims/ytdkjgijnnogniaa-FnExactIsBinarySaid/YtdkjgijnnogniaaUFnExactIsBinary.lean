import Derived.Test.YtdkjgijnnogniaaQ5
set_option linter.unusedVariables false
namespace Go.Proofs.Ytdkjgijnnogniaa.P
open Go.RowKit Go.Proofs.YtdkjgijnnogniaaW.PrintWords Go.Proofs.YtdkjgijnnogniaaW.PrintLast
namespace UFnExactIsBinary
/-- The pure statement. -/
def Pure : Prop := ∀ (a0 : ByteArray), (a0.size ≤ 9223372036854775807) → ∃ k, laws_FnExactIsBinary.f k a0 = some true
end UFnExactIsBinary
end Go.Proofs.Ytdkjgijnnogniaa.P
