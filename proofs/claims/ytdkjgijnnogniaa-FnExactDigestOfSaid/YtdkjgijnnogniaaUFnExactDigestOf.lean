import Derived.Test.YtdkjgijnnogniaaQ4
set_option linter.unusedVariables false
namespace Go.Proofs.Ytdkjgijnnogniaa.P
open Go.RowKit Go.Proofs.YtdkjgijnnogniaaW.PrintWords Go.Proofs.YtdkjgijnnogniaaW.PrintLast
namespace UFnExactDigestOf
/-- The pure statement. -/
def Pure : Prop := ∀ (a0 : ByteArray), (a0.size ≤ 9223372036854775807) → ∃ k, laws_FnExactDigestOf.f k a0 = some true
end UFnExactDigestOf
end Go.Proofs.Ytdkjgijnnogniaa.P
