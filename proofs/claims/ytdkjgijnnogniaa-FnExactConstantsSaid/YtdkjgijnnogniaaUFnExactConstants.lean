import Derived.Test.YtdkjgijnnogniaaQ3
set_option linter.unusedVariables false
namespace Go.Proofs.Ytdkjgijnnogniaa.P
open Go.RowKit Go.Proofs.YtdkjgijnnogniaaW.PrintWords Go.Proofs.YtdkjgijnnogniaaW.PrintLast
namespace UFnExactConstants
/-- The pure statement. -/
def Pure : Prop := laws_FnExactConstants.f  = some true
end UFnExactConstants
end Go.Proofs.Ytdkjgijnnogniaa.P
