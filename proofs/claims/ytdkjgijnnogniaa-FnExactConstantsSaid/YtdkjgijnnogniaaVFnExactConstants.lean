/- The law on the constants, as a statement on plain values. -/
import Derived.Test.YtdkjgijnnogniaaUFnExactConstants
namespace Go.Proofs.Ytdkjgijnnogniaa.P.VFnExactConstants
theorem proof : UFnExactConstants.Pure := by
  unfold UFnExactConstants.Pure
  rfl
end Go.Proofs.Ytdkjgijnnogniaa.P.VFnExactConstants
