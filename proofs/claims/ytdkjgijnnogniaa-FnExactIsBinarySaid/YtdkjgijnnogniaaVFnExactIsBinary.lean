/- The law on IsBinary, as a statement on plain values. -/
import Derived.Test.YtdkjgijnnogniaaUFnExactIsBinary
import Derived.Test.YtdkjgijnnogniaaV1b
set_option linter.unusedVariables false
namespace Go.Proofs.Ytdkjgijnnogniaa.P.VFnExactIsBinary
open Go.RowKit Go.Proofs.YtdkjgijnnogniaaW.PrintWords Go.Proofs.YtdkjgijnnogniaaW.PrintLast
theorem proof : UFnExactIsBinary.Pure := by
  intro s hs
  apply Ev.rounds
  unfold laws_FnExactIsBinary.f
  refine Ev_if (fun h => Ev.now _) (fun h => ?_)
  exact Ev_call (sbin_tells s hs) (Ev_const (ibin_tells s) (Ev_neg (by simp) (Ev.now _)))
end Go.Proofs.Ytdkjgijnnogniaa.P.VFnExactIsBinary
