/- The law on DigestOf, as a statement on plain values: both loops come to the same number. -/
import Derived.Test.YtdkjgijnnogniaaUFnExactDigestOf
import Derived.Test.YtdkjgijnnogniaaV1
set_option linter.unusedVariables false
namespace Go.Proofs.Ytdkjgijnnogniaa.P.VFnExactDigestOf
open Go.RowKit Go.Proofs.YtdkjgijnnogniaaW.PrintWords Go.Proofs.YtdkjgijnnogniaaW.PrintLast
theorem proof : UFnExactDigestOf.Pure := by
  intro s hs
  apply Ev.rounds
  unfold laws_FnExactDigestOf.f
  refine Ev_if (fun h => Ev.now _) (fun h => ?_)
  obtain ⟨r, h1, h2⟩ := sdigest_loop s hs _ 0 7 rfl (by omega)
  refine Ev_call (a := r) (by unfold spec_DigestOf.f; exact h1) (Ev_call (a := r) (by unfold impl_DigestOf.f; exact h2) (Ev_pos rfl (Ev.now _)))
end Go.Proofs.Ytdkjgijnnogniaa.P.VFnExactDigestOf
