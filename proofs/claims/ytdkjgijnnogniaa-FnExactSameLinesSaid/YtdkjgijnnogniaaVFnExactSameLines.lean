/- The law on SameLines, as a statement on plain values. -/
import Derived.Test.YtdkjgijnnogniaaUFnExactSameLines
import Derived.Test.YtdkjgijnnogniaaV1
set_option linter.unusedVariables false
namespace Go.Proofs.Ytdkjgijnnogniaa.P.VFnExactSameLines
open Go.RowKit Go.Proofs.YtdkjgijnnogniaaW.PrintWords Go.Proofs.YtdkjgijnnogniaaW.PrintLast
theorem proof : UFnExactSameLines.Pure := by
  intro l0 l1 g0 g1
  apply Ev.rounds
  unfold laws_FnExactSameLines.f
  obtain ⟨r, hr, hp⟩ := sz_tells l0 g0 1048576 (by omega) (by omega)
  refine Ev_call hr ?_
  rcases hp with hp | ⟨h0, h1, h2⟩
  · exact Ev_pos hp (Ev.now _)
  refine Ev_neg (by omega) ?_
  obtain ⟨r2, hr2, hp2⟩ := sz_tells l1 g1 r (by omega) (by omega)
  refine Ev_call hr2 ?_
  rcases hp2 with hp2 | ⟨h3, h4, h5⟩
  · exact Ev_pos hp2 (Ev.now _)
  refine Ev_neg (by omega) ?_
  have t0 := to_tells l0 (by omega)
  have t1 := to_tells l1 (by omega)
  refine Ev_call t0 (Ev_call t1 (Ev_call (ssame_tells l0 l1 (by omega)) (Ev_call t0 (Ev_call t1 (Ev_call (a := decide (l0 = l1)) (by unfold impl_SameLines.f; exact Ev_call (isame_tells l0 l1 (by omega)) (Ev.now _)) ?_)))))
  refine Ev_neg (by simp) (Ev_call t0 (Ev_call (eq_tells l0 (by omega)) (Ev_pos rfl (Ev_call t1 (Ev_call (eq_tells l1 (by omega)) (Ev_pos rfl (Ev.now _)))))))
end Go.Proofs.Ytdkjgijnnogniaa.P.VFnExactSameLines
