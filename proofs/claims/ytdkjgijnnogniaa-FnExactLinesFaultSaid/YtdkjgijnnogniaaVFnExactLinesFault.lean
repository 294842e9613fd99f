/- The law on LinesFault, as a statement on plain values. -/
import Derived.Test.YtdkjgijnnogniaaUFnExactLinesFault
import Derived.Test.YtdkjgijnnogniaaV1
import Derived.Test.YtdkjgijnnogniaaV1l
set_option linter.unusedVariables false
namespace Go.Proofs.Ytdkjgijnnogniaa.P.VFnExactLinesFault
open Go.RowKit Go.Proofs.YtdkjgijnnogniaaW.PrintWords Go.Proofs.YtdkjgijnnogniaaW.PrintLast
theorem total_bytes (xs : List ByteArray) : bytesOfAll xs = total xs := by
  induction xs with
  | nil => rfl
  | cons x l ih => simp only [bytesOfAll, total, ih]
theorem proof : UFnExactLinesFault.Pure := by
  intro l0 g0
  apply Ev.rounds
  unfold laws_FnExactLinesFault.f
  obtain ⟨r, hr, hp⟩ := sz_tells l0 g0 1048576 (by omega) (by omega)
  refine Ev_call hr ?_
  rcases hp with hp | ⟨h0, h1, h2⟩
  · exact Ev_pos hp (Ev.now _)
  refine Ev_neg (by omega) ?_
  have t0 := to_tells l0 (by omega)
  have hb := total_bytes l0
  refine Ev_call t0 (Ev_call (slf_tells l0 g0.2 g0.1 (by omega)) (Ev_call t0 (Ev_call (ilf_tells l0 g0.2 (by omega) (by omega)) (Ev_pos rfl (Ev_call t0 (Ev_call (eq_tells l0 (by omega)) (Ev_pos rfl (Ev.now _))))))))
end Go.Proofs.Ytdkjgijnnogniaa.P.VFnExactLinesFault
