/- IsBinary's two forms. -/
import Derived.Test.YtdkjgijnnogniaaVbase
import Derived.Test.YtdkjgijnnogniaaVbytes
import Derived.Test.YtdkjgijnnogniaaQ10
import Derived.Test.YtdkjgijnnogniaaQ11
set_option linter.unusedVariables false
set_option linter.unusedSimpArgs false
namespace Go.Proofs.Ytdkjgijnnogniaa.P
open Go.RowKit Go.Proofs.YtdkjgijnnogniaaW.PrintWords Go.Proofs.YtdkjgijnnogniaaW.PrintLast
theorem sbin_loop (s : ByteArray) (hs : s.size ≤ 9223372036854775807) : ∀ (d i : Nat), s.size - i = d → i ≤ s.size → Ev (fun k => spec_IsBinary.l0 k s (i : Int)) (decide (0 ∈ s.data.toList.drop i)) := by
  intro d
  induction d with
  | zero =>
    intro i hd hi
    refine Ev.step (fun k => by rw [spec_IsBinary.l0]) (Ev_neg (by omega) (Ev_val ?_))
    rw [List.drop_eq_nil_of_le (by rw [size_data]; omega)]
    simp
  | succ d ih =>
    intro i hd hi
    have hlt : i < s.data.toList.length := by rw [size_data]; omega
    refine Ev.step (fun k => by rw [spec_IsBinary.l0]) (Ev_pos (by omega) (Ev_pos (by omega) ?_))
    rw [bt_nat hlt, drop_at hlt, wsucc (n := s.size) (by omega) hs]
    refine Ev_if (fun h => Ev_val ?_) (fun h => Ev_eq (ih (i + 1) (by omega) (by omega)) ?_)
    · have : s.data.toList[i] = 0 := by
        apply UInt8.toNat_inj.1
        have h2 : s.data.toList[i].toNat = 0 := by omega
        exact h2
      rw [this]
      simp
    · have : ¬ (0 : UInt8) = s.data.toList[i] := fun e => h (by rw [← e]; rfl)
      rw [decide_eq_decide, List.mem_cons]
      exact ⟨.inr, fun h => h.resolve_left this⟩
theorem sbin_tells (s : ByteArray) (hs : s.size ≤ 9223372036854775807) : Ev (fun k => spec_IsBinary.f k s) (decide (0 ∈ s.data.toList)) := by
  unfold spec_IsBinary.f
  have h := sbin_loop s hs _ 0 rfl (by omega)
  rw [List.drop_zero] at h
  exact h
theorem ibin_tells (s : ByteArray) : impl_IsBinary.f s = some (decide (0 ∈ s.data.toList)) := by
  unfold impl_IsBinary.f strings_IndexByte.f
  rw [Option.bind_some]
  congr 1
  rw [decide_eq_decide]
  exact index_mem s.data.toList 0
end Go.Proofs.Ytdkjgijnnogniaa.P
