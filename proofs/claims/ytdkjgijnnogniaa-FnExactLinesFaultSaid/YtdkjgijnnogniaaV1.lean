/- Chapter 1's functions, and the copies and comparisons of lists of lines: what they compute. -/
import Derived.Test.YtdkjgijnnogniaaVbase
import Derived.Test.YtdkjgijnnogniaaQ12
import Derived.Test.YtdkjgijnnogniaaQ14
import Derived.Test.YtdkjgijnnogniaaQ16
import Derived.Test.YtdkjgijnnogniaaQ13
import Derived.Test.YtdkjgijnnogniaaQ20
import Derived.Test.YtdkjgijnnogniaaQ15
import Derived.Test.YtdkjgijnnogniaaQ8
import Derived.Test.YtdkjgijnnogniaaQ9
import Derived.Test.YtdkjgijnnogniaaQ10
import Derived.Test.YtdkjgijnnogniaaQ11
import Derived.Test.YtdkjgijnnogniaaQ21
import Derived.Test.YtdkjgijnnogniaaQ17
import Derived.Test.YtdkjgijnnogniaaQ18
set_option linter.unusedVariables false
set_option linter.unusedSimpArgs false
namespace Go.Proofs.Ytdkjgijnnogniaa.P
open Go.RowKit Go.Proofs.YtdkjgijnnogniaaW.PrintWords Go.Proofs.YtdkjgijnnogniaaW.PrintLast

/-- How many bytes lines have together. -/
def total : List ByteArray → Nat
  | [] => 0
  | x :: l => x.size + total l
theorem sz_loop (xs : List ByteArray) (hx : ∀ x ∈ xs, x.size ≤ 9223372036854775807) (hl : xs.length ≤ 9223372036854775807) : ∀ (d i : Nat) (n : Int), xs.length - i = d → i ≤ xs.length → 0 ≤ n → n ≤ 1048576 →
    ∃ r, Ev (fun k => laws_szStringS.l0 k xs n (i : Int)) r ∧ (r < 0 ∨ (0 ≤ r ∧ r ≤ n ∧ (total (xs.drop i) : Int) = n - r)) := by
  intro d
  induction d with
  | zero =>
    intro i n hd hi h0 h1
    have : i = xs.length := by omega
    subst this
    refine ⟨n, Ev.step (fun k => by rw [laws_szStringS.l0]) (Ev_neg (by omega) (Ev.now _)), .inr ⟨h0, Int.le_refl _, ?_⟩⟩
    rw [List.drop_length]
    simp [total]
  | succ d ih =>
    intro i n hd hi h0 h1
    have hlt : i < xs.length := by omega
    have hs := hx xs[i] (List.getElem_mem hlt)
    by_cases hc : n - (xs[i].size : Int) < 0
    · refine ⟨-1, Ev.step (fun k => by rw [laws_szStringS.l0]) (Ev_pos (by omega) (Ev_pos (by omega) ?_)), .inl (by omega)⟩
      rw [rd_nat _ hlt, wid (by omega) (by omega)]
      exact Ev_pos hc (Ev.now _)
    · obtain ⟨r, hr, hp⟩ := ih (i + 1) (n - (xs[i].size : Int)) (by omega) (by omega) (by omega) (by omega)
      refine ⟨r, Ev.step (fun k => by rw [laws_szStringS.l0]) (Ev_pos (by omega) (Ev_pos (by omega) ?_)), ?_⟩
      · rw [rd_nat _ hlt, wid (by omega) (by omega), wsucc hlt hl]
        exact Ev_neg hc hr
      · rcases hp with hp | ⟨h2, h3, h4⟩
        · exact .inl hp
        · refine .inr ⟨h2, by omega, ?_⟩
          rw [drop_at hlt]
          simp only [total]
          omega
theorem sz_tells (xs : List ByteArray) (hg : xs.length ≤ 9223372036854775807 ∧ ∀ x ∈ xs, x.size ≤ 9223372036854775807) (n : Int) (h0 : 0 ≤ n) (h1 : n ≤ 1048576) :
    ∃ r, Ev (fun k => laws_szStringS.f k xs n) r ∧ (r < 0 ∨ (0 ≤ r ∧ r ≤ n ∧ (xs.length : Int) + (total xs : Int) = n - r)) := by
  by_cases hc : n - (xs.length : Int) < 0
  · refine ⟨-1, ?_, .inl (by omega)⟩
    unfold laws_szStringS.f
    rw [wid (by omega) (by omega)]
    exact Ev_pos hc (Ev.now _)
  · obtain ⟨r, hr, hp⟩ := sz_loop xs hg.2 hg.1 _ 0 (n - (xs.length : Int)) rfl (by omega) (by omega) (by omega)
    refine ⟨r, ?_, ?_⟩
    · unfold laws_szStringS.f
      rw [wid (by omega) (by omega)]
      exact Ev_neg hc hr
    · rcases hp with hp | ⟨h2, h3, h4⟩
      · exact .inl hp
      · rw [List.drop_zero] at h4
        exact .inr ⟨h2, by omega, by omega⟩
theorem to_loop (xs : List ByteArray) (hl : xs.length ≤ 9223372036854775807) : ∀ (d i : Nat) (ys : List ByteArray), xs.length - i = d → i ≤ xs.length → ys.length = xs.length →
    Ev (fun k => laws_toStringS.l0 k xs ys (i : Int)) (ys.take i ++ xs.drop i) := by
  intro d
  induction d with
  | zero =>
    intro i ys hd hi hy
    have : i = xs.length := by omega
    subst this
    refine Ev.step (fun k => by rw [laws_toStringS.l0]) (Ev_neg (by omega) (Ev_val ?_))
    rw [List.drop_length, List.append_nil, ← hy, List.take_length]
  | succ d ih =>
    intro i ys hd hi hy
    have hlt : i < xs.length := by omega
    refine Ev.step (fun k => by rw [laws_toStringS.l0]) (Ev_pos (by omega) (Ev_pos (by omega) (Ev_pos (by omega) ?_)))
    rw [rd_nat _ hlt, wsucc hlt hl, Int.toNat_natCast]
    have h := ih (i + 1) (ys.set i xs[i]) (by omega) (by omega) (by rw [List.length_set]; exact hy)
    refine Ev_eq h ?_
    rw [drop_at hlt, List.take_succ_eq_append_getElem (by rw [List.length_set]; omega), List.getElem_set_self, List.take_set_of_le (by omega), List.append_assoc]
    rfl
theorem to_tells (xs : List ByteArray) (hl : xs.length ≤ 17592186044416) : Ev (fun k => laws_toStringS.f k xs) xs := by
  unfold laws_toStringS.f
  refine Ev_pos (by omega) (Ev_pos (by rw [Int.toNat_natCast]; exact hl) ?_)
  have h := to_loop xs (by omega) _ 0 (List.replicate ((xs.length : Int) : Int).toNat (⟨#[]⟩ : ByteArray)) rfl (by omega) (by simp)
  exact Ev_eq h (by simp)
theorem eq_loop (xs : List ByteArray) (hl : xs.length ≤ 9223372036854775807) : ∀ (d i : Nat), xs.length - i = d → i ≤ xs.length → Ev (fun k => laws_eqStringS.l0 k xs xs (i : Int)) true := by
  intro d
  induction d with
  | zero => intro i hd hi; exact Ev.step (fun k => by rw [laws_eqStringS.l0]) (Ev_neg (by omega) (Ev.now _))
  | succ d ih =>
    intro i hd hi
    have hlt : i < xs.length := by omega
    refine Ev.step (fun k => by rw [laws_eqStringS.l0]) (Ev_pos (by omega) (Ev_pos (by omega) (Ev_pos (by omega) (Ev_pos rfl ?_))))
    rw [wsucc hlt hl]
    exact ih (i + 1) (by omega) (by omega)
theorem eq_tells (xs : List ByteArray) (hl : xs.length ≤ 9223372036854775807) : Ev (fun k => laws_eqStringS.f k xs xs) true := by
  unfold laws_eqStringS.f
  exact Ev_pos rfl (eq_loop xs hl _ 0 rfl (by omega))
theorem ssame_loop (xs ys : List ByteArray) (hl : xs.length ≤ 9223372036854775807) (he : xs.length = ys.length) : ∀ (d i : Nat), xs.length - i = d → i ≤ xs.length → Ev (fun k => spec_SameLines.l0 k xs ys (i : Int)) (decide (xs.drop i = ys.drop i)) := by
  intro d
  induction d with
  | zero =>
    intro i hd hi
    refine Ev.step (fun k => by rw [spec_SameLines.l0]) (Ev_neg (by omega) (Ev_val ?_))
    rw [List.drop_eq_nil_of_le (by omega), List.drop_eq_nil_of_le (by omega)]
    simp
  | succ d ih =>
    intro i hd hi
    have hlt : i < xs.length := by omega
    have hlt2 : i < ys.length := by omega
    refine Ev.step (fun k => by rw [spec_SameLines.l0]) (Ev_pos (by omega) (Ev_pos (by omega) (Ev_pos (by omega) ?_)))
    rw [rd_nat _ hlt, rd_nat _ hlt2, wsucc hlt hl, drop_at hlt, drop_at hlt2]
    refine Ev_if (fun h => Ev_eq (ih (i + 1) (by omega) (by omega)) ?_) (fun h => Ev_val ?_)
    · exact dec_same (data_eq.1 h)
    · exact dec_diff (fun e => h (data_eq.2 e))
theorem ssame_tells (xs ys : List ByteArray) (hl : xs.length ≤ 9223372036854775807) : Ev (fun k => spec_SameLines.f k xs ys) (decide (xs = ys)) := by
  unfold spec_SameLines.f
  refine Ev_if (fun h => ?_) (fun h => Ev_val ?_)
  · exact ssame_loop xs ys hl (by omega) _ 0 rfl (by omega)
  · have : xs ≠ ys := fun e => h (by rw [e])
    simp [this]
theorem isame_loop (xs ys : List ByteArray) (hl : xs.length ≤ 9223372036854775807) (he : xs.length = ys.length) : ∀ (d i : Nat), xs.length - i = d → i ≤ xs.length → Ev (fun k => slices_Equal_string_string.l0 k xs ys (xs.length : Int) (i : Int)) (decide (xs.drop i = ys.drop i)) := by
  intro d
  induction d with
  | zero =>
    intro i hd hi
    refine Ev.step (fun k => by rw [slices_Equal_string_string.l0]) (Ev_neg (by omega) (Ev_val ?_))
    rw [List.drop_eq_nil_of_le (by omega), List.drop_eq_nil_of_le (by omega)]
    simp
  | succ d ih =>
    intro i hd hi
    have hlt : i < xs.length := by omega
    have hlt2 : i < ys.length := by omega
    refine Ev.step (fun k => by rw [slices_Equal_string_string.l0]) (Ev_pos (by omega) (Ev_pos (by omega) (Ev_pos (by omega) (Ev_pos (by omega) ?_))))
    rw [rd_nat _ hlt, rd_nat _ hlt2, wsucc hlt hl, drop_at hlt, drop_at hlt2]
    refine Ev_if (fun h => Ev_eq (ih (i + 1) (by omega) (by omega)) ?_) (fun h => Ev_val ?_)
    · exact dec_same (data_eq.1 h)
    · exact dec_diff (fun e => h (data_eq.2 e))
theorem isame_tells (xs ys : List ByteArray) (hl : xs.length ≤ 9223372036854775807) : Ev (fun k => slices_Equal_string_string.f k xs ys) (decide (xs = ys)) := by
  unfold slices_Equal_string_string.f
  refine Ev_if (fun h => ?_) (fun h => Ev_val ?_)
  · exact isame_loop xs ys hl (by omega) _ 0 rfl (by omega)
  · have : xs ≠ ys := fun e => h (by rw [e])
    simp [this]
theorem sdigest_loop (s : ByteArray) (hs : s.size ≤ 9223372036854775807) : ∀ (d i : Nat) (h : Int), s.size - i = d → i ≤ s.size → ∃ r, Ev (fun k => spec_DigestOf.l0 k s h (i : Int)) r
    ∧ Ev (fun k => impl_DigestOf.l0 k s h (s.size : Int) (i : Int)) r
    := by
  intro d
  induction d with
  | zero =>
    intro i h hd hi
    refine ⟨h, Ev.step (fun k => by rw [spec_DigestOf.l0]) (Ev_neg (by omega) (Ev.now _))
      , Ev.step (fun k => by rw [impl_DigestOf.l0]) (Ev_neg (by omega) (Ev.now _))
      ⟩
  | succ d ih =>
    intro i h hd hi
    have hlt : i < s.size := by omega
    obtain ⟨r, hr⟩ := ih (i + 1) (Int.tmod (wrap64 ((wrap64 (h * 131)) + (wrap64 (bt s (i : Int))))) 65521) (by omega) (by omega)
    refine ⟨r, Ev.step (fun k => by rw [spec_DigestOf.l0]) (Ev_pos (by omega) (Ev_pos (by omega) ?_))
      , Ev.step (fun k => by rw [impl_DigestOf.l0]) (Ev_pos (by omega) (Ev_pos (by omega) (Ev_pos (by omega) ?_)))
      ⟩
    · rw [wsucc hlt hs]
      exact hr.1
    · rw [wsucc hlt hs]
      exact hr.2
end Go.Proofs.Ytdkjgijnnogniaa.P
