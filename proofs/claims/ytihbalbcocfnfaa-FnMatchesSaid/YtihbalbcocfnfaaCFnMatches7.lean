/- FnMatches: the law of the program holds at every input: the Go function returns true, and its arguments read afterwards as before.
Conditions: none beyond the given statement's own (what can be read as data, of a size that memory bears). -/
import Derived.SliceStrings
import Derived.DataReads
import Derived.DataElems
import Derived.Test.YtihbalbcocfnfaaRows
import Derived.WalkKit
import Derived.ProofKit
import Derived.OpenShut
import Derived.ShutString
import Derived.ChangeOld
import Derived.Below
import Derived.SizedLaws
import Derived.Carry
import Derived.Test.YtihbalbcocfnfaaCFnMatches1
import Derived.Test.YtihbalbcocfnfaaCFnMatches2
import Derived.Test.YtihbalbcocfnfaaCFnMatches3
import Derived.Test.YtihbalbcocfnfaaCFnMatches4
import Derived.Test.YtihbalbcocfnfaaCFnMatches5
import Derived.Test.YtihbalbcocfnfaaCFnMatches6
section
set_option linter.unusedVariables false
set_option linter.unusedSimpArgs false
namespace Go.Proofs.Ytihbalbcocfnfaa.P
open Go.RowKit Go.Proofs.YtihbalbcocfnfaaW.PrintWords Go.Proofs.YtihbalbcocfnfaaW.PrintLast
theorem ended_loop (s : ByteArray) (hs : s.size ≤ 9223372036854775807) : ∀ (d i : Nat), s.size - i = d → i ≤ s.size → Ev (fun k => spec_l1Ended.l0 k s (i : Int)) (((i + lineEnd (s.data.toList.drop i) : Nat)) : Int) := by
  intro d
  induction d with
  | zero =>
    intro i hd hi
    refine Ev.step (fun k => by rw [spec_l1Ended.l0]) (Ev_neg (by omega) (Ev_val ?_))
    rw [List.drop_eq_nil_of_le (by rw [size_data]; omega)]
    simp only [lineEnd]
    omega
  | succ d ih =>
    intro i hd hi
    have hlt : i < s.data.toList.length := by rw [size_data]; omega
    refine Ev.step (fun k => by rw [spec_l1Ended.l0]) (Ev_pos (by omega) (Ev_pos (by omega) ?_))
    rw [bt_nat hlt, drop_at hlt, wsucc (n := s.size) (by omega) hs]
    refine Ev_if (fun h => Ev_val ?_) (fun h => Ev_eq (ih (i + 1) (by omega) (by omega)) ?_)
    · have : s.data.toList[i] = 10 := by
        apply UInt8.toNat_inj.1
        have h2 : s.data.toList[i].toNat = 10 := by omega
        exact h2
      rw [lineEnd, if_pos this]
      rfl
    · have : ¬ s.data.toList[i] = 10 := fun e => h (by rw [e]; rfl)
      rw [lineEnd, if_neg this]
      omega
theorem ended_tells (s : ByteArray) (hs : s.size ≤ 9223372036854775807) : Ev (fun k => spec_l1Ended.f k s) ((lineEnd s.data.toList : Nat) : Int) := by
  unfold spec_l1Ended.f
  have h := ended_loop s hs _ 0 rfl (by omega)
  rw [List.drop_zero, Nat.zero_add] at h
  exact h
def lineBad (s : List UInt8) (last : Bool) : Bool := decide (s = [] ∨ 10 ∈ s.dropLast ∨ (¬ 10 ∈ s ∧ last = false))
def linesBad : List ByteArray → Bool
  | [] => false
  | x :: r => lineBad x.data.toList (decide (r = [])) || linesBad r
theorem lb_go {x : ByteArray} {r : List ByteArray} (h : lineBad x.data.toList (decide (r = [])) = false) : (if linesBad r then (1 : Int) else 0) = if linesBad (x :: r) then 1 else 0 := by
  unfold linesBad
  rw [h, Bool.false_or]
  cases r <;> rfl
theorem lb_end {x : ByteArray} {r : List ByteArray} (h : lineBad x.data.toList (decide (r = [])) = true) : (1 : Int) = if linesBad (x :: r) then 1 else 0 := by
  unfold linesBad
  rw [h, Bool.true_or]
  rfl
def LF (xs : List ByteArray) : Int := if xs.length > 100 ∨ total xs > 2000 then 2 else if linesBad xs then 1 else 0
theorem slf_loop1 (xs : List ByteArray) (hx : ∀ x ∈ xs, x.size ≤ 9223372036854775807) (hl : xs.length ≤ 9223372036854775807) : ∀ (d i : Nat), xs.length - i = d → i ≤ xs.length →
    Ev (fun k => spec_LinesFault.l1 k xs (i : Int)) (if linesBad (xs.drop i) then 1 else 0) := by
  intro d
  induction d with
  | zero =>
    intro i hd hi
    refine Ev.step (fun k => by rw [spec_LinesFault.l1]) (Ev_neg (by omega) (Ev_val ?_))
    rw [List.drop_eq_nil_of_le (by omega)]
    rfl
  | succ d ih =>
    intro i hd hi
    have hlt : i < xs.length := by omega
    have hs := hx xs[i] (List.getElem_mem hlt)
    refine Ev.step (fun k => by rw [spec_LinesFault.l1]) (Ev_pos (by omega) (Ev_pos (by omega) ?_))
    rw [rd_nat _ hlt, drop_at hlt, wsucc hlt hl]
    refine Ev_call (ended_tells _ hs) ?_
    have hle := lineEnd_le xs[i].data.toList
    rw [size_data] at hle
    have hrest : xs.drop (i + 1) = [] ↔ i + 1 = xs.length := by
      rw [List.drop_eq_nil_iff]
      omega
    refine Ev_if (fun h => Ev_val ?_) (fun h => ?_)
    · have h2 := toList_nil.1 h
      exact lb_end (by simp [lineBad, h2])
    have hne : ¬ xs[i].data.toList = [] := fun e => h (toList_nil.2 e)
    have h0 : xs[i].data.toList.length ≠ 0 := fun e => hne (List.length_eq_zero_iff.1 e)
    rw [size_data] at h0
    rw [wid (by omega) (by omega)]
    have hearly := lineEnd_early xs[i].data.toList
    rw [size_data] at hearly
    have hmem := lineEnd_mem xs[i].data.toList
    rw [size_data] at hmem
    refine Ev_if (fun h => Ev_val ?_) (fun h => ?_)
    · have h2 : 10 ∈ xs[i].data.toList.dropLast := hearly.1 (by omega)
      exact lb_end (by simp [lineBad, h2])
    have hn2 : ¬ 10 ∈ xs[i].data.toList.dropLast := fun e => h (by have := hearly.2 e; omega)
    have go : (¬ 10 ∈ xs[i].data.toList → i + 1 = xs.length) → Ev (fun k => spec_LinesFault.l1 k xs ((i + 1 : Nat) : Int)) (if linesBad (xs[i] :: xs.drop (i + 1)) then 1 else 0) := by
      intro hg
      refine Ev_eq (ih (i + 1) (by omega) (by omega)) ?_
      have : lineBad xs[i].data.toList (decide (xs.drop (i + 1) = [])) = false := by
        unfold lineBad
        rw [decide_eq_false_iff_not]
        rintro (h1 | h1 | ⟨h1, h2⟩)
        · exact hne h1
        · exact hn2 h1
        · rw [decide_eq_false_iff_not, hrest] at h2
          exact h2 (hg h1)
      exact lb_go this
    refine Ev_if (fun h => ?_) (fun h => ?_)
    · have hno : ¬ 10 ∈ xs[i].data.toList := fun e => by have := hmem.2 e; omega
      rw [wid (by omega) (by omega)]
      refine Ev_if (fun h3 => Ev_val ?_) (fun h3 => go (fun _ => by omega))
      have : lineBad xs[i].data.toList (decide (xs.drop (i + 1) = [])) = true := by
        unfold lineBad
        rw [decide_eq_true_iff]
        refine .inr (.inr ⟨hno, ?_⟩)
        rw [decide_eq_false_iff_not, hrest]
        omega
      exact lb_end this
    · exact go (fun hno => absurd (hmem.1 (by omega)) hno)
theorem slf_loop0 (xs : List ByteArray) (hx : ∀ x ∈ xs, x.size ≤ 9223372036854775807) (hl : xs.length ≤ 9223372036854775807) (hb : total xs ≤ 9223372036854775807) : ∀ (d i n : Nat), xs.length - i = d → i ≤ xs.length → n + total (xs.drop i) = total xs →
    Ev (fun k => spec_LinesFault.l0 k xs (n : Int) (i : Int)) (LF xs) := by
  intro d
  induction d with
  | zero =>
    intro i n hd hi hn
    rw [List.drop_eq_nil_of_le (by omega)] at hn
    simp only [total, Nat.add_zero] at hn
    refine Ev.step (fun k => by rw [spec_LinesFault.l0]) (Ev_neg (by omega) ?_)
    have body : ∀ b : Bool, b = decide (xs.length > 100 ∨ total xs > 2000) → Ev (fun k => spec_LinesFault.j1 k xs b) (LF xs) := by
      intro b hb2
      refine Ev.step (fun k => by rw [spec_LinesFault.j1]) ?_
      unfold LF
      rw [hb2]
      refine Ev_if (fun h => Ev_val ?_) (fun h => ?_)
      · rw [if_pos (of_decide_eq_true h)]
      · rw [if_neg (fun e => h (decide_eq_true e))]
        have := slf_loop1 xs hx hl _ 0 rfl (by omega)
        rw [List.drop_zero] at this
        exact this
    refine Ev_if (fun h => body _ ?_) (fun h => body _ ?_)
    · symm
      rw [decide_eq_true_iff]
      exact .inl (by omega)
    · rw [decide_eq_decide]
      omega
  | succ d ih =>
    intro i n hd hi hn
    have hlt : i < xs.length := by omega
    rw [drop_at hlt] at hn
    simp only [total] at hn
    refine Ev.step (fun k => by rw [spec_LinesFault.l0]) (Ev_pos (by omega) (Ev_pos (by omega) ?_))
    rw [rd_nat _ hlt, wsucc hlt hl, wid (by omega) (by omega), show (n : Int) + (xs[i].size : Int) = ((n + xs[i].size : Nat) : Int) by omega]
    exact ih (i + 1) (n + xs[i].size) (by omega) (by omega) (by omega)
theorem slf_tells (xs : List ByteArray) (hx : ∀ x ∈ xs, x.size ≤ 9223372036854775807) (hl : xs.length ≤ 9223372036854775807) (hb : total xs ≤ 9223372036854775807) : Ev (fun k => spec_LinesFault.f k xs) (LF xs) := by
  unfold spec_LinesFault.f
  exact slf_loop0 xs hx hl hb _ 0 0 rfl (by omega) (by simp)
theorem isLine_tells (s : ByteArray) (hs : s.size ≤ 9223372036854775807) : impl_isLine.f s = some (decide (¬ (s.data.toList = [] ∨ 10 ∈ s.data.toList.dropLast))) := by
  unfold impl_isLine.f
  by_cases h : s.data.toList = []
  · rw [if_pos (toList_nil.2 h)]
    simp [h]
  · have h0 : s.data.toList.length ≠ 0 := fun e => h (List.length_eq_zero_iff.1 e)
    rw [size_data] at h0
    rw [if_neg (fun e => h (toList_nil.1 e)), wid (by omega) (by omega), if_pos (by omega), if_pos (by omega)]
    have he : (s.extract 0 ((s.size : Int) - 1).toNat).data.toList = s.data.toList.dropLast := by
      rw [← ByteArray.toList_eq, Lib.extract_toList, List.drop_zero, List.dropLast_eq_take, size_data]
      congr 1
      omega
    unfold strings_Contains.f
    simp only [Option.bind_some]
    rw [he]
    congr 1
    have hi := index_mem s.data.toList.dropLast 10
    by_cases hm : 10 ∈ s.data.toList.dropLast
    · have : (0 : Int) ≤ Lib.indexByte s.data.toList.dropLast 10 := hi.2 hm
      simp [hm, this]
    · have : ¬ (0 : Int) ≤ Lib.indexByte s.data.toList.dropLast 10 := fun e => hm (hi.1 e)
      simp only [this, hm, h]
      simp
theorem isWhole_tells (s : ByteArray) (hs : s.size ≤ 9223372036854775807) : impl_isWhole.f s = some (Lib.hasSuffix s.data.toList [10]) := by
  unfold impl_isWhole.f strings_HasSuffix.f
  rw [if_pos hs]
  rfl
theorem ilf_loop (xs : List ByteArray) (hx : ∀ x ∈ xs, x.size ≤ 9223372036854775807) (hl : xs.length ≤ 9223372036854775807) : ∀ (d i : Nat), xs.length - i = d → i ≤ xs.length →
    Ev (fun k => impl_LinesFault.l0 k xs xs (xs.length : Int) (i : Int)) (if linesBad (xs.drop i) then 1 else 0) := by
  intro d
  induction d with
  | zero =>
    intro i hd hi
    refine Ev.step (fun k => by rw [impl_LinesFault.l0]) (Ev_neg (by omega) (Ev_val ?_))
    rw [List.drop_eq_nil_of_le (by omega)]
    rfl
  | succ d ih =>
    intro i hd hi
    have hlt : i < xs.length := by omega
    have hs := hx xs[i] (List.getElem_mem hlt)
    have hrest : xs.drop (i + 1) = [] ↔ i + 1 = xs.length := by
      rw [List.drop_eq_nil_iff]
      omega
    refine Ev.step (fun k => by rw [impl_LinesFault.l0]) (Ev_pos (by omega) (Ev_pos (by omega) (Ev_pos (by omega) ?_)))
    rw [rd_nat _ hlt, drop_at hlt, wsucc hlt hl]
    refine Ev_const (isLine_tells _ hs) ?_
    refine Ev_if (fun h => ?_) (fun h => Ev_val ?_)
    · have h := of_decide_eq_true h
      have hne : ¬ xs[i].data.toList = [] := fun e => h (.inl e)
      have hn2 : ¬ 10 ∈ xs[i].data.toList.dropLast := fun e => h (.inr e)
      have go : (¬ 10 ∈ xs[i].data.toList → i + 1 = xs.length) → Ev (fun k => impl_LinesFault.l0 k xs xs (xs.length : Int) ((i + 1 : Nat) : Int)) (if linesBad (xs[i] :: xs.drop (i + 1)) then 1 else 0) := by
        intro hg
        refine Ev_eq (ih (i + 1) (by omega) (by omega)) ?_
        have : lineBad xs[i].data.toList (decide (xs.drop (i + 1) = [])) = false := by
          unfold lineBad
          rw [decide_eq_false_iff_not]
          rintro (h1 | h1 | ⟨h1, h2⟩)
          · exact hne h1
          · exact hn2 h1
          · rw [decide_eq_false_iff_not, hrest] at h2
            exact h2 (hg h1)
        exact lb_go this
      have hsuf := suffix_iff _ hn2
      refine Ev_const (isWhole_tells _ hs) (Ev_if (fun h3 => go (fun hno => absurd (hsuf.1 h3) hno)) (fun h3 => ?_))
      rw [wid (by omega) (by omega)]
      refine Ev_if (fun h4 => go (fun _ => by omega)) (fun h4 => Ev_val ?_)
      have : lineBad xs[i].data.toList (decide (xs.drop (i + 1) = [])) = true := by
        unfold lineBad
        rw [decide_eq_true_iff]
        refine .inr (.inr ⟨fun e => h3 (hsuf.2 e), ?_⟩)
        rw [decide_eq_false_iff_not, hrest]
        omega
      exact lb_end this
    · have h2 : xs[i].data.toList = [] ∨ 10 ∈ xs[i].data.toList.dropLast := Classical.byContradiction (fun e => h (decide_eq_true e))
      have : lineBad xs[i].data.toList (decide (xs.drop (i + 1) = [])) = true := by
        unfold lineBad
        rw [decide_eq_true_iff]
        rcases h2 with h2 | h2
        · exact .inl h2
        · exact .inr (.inl h2)
      exact lb_end this
theorem join_flat (xs : List ByteArray) : Lib.join (xs.map (·.data.toList)) [] = (xs.map (·.data.toList)).flatten := by
  unfold Lib.join
  induction xs with
  | nil => rfl
  | cons x l ih =>
    cases l with
    | nil => simp [List.intercalate]
    | cons y l =>
      simp only [List.map_cons, List.intercalate, List.intersperse, List.flatten_cons, List.nil_append] at ih ⊢
      rw [ih]
theorem join_all (xs : List ByteArray) : (Lib.join (xs.map (·.data.toList)) []).length = total xs := by
  rw [join_flat]
  induction xs with
  | nil => rfl
  | cons x l ih =>
    rw [List.map_cons, List.flatten_cons, List.length_append, ih, size_data]
    rfl
theorem ilf_tells (xs : List ByteArray) (hx : ∀ x ∈ xs, x.size ≤ 9223372036854775807) (hl : xs.length ≤ 140737488355328) (hb : total xs ≤ 140737488355328) : Ev (fun k => impl_LinesFault.f k xs) (LF xs) := by
  unfold impl_LinesFault.f
  have body : ∀ b : Bool, b = decide (xs.length > 100 ∨ total xs > 2000) → Ev (fun k => impl_LinesFault.j0 k xs b) (LF xs) := by
    intro b hb2
    refine Ev.step (fun k => by rw [impl_LinesFault.j0]) ?_
    unfold LF
    rw [hb2]
    refine Ev_if (fun h => Ev_val ?_) (fun h => ?_)
    · rw [if_pos (of_decide_eq_true h)]
    · rw [if_neg (fun e => h (decide_eq_true e))]
      have := ilf_loop xs hx (by omega) _ 0 rfl (by omega)
      rw [List.drop_zero] at this
      exact this
  refine Ev_if (fun h => body _ ?_) (fun h => ?_)
  · symm
    rw [decide_eq_true_iff]
    exact .inl (by omega)
  · have hj := join_all xs
    refine Ev_const (a := ⟨(Lib.join (xs.map (·.data.toList)) []).toArray⟩) ?_ (body _ ?_)
    · unfold strings_Join.f
      exact if_pos ⟨hl, by show (Lib.join _ []).length ≤ _; omega⟩
    · rw [decide_eq_decide]
      have : ((⟨(Lib.join (xs.map (·.data.toList)) []).toArray⟩ : ByteArray).size) = total xs := by
        rw [← hj]
        simp [ByteArray.size]
      rw [this]
      omega
end Go.Proofs.Ytihbalbcocfnfaa.P
end
section
set_option linter.unusedVariables false
set_option linter.unusedSimpArgs false
namespace Go.Proofs.Ytihbalbcocfnfaa.P
open Go.RowKit Go.Proofs.YtihbalbcocfnfaaW.PrintWords Go.Proofs.YtihbalbcocfnfaaW.PrintLast
def Small (xs : List ByteArray) : Prop := (∀ x ∈ xs, x.size ≤ 9223372036854775807) ∧ xs.length ≤ 1048576 ∧ total xs ≤ 1048576
theorem Small.slf {xs : List ByteArray} (h : Small xs) : Ev (fun k => spec_LinesFault.f k xs) (LF xs) := slf_tells xs h.1 (by have := h.2.1; omega) (by have := h.2.2; omega)
theorem Small.ilf {xs : List ByteArray} (h : Small xs) : Ev (fun k => impl_LinesFault.f k xs) (LF xs) := ilf_tells xs h.1 (by have := h.2.1; omega) (by have := h.2.2; omega)
theorem LF_zero {xs : List ByteArray} (h : LF xs = 0) : xs.length ≤ 100 ∧ total xs ≤ 2000 ∧ linesBad xs = false := by
  unfold LF at h
  split at h
  · omega
  · rename_i h1
    split at h
    · omega
    · rename_i h2
      exact ⟨by omega, by omega, by simpa using h2⟩
def LF2 (a b : List ByteArray) : Int := if LF a = 0 then LF b else LF a
theorem LF2_zero {a b : List ByteArray} (h : LF2 a b = 0) : LF a = 0 ∧ LF b = 0 := by
  unfold LF2 at h
  split at h
  · exact ⟨by assumption, h⟩
  · exact absurd h (by assumption)
theorem asked_tells {a b : List ByteArray} (ha : Small a) (hb : Small b) : Ev (fun k => spec_l2Asked.f k a b) (LF2 a b) := by
  unfold spec_l2Asked.f LF2
  refine Ev_call ha.slf (Ev_if (fun h => ?_) (fun h => ?_))
  · rw [if_pos h]
    exact Ev_call hb.slf (Ev.now _)
  · rw [if_neg h]
    exact Ev.now _
def firstOf : List Int → Int
  | [] => 0
  | c :: l => if c = 0 then firstOf l else c
theorem first_loop (xs : List Int) (hl : xs.length ≤ 9223372036854775807) : ∀ (d i : Nat), xs.length - i = d → i ≤ xs.length → Ev (fun k => impl_firstCode.l0 k xs (xs.length : Int) (i : Int)) (firstOf (xs.drop i)) := by
  intro d
  induction d with
  | zero =>
    intro i hd hi
    refine Ev.step (fun k => by rw [impl_firstCode.l0]) (Ev_neg (by omega) (Ev_val ?_))
    rw [List.drop_eq_nil_of_le (by omega)]
    rfl
  | succ d ih =>
    intro i hd hi
    have hlt : i < xs.length := by omega
    refine Ev.step (fun k => by rw [impl_firstCode.l0]) (Ev_pos (by omega) (Ev_pos (by omega) (Ev_pos (by omega) ?_)))
    rw [rdi_nat hlt, drop_at hlt, wsucc hlt hl, firstOf]
    refine Ev_if (fun h => ?_) (fun h => ?_)
    · rw [if_pos h]
      exact ih (i + 1) (by omega) (by omega)
    · rw [if_neg h]
      exact Ev.now _
theorem first_tells (xs : List Int) (hl : xs.length ≤ 9223372036854775807) : Ev (fun k => impl_firstCode.f k xs) (firstOf xs) := by
  unfold impl_firstCode.f
  have := first_loop xs hl _ 0 rfl (by omega)
  rw [List.drop_zero] at this
  exact this
theorem both_tells {a b : List ByteArray} (ha : Small a) (hb : Small b) : Ev (fun k => impl_bothLines.f k a b) (LF2 a b) := by
  unfold impl_bothLines.f LF2
  refine Ev_call ha.ilf (Ev_call hb.ilf (Ev_call (first_tells _ (by simp)) (Ev_val ?_)))
  simp only [firstOf]
  split
  · split <;> omega
  · rfl
end Go.Proofs.Ytihbalbcocfnfaa.P
end
section
namespace Go.Proofs.Ytihbalbcocfnfaa.P
open Go.RowKit Go.Proofs.YtihbalbcocfnfaaW.PrintWords Go.Proofs.YtihbalbcocfnfaaW.PrintLast Go.Proofs.YtihbalbcocfnfaaW.PrintMore
attribute [local go_sem] max2_int min2_int max_two min_two max_three min_three max_four min_four
end Go.Proofs.Ytihbalbcocfnfaa.P
end
section
namespace Go.Proofs.Ytihbalbcocfnfaa.P
open Go.RowKit Go.Proofs.YtihbalbcocfnfaaW.PrintWords Go.Proofs.YtihbalbcocfnfaaW.PrintLast Go.Proofs.YtihbalbcocfnfaaW.PrintMore
attribute [local go_sem] max2_int min2_int max_two min_two max_three min_three max_four min_four
end Go.Proofs.Ytihbalbcocfnfaa.P
end
section
namespace Go.Proofs.Ytihbalbcocfnfaa.P
open Go.RowKit Go.Proofs.YtihbalbcocfnfaaW.PrintWords Go.Proofs.YtihbalbcocfnfaaW.PrintLast Go.Proofs.YtihbalbcocfnfaaW.PrintMore
attribute [local go_sem] max2_int min2_int max_two min_two max_three min_three max_four min_four
end Go.Proofs.Ytihbalbcocfnfaa.P
end
section
namespace Go.Proofs.Ytihbalbcocfnfaa.P
open Go.RowKit Go.Proofs.YtihbalbcocfnfaaW.PrintWords Go.Proofs.YtihbalbcocfnfaaW.PrintLast Go.Proofs.YtihbalbcocfnfaaW.PrintMore
attribute [local go_sem] max2_int min2_int max_two min_two max_three min_three max_four min_four
end Go.Proofs.Ytihbalbcocfnfaa.P
end
section
namespace Go.Proofs.Ytihbalbcocfnfaa.P
open Go.RowKit Go.Proofs.YtihbalbcocfnfaaW.PrintWords Go.Proofs.YtihbalbcocfnfaaW.PrintLast Go.Proofs.YtihbalbcocfnfaaW.PrintMore
attribute [local go_sem] max2_int min2_int max_two min_two max_three min_three max_four min_four
end Go.Proofs.Ytihbalbcocfnfaa.P
end
section
namespace Go.Proofs.Ytihbalbcocfnfaa.P
open Go.RowKit Go.Proofs.YtihbalbcocfnfaaW.PrintWords Go.Proofs.YtihbalbcocfnfaaW.PrintLast Go.Proofs.YtihbalbcocfnfaaW.PrintMore
attribute [local go_sem] max2_int min2_int max_two min_two max_three min_three max_four min_four
end Go.Proofs.Ytihbalbcocfnfaa.P
end
section
namespace Go.Proofs.Ytihbalbcocfnfaa.P
open Go.RowKit Go.Proofs.YtihbalbcocfnfaaW.PrintWords Go.Proofs.YtihbalbcocfnfaaW.PrintLast Go.Proofs.YtihbalbcocfnfaaW.PrintMore
attribute [local go_sem] max2_int min2_int max_two min_two max_three min_three max_four min_four
end Go.Proofs.Ytihbalbcocfnfaa.P
end
section
namespace Go.Proofs.Ytihbalbcocfnfaa.P
open Go.RowKit Go.Proofs.YtihbalbcocfnfaaW.PrintWords Go.Proofs.YtihbalbcocfnfaaW.PrintLast Go.Proofs.YtihbalbcocfnfaaW.PrintMore
attribute [local go_sem] max2_int min2_int max_two min_two max_three min_three max_four min_four
end Go.Proofs.Ytihbalbcocfnfaa.P
end
section
namespace Go.Proofs.Ytihbalbcocfnfaa.P
open Go.RowKit Go.Proofs.YtihbalbcocfnfaaW.PrintWords Go.Proofs.YtihbalbcocfnfaaW.PrintLast Go.Proofs.YtihbalbcocfnfaaW.PrintMore
attribute [local go_sem] max2_int min2_int max_two min_two max_three min_three max_four min_four
end Go.Proofs.Ytihbalbcocfnfaa.P
end
section
set_option linter.unusedVariables false
set_option linter.unusedSimpArgs false
namespace Go.Proofs.Ytihbalbcocfnfaa.P
open Go.RowKit Go.Proofs.YtihbalbcocfnfaaW.PrintWords Go.Proofs.YtihbalbcocfnfaaW.PrintLast
def ChIn (la lb : Int) (c : S64) : Prop := 0 ≤ c.f0 ∧ c.f0 ≤ la ∧ 0 ≤ c.f1 ∧ c.f1 ≤ la - c.f0 ∧ 0 ≤ c.f2 ∧ c.f2 ≤ lb ∧ 0 ≤ c.f3 ∧ c.f3 ≤ lb - c.f2
instance (la lb : Int) (c : S64) : Decidable (ChIn la lb c) := by unfold ChIn; infer_instance
end Go.Proofs.Ytihbalbcocfnfaa.P
end
section
namespace Go.Proofs.Ytihbalbcocfnfaa.P
open Go.RowKit Go.Proofs.YtihbalbcocfnfaaW.PrintWords Go.Proofs.YtihbalbcocfnfaaW.PrintLast Go.Proofs.YtihbalbcocfnfaaW.PrintMore
attribute [local go_sem] max2_int min2_int max_two min_two max_three min_three max_four min_four
end Go.Proofs.Ytihbalbcocfnfaa.P
end
section
namespace Go.Proofs.Ytihbalbcocfnfaa.P
open Go.RowKit Go.Proofs.YtihbalbcocfnfaaW.PrintWords Go.Proofs.YtihbalbcocfnfaaW.PrintLast Go.Proofs.YtihbalbcocfnfaaW.PrintMore
attribute [local go_sem] max2_int min2_int max_two min_two max_three min_three max_four min_four
end Go.Proofs.Ytihbalbcocfnfaa.P
end
section
namespace Go.Proofs.Ytihbalbcocfnfaa.P
open Go.RowKit Go.Proofs.YtihbalbcocfnfaaW.PrintWords Go.Proofs.YtihbalbcocfnfaaW.PrintLast Go.Proofs.YtihbalbcocfnfaaW.PrintMore
attribute [local go_sem] max2_int min2_int max_two min_two max_three min_three max_four min_four
end Go.Proofs.Ytihbalbcocfnfaa.P
end
section
set_option linter.unusedVariables false
set_option linter.unusedSimpArgs false
namespace Go.Proofs.Ytihbalbcocfnfaa.P
open Go.RowKit Go.Proofs.YtihbalbcocfnfaaW.PrintWords Go.Proofs.YtihbalbcocfnfaaW.PrintLast
theorem total_append (x y : List ByteArray) : total (x ++ y) = total x + total y := by
  induction x with
  | nil => simp [total]
  | cons a l ih => rw [List.cons_append, total, total, ih]; omega
theorem total_drop (x : List ByteArray) (n : Nat) : total (x.drop n) ≤ total x := by
  have h : total x = total (x.take n) + total (x.drop n) := by rw [← total_append, List.take_append_drop]
  omega
structure In3 (x : List ByteArray) (n t : Nat) : Prop where
  each : ∀ s ∈ x, s.size ≤ 9223372036854775807
  many : x.length ≤ n
  all : total x ≤ t
theorem In3.app {x y : List ByteArray} {n t m u : Nat} (h : In3 x n t) (g : In3 y m u) : In3 (x ++ y) (n + m) (t + u) :=
  ⟨fun s hs => (List.mem_append.1 hs).elim (h.each s) (g.each s), by rw [List.length_append]; have := h.many; have := g.many; omega, by rw [total_append]; have := h.all; have := g.all; omega⟩
theorem In3.rest {x : List ByteArray} {n t : Nat} (h : In3 x n t) (j : Nat) : In3 (x.drop j) n t :=
  ⟨fun s hs => h.each s (List.mem_of_mem_drop hs), by simp only [List.length_drop]; have := h.many; omega, Nat.le_trans (total_drop _ _) h.all⟩
theorem In3.mono {x : List ByteArray} {n t m u : Nat} (h : In3 x n t) (h1 : n ≤ m) (h2 : t ≤ u) : In3 x m u := ⟨h.each, Nat.le_trans h.many h1, Nat.le_trans h.all h2⟩
end Go.Proofs.Ytihbalbcocfnfaa.P
end
section
set_option linter.unusedVariables false
set_option linter.unusedSimpArgs false
namespace Go.Proofs.Ytihbalbcocfnfaa.P
section
variable {α : Type} [DecidableEq α]
def lcs : List α → List α → Nat
  | [], _ => 0
  | _ :: _, [] => 0
  | x :: a, y :: b => if x = y then lcs a b + 1 else max (lcs a (y :: b)) (lcs (x :: a) b)
termination_by a b => a.length + b.length
theorem lcs_nil (b : List α) : lcs [] b = 0 := by rw [lcs]
theorem lcs_nil' (a : List α) : lcs a [] = 0 := by cases a <;> rw [lcs]
theorem lcs_cons (x y : α) (a b : List α) : lcs (x :: a) (y :: b) = if x = y then lcs a b + 1 else max (lcs a (y :: b)) (lcs (x :: a) b) := by rw [lcs]
theorem lcs_both : ∀ (n : Nat) (a b : List α), a.length + b.length = n → (∀ x, lcs a b ≤ lcs (x :: a) b) ∧ (∀ y, lcs a (y :: b) ≤ lcs a b + 1) := by
  intro n
  induction n using Nat.strongRecOn with
  | _ n ih =>
    intro a b hn
    constructor
    · intro x
      cases b with
      | nil => rw [lcs_nil', lcs_nil']; exact Nat.le_refl _
      | cons y b =>
        rw [lcs_cons]
        split
        · exact (ih (a.length + b.length) (by simp at hn; omega) a b rfl).2 y
        · exact Nat.le_max_left _ _
    · intro y
      cases a with
      | nil => rw [lcs_nil, lcs_nil]; omega
      | cons x a =>
        have h := ih (a.length + b.length) (by simp at hn; omega) a b rfl
        have h1 := h.1 x
        have h2 := h.2 y
        rw [lcs_cons]
        split <;> omega
theorem lcs_step (y : α) (a b : List α) : lcs a (y :: b) ≤ lcs a b + 1 := (lcs_both _ a b rfl).2 y
theorem lcs_comm : ∀ (n : Nat) (a b : List α), a.length + b.length = n → lcs a b = lcs b a := by
  intro n
  induction n using Nat.strongRecOn with
  | _ n ih =>
    intro a b hn
    cases a with
    | nil => rw [lcs_nil, lcs_nil']
    | cons x a =>
      cases b with
      | nil => rw [lcs_nil, lcs_nil']
      | cons y b =>
        simp only [List.length_cons] at hn
        have h0 := ih (a.length + b.length) (by omega) a b rfl
        have h1 := ih (a.length + (b.length + 1)) (by omega) a (y :: b) rfl
        have h2 := ih (a.length + 1 + b.length) (by omega) (x :: a) b rfl
        rw [lcs_cons, lcs_cons]
        by_cases h : x = y
        · rw [if_pos h, if_pos h.symm, h0]
        · rw [if_neg h, if_neg (fun e => h e.symm), h1, h2]
          exact Nat.max_comm _ _
theorem lcs_symm (a b : List α) : lcs a b = lcs b a := lcs_comm _ a b rfl
theorem lcs_step' (x : α) (a b : List α) : lcs (x :: a) b ≤ lcs a b + 1 := by rw [lcs_symm (x :: a) b, lcs_symm a b]; exact lcs_step x b a
theorem lcs_le : ∀ (a b : List α), lcs a b ≤ a.length := by
  intro a b
  induction a with
  | nil => rw [lcs_nil]; exact Nat.le_refl _
  | cons x a ih =>
    have := lcs_step' x a b
    simp only [List.length_cons]
    omega
theorem lcs_at {a b : List α} {i j : Nat} (hi : i < a.length) (hj : j < b.length) :
    lcs (a.drop i) (b.drop j) = if a[i] = b[j] then lcs (a.drop (i + 1)) (b.drop (j + 1)) + 1 else max (lcs (a.drop (i + 1)) (b.drop j)) (lcs (a.drop i) (b.drop (j + 1))) := by
  rw [drop_at hi, drop_at hj, lcs_cons]
theorem lcs_at3 {a b : List α} {i j : Nat} (hi : i < a.length) (hj : j < b.length) (h : a[i] = b[j]) :
    lcs (a.drop i) (b.drop j) = max (max (lcs (a.drop (i + 1)) (b.drop j)) (lcs (a.drop i) (b.drop (j + 1)))) (lcs (a.drop (i + 1)) (b.drop (j + 1)) + 1) := by
  have e := lcs_at hi hj
  rw [if_pos h] at e
  have h1 : lcs (a.drop (i + 1)) (b.drop j) ≤ lcs (a.drop (i + 1)) (b.drop (j + 1)) + 1 := by
    rw [drop_at hj]
    exact lcs_step _ _ _
  have h2 : lcs (a.drop i) (b.drop (j + 1)) ≤ lcs (a.drop (i + 1)) (b.drop (j + 1)) + 1 := by
    rw [drop_at hi]
    exact lcs_step' _ _ _
  omega
theorem lcs_self : ∀ a : List α, lcs a a = a.length := by
  intro a
  induction a with
  | nil => rw [lcs_nil]; rfl
  | cons x a ih => rw [lcs_cons, if_pos rfl, ih]; rfl
end
theorem getD_set {β : Type} {l : List β} {i r : Nat} {x d : β} (h : i < l.length) : (l.set i x).getD r d = if r = i then x else l.getD r d := by
  rw [List.getD_eq_getElem?_getD, List.getD_eq_getElem?_getD, List.getElem?_set]
  by_cases e : i = r
  · subst e
    simp [h]
  · rw [if_neg e, if_neg (fun z => e z.symm)]
structure TabInv {α : Type} [DecidableEq α] (a b : List α) (t : List (List Int)) (i j : Nat) : Prop where
  len : t.length = a.length + 1
  rows : ∀ r, r ≤ a.length → (t.getD r []).length = b.length + 1
  val : ∀ r c, r ≤ a.length → c ≤ b.length → (i ≤ r ∨ (r + 1 = i ∧ j ≤ c) ∨ c = b.length ∨ r = a.length) → (t.getD r []).getD c 0 = (lcs (a.drop r) (b.drop c) : Int)
theorem TabInv.start {α : Type} [DecidableEq α] (a b : List α) : TabInv a b (List.replicate (a.length + 1) (List.replicate (b.length + 1) 0)) (a.length) (b.length) := by
  have hg : ∀ r, r ≤ a.length → (List.replicate (a.length + 1) (List.replicate (b.length + 1) (0 : Int))).getD r [] = List.replicate (b.length + 1) 0 := fun r hr => by
    rw [List.getD_eq_getElem?_getD, List.getElem?_replicate, if_pos (by omega)]
    rfl
  refine ⟨by simp, fun r hr => by rw [hg r hr]; simp, fun r c hr hc h => ?_⟩
  rw [hg r hr, List.getD_eq_getElem?_getD, List.getElem?_replicate, if_pos (by omega), Option.getD_some]
  have : lcs (a.drop r) (b.drop c) = 0 := by
    have hcase : c = b.length ∨ r = a.length := by omega
    rcases hcase with e | e
    · rw [List.drop_eq_nil_of_le (show b.length ≤ c by omega), lcs_nil']
    · rw [List.drop_eq_nil_of_le (show a.length ≤ r by omega), lcs_nil]
  rw [this]
  rfl
theorem TabInv.put {α : Type} [DecidableEq α] {a b : List α} {t : List (List Int)} {i j : Nat} (h : TabInv a b t (i + 1) (j + 1)) (hi : i < a.length) (hj : j < b.length) {v : Int} (hv : v = (lcs (a.drop i) (b.drop j) : Int)) :
    TabInv a b (t.set i ((t.getD i []).set j v)) (i + 1) j := by
  have hl := h.len
  have hr0 := h.rows i (by omega)
  refine ⟨by rw [List.length_set]; exact hl, fun r hr => ?_, fun r c hr hc hcase => ?_⟩
  · rw [getD_set (by omega)]
    split
    · rw [List.length_set]; exact hr0
    · exact h.rows r hr
  · rw [getD_set (by omega)]
    by_cases e : r = i
    · subst e
      rw [if_pos rfl, getD_set (by omega)]
      by_cases e2 : c = j
      · subst e2
        rw [if_pos rfl, hv]
      · rw [if_neg e2]
        exact h.val r c hr hc (by omega)
    · rw [if_neg e]
      exact h.val r c hr hc (by omega)
theorem TabInv.next {α : Type} [DecidableEq α] {a b : List α} {t : List (List Int)} {i : Nat} (h : TabInv a b t (i + 1) 0) : TabInv a b t i b.length :=
  ⟨h.len, h.rows, fun r c hr hc hcase => h.val r c hr hc (by omega)⟩
theorem TabInv.all {α : Type} [DecidableEq α] {a b : List α} {t : List (List Int)} {j : Nat} (h : TabInv a b t 0 j) {r c : Nat} (hr : r ≤ a.length) (hc : c ≤ b.length) : (t.getD r []).getD c 0 = (lcs (a.drop r) (b.drop c) : Int) := h.val r c hr hc (.inl (by omega))
end Go.Proofs.Ytihbalbcocfnfaa.P
end
section
set_option linter.unusedVariables false
set_option linter.unusedSimpArgs false
namespace Go.Proofs.Ytihbalbcocfnfaa.P
open Go.RowKit Go.Proofs.YtihbalbcocfnfaaW.PrintWords Go.Proofs.YtihbalbcocfnfaaW.PrintLast
theorem rdl_nat (t : List (List Int)) (i : Nat) : rd_L4 t (i : Int) = t.getD i [] := by
  unfold rd_L4
  rw [Int.toNat_natCast]
theorem rd_getD (t : List Int) (i : Nat) : rd t (i : Int) = t.getD i 0 := by
  unfold rd
  rw [Int.toNat_natCast]
theorem max_tells (x y : Int) : spec_l1Max.f x y = some (max x y) := by
  unfold spec_l1Max.f
  split
  · rw [Int.max_def, if_neg (by omega)]
  · rw [Int.max_def, if_pos (by omega)]
theorem mx_max (x y : Int) : mx x y = max x y := by
  unfold mx
  split
  · rw [Int.max_def, if_pos (by omega)]
  · rw [Int.max_def]
    split <;> omega
theorem stab2 (a b : List ByteArray) (ha : a.length ≤ 1000000) (hb : b.length ≤ 1000000) (i : Nat) (hi : i < a.length) (K : List (List Int) → Prop)
    (hK : ∀ t, TabInv a b t (i + 1) 0 → ∃ t', K t' ∧ Ev (fun k => spec_l2Table.l1 k a b t (wrap64 ((i : Int) - 1))) t') : ∀ (j : Nat) (t : List (List Int)), j ≤ b.length → TabInv a b t (i + 1) j →
    ∃ t', K t' ∧ Ev (fun k => spec_l2Table.l2 k a b t (i : Int) ((j : Int) - 1)) t' := by
  intro j
  induction j with
  | zero =>
    intro t hj ht
    obtain ⟨t', h1, h2⟩ := hK t ht
    exact ⟨t', h1, Ev.step (fun k => by rw [spec_l2Table.l2]) (Ev_neg (by omega) h2)⟩
  | succ j ih =>
    intro t hj ht
    have hl := ht.len
    have hri := ht.rows i (by omega)
    have hri1 := ht.rows (i + 1) (by omega)
    have e1 := ht.val (i + 1) j (by omega) (by omega) (.inl (by omega))
    have e2 := ht.val i (j + 1) (by omega) (by omega) (by omega)
    have e3 := ht.val (i + 1) (j + 1) (by omega) (by omega) (.inl (by omega))
    have hat := lcs_at (a := a) (b := b) hi (show j < b.length by omega)
    have hb1 := lcs_le (a.drop i) (b.drop j)
    have hb3 := lcs_le (a.drop (i + 1)) (b.drop (j + 1))
    rw [List.length_drop] at hb1 hb3
    obtain ⟨t', h1, h2⟩ := ih (t.set i ((t.getD i []).set j ((lcs (a.drop i) (b.drop j) : Nat) : Int))) (by omega) (ht.put hi (by omega) rfl)
    refine ⟨t', h1, Ev.step (fun k => by rw [spec_l2Table.l2]) ?_⟩
    rw [wsucc' (i := i) (by omega), rdl_nat, rdl_nat, show ((((j + 1 : Nat) : Int)) - 1) = (j : Int) by omega, wsucc' (i := j) (by omega), rd_getD, rd_getD, rd_getD, rd_nat _ hi, rd_nat _ (show j < b.length by omega), e1, e2, e3, Int.toNat_natCast, Int.toNat_natCast]
    refine Ev_pos (by omega) (Ev_pos (by omega) (Ev_pos (by omega) (Ev_pos (by omega) (Ev_pos (by omega) (Ev_pos (by omega) (Ev_pos (by omega) (Ev_pos (by omega) (Ev_pos (by omega) (Ev_const (max_tells _ _) (Ev_pos (by omega) (Ev_pos (by omega) ?_)))))))))))
    refine Ev_if (fun h => ?_) (fun h => ?_)
    · have hx := data_eq.1 h
      have h3 := lcs_at3 (a := a) (b := b) hi (show j < b.length by omega) hx
      rw [wid (by omega) (by omega)]
      refine Ev_pos (by omega) (Ev_const (max_tells _ _) (Ev_pos (by omega) ?_))
      rw [show max (max ((lcs (a.drop (i + 1)) (b.drop j) : Nat) : Int) ((lcs (a.drop i) (b.drop (j + 1)) : Nat) : Int)) (1 + ((lcs (a.drop (i + 1)) (b.drop (j + 1)) : Nat) : Int)) = ((lcs (a.drop i) (b.drop j) : Nat) : Int) by omega, wid (by omega) (by omega)]
      exact h2
    · have hx : ¬ a[i] = b[j] := fun e => h (data_eq.2 e)
      rw [if_neg hx] at hat
      refine Ev_pos (by omega) ?_
      rw [show max ((lcs (a.drop (i + 1)) (b.drop j) : Nat) : Int) ((lcs (a.drop i) (b.drop (j + 1)) : Nat) : Int) = ((lcs (a.drop i) (b.drop j) : Nat) : Int) by omega, wid (by omega) (by omega)]
      exact h2
theorem stab1 (a b : List ByteArray) (ha : a.length ≤ 1000000) (hb : b.length ≤ 1000000) : ∀ (i : Nat) (t : List (List Int)), i ≤ a.length → TabInv a b t i b.length → ∃ t', TabInv a b t' 0 b.length ∧ Ev (fun k => spec_l2Table.l1 k a b t ((i : Int) - 1)) t' := by
  intro i
  induction i with
  | zero =>
    intro t hi ht
    exact ⟨t, ht, Ev.step (fun k => by rw [spec_l2Table.l1]) (Ev_neg (by omega) (Ev.now _))⟩
  | succ i ih =>
    intro t hi ht
    obtain ⟨t', h1, h2⟩ := stab2 a b ha hb i (by omega) (fun t' => TabInv a b t' 0 b.length) (fun t ht => by
      obtain ⟨t', h1, h2⟩ := ih t (by omega) ht.next
      exact ⟨t', h1, by rw [wid (by omega) (by omega)]; exact h2⟩) b.length t (Nat.le_refl _) ht
    refine ⟨t', h1, Ev.step (fun k => by rw [spec_l2Table.l1]) (Ev_pos (by omega) ?_)⟩
    rw [wid (x := (b.length : Int) - 1) (by omega) (by omega), show (((i + 1 : Nat) : Int) - 1) = (i : Int) by omega]
    exact h2
theorem stab0 (a b : List ByteArray) (ha : a.length ≤ 1000000) (hb : b.length ≤ 1000000) (t' : List (List Int)) (h : Ev (fun k => spec_l2Table.l1 k a b (List.replicate (a.length + 1) (List.replicate (b.length + 1) 0)) ((a.length : Int) - 1)) t') :
    ∀ (d i : Nat), a.length + 1 - i = d → i ≤ a.length + 1 → Ev (fun k => spec_l2Table.l0 k a b (List.replicate i (List.replicate (b.length + 1) 0)) (i : Int)) t' := by
  intro d
  induction d with
  | zero =>
    intro i hd hi
    have : i = a.length + 1 := by omega
    subst this
    refine Ev.step (fun k => by rw [spec_l2Table.l0]) (Ev_neg (by omega) ?_)
    rw [wid (by omega) (by omega)]
    exact h
  | succ d ih =>
    intro i hd hi
    refine Ev.step (fun k => by rw [spec_l2Table.l0]) (Ev_pos (by omega) ?_)
    rw [wsucc' (i := b.length) (by omega), wsucc' (i := i) (by omega), Int.toNat_natCast]
    refine Ev_pos (by omega) (Ev_pos (by omega) (Ev_pos (by rw [List.length_replicate]; omega) ?_))
    rw [← List.replicate_succ']
    exact ih (i + 1) (by omega) (by omega)
theorem stab_tells (a b : List ByteArray) (ha : a.length ≤ 1000000) (hb : b.length ≤ 1000000) : ∃ t, TabInv a b t 0 b.length ∧ Ev (fun k => spec_l2Table.f k a b) t := by
  obtain ⟨t, h1, h2⟩ := stab1 a b ha hb a.length _ (Nat.le_refl _) (TabInv.start a b)
  refine ⟨t, h1, ?_⟩
  unfold spec_l2Table.f
  exact stab0 a b ha hb t h2 _ 0 rfl (by omega)
theorem itab2 (a b : List ByteArray) (ha : a.length ≤ 1000000) (hb : b.length ≤ 1000000) (i : Nat) (hi : i < a.length) (K : List (List Int) → Prop)
    (hK : ∀ t, TabInv a b t (i + 1) 0 → ∃ t', K t' ∧ Ev (fun k => impl_commons.l1 k a b t (wrap64 ((i : Int) - 1))) t') : ∀ (j : Nat) (t : List (List Int)), j ≤ b.length → TabInv a b t (i + 1) j →
    ∃ t', K t' ∧ Ev (fun k => impl_commons.l2 k a b t (i : Int) ((j : Int) - 1)) t' := by
  intro j
  induction j with
  | zero =>
    intro t hj ht
    obtain ⟨t', h1, h2⟩ := hK t ht
    exact ⟨t', h1, Ev.step (fun k => by rw [impl_commons.l2]) (Ev_neg (by omega) h2)⟩
  | succ j ih =>
    intro t hj ht
    have hl := ht.len
    have hri := ht.rows i (by omega)
    have hri1 := ht.rows (i + 1) (by omega)
    have e1 := ht.val (i + 1) j (by omega) (by omega) (.inl (by omega))
    have e2 := ht.val i (j + 1) (by omega) (by omega) (by omega)
    have e3 := ht.val (i + 1) (j + 1) (by omega) (by omega) (.inl (by omega))
    have hat := lcs_at (a := a) (b := b) hi (show j < b.length by omega)
    have hb1 := lcs_le (a.drop i) (b.drop j)
    have hb3 := lcs_le (a.drop (i + 1)) (b.drop (j + 1))
    rw [List.length_drop] at hb1 hb3
    obtain ⟨t', h1, h2⟩ := ih (t.set i ((t.getD i []).set j ((lcs (a.drop i) (b.drop j) : Nat) : Int))) (by omega) (ht.put hi (by omega) rfl)
    refine ⟨t', h1, Ev.step (fun k => by rw [impl_commons.l2]) ?_⟩
    rw [wsucc' (i := i) (by omega), rdl_nat, rdl_nat, show ((((j + 1 : Nat) : Int)) - 1) = (j : Int) by omega, wsucc' (i := j) (by omega), rd_getD, rd_getD, e1, e2, Int.toNat_natCast, Int.toNat_natCast, mx_max]
    refine Ev_pos (by omega) (Ev_pos (by omega) (Ev_pos (by omega) (Ev_pos (by omega) (Ev_pos (by omega) (Ev_pos (by omega) (Ev_pos (by omega) (Ev_pos (by omega) (Ev_pos (by omega) (Ev_pos (by omega) ?_)))))))))
    refine Ev_const rfl ?_
    rw [rd_nat _ hi, rd_nat _ (show j < b.length by omega), rdl_nat, rdl_nat, getD_set (by omega), getD_set (by omega), if_neg (by omega), if_pos rfl, rd_getD, e3]
    refine Ev_pos (by omega) (Ev_pos (by omega) ?_)
    refine Ev_if (fun h => ?_) (fun h => ?_)
    · have hx := data_eq.1 h
      rw [if_pos hx] at hat
      refine Ev_pos (by omega) (Ev_pos (by rw [List.length_set]; omega) ?_)
      rw [wid (by omega) (by omega), wid (by omega) (by omega), List.set_set, List.set_set, show ((lcs (a.drop (i + 1)) (b.drop (j + 1)) : Nat) : Int) + 1 = ((lcs (a.drop i) (b.drop j) : Nat) : Int) by omega]
      exact h2
    · have hx : ¬ a[i] = b[j] := fun e => h (data_eq.2 e)
      rw [if_neg hx] at hat
      rw [show max ((lcs (a.drop (i + 1)) (b.drop j) : Nat) : Int) ((lcs (a.drop i) (b.drop (j + 1)) : Nat) : Int) = ((lcs (a.drop i) (b.drop j) : Nat) : Int) by omega, wid (by omega) (by omega)]
      exact h2
theorem itab1 (a b : List ByteArray) (ha : a.length ≤ 1000000) (hb : b.length ≤ 1000000) : ∀ (i : Nat) (t : List (List Int)), i ≤ a.length → TabInv a b t i b.length → ∃ t', TabInv a b t' 0 b.length ∧ Ev (fun k => impl_commons.l1 k a b t ((i : Int) - 1)) t' := by
  intro i
  induction i with
  | zero =>
    intro t hi ht
    exact ⟨t, ht, Ev.step (fun k => by rw [impl_commons.l1]) (Ev_neg (by omega) (Ev.now _))⟩
  | succ i ih =>
    intro t hi ht
    obtain ⟨t', h1, h2⟩ := itab2 a b ha hb i (by omega) (fun t' => TabInv a b t' 0 b.length) (fun t ht => by
      obtain ⟨t', h1, h2⟩ := ih t (by omega) ht.next
      exact ⟨t', h1, by rw [wid (by omega) (by omega)]; exact h2⟩) b.length t (Nat.le_refl _) ht
    refine ⟨t', h1, Ev.step (fun k => by rw [impl_commons.l1]) (Ev_pos (by omega) ?_)⟩
    rw [wid (x := (b.length : Int) - 1) (by omega) (by omega), show (((i + 1 : Nat) : Int) - 1) = (i : Int) by omega]
    exact h2
theorem set_rep {β : Type} (z y : β) (i d : Nat) : (List.replicate i z ++ List.replicate (d + 1) y).set i z = List.replicate (i + 1) z ++ List.replicate d y := by
  rw [List.set_append_right _ _ (by simp), List.length_replicate, Nat.sub_self, List.replicate_succ (n := d), List.set_cons_zero, List.replicate_succ', List.append_assoc]
  rfl
theorem itab0 (a b : List ByteArray) (ha : a.length ≤ 1000000) (hb : b.length ≤ 1000000) (t' : List (List Int)) (h : Ev (fun k => impl_commons.l1 k a b (List.replicate (a.length + 1) (List.replicate (b.length + 1) 0)) ((a.length : Int) - 1)) t') :
    ∀ (d i : Nat), a.length + 1 - i = d → i ≤ a.length + 1 → Ev (fun k => impl_commons.l0 k a b (List.replicate i (List.replicate (b.length + 1) 0) ++ List.replicate d []) ((a.length + 1 : Nat) : Int) (i : Int)) t' := by
  intro d
  induction d with
  | zero =>
    intro i hd hi
    have : i = a.length + 1 := by omega
    subst this
    refine Ev.step (fun k => by rw [impl_commons.l0]) (Ev_neg (by omega) ?_)
    rw [wid (by omega) (by omega), List.replicate_zero, List.append_nil]
    exact h
  | succ d ih =>
    intro i hd hi
    refine Ev.step (fun k => by rw [impl_commons.l0]) (Ev_pos (by omega) ?_)
    rw [wsucc' (i := b.length) (by omega), wsucc' (i := i) (by omega), Int.toNat_natCast, Int.toNat_natCast]
    refine Ev_pos (by omega) (Ev_pos (by omega) (Ev_pos (by omega) (Ev_pos (by simp; omega) ?_)))
    rw [set_rep]
    exact ih (i + 1) (by omega) (by omega)
theorem itab_tells (a b : List ByteArray) (ha : a.length ≤ 1000000) (hb : b.length ≤ 1000000) : ∃ t, TabInv a b t 0 b.length ∧ Ev (fun k => impl_commons.f k a b) t := by
  obtain ⟨t, h1, h2⟩ := itab1 a b ha hb a.length _ (Nat.le_refl _) (TabInv.start a b)
  refine ⟨t, h1, ?_⟩
  unfold impl_commons.f
  rw [wsucc' (i := a.length) (by omega), Int.toNat_natCast]
  refine Ev_pos (by omega) (Ev_pos (by omega) (Ev_const rfl ?_))
  rw [List.length_replicate]
  have h := itab0 a b ha hb t h2 _ 0 rfl (by omega)
  rw [List.replicate_zero, List.nil_append, Nat.sub_zero] at h
  exact h
end Go.Proofs.Ytihbalbcocfnfaa.P
end
section
set_option linter.unusedVariables false
set_option linter.unusedSimpArgs false
namespace Go.Proofs.Ytihbalbcocfnfaa.P
open Go.RowKit Go.Proofs.YtihbalbcocfnfaaW.PrintWords Go.Proofs.YtihbalbcocfnfaaW.PrintLast
def mt : List ByteArray → List ByteArray → Nat → Nat → List Int × List Int
  | [], _, _, _ => ([], [])
  | _ :: _, [], _, _ => ([], [])
  | x :: a, y :: b, i, j => if x = y then ((i : Int) :: (mt a b (i + 1) (j + 1)).1, (j : Int) :: (mt a b (i + 1) (j + 1)).2) else if lcs (x :: a) b ≤ lcs a (y :: b) then mt a (y :: b) (i + 1) j else mt (x :: a) b i (j + 1)
termination_by a b => a.length + b.length
theorem mt_nil (b : List ByteArray) (i j : Nat) : mt [] b i j = ([], []) := by rw [mt]
theorem mt_nil' (a : List ByteArray) (i j : Nat) : mt a [] i j = ([], []) := by cases a <;> rw [mt]
theorem mt_eq {a b : List ByteArray} {i j : Nat} (hi : i < a.length) (hj : j < b.length) (h : a[i] = b[j]) (p q : Nat) :
    mt (a.drop i) (b.drop j) p q = ((p : Int) :: (mt (a.drop (i + 1)) (b.drop (j + 1)) (p + 1) (q + 1)).1, (q : Int) :: (mt (a.drop (i + 1)) (b.drop (j + 1)) (p + 1) (q + 1)).2) := by
  rw [drop_at hi, drop_at hj, mt, if_pos h]
theorem mt_a {a b : List ByteArray} {i j : Nat} (hi : i < a.length) (hj : j < b.length) (h : ¬ a[i] = b[j]) (h2 : lcs (a.drop i) (b.drop (j + 1)) ≤ lcs (a.drop (i + 1)) (b.drop j)) (p q : Nat) :
    mt (a.drop i) (b.drop j) p q = mt (a.drop (i + 1)) (b.drop j) (p + 1) q := by
  rw [drop_at hi, drop_at hj] at *
  rw [mt, if_neg h, if_pos h2]
theorem mt_b {a b : List ByteArray} {i j : Nat} (hi : i < a.length) (hj : j < b.length) (h : ¬ a[i] = b[j]) (h2 : ¬ lcs (a.drop i) (b.drop (j + 1)) ≤ lcs (a.drop (i + 1)) (b.drop j)) (p q : Nat) :
    mt (a.drop i) (b.drop j) p q = mt (a.drop i) (b.drop (j + 1)) p (q + 1) := by
  rw [drop_at hi, drop_at hj] at *
  rw [mt, if_neg h, if_neg h2]
def Inc (A B : Int) : List Int → List Int → Int → Int → Prop
  | [], [], i, j => i ≤ A ∧ j ≤ B
  | u :: us, v :: vs, i, j => i ≤ u ∧ j ≤ v ∧ Inc A B us vs (u + 1) (v + 1)
  | [], _ :: _, _, _ => False
  | _ :: _, [], _, _ => False
theorem mt_inc : ∀ (n : Nat) (a b : List ByteArray) (i j : Nat) (i' j' : Int), a.length + b.length = n → i' ≤ i → j' ≤ j → Inc ((i + a.length : Nat) : Int) ((j + b.length : Nat) : Int) (mt a b i j).1 (mt a b i j).2 i' j' := by
  intro n
  induction n using Nat.strongRecOn with
  | _ n ih =>
    intro a b i j i' j' hn hi hj
    cases a with
    | nil =>
      rw [mt_nil]
      exact ⟨by simp only [List.length_nil]; omega, by omega⟩
    | cons x a =>
      cases b with
      | nil =>
        rw [mt_nil']
        exact ⟨by omega, by simp only [List.length_nil]; omega⟩
      | cons y b =>
        simp only [List.length_cons] at hn ⊢
        rw [mt]
        split
        · have := ih _ (by omega) a b (i + 1) (j + 1) ((i : Int) + 1) ((j : Int) + 1) rfl (by omega) (by omega)
          rw [show i + (a.length + 1) = i + 1 + a.length by omega, show j + (b.length + 1) = j + 1 + b.length by omega]
          exact ⟨hi, hj, this⟩
        · split
          · have := ih _ (by simp only [List.length_cons]; omega) a (y :: b) (i + 1) j i' j' rfl (by omega) (by omega)
            rw [show i + (a.length + 1) = i + 1 + a.length by omega]
            exact this
          · have := ih _ (by simp only [List.length_cons]; omega) (x :: a) b i (j + 1) i' j' rfl (by omega) (by omega)
            rw [show j + (b.length + 1) = j + 1 + b.length by omega]
            exact this
theorem mt_len : ∀ (n : Nat) (a b : List ByteArray) (i j : Nat), a.length + b.length = n → (mt a b i j).1.length = lcs a b ∧ (mt a b i j).2.length = lcs a b := by
  intro n
  induction n using Nat.strongRecOn with
  | _ n ih =>
    intro a b i j hn
    cases a with
    | nil => rw [mt_nil, lcs_nil]; exact ⟨rfl, rfl⟩
    | cons x a =>
      cases b with
      | nil => rw [mt_nil', lcs_nil']; exact ⟨rfl, rfl⟩
      | cons y b =>
        simp only [List.length_cons] at hn
        rw [mt, lcs_cons]
        split
        · have := ih _ (by omega) a b (i + 1) (j + 1) rfl
          exact ⟨by rw [List.length_cons, this.1], by rw [List.length_cons, this.2]⟩
        · split
          · rename_i h1 h2
            have := ih _ (by simp only [List.length_cons]; omega) a (y :: b) (i + 1) j rfl
            rw [Nat.max_eq_left h2]
            exact this
          · rename_i h1 h2
            have := ih _ (by simp only [List.length_cons]; omega) (x :: a) b i (j + 1) rfl
            rw [Nat.max_eq_right (by omega)]
            exact this
theorem spec_l2Match_loop (a b : List ByteArray) (ha : a.length ≤ 1000000) (hb : b.length ≤ 1000000) (t : List (List Int)) (ht : TabInv a b t 0 b.length) : ∀ (n i j : Nat) (x y : List Int), (a.length - i) + (b.length - j) = n → i ≤ a.length → j ≤ b.length → x.length ≤ i → y.length ≤ j →
    Ev (fun k => spec_l2Match.l0 k a b t x y (i : Int) (j : Int)) (x ++ (mt (a.drop i) (b.drop j) i j).1, y ++ (mt (a.drop i) (b.drop j) i j).2) := by
  intro n
  induction n using Nat.strongRecOn with
  | _ n ih =>
    intro i j x y hn hi hj hx hy
    by_cases h : i < a.length ∧ j < b.length
    · obtain ⟨h1, h2⟩ := h
      have hl := ht.len
      have r0 := ht.rows i (by omega)
      have r1 := ht.rows (i + 1) (by omega)
      have v1 := ht.all (r := i + 1) (c := j) (by omega) (by omega)
      have v2 := ht.all (r := i) (c := j + 1) (by omega) (by omega)
      refine Ev.step (fun k => by rw [spec_l2Match.l0]) (Ev_pos (by omega) ?_)
      rw [show (decide ((j : Int) < (b.length : Int))) = true from decide_eq_true (by omega)]
      refine Ev.step (fun k => by rw [spec_l2Match.j1]) (Ev_pos rfl (Ev_pos (by omega) (Ev_pos (by omega) (Ev_pos (by omega) (Ev_pos (by omega) ?_)))))
      rw [rd_nat _ h1, rd_nat _ h2, wsucc' (i := i) (by omega), wsucc' (i := j) (by omega), rdl_nat, rdl_nat, rd_getD, rd_getD, v1, v2]
      refine Ev_if (fun h => ?_) (fun h => ?_)
      · rw [mt_eq h1 h2 (data_eq.1 h)]
        refine Ev_pos (by omega) (Ev_pos (by omega) ?_)
        have e := ih _ (by omega) (i + 1) (j + 1) (x ++ [(i : Int)]) (y ++ [(j : Int)]) rfl (by omega) (by omega) (by simp; omega) (by simp; omega)
        rw [List.append_assoc, List.append_assoc] at e
        exact e
      · have hne : ¬ a[i] = b[j] := fun e => h (data_eq.2 e)
        refine Ev_pos (by omega) (Ev_pos (by omega) (Ev_pos (by omega) (Ev_pos (by omega) (Ev_pos (by omega) (Ev_pos (by omega) ?_)))))
        refine Ev_if (fun h3 => ?_) (fun h3 => ?_)
        · rw [mt_a h1 h2 hne (by omega)]
          exact ih _ (by omega) (i + 1) j x y rfl (by omega) (by omega) (by omega) (by omega)
        · rw [mt_b h1 h2 hne (by omega)]
          exact ih _ (by omega) i (j + 1) x y rfl (by omega) (by omega) (by omega) (by omega)
    · have hm : mt (a.drop i) (b.drop j) i j = ([], []) := by
        by_cases h1 : i < a.length
        · rw [List.drop_eq_nil_of_le (show b.length ≤ j by omega), mt_nil']
        · rw [List.drop_eq_nil_of_le (show a.length ≤ i by omega), mt_nil]
      rw [hm, List.append_nil, List.append_nil]
      have e : Ev (fun k => spec_l2Match.j1 k a b t x y (i : Int) (j : Int) false) (x, y) := Ev.step (fun k => by rw [spec_l2Match.j1]) (Ev_neg (by simp) (Ev.now _))
      refine Ev.step (fun k => by rw [spec_l2Match.l0]) (Ev_if (fun h1 => ?_) (fun h1 => e))
      rw [show (decide ((j : Int) < (b.length : Int))) = false from decide_eq_false (by omega)]
      exact e
theorem spec_l2Match_tells (a b : List ByteArray) (ha : a.length ≤ 1000000) (hb : b.length ≤ 1000000) : Ev (fun k => spec_l2Match.f k a b) (mt a b 0 0) := by
  obtain ⟨t, h1, h2⟩ := stab_tells a b ha hb
  unfold spec_l2Match.f
  refine Ev_call h2 ?_
  have e := spec_l2Match_loop a b ha hb t h1 _ 0 0 [] [] rfl (by omega) (by omega) (by simp) (by simp)
  rw [List.drop_zero, List.drop_zero, List.nil_append, List.nil_append] at e
  exact e
theorem impl_match_loop (a b : List ByteArray) (ha : a.length ≤ 1000000) (hb : b.length ≤ 1000000) (t : List (List Int)) (ht : TabInv a b t 0 b.length) : ∀ (n i j : Nat) (x y : List Int), (a.length - i) + (b.length - j) = n → i ≤ a.length → j ≤ b.length → x.length ≤ i → y.length ≤ j →
    Ev (fun k => impl_match.l0 k a b t x y (i : Int) (j : Int)) (x ++ (mt (a.drop i) (b.drop j) i j).1, y ++ (mt (a.drop i) (b.drop j) i j).2) := by
  intro n
  induction n using Nat.strongRecOn with
  | _ n ih =>
    intro i j x y hn hi hj hx hy
    by_cases h : i < a.length ∧ j < b.length
    · obtain ⟨h1, h2⟩ := h
      have hl := ht.len
      have r0 := ht.rows i (by omega)
      have r1 := ht.rows (i + 1) (by omega)
      have v1 := ht.all (r := i + 1) (c := j) (by omega) (by omega)
      have v2 := ht.all (r := i) (c := j + 1) (by omega) (by omega)
      refine Ev.step (fun k => by rw [impl_match.l0]) (Ev_pos (by omega) ?_)
      rw [show (decide ((j : Int) < (b.length : Int))) = true from decide_eq_true (by omega)]
      refine Ev.step (fun k => by rw [impl_match.j1]) (Ev_pos rfl (Ev_pos (by omega) (Ev_pos (by omega) (Ev_pos (by omega) (Ev_pos (by omega) ?_)))))
      rw [rd_nat _ h1, rd_nat _ h2, wsucc' (i := i) (by omega), wsucc' (i := j) (by omega), rdl_nat, rdl_nat, rd_getD, rd_getD, v1, v2]
      refine Ev_if (fun h => ?_) (fun h => ?_)
      · rw [mt_eq h1 h2 (data_eq.1 h)]
        refine Ev_pos (by omega) (Ev_pos (by omega) ?_)
        have e := ih _ (by omega) (i + 1) (j + 1) (x ++ [(i : Int)]) (y ++ [(j : Int)]) rfl (by omega) (by omega) (by simp; omega) (by simp; omega)
        rw [List.append_assoc, List.append_assoc] at e
        exact e
      · have hne : ¬ a[i] = b[j] := fun e => h (data_eq.2 e)
        refine Ev_pos (by omega) (Ev_pos (by omega) (Ev_pos (by omega) (Ev_pos (by omega) (Ev_pos (by omega) (Ev_pos (by omega) ?_)))))
        refine Ev_if (fun h3 => ?_) (fun h3 => ?_)
        · rw [mt_a h1 h2 hne (by omega)]
          exact ih _ (by omega) (i + 1) j x y rfl (by omega) (by omega) (by omega) (by omega)
        · rw [mt_b h1 h2 hne (by omega)]
          exact ih _ (by omega) i (j + 1) x y rfl (by omega) (by omega) (by omega) (by omega)
    · have hm : mt (a.drop i) (b.drop j) i j = ([], []) := by
        by_cases h1 : i < a.length
        · rw [List.drop_eq_nil_of_le (show b.length ≤ j by omega), mt_nil']
        · rw [List.drop_eq_nil_of_le (show a.length ≤ i by omega), mt_nil]
      rw [hm, List.append_nil, List.append_nil]
      have e : Ev (fun k => impl_match.j1 k a b t x y (i : Int) (j : Int) false) (x, y) := Ev.step (fun k => by rw [impl_match.j1]) (Ev_neg (by simp) (Ev.now _))
      refine Ev.step (fun k => by rw [impl_match.l0]) (Ev_if (fun h1 => ?_) (fun h1 => e))
      rw [show (decide ((j : Int) < (b.length : Int))) = false from decide_eq_false (by omega)]
      exact e
theorem impl_match_tells (a b : List ByteArray) (ha : a.length ≤ 1000000) (hb : b.length ≤ 1000000) : Ev (fun k => impl_match.f k a b) (mt a b 0 0) := by
  obtain ⟨t, h1, h2⟩ := itab_tells a b ha hb
  unfold impl_match.f
  refine Ev_call h2 ?_
  have e := impl_match_loop a b ha hb t h1 _ 0 0 [] [] rfl (by omega) (by omega) (by simp) (by simp)
  rw [List.drop_zero, List.drop_zero, List.nil_append, List.nil_append] at e
  exact e
end Go.Proofs.Ytihbalbcocfnfaa.P
end
section
namespace Go.Proofs.Ytihbalbcocfnfaa.P
open Go.RowKit Go.Proofs.YtihbalbcocfnfaaW.PrintWords Go.Proofs.YtihbalbcocfnfaaW.PrintLast Go.Proofs.YtihbalbcocfnfaaW.PrintMore
attribute [local go_sem] max2_int min2_int max_two min_two max_three min_three max_four min_four
end Go.Proofs.Ytihbalbcocfnfaa.P
end
section
namespace Go.Proofs.Ytihbalbcocfnfaa.P
open Go.RowKit Go.Proofs.YtihbalbcocfnfaaW.PrintWords Go.Proofs.YtihbalbcocfnfaaW.PrintLast Go.Proofs.YtihbalbcocfnfaaW.PrintMore
attribute [local go_sem] max2_int min2_int max_two min_two max_three min_three max_four min_four
end Go.Proofs.Ytihbalbcocfnfaa.P
end
section
namespace Go.Proofs.Ytihbalbcocfnfaa.P
open Go.RowKit Go.Proofs.YtihbalbcocfnfaaW.PrintWords Go.Proofs.YtihbalbcocfnfaaW.PrintLast Go.Proofs.YtihbalbcocfnfaaW.PrintMore
attribute [local go_sem] max2_int min2_int max_two min_two max_three min_three max_four min_four
end Go.Proofs.Ytihbalbcocfnfaa.P
end
section
namespace Go.Proofs.Ytihbalbcocfnfaa.P
open Go.RowKit Go.Proofs.YtihbalbcocfnfaaW.PrintWords Go.Proofs.YtihbalbcocfnfaaW.PrintLast Go.Proofs.YtihbalbcocfnfaaW.PrintMore
attribute [local go_sem] max2_int min2_int max_two min_two max_three min_three max_four min_four
end Go.Proofs.Ytihbalbcocfnfaa.P
end
section
namespace Go.Proofs.Ytihbalbcocfnfaa.P
open Go.RowKit Go.Proofs.YtihbalbcocfnfaaW.PrintWords Go.Proofs.YtihbalbcocfnfaaW.PrintLast Go.Proofs.YtihbalbcocfnfaaW.PrintMore
attribute [local go_sem] max2_int min2_int max_two min_two max_three min_three max_four min_four
end Go.Proofs.Ytihbalbcocfnfaa.P
end
section
set_option linter.unusedVariables false
set_option linter.unusedSimpArgs false
namespace Go.Proofs.Ytihbalbcocfnfaa.P
open Go.RowKit Go.Proofs.YtihbalbcocfnfaaW.PrintWords Go.Proofs.YtihbalbcocfnfaaW.PrintLast
def CO (a b : List ByteArray) : Int × Int := if LF2 a b = 0 then (0, (lcs a b : Int)) else (LF2 a b, 0)
theorem tab_head {a b : List ByteArray} {t : List (List Int)} (h : TabInv a b t 0 b.length) : rd (rd_L4 t 0) 0 = (lcs a b : Int) ∧ (0 : Int) < (t.length : Int) ∧ (0 : Int) < ((rd_L4 t 0).length : Int) := by
  have h0 := h.all (r := 0) (c := 0) (by omega) (by omega)
  have hr := h.rows 0 (by omega)
  have hl := h.len
  rw [List.drop_zero, List.drop_zero] at h0
  have e : rd_L4 t 0 = t.getD 0 [] := rdl_nat t 0
  have e2 : rd (t.getD 0 []) 0 = (t.getD 0 []).getD 0 0 := rd_getD (t.getD 0 []) 0
  rw [e, e2]
  exact ⟨h0, by omega, by omega⟩
theorem icommon_tells {a b : List ByteArray} (ha : Small a) (hb : Small b) : Ev (fun k => impl_CommonOf.f k a b) (CO a b) := by
  unfold impl_CommonOf.f CO
  refine Ev_call (both_tells ha hb) (Ev_if (fun h => ?_) (fun h => ?_))
  · rw [if_pos h]
    have h1 := LF_zero (LF2_zero h).1
    have h2 := LF_zero (LF2_zero h).2
    obtain ⟨t, ht, e⟩ := itab_tells a b (by omega) (by omega)
    obtain ⟨e1, e2, e3⟩ := tab_head ht
    refine Ev_call e (Ev_pos e2 (Ev_pos e3 (Ev_val ?_)))
    rw [e1]
  · rw [if_neg h]
    exact Ev.now _
end Go.Proofs.Ytihbalbcocfnfaa.P
end
section
set_option linter.unusedVariables false
set_option linter.unusedSimpArgs false
namespace Go.Proofs.Ytihbalbcocfnfaa.P
open Go.RowKit Go.Proofs.YtihbalbcocfnfaaW.PrintWords Go.Proofs.YtihbalbcocfnfaaW.PrintLast
def Inc2 (M : Int) : List Int → List Int → Int → Int → Prop
  | [], [], _, _ => True
  | u :: us, v :: vs, i, j => i ≤ u ∧ j ≤ v ∧ u ≤ M ∧ v ≤ M ∧ Inc2 M us vs (u + 1) (v + 1)
  | [], _ :: _, _, _ => False
  | _ :: _, [], _, _ => False
theorem Inc.two {A B M : Int} (hA : A ≤ M) (hB : B ≤ M) : ∀ (p q : List Int) (i j : Int), Inc A B p q i j → i ≤ A ∧ j ≤ B ∧ Inc2 M (p ++ [A]) (q ++ [B]) i j
  | [], [], i, j, h => ⟨h.1, h.2, h.1, h.2, hA, hB, trivial⟩
  | u :: us, v :: vs, i, j, h => by
    obtain ⟨h1, h2, h3⟩ := h
    obtain ⟨h4, h5, h6⟩ := Inc.two hA hB us vs _ _ h3
    exact ⟨by omega, by omega, h1, h2, by omega, by omega, h6⟩
  | [], _ :: _, _, _, h => h.elim
  | _ :: _, [], _, _, h => h.elim
theorem Inc2.len {M : Int} : ∀ (p q : List Int) (i j : Int), Inc2 M p q i j → p.length = q.length
  | [], [], _, _, _ => rfl
  | _ :: us, _ :: vs, _, _, h => by rw [List.length_cons, List.length_cons, Inc2.len us vs _ _ h.2.2.2.2]
  | [], _ :: _, _, _, h => h.elim
  | _ :: _, [], _, _, h => h.elim
def chs : List Int → List Int → Int → Int → List S64
  | u :: us, v :: vs, i, j => if u > i ∨ v > j then ⟨i, u - i, j, v - j⟩ :: chs us vs (u + 1) (v + 1) else chs us vs (u + 1) (v + 1)
  | _, _, _, _ => []
theorem chs_cons (u v : Int) (us vs : List Int) (i j : Int) : chs (u :: us) (v :: vs) i j = if u > i ∨ v > j then ⟨i, u - i, j, v - j⟩ :: chs us vs (u + 1) (v + 1) else chs us vs (u + 1) (v + 1) := rfl
theorem ich_loop (us vs : List Int) (hl : us.length ≤ 2000000) (he : us.length = vs.length) : ∀ (d n : Nat) (o : List S64) (i j : Int), us.length - n = d → n ≤ us.length → o.length ≤ n → 0 ≤ i → 0 ≤ j → Inc2 1000000 (us.drop n) (vs.drop n) i j →
    Ev (fun k => impl_changesOf.l0 k vs o i j us (us.length : Int) (n : Int)) (o ++ chs (us.drop n) (vs.drop n) i j) := by
  intro d
  induction d with
  | zero =>
    intro n o i j hd hn ho hi hj h
    refine Ev.step (fun k => by rw [impl_changesOf.l0]) (Ev_neg (by omega) (Ev_val ?_))
    rw [List.drop_eq_nil_of_le (show us.length ≤ n by omega), List.drop_eq_nil_of_le (show vs.length ≤ n by omega)]
    exact (List.append_nil _).symm
  | succ d ih =>
    intro n o i j hd hn ho hi hj h
    have h1 : n < us.length := by omega
    have h2 : n < vs.length := by omega
    rw [drop_at h1, drop_at h2] at h ⊢
    obtain ⟨g1, g2, g3, g4, g5⟩ := h
    rw [chs_cons]
    refine Ev.step (fun k => by rw [impl_changesOf.l0]) (Ev_pos (by omega) (Ev_pos (by omega) (Ev_pos (by omega) (Ev_pos (by omega) ?_))))
    rw [rdi_nat h1, rdi_nat h2, wid (x := us[n] - i) (by omega) (by omega), wid (x := vs[n] - j) (by omega) (by omega), wid (x := us[n] + 1) (by omega) (by omega), wid (x := vs[n] + 1) (by omega) (by omega), wsucc' (by omega)]
    have go1 : Ev (fun k => impl_changesOf.l0 k vs (o ++ [⟨i, us[n] - i, j, vs[n] - j⟩]) (us[n] + 1) (vs[n] + 1) us (us.length : Int) ((n + 1 : Nat) : Int)) (o ++ ⟨i, us[n] - i, j, vs[n] - j⟩ :: chs (us.drop (n + 1)) (vs.drop (n + 1)) (us[n] + 1) (vs[n] + 1)) := by
      have := ih (n + 1) (o ++ [⟨i, us[n] - i, j, vs[n] - j⟩]) (us[n] + 1) (vs[n] + 1) (by omega) (by omega) (by simp; omega) (by omega) (by omega) g5
      rw [List.append_assoc] at this
      exact this
    refine Ev_if (fun h => ?_) (fun h => ?_)
    · rw [if_pos (.inl h)]
      exact Ev_pos (by omega) go1
    · refine Ev_if (fun h3 => ?_) (fun h3 => ?_)
      · rw [if_pos (.inr h3)]
        exact Ev_pos (by omega) go1
      · rw [if_neg (by omega)]
        exact ih (n + 1) o (us[n] + 1) (vs[n] + 1) (by omega) (by omega) (by omega) (by omega) (by omega) g5
def CHS (a b : List ByteArray) : List S64 := chs ((mt a b 0 0).1 ++ [(a.length : Int)]) ((mt a b 0 0).2 ++ [(b.length : Int)]) 0 0
theorem chs_ready (a b : List ByteArray) (ha : a.length ≤ 1000000) (hb : b.length ≤ 1000000) : Inc2 1000000 ((mt a b 0 0).1 ++ [(a.length : Int)]) ((mt a b 0 0).2 ++ [(b.length : Int)]) 0 0 ∧ ((mt a b 0 0).1 ++ [(a.length : Int)]).length ≤ 1000001 ∧ ((mt a b 0 0).2 ++ [(b.length : Int)]).length ≤ 1000001 := by
  have h := mt_inc _ a b 0 0 0 0 rfl (by omega) (by omega)
  rw [Nat.zero_add, Nat.zero_add] at h
  have h2 := (Inc.two (M := 1000000) (by omega) (by omega) _ _ _ _ h).2.2
  have hl := mt_len _ a b 0 0 rfl
  have hle := lcs_le a b
  refine ⟨h2, ?_, ?_⟩
  · rw [List.length_append, hl.1]
    simp
    omega
  · rw [List.length_append, hl.2]
    simp
    omega
theorem ich_tells (a b : List ByteArray) (ha : a.length ≤ 1000000) (hb : b.length ≤ 1000000) : Ev (fun k => impl_changesOf.f k a b) (CHS a b) := by
  obtain ⟨h1, h2, h3⟩ := chs_ready a b ha hb
  have he := Inc2.len _ _ _ _ h1
  unfold impl_changesOf.f
  refine Ev_call (impl_match_tells a b ha hb) (Ev_pos (by rw [List.length_append] at h2; simp at h2; omega) ?_)
  refine Ev_const rfl ?_
  refine Ev_pos (by rw [List.length_append] at h3; simp at h3; omega) ?_
  have := ich_loop _ _ (by omega) he _ 0 [] 0 0 rfl (by omega) (by simp) (by omega) (by omega) (by rw [List.drop_zero, List.drop_zero]; exact h1)
  rw [List.drop_zero, List.drop_zero, List.nil_append] at this
  exact this
def sumc : List S64 → Int
  | [] => 0
  | c :: l => (c.f1 + c.f3) + sumc l
theorem sumc_chs {A B : Int} : ∀ (p q : List Int) (i j : Int), Inc A B p q i j → sumc (chs (p ++ [A]) (q ++ [B]) i j) = (A - i) + (B - j) - 2 * (p.length : Int)
  | [], [], i, j, h => by
    obtain ⟨h1, h2⟩ := h
    rw [List.nil_append, List.nil_append, chs_cons]
    split
    · simp [sumc, chs]
    · simp [sumc, chs]
      omega
  | u :: us, v :: vs, i, j, h => by
    obtain ⟨h1, h2, h3⟩ := h
    have ih := sumc_chs us vs _ _ h3
    rw [List.cons_append, List.cons_append, chs_cons, List.length_cons]
    split
    · simp only [sumc]
      rw [ih]
      omega
    · rw [ih]
      omega
  | [], _ :: _, _, _, h => h.elim
  | _ :: _, [], _, _, h => h.elim
def ChOk (l : List S64) : Prop := ∀ c ∈ l, 0 ≤ c.f0 ∧ c.f0 ≤ 1000001 ∧ 0 ≤ c.f1 ∧ c.f1 ≤ 1000001 ∧ 0 ≤ c.f2 ∧ c.f2 ≤ 1000001 ∧ 0 ≤ c.f3 ∧ c.f3 ≤ 1000001
theorem chs_ok : ∀ (p q : List Int) (i j : Int), 0 ≤ i → 0 ≤ j → Inc2 1000000 p q i j → ChOk (chs p q i j) ∧ (chs p q i j).length ≤ p.length
  | [], [], _, _, _, _, _ => ⟨fun c hc => by simp [chs] at hc, by simp [chs]⟩
  | u :: us, v :: vs, i, j, hi, hj, h => by
    obtain ⟨h1, h2, h3, h4, h5⟩ := h
    have ih := chs_ok us vs _ _ (by omega) (by omega) h5
    rw [chs_cons]
    split
    · refine ⟨fun c hc => ?_, by simp only [List.length_cons]; omega⟩
      rcases List.mem_cons.1 hc with rfl | hc
      · exact ⟨hi, by show i ≤ _; omega, by show 0 ≤ u - i; omega, by show u - i ≤ _; omega, hj, by show j ≤ _; omega, by show 0 ≤ v - j; omega, by show v - j ≤ _; omega⟩
      · exact ih.1 c hc
    · exact ⟨ih.1, by simp only [List.length_cons]; omega⟩
  | [], _ :: _, _, _, _, _, h => h.elim
  | _ :: _, [], _, _, _, _, h => h.elim
theorem CHS_ok (a b : List ByteArray) (ha : a.length ≤ 1000000) (hb : b.length ≤ 1000000) : ChOk (CHS a b) ∧ (CHS a b).length ≤ 1000001 := by
  obtain ⟨h1, h2, h3⟩ := chs_ready a b ha hb
  have := chs_ok _ _ _ _ (by omega) (by omega) h1
  exact ⟨this.1, by unfold CHS; omega⟩
theorem CHS_sum (a b : List ByteArray) : sumc (CHS a b) = (a.length : Int) + (b.length : Int) - 2 * (lcs a b : Int) := by
  have h := mt_inc _ a b 0 0 0 0 rfl (by omega) (by omega)
  rw [Nat.zero_add, Nat.zero_add] at h
  unfold CHS
  rw [sumc_chs _ _ _ _ h, (mt_len _ a b 0 0 rfl).1]
  omega
theorem edit_loop (l : List S64) (hl : l.length ≤ 1000001) (ho : ChOk l) : ∀ (d n : Nat) (s : Int), l.length - n = d → n ≤ l.length → 0 ≤ s → s ≤ 2000002 * (n : Int) →
    Ev (fun k => impl_EditCount.l0 k s l (l.length : Int) (n : Int)) (0, s + sumc (l.drop n)) := by
  intro d
  induction d with
  | zero =>
    intro n s hd hn hs hs2
    refine Ev.step (fun k => by rw [impl_EditCount.l0]) (Ev_neg (by omega) (Ev_val ?_))
    rw [List.drop_eq_nil_of_le (show l.length ≤ n by omega)]
    simp [sumc]
  | succ d ih =>
    intro n s hd hn hs hs2
    have h1 : n < l.length := by omega
    obtain ⟨a1, a2, a3, a4, a5, a6, a7, a8⟩ := ho l[n] (List.getElem_mem h1)
    refine Ev.step (fun k => by rw [impl_EditCount.l0]) (Ev_pos (by omega) (Ev_pos (by omega) (Ev_pos (by omega) ?_)))
    rw [rdc_nat h1, wid (x := l[n].f1 + l[n].f3) (by omega) (by omega), wid (x := s + (l[n].f1 + l[n].f3)) (by omega) (by omega), wsucc' (by omega)]
    refine Ev_eq (ih (n + 1) (s + (l[n].f1 + l[n].f3)) (by omega) (by omega) (by omega) (by omega)) ?_
    rw [drop_at h1, sumc]
    congr 1
    omega
def EC (a b : List ByteArray) : Int × Int := if LF2 a b = 0 then (0, (a.length : Int) + (b.length : Int) - 2 * (lcs a b : Int)) else (LF2 a b, 0)
theorem iedit_tells {a b : List ByteArray} (ha : Small a) (hb : Small b) : Ev (fun k => impl_EditCount.f k a b) (EC a b) := by
  unfold impl_EditCount.f EC
  refine Ev_call (both_tells ha hb) (Ev_if (fun h => ?_) (fun h => ?_))
  · rw [if_pos h]
    have h1 := LF_zero (LF2_zero h).1
    have h2 := LF_zero (LF2_zero h).2
    have ok := CHS_ok a b (by omega) (by omega)
    refine Ev_call (ich_tells a b (by omega) (by omega)) ?_
    have e := edit_loop (CHS a b) ok.2 ok.1 _ 0 0 rfl (by omega) (by omega) (by omega)
    rw [List.drop_zero, CHS_sum, Int.zero_add] at e
    exact e
  · rw [if_neg h]
    exact Ev.now _
end Go.Proofs.Ytihbalbcocfnfaa.P
end
section
set_option linter.unusedVariables false
set_option linter.unusedSimpArgs false
namespace Go.Proofs.Ytihbalbcocfnfaa.P
open Go.RowKit Go.Proofs.YtihbalbcocfnfaaW.PrintWords Go.Proofs.YtihbalbcocfnfaaW.PrintLast
def Code (c : List Int) : Prop := ∀ x ∈ c, 0 ≤ x ∧ x ≤ 255
theorem Code.rd {c : List Int} (hc : Code c) {i : Int} (h0 : 0 ≤ i) (h1 : i < (c.length : Int)) : 0 ≤ rd c i ∧ rd c i ≤ 255 := by
  obtain ⟨n, rfl⟩ := Int.eq_ofNat_of_zero_le h0
  have hn : n < c.length := by omega
  rw [rdi_nat hn]
  exact hc _ (List.getElem_mem hn)
theorem next_tells {c : List Int} (hc : Code c) {p n : Int} (h0 : 0 ≤ p) (h1 : p ≤ 1000000) (hn : n ≤ 1000000) : ∃ v, spec_l1Next.f c p n = some (v, p + 1) ∧ 0 ≤ v ∧ (1 ≤ n → v < n) := by
  unfold spec_l1Next.f
  rw [wid (x := p + 1) (by omega) (by omega), show p + 1 - 1 = p by omega, wid (x := p) (by omega) (by omega)]
  by_cases c0 : n < 1
  · rw [if_pos c0]
    exact ⟨0, rfl, by omega, by omega⟩
  rw [if_neg c0]
  by_cases c1 : (c.length : Int) = 0
  · rw [if_pos c1, if_neg (by omega), wid (x := p * 7) (by omega) (by omega)]
    exact ⟨_, rfl, Int.tmod_nonneg _ (by omega), fun _ => Int.tmod_lt_of_pos _ (by omega)⟩
  rw [if_neg c1]
  have q0 : 0 ≤ Int.tmod p (c.length : Int) := Int.tmod_nonneg _ h0
  have q1 : Int.tmod p (c.length : Int) < (c.length : Int) := Int.tmod_lt_of_pos _ (by omega)
  have r1 := hc.rd q0 q1
  rw [if_pos q0, if_pos q1]
  have d0 : 0 ≤ Int.tdiv p (c.length : Int) := Int.tdiv_nonneg h0 (by omega)
  have d1 : Int.tdiv p (c.length : Int) ≤ p := Int.tdiv_le_self _ h0
  rw [wid (x := Int.tdiv p (c.length : Int)) (by omega) (by omega), wid (x := rd c (Int.tmod p (c.length : Int))) (by omega) (by omega), wid (x := Int.tdiv p (c.length : Int) * 37) (by omega) (by omega), wid (x := rd c (Int.tmod p (c.length : Int)) + Int.tdiv p (c.length : Int) * 37) (by omega) (by omega)]
  by_cases c2 : n > 200
  · rw [if_pos c2, wid (x := p + 1) (by omega) (by omega)]
    have q2 : 0 ≤ Int.tmod (p + 1) (c.length : Int) := Int.tmod_nonneg _ (by omega)
    have q3 : Int.tmod (p + 1) (c.length : Int) < (c.length : Int) := Int.tmod_lt_of_pos _ (by omega)
    have r2 := hc.rd q2 q3
    rw [if_pos q2, if_pos q3, if_neg (by omega), wid (x := rd c (Int.tmod (p + 1) (c.length : Int))) (by omega) (by omega), wid (x := rd c (Int.tmod (p + 1) (c.length : Int)) * 13) (by omega) (by omega),
      wid (x := (rd c (Int.tmod p (c.length : Int)) + Int.tdiv p (c.length : Int) * 37) * 251) (by omega) (by omega), wid (x := (rd c (Int.tmod p (c.length : Int)) + Int.tdiv p (c.length : Int) * 37) * 251 + rd c (Int.tmod (p + 1) (c.length : Int)) * 13) (by omega) (by omega), wid (by omega) (by omega)]
    exact ⟨_, rfl, Int.tmod_nonneg _ (by omega), fun _ => Int.tmod_lt_of_pos _ (by omega)⟩
  · rw [if_neg c2, if_neg (by omega)]
    exact ⟨_, rfl, Int.tmod_nonneg _ (by omega), fun _ => Int.tmod_lt_of_pos _ (by omega)⟩
theorem chance_tells {c : List Int} (hc : Code c) {p n : Int} (h0 : 0 ≤ p) (h1 : p ≤ 1000000) (hn : n ≤ 1000000) : ∃ b, spec_l1Chance.f c p n = some (b, p + 1) := by
  obtain ⟨v, e, _⟩ := next_tells hc h0 h1 hn
  unfold spec_l1Chance.f
  rw [e]
  exact ⟨_, rfl⟩
def Lin (lo hi : Nat) (l : List ByteArray) : Prop := ∀ x ∈ l, lo ≤ x.size ∧ x.size ≤ hi
theorem Lin.mono {lo hi lo' hi' : Nat} {l : List ByteArray} (h : Lin lo hi l) (h1 : lo' ≤ lo) (h2 : hi ≤ hi') : Lin lo' hi' l := fun x hx => ⟨Nat.le_trans h1 (h x hx).1, Nat.le_trans (h x hx).2 h2⟩
theorem Lin.app {lo hi : Nat} {l m : List ByteArray} (h : Lin lo hi l) (g : Lin lo hi m) : Lin lo hi (l ++ m) := fun x hx => by
  rcases List.mem_append.1 hx with hx | hx
  · exact h x hx
  · exact g x hx
theorem Lin.one {lo hi : Nat} {s : ByteArray} (h : lo ≤ s.size ∧ s.size ≤ hi) : Lin lo hi [s] := fun x hx => by
  rw [List.mem_singleton.1 hx]
  exact h
theorem Lin.take {lo hi : Nat} {l : List ByteArray} (h : Lin lo hi l) (n : Nat) : Lin lo hi (l.take n) := fun x hx => h x (List.mem_of_mem_take hx)
theorem Lin.drop {lo hi : Nat} {l : List ByteArray} (h : Lin lo hi l) (n : Nat) : Lin lo hi (l.drop n) := fun x hx => h x (List.mem_of_mem_drop hx)
theorem Lin.set {lo hi : Nat} {l : List ByteArray} (h : Lin lo hi l) (i : Nat) {s : ByteArray} (hs : lo ≤ s.size ∧ s.size ≤ hi) : Lin lo hi (l.set i s) := fun x hx => by
  rcases List.mem_or_eq_of_mem_set hx with hx | rfl
  · exact h x hx
  · exact hs
theorem Lin.total {lo hi : Nat} : ∀ {l : List ByteArray}, Lin lo hi l → total l ≤ hi * l.length := by
  intro l
  induction l with
  | nil => intro _; simp [Go.Proofs.Ytihbalbcocfnfaa.P.total]
  | cons x l ih =>
    intro h
    have h1 := (h x (by simp)).2
    have h2 := ih (fun y hy => h y (by simp [hy]))
    simp only [Go.Proofs.Ytihbalbcocfnfaa.P.total, List.length_cons, Nat.mul_add, Nat.mul_one]
    omega
theorem Lin.small {lo hi : Nat} {l : List ByteArray} (h : Lin lo hi l) (hh : hi ≤ 1000) (hl : l.length ≤ 1000) : Small l := by
  have := h.total
  refine ⟨fun x hx => by have := (h x hx).2; omega, by omega, ?_⟩
  have : hi * l.length ≤ 1000 * 1000 := Nat.mul_le_mul hh hl
  omega
theorem end_size (s : ByteArray) : (s ++ (⟨#[10]⟩ : ByteArray)).size = s.size + 1 := by
  rw [ByteArray.size_append]
  rfl
theorem word_tells {c : List Int} (hc : Code c) {p : Int} (h0 : 0 ≤ p) (h1 : p ≤ 1000000) : ∃ s, spec_l1Word.f c p = some (s, p + 1) ∧ s.size ≤ 7 := by
  obtain ⟨v, e, v0, v1⟩ := next_tells hc (n := 9) h0 h1 (by omega)
  unfold spec_l1Word.f
  rw [Option.bind_some, e, Option.bind_some]
  have v2 := v1 (by omega)
  obtain ⟨n, rfl⟩ := Int.eq_ofNat_of_zero_le v0
  have hn : n < ([(⟨#[97]⟩ : ByteArray), (⟨#[98]⟩ : ByteArray), (⟨#[99]⟩ : ByteArray), (⟨#[100]⟩ : ByteArray), (⟨#[120, 32, 121]⟩ : ByteArray), (⟨#[]⟩ : ByteArray), (⟨#[60, 60, 60, 60, 60, 60, 60]⟩ : ByteArray), (⟨#[61, 61, 61, 61, 61, 61, 61]⟩ : ByteArray), (⟨#[111, 110, 101]⟩ : ByteArray)] : List ByteArray).length := by
    show n < 9
    omega
  rw [if_pos v0, if_pos (by omega), rd_nat _ hn]
  refine ⟨_, rfl, ?_⟩
  have all : ∀ x ∈ ([(⟨#[97]⟩ : ByteArray), (⟨#[98]⟩ : ByteArray), (⟨#[99]⟩ : ByteArray), (⟨#[100]⟩ : ByteArray), (⟨#[120, 32, 121]⟩ : ByteArray), (⟨#[]⟩ : ByteArray), (⟨#[60, 60, 60, 60, 60, 60, 60]⟩ : ByteArray), (⟨#[61, 61, 61, 61, 61, 61, 61]⟩ : ByteArray), (⟨#[111, 110, 101]⟩ : ByteArray)] : List ByteArray), x.size ≤ 7 := by decide
  exact all _ (List.getElem_mem hn)
theorem lines_loop {c : List Int} (hc : Code c) : ∀ (d : Nat) (p : Int) (o : List ByteArray), d ≤ 100 → 0 ≤ p → p ≤ 900000 + (100 - d) → o.length + d ≤ 1000 → Lin 1 8 o →
    ∃ r q, Ev (fun k => spec_l1Lines.l0 k (d : Int) o c p) (r, q) ∧ Lin 1 8 r ∧ r.length ≤ o.length + d ∧ p ≤ q ∧ q ≤ p + d + 2 := by
  intro d
  induction d with
  | zero =>
    intro p o hd h0 h1 ho hl
    by_cases c0 : (o.length : Int) > 0
    · obtain ⟨b, e⟩ := chance_tells hc (p := p) (n := 5) h0 (by omega) (by omega)
      cases b with
      | false =>
        refine ⟨o, p + 1, Ev.step (fun k => by rw [spec_l1Lines.l0]) ?_, hl, by omega, by omega, by omega⟩
        refine Ev_neg (by omega) (Ev_pos c0 (Ev_const e ?_))
        exact Ev_neg (by simp) (Ev.now _)
      | true =>
        obtain ⟨v, e2, v0, v1⟩ := next_tells hc (p := p + 1) (n := 3) (by omega) (by omega) (by omega)
        have v2 := v1 (by omega)
        obtain ⟨n, rfl⟩ := Int.eq_ofNat_of_zero_le v0
        have hn : n < ([(⟨#[122]⟩ : ByteArray), (⟨#[97]⟩ : ByteArray), (⟨#[101, 110, 100]⟩ : ByteArray)] : List ByteArray).length := by
          show n < 3
          omega
        have all : ∀ x ∈ ([(⟨#[122]⟩ : ByteArray), (⟨#[97]⟩ : ByteArray), (⟨#[101, 110, 100]⟩ : ByteArray)] : List ByteArray), 1 ≤ x.size ∧ x.size ≤ 8 := by decide
        refine ⟨o.set ((o.length : Int) - 1).toNat ([(⟨#[122]⟩ : ByteArray), (⟨#[97]⟩ : ByteArray), (⟨#[101, 110, 100]⟩ : ByteArray)] : List ByteArray)[n], p + 1 + 1, ?_, hl.set _ (all _ (List.getElem_mem hn)), by rw [List.length_set]; omega, by omega, by omega⟩
        refine Ev.step (fun k => by rw [spec_l1Lines.l0]) ?_
        refine Ev_neg (by omega) (Ev_pos c0 (Ev_const e ?_))
        refine Ev_pos rfl (Ev_const rfl (Ev_const e2 ?_))
        refine Ev_pos v0 (Ev_pos (by omega) ?_)
        rw [wid (by omega) (by omega), rd_nat _ hn]
        exact Ev_pos (by omega) (Ev_pos (by omega) (Ev.now _))
    · exact ⟨o, p, Ev.step (fun k => by rw [spec_l1Lines.l0]) (Ev_neg (by omega) (Ev_neg c0 (Ev.now _))), hl, by omega, by omega, by omega⟩
  | succ d ih =>
    intro p o hd h0 h1 ho hl
    obtain ⟨s, e, hs⟩ := word_tells hc (p := p) h0 (by omega)
    obtain ⟨r, q, hr, g1, g2, g3, g4⟩ := ih (p + 1) (o ++ [s ++ (⟨#[10]⟩ : ByteArray)]) (by omega) (by omega) (by omega) (by rw [List.length_append]; simp only [List.length_singleton]; omega) (hl.app (Lin.one (by rw [end_size]; omega)))
    rw [List.length_append, List.length_singleton] at g2
    refine ⟨r, q, Ev.step (fun k => by rw [spec_l1Lines.l0]) ?_, g1, by omega, by omega, by omega⟩
    refine Ev_pos (by omega) (Ev_const e ?_)
    rw [wpred (by omega)]
    refine Ev_pos (by show s.size + 1 ≤ 9223372036854775807; omega) (Ev_pos (by omega) ?_)
    exact hr
theorem lines_tells {c : List Int} (hc : Code c) {p n : Int} (h0 : 0 ≤ p) (h1 : p ≤ 900000) (n0 : 0 ≤ n) (n1 : n ≤ 100) :
    ∃ r q, Ev (fun k => spec_l1Lines.f k c p n) (r, q) ∧ Lin 1 8 r ∧ r.length ≤ 100 ∧ p ≤ q ∧ q ≤ p + 102 := by
  obtain ⟨m, rfl⟩ := Int.eq_ofNat_of_zero_le n0
  obtain ⟨r, q, hr, g1, g2, g3, g4⟩ := lines_loop hc m p [] (by omega) h0 (by omega) (by simp only [List.length_nil]; omega) (fun x hx => absurd hx (by simp))
  simp only [List.length_nil] at g2
  exact ⟨r, q, hr, g1, by omega, g3, by omega⟩
theorem near_pass {c : List Int} (p : Int) : ∀ (y x : List ByteArray), x.length + y.length ≤ 1000 → Lin 1 9 x → Lin 1 8 y → ∃ r, Ev (fun k => spec_l1Near.l1 k (x ++ y) (x.length : Int) c p) (r, p) ∧ Lin 1 9 r ∧ r.length = x.length + y.length := by
  intro y
  induction y with
  | nil =>
    intro x hl hx hy
    refine ⟨x, Ev.step (fun k => by rw [spec_l1Near.l1]) ?_, hx, rfl⟩
    rw [List.append_nil, wid (by omega) (by omega)]
    exact Ev_neg (by omega) (Ev.now _)
  | cons s y ih =>
    intro x hl hx hy
    rw [List.length_cons] at hl
    have hs := hy s (by simp)
    have hy' : Lin 1 8 y := fun z hz => hy z (by simp [hz])
    have hlen : (x ++ s :: y).length = x.length + y.length + 1 := by rw [List.length_append, List.length_cons]; omega
    by_cases c0 : y = []
    · subst c0
      refine ⟨x ++ [s], Ev.step (fun k => by rw [spec_l1Near.l1]) ?_, hx.app (Lin.one (by omega)), by simp⟩
      rw [hlen, wid (by omega) (by omega)]
      exact Ev_neg (by simp only [List.length_nil]; first | done | omega) (Ev.now _)
    · have hpos : 0 < y.length := List.length_pos_iff.2 c0
      have hat : rdOf ByteArray.empty (x ++ s :: y) (x.length : Int) = s := by
        rw [rd_nat _ (by omega)]
        simp
      have go : ∀ s' : ByteArray, 1 ≤ s'.size ∧ s'.size ≤ 9 → ∃ r, Ev (fun k => spec_l1Near.l1 k (x ++ s' :: y) ((x.length + 1 : Nat) : Int) c p) (r, p) ∧ Lin 1 9 r ∧ r.length = x.length + (y.length + 1) := by
        intro s' hs'
        obtain ⟨r, h1, h2, h3⟩ := ih (x ++ [s']) (by rw [List.length_append, List.length_singleton]; omega) (hx.app (Lin.one hs')) hy'
        rw [List.append_assoc, List.length_append, List.length_singleton] at h1
        rw [List.length_append, List.length_singleton] at h3
        exact ⟨r, h1, h2, by omega⟩
      have head : ∀ {r : List ByteArray}, Ev (fun k => if (bt s ((s.size : Int) - 1)) = 10 then (spec_l1Near.l1 k (x ++ s :: y) ((x.length + 1 : Nat) : Int) c p) else (if s.size + 1 ≤ 9223372036854775807 then (spec_l1Near.l1 k ((x ++ s :: y).set x.length (s ++ (⟨#[10]⟩ : ByteArray))) ((x.length + 1 : Nat) : Int) c p) else (none))) (r, p) → Ev (fun k => spec_l1Near.l1 k (x ++ s :: y) (x.length : Int) c p) (r, p) := by
        intro r hr
        refine Ev.step (fun k => by rw [spec_l1Near.l1]) ?_
        rw [hlen, hat, wid (x := ((x.length + y.length + 1 : Nat) : Int) - 1) (by omega) (by omega), wid (x := (s.size : Int) - 1) (by omega) (by omega), wsucc' (by omega), Int.toNat_natCast]
        exact Ev_pos (by omega) (Ev_pos (by omega) (Ev_pos (by omega) (Ev_pos (by omega) (Ev_pos (by omega) hr))))
      by_cases c1 : bt s ((s.size : Int) - 1) = 10
      · obtain ⟨r, h1, h2, h3⟩ := go s (by omega)
        exact ⟨r, head (Ev_pos c1 h1), h2, by rw [List.length_cons]; exact h3⟩
      · obtain ⟨r, h1, h2, h3⟩ := go (s ++ (⟨#[10]⟩ : ByteArray)) (by rw [end_size]; omega)
        refine ⟨r, head (Ev_neg c1 (Ev_pos (by omega) ?_)), h2, by rw [List.length_cons]; exact h3⟩
        rw [show (x ++ s :: y).set x.length (s ++ (⟨#[10]⟩ : ByteArray)) = x ++ (s ++ (⟨#[10]⟩ : ByteArray)) :: y by simp]
        exact h1
theorem near_loop {c : List Int} (hc : Code c) : ∀ (d : Nat) (p : Int) (o : List ByteArray), d ≤ 100 → 0 ≤ p → p ≤ 900000 + 3 * (100 - d) → o.length + d ≤ 900 → Lin 1 8 o →
    ∃ r q, Ev (fun k => spec_l1Near.l0 k o (d : Int) c p) (r, q) ∧ Lin 1 9 r ∧ r.length ≤ o.length + d ∧ p ≤ q ∧ q ≤ p + 3 * d := by
  intro d
  induction d with
  | zero =>
    intro p o hd h0 h1 ho hl
    obtain ⟨r, hr, g1, g2⟩ := near_pass (c := c) p o [] (by simp only [List.length_nil]; omega) (fun x hx => absurd hx (by simp)) hl
    refine ⟨r, p, Ev.step (fun k => by rw [spec_l1Near.l0]) ?_, g1, by simp only [List.length_nil] at g2; omega, by omega, by omega⟩
    exact Ev_neg (by omega) hr
  | succ d ih =>
    intro p o hd h0 h1 ho hl
    obtain ⟨v, e, v0, v1⟩ := next_tells hc (p := p) (n := (o.length : Int) + 1) h0 (by omega) (by omega)
    have v2 := v1 (by omega)
    obtain ⟨i, rfl⟩ := Int.eq_ofNat_of_zero_le v0
    obtain ⟨u, e2, u0, u1⟩ := next_tells hc (p := p + 1) (n := 4) (by omega) (by omega) (by omega)
    have u2 := u1 (by omega)
    have nx : ∀ (o' : List ByteArray) (p' : Int), 0 ≤ p' → p' ≤ p + 3 → p + 2 ≤ p' → o'.length ≤ o.length + 1 → Lin 1 8 o' → ∃ r q, Ev (fun k => spec_l1Near.l0 k o' (wrap64 (((d + 1 : Nat) : Int) - 1)) c p') (r, q) ∧ Lin 1 9 r ∧ r.length ≤ o.length + (d + 1) ∧ p ≤ q ∧ q ≤ p + 3 * (d + 1 : Nat) := by
      intro o' p' a1 a2 a3 a4 a5
      obtain ⟨r, q, hr, g1, g2, g3, g4⟩ := ih p' o' (by omega) a1 (by omega) (by omega) a5
      rw [wpred (by omega)]
      exact ⟨r, q, hr, g1, by omega, by omega, by omega⟩
    have start : ∀ {r : List ByteArray} {q : Int}, Ev (fun k => if u = 0 then (if (i : Int) < (o.length : Int) then ((some (([] : List ByteArray) : List ByteArray)).bind fun y807 => (if 0 ≤ (i : Int) then (if (i : Int) ≤ (o.length : Int) then ((some (o.take (i : Int).toNat : List ByteArray)).bind fun y810 => (if y807.length + y810.length < 8796093022208 then ((some (y807 ++ y810 : List ByteArray)).bind fun y814 => (if 0 ≤ (wrap64 ((i : Int) + 1)) then (if (wrap64 ((i : Int) + 1)) ≤ (o.length : Int) then ((some (o.drop ((wrap64 ((i : Int) + 1)) : Int).toNat : List ByteArray)).bind fun y817 => (if y814.length + y817.length < 8796093022208 then (spec_l1Near.l0 k (y814 ++ y817) (wrap64 (((d + 1 : Nat) : Int) - 1)) c (p + 1 + 1)) else (none))) else (none)) else (none))) else (none))) else (none)) else (none))) else (spec_l1Near.l0 k o (wrap64 (((d + 1 : Nat) : Int) - 1)) c (p + 1 + 1))) else (if u = 1 then (spec_l1Near.j1 k o ((d + 1 : Nat) : Int) (o.length : Int) (i : Int) u (u == 1) c (p + 1 + 1)) else (spec_l1Near.j1 k o ((d + 1 : Nat) : Int) (o.length : Int) (i : Int) u (u == 2) c (p + 1 + 1)))) (r, q) →
        Ev (fun k => spec_l1Near.l0 k o ((d + 1 : Nat) : Int) c p) (r, q) := by
      intro r q h
      refine Ev.step (fun k => by rw [spec_l1Near.l0]) (Ev_pos (by omega) ?_)
      rw [wid (x := (o.length : Int) + 1) (by omega) (by omega)]
      exact Ev_const e (Ev_const e2 h)
    by_cases c0 : u = 0
    · by_cases c1 : (i : Int) < (o.length : Int)
      · obtain ⟨r, q, hr, g⟩ := nx (([] ++ o.take i) ++ o.drop (i + 1)) (p + 1 + 1) (by omega) (by omega) (by omega) (by rw [List.length_append, List.nil_append, List.length_take, List.length_drop]; omega) (((hl.take i)).app (hl.drop _))
        refine ⟨r, q, start (Ev_pos c0 (Ev_pos c1 (Ev_const rfl (Ev_pos (by omega) (Ev_pos (by omega) (Ev_const rfl (Ev_pos (by rw [Int.toNat_natCast, List.length_take]; simp only [List.length_nil]; omega) (Ev_const rfl ?_)))))))), g⟩
        rw [wsucc' (by omega), Int.toNat_natCast, Int.toNat_natCast]
        exact Ev_pos (by omega) (Ev_pos (by omega) (Ev_const rfl (Ev_pos (by rw [List.nil_append, List.length_take, List.length_drop]; omega) hr)))
      · obtain ⟨r, q, hr, g⟩ := nx o (p + 1 + 1) (by omega) (by omega) (by omega) (by omega) hl
        exact ⟨r, q, start (Ev_pos c0 (Ev_neg c1 hr)), g⟩
    · have ins : ∀ b : Bool, b = true → ∃ r q, Ev (fun k => spec_l1Near.j1 k o ((d + 1 : Nat) : Int) (o.length : Int) (i : Int) u b c (p + 1 + 1)) (r, q) ∧ Lin 1 9 r ∧ r.length ≤ o.length + (d + 1) ∧ p ≤ q ∧ q ≤ p + 3 * (d + 1 : Nat) := by
        intro b hb
        obtain ⟨s, e3, hs⟩ := word_tells hc (p := p + 1 + 1) (by omega) (by omega)
        obtain ⟨r, q, hr, g⟩ := nx ((([] ++ o.take i) ++ [s ++ (⟨#[10]⟩ : ByteArray)]) ++ o.drop i) (p + 1 + 1 + 1) (by omega) (by omega) (by omega) (by rw [List.length_append, List.length_append, List.nil_append, List.length_take, List.length_drop]; simp only [List.length_singleton]; omega) (((hl.take i).app (Lin.one (by rw [end_size]; omega))).app (hl.drop _))
        refine ⟨r, q, Ev.step (fun k => by rw [spec_l1Near.j1]) ?_, g⟩
        refine Ev_pos hb (Ev_const rfl ?_)
        refine Ev_pos (by omega) (Ev_pos (by omega) (Ev_const rfl ?_))
        refine Ev_pos (by rw [Int.toNat_natCast, List.length_take]; simp only [List.length_nil]; omega) (Ev_const rfl (Ev_const e3 ?_))
        rw [Int.toNat_natCast]
        exact Ev_pos (by show s.size + 1 ≤ 9223372036854775807; omega) (Ev_pos (by rw [List.nil_append, List.length_take]; omega) (Ev_const rfl (Ev_const rfl (Ev_pos (by rw [List.length_append, List.nil_append, List.length_take, List.length_drop]; simp only [List.length_singleton]; omega) hr))))
      by_cases c1 : u = 1
      · obtain ⟨r, q, hr, g⟩ := ins (u == 1) (by simp [c1])
        exact ⟨r, q, start (Ev_neg c0 (Ev_pos c1 hr)), g⟩
      · by_cases c2 : u = 2
        · obtain ⟨r, q, hr, g⟩ := ins (u == 2) (by simp [c2])
          exact ⟨r, q, start (Ev_neg c0 (Ev_neg c1 hr)), g⟩
        · have c3 : u = 3 := by omega
          by_cases c4 : (i : Int) < (o.length : Int)
          · obtain ⟨s, e3, hs⟩ := word_tells hc (p := p + 1 + 1) (by omega) (by omega)
            obtain ⟨r, q, hr, g⟩ := nx (o.set i (s ++ (⟨#[10]⟩ : ByteArray))) (p + 1 + 1 + 1) (by omega) (by omega) (by omega) (by rw [List.length_set]; omega) (hl.set _ (by rw [end_size]; omega))
            refine ⟨r, q, start (Ev_neg c0 (Ev_neg c1 (Ev.step (fun k => by rw [spec_l1Near.j1]) ?_))), g⟩
            refine Ev_neg (by simp [c2]) (Ev_pos c3 (Ev_pos c4 (Ev_const e3 ?_)))
            rw [Int.toNat_natCast]
            exact Ev_pos (by show s.size + 1 ≤ 9223372036854775807; omega) (Ev_pos (by omega) (Ev_pos c4 hr))
          · obtain ⟨r, q, hr, g⟩ := nx o (p + 1 + 1) (by omega) (by omega) (by omega) (by omega) hl
            refine ⟨r, q, start (Ev_neg c0 (Ev_neg c1 (Ev.step (fun k => by rw [spec_l1Near.j1]) ?_))), g⟩
            exact Ev_neg (by simp [c2]) (Ev_pos c3 (Ev_neg c4 hr))
theorem near_tells {c : List Int} (hc : Code c) {p : Int} (h0 : 0 ≤ p) (h1 : p ≤ 900000) {l : List ByteArray} (hl : l.length ≤ 500) (hi : Lin 1 8 l) :
    ∃ r q, Ev (fun k => spec_l1Near.f k c p l) (r, q) ∧ Lin 1 9 r ∧ r.length ≤ l.length + 3 ∧ p ≤ q ∧ q ≤ p + 10 := by
  obtain ⟨v, e, v0, v1⟩ := next_tells hc (p := p) (n := 4) h0 (by omega) (by omega)
  have v2 := v1 (by omega)
  obtain ⟨m, rfl⟩ := Int.eq_ofNat_of_zero_le v0
  obtain ⟨r, q, hr, g1, g2, g3, g4⟩ := near_loop hc m (p + 1) ([] ++ l) (by omega) (by omega) (by omega) (by rw [List.nil_append]; omega) hi
  refine ⟨r, q, ?_, g1, by rw [List.nil_append] at g2; omega, by omega, by omega⟩
  unfold spec_l1Near.f
  exact Ev_const rfl (Ev_pos (by simp only [List.length_nil]; omega) (Ev_const e hr))
theorem bent_loop {c : List Int} (hc : Code c) : ∀ (d i : Nat) (p : Int) (o : List ByteArray), 101 - i = d → i ≤ 101 → o.length = 101 → 0 ≤ p → p ≤ 950000 + (i : Int) → Lin 0 10 o →
    ∃ r q, Ev (fun k => spec_l1Bent.l0 k o (i : Int) c p) (r, q) ∧ Lin 0 10 r ∧ r.length = 101 ∧ p ≤ q ∧ q ≤ p + 102 - i := by
  intro d
  induction d with
  | zero =>
    intro i p o hd hi ho h0 h1 hl
    obtain ⟨v, e, v0, v1⟩ := next_tells hc (p := p) (n := 2) h0 (by omega) (by omega)
    refine ⟨o, p + 1, Ev.step (fun k => by rw [spec_l1Bent.l0]) ?_, hl, ho, by omega, by omega⟩
    refine Ev_const e ?_
    have v2 := v1 (by omega)
    rw [wid (by omega) (by omega)]
    exact Ev_neg (by omega) (Ev.now _)
  | succ d ih =>
    intro i p o hd hi ho h0 h1 hl
    obtain ⟨v, e, v0, v1⟩ := next_tells hc (p := p) (n := 2) h0 (by omega) (by omega)
    have v2 := v1 (by omega)
    by_cases c0 : (i : Int) < (o.length : Int) - v
    · obtain ⟨r, q, hr, g1, g2, g3, g4⟩ := ih (i + 1) (p + 1) (o.set i (⟨#[10]⟩ : ByteArray)) (by omega) (by omega) (by rw [List.length_set]; exact ho) (by omega) (by omega) (hl.set _ (by decide))
      refine ⟨r, q, Ev.step (fun k => by rw [spec_l1Bent.l0]) ?_, g1, g2, by omega, by omega⟩
      refine Ev_const e ?_
      rw [wid (x := (o.length : Int) - v) (by omega) (by omega), wsucc' (by omega), Int.toNat_natCast]
      exact Ev_pos c0 (Ev_pos (by omega) (Ev_pos (by omega) hr))
    · refine ⟨o, p + 1, Ev.step (fun k => by rw [spec_l1Bent.l0]) ?_, hl, ho, by omega, by omega⟩
      refine Ev_const e ?_
      rw [wid (by omega) (by omega)]
      exact Ev_neg c0 (Ev.now _)
theorem bent_tells {c : List Int} (hc : Code c) {p : Int} (h0 : 0 ≤ p) (h1 : p ≤ 900000) {l : List ByteArray} (hl : l.length ≤ 900) (hi : Lin 0 10 l) :
    ∃ r q, Ev (fun k => spec_l1Bent.f k c p l) (r, q) ∧ Lin 0 10 r ∧ r.length ≤ 900 ∧ p ≤ q ∧ q ≤ p + 110 := by
  by_cases c0 : (l.length : Int) = 0
  · refine ⟨l, p, ?_, hi, hl, by omega, by omega⟩
    unfold spec_l1Bent.f
    exact Ev_pos c0 (Ev.now _)
  obtain ⟨v, e, v0, v1⟩ := next_tells hc (p := p) (n := (([] ++ l : List ByteArray).length : Int)) h0 (by omega) (by rw [List.nil_append]; omega)
  rw [List.nil_append] at v1
  have v2 := v1 (by omega)
  obtain ⟨i, rfl⟩ := Int.eq_ofNat_of_zero_le v0
  obtain ⟨u, e2, u0, u1⟩ := next_tells hc (p := p + 1) (n := 24) (by omega) (by omega) (by omega)
  have start : ∀ {r : List ByteArray} {q : Int}, Ev (fun k => if u = 0 then (if 0 ≤ (i : Int) then (if (i : Int) < (l.length : Int) then (some ((l.set (i : Int).toNat (⟨#[]⟩ : ByteArray)), (p + 1 + 1))) else (none)) else (none)) else (if u = 1 then (if 0 ≤ (i : Int) then (if (i : Int) < (l.length : Int) then (some ((l.set (i : Int).toNat (⟨#[97, 10, 98, 10]⟩ : ByteArray)), (p + 1 + 1))) else (none)) else (none)) else (if u = 2 then (if 0 ≤ (i : Int) then (if (i : Int) < (l.length : Int) then (some ((l.set (i : Int).toNat (⟨#[113]⟩ : ByteArray)), (p + 1 + 1))) else (none)) else (none)) else (if u = 3 then (if 101 ≤ 17592186044416 then (spec_l1Bent.l0 k (List.replicate 101 (⟨#[]⟩ : ByteArray)) 0 c (p + 1 + 1)) else (none)) else (some (l, (p + 1 + 1))))))) (r, q) →
      Ev (fun k => spec_l1Bent.f k c p l) (r, q) := by
    intro r q h
    unfold spec_l1Bent.f
    exact Ev_neg c0 (Ev_const rfl (Ev_pos (by simp only [List.length_nil]; omega) (Ev_const rfl (Ev_const e (Ev_const e2 h)))))
  by_cases c1 : u = 0
  · exact ⟨_, _, start (Ev_pos c1 (Ev_pos (by omega) (Ev_pos (by omega) (Ev.now _)))), hi.set _ (by decide), by rw [List.length_set]; exact hl, by omega, by omega⟩
  by_cases c2 : u = 1
  · exact ⟨_, _, start (Ev_neg c1 (Ev_pos c2 (Ev_pos (by omega) (Ev_pos (by omega) (Ev.now _))))), hi.set _ (by decide), by rw [List.length_set]; exact hl, by omega, by omega⟩
  by_cases c3 : u = 2
  · exact ⟨_, _, start (Ev_neg c1 (Ev_neg c2 (Ev_pos c3 (Ev_pos (by omega) (Ev_pos (by omega) (Ev.now _)))))), hi.set _ (by decide), by rw [List.length_set]; exact hl, by omega, by omega⟩
  by_cases c4 : u = 3
  · obtain ⟨r, q, hr, g1, g2, g3, g4⟩ := bent_loop hc _ 0 (p + 1 + 1) (List.replicate 101 (⟨#[]⟩ : ByteArray)) rfl (by omega) (by simp) (by omega) (by omega) (fun x hx => by rw [List.eq_of_mem_replicate hx]; decide)
    exact ⟨r, q, start (Ev_neg c1 (Ev_neg c2 (Ev_neg c3 (Ev_pos c4 (Ev_pos (by omega) hr))))), g1, by omega, by omega, by omega⟩
  · exact ⟨l, p + 1 + 1, start (Ev_neg c1 (Ev_neg c2 (Ev_neg c3 (Ev_neg c4 (Ev.now _))))), hi, hl, by omega, by omega⟩
end Go.Proofs.Ytihbalbcocfnfaa.P
end
section
set_option linter.unusedVariables false
set_option linter.unusedSimpArgs false
set_option linter.unusedSectionVars false
namespace Go.Proofs.Ytihbalbcocfnfaa.P
open Go.RowKit Go.Proofs.YtihbalbcocfnfaaW.PrintWords Go.Proofs.YtihbalbcocfnfaaW.PrintLast
theorem two_j1 {c : List Int} (hc : Code c) {p : Int} (h0 : 0 ≤ p) (h1 : p ≤ 800000) {a b : List ByteArray} (ha : Lin 0 10 a) (hb : Lin 0 10 b) (la : a.length ≤ 900) (lb : b.length ≤ 900) :
    ∃ x y q, Ev (fun k => spec_l2Two.j1 k a b c p) (x, y, q) ∧ (Lin 0 10 x ∧ x.length ≤ 900) ∧ (Lin 0 10 y ∧ y.length ≤ 900) := by
  obtain ⟨t, e⟩ := chance_tells hc (p := p) (n := 10) h0 (by omega) (by omega)
  cases t with
  | false =>
    refine ⟨a, b, p + 1, Ev.step (fun k => by rw [spec_l2Two.j1]) ?_, ⟨ha, la⟩, ⟨hb, lb⟩⟩
    refine Ev_const e ?_
    exact Ev_neg (by simp) (Ev.now _)
  | true =>
    obtain ⟨r, q, hr, g1, g2, g3, g4⟩ := bent_tells hc (p := p + 1) (by omega) (by omega) lb hb
    refine ⟨a, r, q, Ev.step (fun k => by rw [spec_l2Two.j1]) ?_, ⟨ha, la⟩, ⟨g1, g2⟩⟩
    refine Ev_const e ?_
    refine Ev_pos rfl (Ev_call hr ?_)
    exact Ev.now _
theorem two_j0 {c : List Int} (hc : Code c) {p : Int} (h0 : 0 ≤ p) (h1 : p ≤ 700000) {a b : List ByteArray} (ha : Lin 0 10 a) (hb : Lin 0 10 b) (la : a.length ≤ 900) (lb : b.length ≤ 900) :
    ∃ x y q, Ev (fun k => spec_l2Two.j0 k a b c p) (x, y, q) ∧ (Lin 0 10 x ∧ x.length ≤ 900) ∧ (Lin 0 10 y ∧ y.length ≤ 900) := by
  obtain ⟨t, e⟩ := chance_tells hc (p := p) (n := 10) h0 (by omega) (by omega)
  cases t with
  | false =>
    obtain ⟨x, y, q, hr, g⟩ := two_j1 hc (p := p + 1) (by omega) (by omega) ha hb la lb
    refine ⟨x, y, q, Ev.step (fun k => by rw [spec_l2Two.j0]) ?_, g⟩
    refine Ev_const e ?_
    exact Ev_neg (by simp) hr
  | true =>
    obtain ⟨r, q', hr', g1, g2, g3, g4⟩ := bent_tells hc (p := p + 1) (by omega) (by omega) la ha
    obtain ⟨x, y, q, hr, g⟩ := two_j1 hc (p := q') (by omega) (by omega) g1 hb g2 lb
    refine ⟨x, y, q, Ev.step (fun k => by rw [spec_l2Two.j0]) ?_, g⟩
    refine Ev_const e ?_
    refine Ev_pos rfl (Ev_call hr' ?_)
    exact hr
theorem two_tells {c : List Int} (hc : Code c) : ∃ x y q, Ev (fun k => spec_l2Two.f k c 0) (x, y, q) ∧ Small x ∧ Small y := by
  obtain ⟨v, e, v0, v1⟩ := next_tells hc (p := 0) (n := 9) (by omega) (by omega) (by omega)
  have v2 := v1 (by omega)
  obtain ⟨a, p1, ha, a1, a2, a3, a4⟩ := lines_tells hc (p := 0 + 1) (n := v) (by omega) (by omega) v0 (by omega)
  obtain ⟨b, p2, hb, b1, b2, b3, b4⟩ := near_tells hc (p := p1) (by omega) (by omega) (l := a) (by omega) a1
  obtain ⟨t, e2⟩ := chance_tells hc (p := p2) (n := 6) (by omega) (by omega) (by omega)
  have wide : ∀ {x y : List ByteArray}, (Lin 0 10 x ∧ x.length ≤ 900) ∧ (Lin 0 10 y ∧ y.length ≤ 900) → Small x ∧ Small y := fun h => ⟨h.1.1.small (by omega) (by omega), h.2.1.small (by omega) (by omega)⟩
  cases t with
  | false =>
    obtain ⟨x, y, q, hr, g⟩ := two_j0 hc (p := p2 + 1) (by omega) (by omega) (a1.mono (by omega) (by omega)) (b1.mono (by omega) (by omega)) (by omega) (by omega)
    refine ⟨x, y, q, ?_, wide g⟩
    unfold spec_l2Two.f
    refine Ev_const e (Ev_call ha (Ev_call hb (Ev_const e2 ?_)))
    exact Ev_neg (by simp) hr
  | true =>
    obtain ⟨w, e3, w0, w1⟩ := next_tells hc (p := p2 + 1) (n := 9) (by omega) (by omega) (by omega)
    have w2 := w1 (by omega)
    obtain ⟨d, p3, hd, d1, d2, d3, d4⟩ := lines_tells hc (p := p2 + 1 + 1) (n := w) (by omega) (by omega) w0 (by omega)
    obtain ⟨x, y, q, hr, g⟩ := two_j0 hc (p := p3) (by omega) (by omega) (a1.mono (by omega) (by omega)) (d1.mono (by omega) (by omega)) (by omega) (by omega)
    refine ⟨x, y, q, ?_, wide g⟩
    unfold spec_l2Two.f
    refine Ev_const e (Ev_call ha (Ev_call hb (Ev_const e2 ?_)))
    refine Ev_pos rfl (Ev_const e3 ?_)
    exact Ev_call hd hr
end Go.Proofs.Ytihbalbcocfnfaa.P
end
section
set_option linter.unusedVariables false
set_option linter.unusedSimpArgs false
namespace Go.Proofs.Ytihbalbcocfnfaa.P
open Go.RowKit Go.Proofs.YtihbalbcocfnfaaW.PrintWords Go.Proofs.YtihbalbcocfnfaaW.PrintLast
def Mat (a b : List ByteArray) : List Int → List Int → Nat → Nat → Prop
  | [], [], i, j => i ≤ a.length ∧ j ≤ b.length
  | u :: us, v :: vs, i, j => ∃ m n : Nat, u = (m : Int) ∧ v = (n : Int) ∧ i ≤ m ∧ j ≤ n ∧ (∃ (hm : m < a.length) (hn : n < b.length), a[m] = b[n]) ∧ Mat a b us vs (m + 1) (n + 1)
  | [], _ :: _, _, _ => False
  | _ :: _, [], _, _ => False
theorem Mat.lower {a b : List ByteArray} : ∀ {p q : List Int} {i j i' j' : Nat}, Mat a b p q i j → i' ≤ i → j' ≤ j → Mat a b p q i' j'
  | [], [], _, _, _, _, h, h1, h2 => ⟨Nat.le_trans h1 h.1, Nat.le_trans h2 h.2⟩
  | _ :: _, _ :: _, _, _, _, _, ⟨m, n, e1, e2, g1, g2, g3, g4⟩, h1, h2 => ⟨m, n, e1, e2, Nat.le_trans h1 g1, Nat.le_trans h2 g2, g3, g4⟩
  | [], _ :: _, _, _, _, _, h, _, _ => h.elim
  | _ :: _, [], _, _, _, _, h, _, _ => h.elim
theorem mt_mat (a b : List ByteArray) : ∀ (d i j : Nat), (a.length - i) + (b.length - j) = d → i ≤ a.length → j ≤ b.length → Mat a b (mt (a.drop i) (b.drop j) i j).1 (mt (a.drop i) (b.drop j) i j).2 i j := by
  intro d
  induction d using Nat.strongRecOn with
  | _ d ih =>
    intro i j hd hi hj
    by_cases c0 : i < a.length
    · by_cases c1 : j < b.length
      · by_cases h : a[i] = b[j]
        · rw [mt_eq c0 c1 h]
          exact ⟨i, j, rfl, rfl, Nat.le_refl _, Nat.le_refl _, ⟨c0, c1, h⟩, ih _ (by omega) (i + 1) (j + 1) rfl (by omega) (by omega)⟩
        · by_cases h2 : lcs (a.drop i) (b.drop (j + 1)) ≤ lcs (a.drop (i + 1)) (b.drop j)
          · rw [mt_a c0 c1 h h2]
            exact (ih _ (by omega) (i + 1) j rfl (by omega) hj).lower (by omega) (Nat.le_refl _)
          · rw [mt_b c0 c1 h h2]
            exact (ih _ (by omega) i (j + 1) rfl hi (by omega)).lower (Nat.le_refl _) (by omega)
      · rw [List.drop_eq_nil_of_le (show b.length ≤ j by omega), mt_nil']
        exact ⟨hi, hj⟩
    · rw [List.drop_eq_nil_of_le (show a.length ≤ i by omega), mt_nil]
      exact ⟨hi, hj⟩
theorem mat_all (a b : List ByteArray) : Mat a b (mt a b 0 0).1 (mt a b 0 0).2 0 0 := by
  have := mt_mat a b _ 0 0 rfl (by omega) (by omega)
  rw [List.drop_zero, List.drop_zero] at this
  exact this
end Go.Proofs.Ytihbalbcocfnfaa.P
end
section
set_option linter.unusedVariables false
set_option linter.unusedSimpArgs false
namespace Go.Proofs.Ytihbalbcocfnfaa.P
open Go.RowKit Go.Proofs.YtihbalbcocfnfaaW.PrintWords Go.Proofs.YtihbalbcocfnfaaW.PrintLast
def MP (a b : List ByteArray) : Int × List Int × List Int := if LF2 a b = 0 then (0, (mt a b 0 0).1, (mt a b 0 0).2) else (LF2 a b, [], [])
theorem smp_tells {a b : List ByteArray} (ha : Small a) (hb : Small b) : Ev (fun k => spec_MatchLines.f k a b) (MP a b) := by
  unfold spec_MatchLines.f MP
  refine Ev_call (asked_tells ha hb) (Ev_if (fun h => ?_) (fun h => ?_))
  · rw [if_pos h]
    have h1 := LF_zero (LF2_zero h).1
    have h2 := LF_zero (LF2_zero h).2
    exact Ev_call (spec_l2Match_tells a b (by omega) (by omega)) (Ev.now _)
  · rw [if_neg h]
    exact Ev.now _
theorem imp_tells {a b : List ByteArray} (ha : Small a) (hb : Small b) : Ev (fun k => impl_MatchLines.f k a b) (MP a b) := by
  unfold impl_MatchLines.f MP
  refine Ev_call (both_tells ha hb) (Ev_if (fun h => ?_) (fun h => ?_))
  · rw [if_pos h]
    have h1 := LF_zero (LF2_zero h).1
    have h2 := LF_zero (LF2_zero h).2
    exact Ev_call (impl_match_tells a b (by omega) (by omega)) (Ev.now _)
  · rw [if_neg h]
    exact Ev.now _
end Go.Proofs.Ytihbalbcocfnfaa.P
end
section
set_option linter.unusedVariables false
set_option linter.unusedSimpArgs false
namespace Go.Proofs.Ytihbalbcocfnfaa.P.VFnMatches
open Go.RowKit Go.Proofs.YtihbalbcocfnfaaW.PrintWords Go.Proofs.YtihbalbcocfnfaaW.PrintLast
theorem draw {c : List Int} (hc : Code c) : ∃ x y, Ev (fun k => spec_DrawMatchLines.f k c) (x, y) ∧ Small x ∧ Small y := by
  obtain ⟨x, y, q, h, g⟩ := two_tells hc
  refine ⟨x, y, ?_, g⟩
  unfold spec_DrawMatchLines.f
  refine Ev_const (a := (c, 0)) (by unfold spec_l1Source.f; rfl) (Ev_call h ?_)
  exact Ev.now _
theorem mat_rd {a b : List ByteArray} : ∀ (p q : List Int) (i j : Nat), Mat a b p q i j → p.length = q.length ∧ (∀ k : Nat, k < p.length → ∃ m n : Nat, p.getD k 0 = (m : Int) ∧ q.getD k 0 = (n : Int) ∧ i ≤ m ∧ j ≤ n ∧ ∃ (hm : m < a.length) (hn : n < b.length), a[m] = b[n]) ∧
    (∀ k : Nat, k + 1 < p.length → p.getD k 0 < p.getD (k + 1) 0 ∧ q.getD k 0 < q.getD (k + 1) 0)
  | [], [], _, _, _ => ⟨rfl, fun k h => absurd h (by simp), fun k h => absurd h (by simp)⟩
  | u :: us, v :: vs, i, j, h => by
    obtain ⟨m, n, rfl, rfl, g1, g2, g3, g4⟩ := h
    obtain ⟨h1, h2, h3⟩ := mat_rd us vs _ _ g4
    refine ⟨by rw [List.length_cons, List.length_cons, h1], fun k hk => ?_, fun k hk => ?_⟩
    · cases k with
      | zero => exact ⟨m, n, rfl, rfl, g1, g2, g3⟩
      | succ k =>
        obtain ⟨m', n', e1, e2, e3, e4, e5⟩ := h2 k (by simpa using hk)
        exact ⟨m', n', e1, e2, by omega, by omega, e5⟩
    · cases k with
      | zero =>
        obtain ⟨m', n', e1, e2, e3, e4, e5⟩ := h2 0 (by simpa using hk)
        show (m : Int) < us.getD 0 0 ∧ (n : Int) < vs.getD 0 0
        rw [e1, e2]
        omega
      | succ k => exact h3 k (by simpa using hk)
  | [], _ :: _, _, _, h => h.elim
  | _ :: _, [], _, _, h => h.elim
theorem loop (a b : List ByteArray) (la : a.length ≤ 100) (lb : b.length ≤ 100) (z : Int) (p q : List Int) (hp : p.length ≤ 100) (hm : Mat a b p q 0 0) (hn : Ev (fun k => (impl_CommonOf.f k a a).bind fun bt1001 => (if bt1001.2 = (a.length : Int) then ((impl_EditCount.f k a b).bind fun bt1003 => (some (bt1003.2 == (wrap64 ((wrap64 ((a.length : Int) + (b.length : Int))) - (wrap64 (2 * (p.length : Int)))))))) else (some false))) true) :
    ∀ (d n : Nat), p.length - n = d → n ≤ p.length → Ev (fun k => laws_FnMatches.l0 k a b (n : Int) z p q) true := by
  obtain ⟨hl, hA, hI⟩ := mat_rd p q 0 0 hm
  intro d
  induction d with
  | zero =>
    intro n hd hi
    refine Ev.step (fun k => by rw [laws_FnMatches.l0]) ?_
    exact Ev_neg (by omega) hn
  | succ d ih =>
    intro n hd hi
    have hlt : n < p.length := by omega
    obtain ⟨m, r, e1, e2, _, _, hm', hr', e3⟩ := hA n hlt
    have nx := ih (n + 1) (by omega) (by omega)
    refine Ev.step (fun k => by rw [laws_FnMatches.l0]) ?_
    refine Ev_pos (by omega) ?_
    rw [rd_getD p n, rd_getD q n, e1, e2, rd_nat _ hm', rd_nat _ hr', wsucc' (by omega)]
    by_cases c0 : (n : Int) > 0
    · obtain ⟨k, rfl⟩ : ∃ k, n = k + 1 := ⟨n - 1, by omega⟩
      have hk := hI k hlt
      rw [e1, e2] at hk
      refine Ev_pos c0 (Ev_pos (by omega) ?_)
      rw [wpred (by omega), rd_getD p k, rd_getD q k]
      refine Ev_pos (by omega) (Ev_pos (by omega) (Ev_neg (by omega) ?_))
      refine Ev_pos (by omega) (Ev_pos (by omega) (Ev_neg (by omega) ?_))
      refine Ev_pos (by omega) (Ev_pos (by omega) (Ev_pos (by omega) (Ev_pos (by omega) ?_)))
      exact Ev_pos (by rw [e3]) nx
    · refine Ev_neg c0 (Ev_pos (by omega) ?_)
      refine Ev_pos (by omega) (Ev_pos (by omega) (Ev_pos (by omega) (Ev_pos (by omega) (Ev_pos (by omega) ?_))))
      exact Ev_pos (by rw [e3]) nx
theorem proof : UFnMatches.Pure := by
  intro l0 g0
  apply Ev.rounds
  unfold laws_FnMatches.f
  have hc : Code l0 := fun x hx => by
    have := g0.2 x hx
    simp [Lit.wf, IntKind.min, IntKind.max, IntKind.signed, IntKind.bits] at this
    omega
  refine Ev_const (by unfold laws_lwBig.f; rfl) ?_
  by_cases hb : (l0.length : Int) > 1048576
  · exact Ev_pos (by simpa using hb) (Ev.now _)
  refine Ev_neg (by simpa using hb) ?_
  obtain ⟨a, b, h1, ha, hb'⟩ := draw hc
  refine Ev_call h1 (Ev_call (imp_tells ha hb') ?_)
  by_cases e : LF2 a b = 0
  · have fa := LF2_zero e
    have la := (LF_zero fa.1).1
    have lb := (LF_zero fa.2).1
    have e4 : LF2 b a = 0 := by unfold LF2; rw [if_pos fa.2]; exact fa.1
    have e5 : LF2 a a = 0 := by unfold LF2; rw [if_pos fa.1]; exact fa.1
    have mp : MP a b = (0, (mt a b 0 0).1, (mt a b 0 0).2) := by unfold MP; rw [if_pos e]
    have hl := mt_len _ a b 0 0 rfl
    have hle := lcs_le a b
    have co : CO a b = (0, (lcs a b : Int)) := by unfold CO; rw [if_pos e]
    have co2 : CO b a = (0, (lcs a b : Int)) := by unfold CO; rw [if_pos e4, lcs_symm]
    have co3 : CO a a = (0, (a.length : Int)) := by unfold CO; rw [if_pos e5, lcs_self]
    have ec : EC a b = (0, (a.length : Int) + (b.length : Int) - 2 * (lcs a b : Int)) := by unfold EC; rw [if_pos e]
    have t1 := icommon_tells ha hb'
    have t2 := icommon_tells hb' ha
    have t3 := icommon_tells ha ha
    have t4 := iedit_tells ha hb'
    rw [co] at t1
    rw [co2] at t2
    rw [co3] at t3
    rw [ec] at t4
    rw [mp]
    refine Ev_pos rfl (Ev_pos (by dsimp only; rw [hl.1, hl.2]) (Ev_call t1 ?_))
    refine Ev_pos (by dsimp only; rw [hl.1]) (Ev_call t1 (Ev_call t2 ?_))
    refine Ev.step (fun k => by rw [laws_FnMatches.j0]) ?_
    refine Ev_neg (by simp) ?_
    refine loop a b la lb 0 _ _ (by omega) (mat_all a b) ?_ _ 0 rfl (by omega)
    refine Ev_call t3 (Ev_pos rfl (Ev_call t4 (Ev_val ?_)))
    dsimp only
    rw [hl.1, wid (x := (a.length : Int) + (b.length : Int)) (by omega) (by omega), wid (x := 2 * (lcs a b : Int)) (by omega) (by omega), wid (by omega) (by omega)]
    simp
  · have mp : MP a b = (LF2 a b, [], []) := by unfold MP; rw [if_neg e]
    rw [mp]
    refine Ev_neg e (Ev_call (smp_tells ha hb') (Ev_val ?_))
    rw [mp]
    simp
end Go.Proofs.Ytihbalbcocfnfaa.P.VFnMatches
end
section
set_option linter.unusedVariables false
set_option linter.unusedSimpArgs false
namespace Go.Proofs.Ytihbalbcocfnfaa.O
open Go.RowKit Go.ChangeShapes Go.WideShapes Go.Proofs.YtihbalbcocfnfaaW.PrintWords
def Opens {α : Type} (P : Program) (t : TypeId) (d : Kd α) (G : α → Prop) : Prop :=
  P.cellsOf t = d.sz ∧ ∀ {H : Type} {enc : TypeId × Value → H} {w : World} {base : Nat} {spare : Nat → Bool} {held : Bool} {fuel : Nat} {cs : List Value} {x : DataW H × List MemPlace},
    DataW.trod enc P w base spare held fuel t cs = some x → ∃ a, d.K w a cs ∧ G a
theorem list_of {α : Type} {Q : Nat → α → Prop} : ∀ n : Nat, (∀ j, j < n → ∃ p, Q j p) → ∃ xs : List α, xs.length = n ∧ ∀ j p, xs[j]? = some p → Q j p
  | 0, _ => ⟨[], rfl, fun j p h => by simp at h⟩
  | n + 1, h => by
    obtain ⟨xs, hl, hx⟩ := list_of n (fun j hj => h j (Nat.lt_succ_of_lt hj))
    obtain ⟨p, hp⟩ := h n (Nat.lt_succ_self n)
    refine ⟨xs ++ [p], by simp [hl], fun j q hq => ?_⟩
    rcases Nat.lt_or_ge j xs.length with hj | hj
    · rw [List.getElem?_append_left hj] at hq
      exact hx j q hq
    · have hj' : j = xs.length := by
        have := (List.getElem?_eq_some_iff.1 hq).1
        rw [List.length_append, List.length_singleton] at this
        omega
      subst hj'
      have e : p = q := by simpa using hq
      subst e
      rw [hl]
      exact hp
theorem cells_get {w : World} {base : Nat} {a : Addr} {n : Nat} {cs : List Value} (h : w.cells? base a n = some cs) : cs.length = n ∧ ∀ i u, cs[i]? = some u → w.cell? (a.add i) = some u := by
  unfold World.cells? at h
  split at h
  · have hl := mapM_some_length h
    rw [List.length_range] at hl
    refine ⟨hl, fun i u hu => ?_⟩
    have hi : i < n := by
      have := (List.getElem?_eq_some_iff.1 hu).1
      omega
    have := mapM_some_get h i i (by simp [hi])
    rw [this, hu]
  · simp at h
theorem opens_int {P : Program} {t : TypeId} {k : IntKind} (ht : P.underlying t = some (.int k)) (hc : P.cellsOf t = 1) : Opens P t (Kd.int k) (fun x => (Lit.int k x).wf = true) :=
  ⟨hc, fun h => by
    obtain ⟨n, rfl, _, hw⟩ := DataW.trod_int ht h
    exact ⟨n, rfl, hw⟩⟩
theorem opens_slice {α : Type} {P : Program} {t e : TypeId} {d : Kd α} {G : α → Prop} (ht : P.underlying t = some (.slice e)) (hc : P.cellsOf t = 1) (he : Opens P e d G) :
    Opens P t (Kd.slice e d) (fun l => l.length ≤ 9223372036854775807 ∧ ∀ x ∈ l, G x) := by
  refine ⟨hc, fun {H enc w base spare held fuel cs x} h => ?_⟩
  rcases DataW.trod_slice ht h with ⟨rfl, _⟩ | ⟨a, len, cap, elems, rest, n, _, rfl, _, hb, hl, hm, hlen, hel, _, _⟩
  · exact ⟨[], ⟨none, 0, rfl, Nat.le_refl _, rfl, by simp, fun hp => absurd hp (by simp)⟩, by simp, by simp⟩
  · have hcap : cap ≤ 9223372036854775807 := hm
    obtain ⟨xs, hxl, hx⟩ := list_of (Q := fun j p => (∃ c : List Value, c.length = d.sz ∧ d.K w p c ∧ ∀ i u, c[i]? = some u → w.cell? (a.add (j * d.sz + i)) = some u) ∧ G p) len (fun j hj => by
      have h1 := hel j hj
      rw [List.getElem?_eq_getElem (by omega), Option.bind_eq_some_iff] at h1
      obtain ⟨cs', hcs, hy⟩ := h1
      obtain ⟨p, hK, hG⟩ := he.2 hy
      obtain ⟨hcl, hcell⟩ := cells_get hcs
      refine ⟨p, ⟨cs', by rw [hcl, he.1], hK, fun i u hu => ?_⟩, hG⟩
      have := hcell i u hu
      rw [he.1] at this
      rw [← Addr.add_add]
      exact this)
    have hlen2 : xs.length ≤ cap := by omega
    refine ⟨xs, ⟨some a, cap, ?_, hlen2, rfl, by omega, fun _ => ⟨a, rfl, fun j p hj => (hx j p hj).1⟩⟩, by omega, fun y hy => ?_⟩
    · rw [hxl]
    · obtain ⟨j, hj⟩ := List.getElem?_of_mem hy
      exact (hx j y hj).2
end Go.Proofs.Ytihbalbcocfnfaa.O
end
namespace Go.Proofs.Ytihbalbcocfnfaa.fnMatches
open Go.ChangeShapes Go.WideShapes Go.ChangeAt Go.RowKit
open Go.ChangeMaps (open_string shut_string)
open Go.Proofs.Ytihbalbcocfnfaa.P Go.Proofs.Ytihbalbcocfnfaa.P.UFnMatches Go.Proofs.YtihbalbcocfnfaaW.PrintWords
set_option linter.unusedVariables false
theorem own : ownKnob Try.prog.godebug = none := by kernel_rfl
theorem laidOut : laidOutB Try.prog = true := by kernel_rfl
set_option maxRecDepth 100000 in
theorem lifted (os : Os) (started : os.Started) (H : Type) (enc : TypeId × Value → H) :
    ReturnsInHanded {} Try.checked os 11 .any (Rows.fnMatchesSpec.pre6 enc Try.prog Try.f11 Rows.fnMatchesRow.domain false) (Rows.fnMatchesSpec.post enc Try.prog Try.f11 false true false false) := by
  refine returnsInHanded_of_change_sized (C := Try.checked) own started (by kernel_rfl) Try.func11
    (ChangeSpec.witness6 (enc := enc) (C := Try.checked) false ⟨#[], #[.slice none 0 0], []⟩ 8 (by kernel_rfl) (by kernel_rfl) (by kernel_rfl) (by kernel_rfl)) ?_
  intro W base args ds gs before hval0 hW hcnd hsz0 _
  have hval : ∀ (j : Nat) t v, Try.f11.params[j]? = some t → args[j]? = some v → Value.okWide Try.prog W .any base t v := hval0
  have hW' := hW
  obtain ⟨p, q, hA0, hV, rfl, hfz, hnd⟩ := hW
  have hA : DataW.TrodAll enc Try.prog W 0 (fun _ => true) true Try.f11.params.toList args.toList ds p := hA0
  rw [Try.params11] at hA hval
  obtain ⟨v0, vs0, d0, ds0, p0, q0, hargs, rfl, rfl, h0, r0⟩ := trodAll_cons hA
  obtain ⟨rfl, rfl, rfl⟩ := trodAll_nil r0
  obtain rfl : args = #[v0] := by cases args; simp_all
  obtain ⟨rfl, rfl⟩ := trodVars_none hV
  have k0_ := h0
  have lt0 : ∀ x ∈ p0, x.block < W.heap.size := by obtain ⟨m, hm⟩ := k0_; exact DataW.trod_lt m _ _ _ hm
  obtain ⟨b0, len0, cap0, rfl⟩ := okWide_slice Try.underlying59 (hval 0 59 v0 rfl rfl)
  obtain ⟨fuel0, hf0⟩ := h0
  obtain ⟨l0, ⟨A0, c0, hcs0, hc0, hr0⟩, g0⟩ := (O.opens_slice Try.underlying59 (by kernel_rfl) (O.opens_int Try.underlying5 (by kernel_rfl))).2 hf0
  simp [Value.cells] at hcs0
  obtain ⟨rfl, rfl, rfl⟩ := hcs0
  clear hA0 hval0 hsz0
  obtain ⟨k, h⟩ := VFnMatches.proof l0 g0
  refine (laws_FnMatches.calls k _ _ l0 true W hr0 hc0 h rfl).mono fun e W' hend => ?_
  obtain ⟨rfl, hbel⟩ := hend
  have bel : Below W.heap.size W W' := hbel
  exact ⟨_, rfl, _, _, _, [], _, [], hW', trodAll_mk1 (shut_bool Try.underlying4 _), (trodAll_cons_mk (Below.trod laidOut (by kernel_rfl) (of_decide_eq_true (by kernel_rfl)) k0_ bel lt0) trodAll_mk0), rfl, bel.frame _, fun h => by cases h⟩
theorem over : Rows.fnMatchesRow.holds Try.pinned (OpenSpec.ofChange Rows.fnMatchesSpec) :=
  OpenClaim.holds_of_wide 11 Try.f11 rfl rfl rfl rfl rfl rfl rfl ⟨rfl, rfl, rfl, rfl, rfl⟩ rfl rfl rfl rfl rfl (by kernel_rfl) Try.func11 (by kernel_rfl)
    (of_decide_eq_true (by kernel_rfl)) (by unfold Func.isWrapper; first | (rw [if_pos (by decide +kernel)]; kernel_rfl) | (rw [if_neg (by decide +kernel)]; exact ⟨rfl, rfl⟩))
    (fun os started H enc _ => lifted os started H enc)
theorem proved : Rows.FnMatchesSaid := over
#print axioms proved
end Go.Proofs.Ytihbalbcocfnfaa.fnMatches
namespace Go.Proofs.Ytihbalbcocfnfaa
theorem fnMatches_holds : Rows.FnMatchesSaid := fnMatches.proved
end Go.Proofs.Ytihbalbcocfnfaa
