/- FnExactCommonOf: the law of the program holds at every input: the Go function returns true, and its arguments read afterwards as before.
Conditions: none beyond the given statement's own (what can be read as data, of a size that memory bears). -/
import Derived.Test.YtihbalbcocfnfaaCFnExactCommonOf2
import Derived.Test.YtihbalbcocfnfaaCFnExactCommonOf1
import Derived.Test.YtihbalbcocfnfaaWWords
import Derived.SliceStrings
import Derived.DataReads
import Derived.DataElems
import Derived.Test.YtihbalbcocfnfaaRows
import Derived.WalkKit
import Derived.ProofKit
import Derived.OpenShut
import Derived.ShutString
import Derived.ChangeOld
import Derived.Below
import Derived.SizedLaws
import Derived.Carry
/- LinesFault's two forms. -/
set_option linter.unusedVariables false
set_option linter.unusedSimpArgs false
namespace Go.Proofs.Ytihbalbcocfnfaa.P
open Go.RowKit Go.Proofs.YtihbalbcocfnfaaW.PrintWords Go.Proofs.YtihbalbcocfnfaaW.PrintLast
theorem ended_loop (s : ByteArray) (hs : s.size ≤ 9223372036854775807) : ∀ (d i : Nat), s.size - i = d → i ≤ s.size → Ev (fun k => spec_l1Ended.l0 k s (i : Int)) (((i + lineEnd (s.data.toList.drop i) : Nat)) : Int) := by
  intro d
  induction d with
  | zero =>
    intro i hd hi
    refine Ev.step (fun k => by rw [spec_l1Ended.l0]) (Ev_neg (by omega) (Ev_val ?_))
    rw [List.drop_eq_nil_of_le (by rw [size_data]; omega)]
    simp only [lineEnd]
    omega
  | succ d ih =>
    intro i hd hi
    have hlt : i < s.data.toList.length := by rw [size_data]; omega
    refine Ev.step (fun k => by rw [spec_l1Ended.l0]) (Ev_pos (by omega) (Ev_pos (by omega) ?_))
    rw [bt_nat hlt, drop_at hlt, wsucc (n := s.size) (by omega) hs]
    refine Ev_if (fun h => Ev_val ?_) (fun h => Ev_eq (ih (i + 1) (by omega) (by omega)) ?_)
    · have : s.data.toList[i] = 10 := by
        apply UInt8.toNat_inj.1
        have h2 : s.data.toList[i].toNat = 10 := by omega
        exact h2
      rw [lineEnd, if_pos this]
      rfl
    · have : ¬ s.data.toList[i] = 10 := fun e => h (by rw [e]; rfl)
      rw [lineEnd, if_neg this]
      omega
theorem ended_tells (s : ByteArray) (hs : s.size ≤ 9223372036854775807) : Ev (fun k => spec_l1Ended.f k s) ((lineEnd s.data.toList : Nat) : Int) := by
  unfold spec_l1Ended.f
  have h := ended_loop s hs _ 0 rfl (by omega)
  rw [List.drop_zero, Nat.zero_add] at h
  exact h
/-- May this be a line; the last one of a text? -/
def lineBad (s : List UInt8) (last : Bool) : Bool := decide (s = [] ∨ 10 ∈ s.dropLast ∨ (¬ 10 ∈ s ∧ last = false))
def linesBad : List ByteArray → Bool
  | [] => false
  | x :: r => lineBad x.data.toList (decide (r = [])) || linesBad r
theorem lb_go {x : ByteArray} {r : List ByteArray} (h : lineBad x.data.toList (decide (r = [])) = false) : (if linesBad r then (1 : Int) else 0) = if linesBad (x :: r) then 1 else 0 := by
  unfold linesBad
  rw [h, Bool.false_or]
  cases r <;> rfl
theorem lb_end {x : ByteArray} {r : List ByteArray} (h : lineBad x.data.toList (decide (r = [])) = true) : (1 : Int) = if linesBad (x :: r) then 1 else 0 := by
  unfold linesBad
  rw [h, Bool.true_or]
  rfl
/-- The code of lines. -/
def LF (xs : List ByteArray) : Int := if xs.length > 100 ∨ total xs > 2000 then 2 else if linesBad xs then 1 else 0
theorem slf_loop1 (xs : List ByteArray) (hx : ∀ x ∈ xs, x.size ≤ 9223372036854775807) (hl : xs.length ≤ 9223372036854775807) : ∀ (d i : Nat), xs.length - i = d → i ≤ xs.length →
    Ev (fun k => spec_LinesFault.l1 k xs (i : Int)) (if linesBad (xs.drop i) then 1 else 0) := by
  intro d
  induction d with
  | zero =>
    intro i hd hi
    refine Ev.step (fun k => by rw [spec_LinesFault.l1]) (Ev_neg (by omega) (Ev_val ?_))
    rw [List.drop_eq_nil_of_le (by omega)]
    rfl
  | succ d ih =>
    intro i hd hi
    have hlt : i < xs.length := by omega
    have hs := hx xs[i] (List.getElem_mem hlt)
    refine Ev.step (fun k => by rw [spec_LinesFault.l1]) (Ev_pos (by omega) (Ev_pos (by omega) ?_))
    rw [rd_nat _ hlt, drop_at hlt, wsucc hlt hl]
    refine Ev_call (ended_tells _ hs) ?_
    have hle := lineEnd_le xs[i].data.toList
    rw [size_data] at hle
    have hrest : xs.drop (i + 1) = [] ↔ i + 1 = xs.length := by
      rw [List.drop_eq_nil_iff]
      omega
    refine Ev_if (fun h => Ev_val ?_) (fun h => ?_)
    · have h2 := toList_nil.1 h
      exact lb_end (by simp [lineBad, h2])
    have hne : ¬ xs[i].data.toList = [] := fun e => h (toList_nil.2 e)
    have h0 : xs[i].data.toList.length ≠ 0 := fun e => hne (List.length_eq_zero_iff.1 e)
    rw [size_data] at h0
    rw [wid (by omega) (by omega)]
    have hearly := lineEnd_early xs[i].data.toList
    rw [size_data] at hearly
    have hmem := lineEnd_mem xs[i].data.toList
    rw [size_data] at hmem
    refine Ev_if (fun h => Ev_val ?_) (fun h => ?_)
    · have h2 : 10 ∈ xs[i].data.toList.dropLast := hearly.1 (by omega)
      exact lb_end (by simp [lineBad, h2])
    have hn2 : ¬ 10 ∈ xs[i].data.toList.dropLast := fun e => h (by have := hearly.2 e; omega)
    have go : (¬ 10 ∈ xs[i].data.toList → i + 1 = xs.length) → Ev (fun k => spec_LinesFault.l1 k xs ((i + 1 : Nat) : Int)) (if linesBad (xs[i] :: xs.drop (i + 1)) then 1 else 0) := by
      intro hg
      refine Ev_eq (ih (i + 1) (by omega) (by omega)) ?_
      have : lineBad xs[i].data.toList (decide (xs.drop (i + 1) = [])) = false := by
        unfold lineBad
        rw [decide_eq_false_iff_not]
        rintro (h1 | h1 | ⟨h1, h2⟩)
        · exact hne h1
        · exact hn2 h1
        · rw [decide_eq_false_iff_not, hrest] at h2
          exact h2 (hg h1)
      exact lb_go this
    refine Ev_if (fun h => ?_) (fun h => ?_)
    · have hno : ¬ 10 ∈ xs[i].data.toList := fun e => by have := hmem.2 e; omega
      rw [wid (by omega) (by omega)]
      refine Ev_if (fun h3 => Ev_val ?_) (fun h3 => go (fun _ => by omega))
      have : lineBad xs[i].data.toList (decide (xs.drop (i + 1) = [])) = true := by
        unfold lineBad
        rw [decide_eq_true_iff]
        refine .inr (.inr ⟨hno, ?_⟩)
        rw [decide_eq_false_iff_not, hrest]
        omega
      exact lb_end this
    · exact go (fun hno => absurd (hmem.1 (by omega)) hno)
theorem slf_loop0 (xs : List ByteArray) (hx : ∀ x ∈ xs, x.size ≤ 9223372036854775807) (hl : xs.length ≤ 9223372036854775807) (hb : total xs ≤ 9223372036854775807) : ∀ (d i n : Nat), xs.length - i = d → i ≤ xs.length → n + total (xs.drop i) = total xs →
    Ev (fun k => spec_LinesFault.l0 k xs (n : Int) (i : Int)) (LF xs) := by
  intro d
  induction d with
  | zero =>
    intro i n hd hi hn
    rw [List.drop_eq_nil_of_le (by omega)] at hn
    simp only [total, Nat.add_zero] at hn
    refine Ev.step (fun k => by rw [spec_LinesFault.l0]) (Ev_neg (by omega) ?_)
    have body : ∀ b : Bool, b = decide (xs.length > 100 ∨ total xs > 2000) → Ev (fun k => spec_LinesFault.j1 k xs b) (LF xs) := by
      intro b hb2
      refine Ev.step (fun k => by rw [spec_LinesFault.j1]) ?_
      unfold LF
      rw [hb2]
      refine Ev_if (fun h => Ev_val ?_) (fun h => ?_)
      · rw [if_pos (of_decide_eq_true h)]
      · rw [if_neg (fun e => h (decide_eq_true e))]
        have := slf_loop1 xs hx hl _ 0 rfl (by omega)
        rw [List.drop_zero] at this
        exact this
    refine Ev_if (fun h => body _ ?_) (fun h => body _ ?_)
    · symm
      rw [decide_eq_true_iff]
      exact .inl (by omega)
    · rw [decide_eq_decide]
      omega
  | succ d ih =>
    intro i n hd hi hn
    have hlt : i < xs.length := by omega
    rw [drop_at hlt] at hn
    simp only [total] at hn
    refine Ev.step (fun k => by rw [spec_LinesFault.l0]) (Ev_pos (by omega) (Ev_pos (by omega) ?_))
    rw [rd_nat _ hlt, wsucc hlt hl, wid (by omega) (by omega), show (n : Int) + (xs[i].size : Int) = ((n + xs[i].size : Nat) : Int) by omega]
    exact ih (i + 1) (n + xs[i].size) (by omega) (by omega) (by omega)
theorem slf_tells (xs : List ByteArray) (hx : ∀ x ∈ xs, x.size ≤ 9223372036854775807) (hl : xs.length ≤ 9223372036854775807) (hb : total xs ≤ 9223372036854775807) : Ev (fun k => spec_LinesFault.f k xs) (LF xs) := by
  unfold spec_LinesFault.f
  exact slf_loop0 xs hx hl hb _ 0 0 rfl (by omega) (by simp)
theorem isLine_tells (s : ByteArray) (hs : s.size ≤ 9223372036854775807) : impl_isLine.f s = some (decide (¬ (s.data.toList = [] ∨ 10 ∈ s.data.toList.dropLast))) := by
  unfold impl_isLine.f
  by_cases h : s.data.toList = []
  · rw [if_pos (toList_nil.2 h)]
    simp [h]
  · have h0 : s.data.toList.length ≠ 0 := fun e => h (List.length_eq_zero_iff.1 e)
    rw [size_data] at h0
    rw [if_neg (fun e => h (toList_nil.1 e)), wid (by omega) (by omega), if_pos (by omega), if_pos (by omega)]
    have he : (s.extract 0 ((s.size : Int) - 1).toNat).data.toList = s.data.toList.dropLast := by
      rw [← ByteArray.toList_eq, Lib.extract_toList, List.drop_zero, List.dropLast_eq_take, size_data]
      congr 1
      omega
    unfold strings_Contains.f
    simp only [Option.bind_some]
    rw [he]
    congr 1
    have hi := index_mem s.data.toList.dropLast 10
    by_cases hm : 10 ∈ s.data.toList.dropLast
    · have : (0 : Int) ≤ Lib.indexByte s.data.toList.dropLast 10 := hi.2 hm
      simp [hm, this]
    · have : ¬ (0 : Int) ≤ Lib.indexByte s.data.toList.dropLast 10 := fun e => hm (hi.1 e)
      simp only [this, hm, h]
      simp
theorem isWhole_tells (s : ByteArray) (hs : s.size ≤ 9223372036854775807) : impl_isWhole.f s = some (Lib.hasSuffix s.data.toList [10]) := by
  unfold impl_isWhole.f strings_HasSuffix.f
  rw [if_pos hs]
  rfl
theorem ilf_loop (xs : List ByteArray) (hx : ∀ x ∈ xs, x.size ≤ 9223372036854775807) (hl : xs.length ≤ 9223372036854775807) : ∀ (d i : Nat), xs.length - i = d → i ≤ xs.length →
    Ev (fun k => impl_LinesFault.l0 k xs xs (xs.length : Int) (i : Int)) (if linesBad (xs.drop i) then 1 else 0) := by
  intro d
  induction d with
  | zero =>
    intro i hd hi
    refine Ev.step (fun k => by rw [impl_LinesFault.l0]) (Ev_neg (by omega) (Ev_val ?_))
    rw [List.drop_eq_nil_of_le (by omega)]
    rfl
  | succ d ih =>
    intro i hd hi
    have hlt : i < xs.length := by omega
    have hs := hx xs[i] (List.getElem_mem hlt)
    have hrest : xs.drop (i + 1) = [] ↔ i + 1 = xs.length := by
      rw [List.drop_eq_nil_iff]
      omega
    refine Ev.step (fun k => by rw [impl_LinesFault.l0]) (Ev_pos (by omega) (Ev_pos (by omega) (Ev_pos (by omega) ?_)))
    rw [rd_nat _ hlt, drop_at hlt, wsucc hlt hl]
    refine Ev_const (isLine_tells _ hs) ?_
    refine Ev_if (fun h => ?_) (fun h => Ev_val ?_)
    · have h := of_decide_eq_true h
      have hne : ¬ xs[i].data.toList = [] := fun e => h (.inl e)
      have hn2 : ¬ 10 ∈ xs[i].data.toList.dropLast := fun e => h (.inr e)
      have go : (¬ 10 ∈ xs[i].data.toList → i + 1 = xs.length) → Ev (fun k => impl_LinesFault.l0 k xs xs (xs.length : Int) ((i + 1 : Nat) : Int)) (if linesBad (xs[i] :: xs.drop (i + 1)) then 1 else 0) := by
        intro hg
        refine Ev_eq (ih (i + 1) (by omega) (by omega)) ?_
        have : lineBad xs[i].data.toList (decide (xs.drop (i + 1) = [])) = false := by
          unfold lineBad
          rw [decide_eq_false_iff_not]
          rintro (h1 | h1 | ⟨h1, h2⟩)
          · exact hne h1
          · exact hn2 h1
          · rw [decide_eq_false_iff_not, hrest] at h2
            exact h2 (hg h1)
        exact lb_go this
      have hsuf := suffix_iff _ hn2
      refine Ev_const (isWhole_tells _ hs) (Ev_if (fun h3 => go (fun hno => absurd (hsuf.1 h3) hno)) (fun h3 => ?_))
      rw [wid (by omega) (by omega)]
      refine Ev_if (fun h4 => go (fun _ => by omega)) (fun h4 => Ev_val ?_)
      have : lineBad xs[i].data.toList (decide (xs.drop (i + 1) = [])) = true := by
        unfold lineBad
        rw [decide_eq_true_iff]
        refine .inr (.inr ⟨fun e => h3 (hsuf.2 e), ?_⟩)
        rw [decide_eq_false_iff_not, hrest]
        omega
      exact lb_end this
    · have h2 : xs[i].data.toList = [] ∨ 10 ∈ xs[i].data.toList.dropLast := Classical.byContradiction (fun e => h (decide_eq_true e))
      have : lineBad xs[i].data.toList (decide (xs.drop (i + 1) = [])) = true := by
        unfold lineBad
        rw [decide_eq_true_iff]
        rcases h2 with h2 | h2
        · exact .inl h2
        · exact .inr (.inl h2)
      exact lb_end this
theorem join_flat (xs : List ByteArray) : Lib.join (xs.map (·.data.toList)) [] = (xs.map (·.data.toList)).flatten := by
  unfold Lib.join
  induction xs with
  | nil => rfl
  | cons x l ih =>
    cases l with
    | nil => simp [List.intercalate]
    | cons y l =>
      simp only [List.map_cons, List.intercalate, List.intersperse, List.flatten_cons, List.nil_append] at ih ⊢
      rw [ih]
theorem join_all (xs : List ByteArray) : (Lib.join (xs.map (·.data.toList)) []).length = total xs := by
  rw [join_flat]
  induction xs with
  | nil => rfl
  | cons x l ih =>
    rw [List.map_cons, List.flatten_cons, List.length_append, ih, size_data]
    rfl
theorem ilf_tells (xs : List ByteArray) (hx : ∀ x ∈ xs, x.size ≤ 9223372036854775807) (hl : xs.length ≤ 140737488355328) (hb : total xs ≤ 140737488355328) : Ev (fun k => impl_LinesFault.f k xs) (LF xs) := by
  unfold impl_LinesFault.f
  have body : ∀ b : Bool, b = decide (xs.length > 100 ∨ total xs > 2000) → Ev (fun k => impl_LinesFault.j0 k xs b) (LF xs) := by
    intro b hb2
    refine Ev.step (fun k => by rw [impl_LinesFault.j0]) ?_
    unfold LF
    rw [hb2]
    refine Ev_if (fun h => Ev_val ?_) (fun h => ?_)
    · rw [if_pos (of_decide_eq_true h)]
    · rw [if_neg (fun e => h (decide_eq_true e))]
      have := ilf_loop xs hx (by omega) _ 0 rfl (by omega)
      rw [List.drop_zero] at this
      exact this
  refine Ev_if (fun h => body _ ?_) (fun h => ?_)
  · symm
    rw [decide_eq_true_iff]
    exact .inl (by omega)
  · have hj := join_all xs
    refine Ev_const (a := ⟨(Lib.join (xs.map (·.data.toList)) []).toArray⟩) ?_ (body _ ?_)
    · unfold strings_Join.f
      exact if_pos ⟨hl, by show (Lib.join _ []).length ≤ _; omega⟩
    · rw [decide_eq_decide]
      have : ((⟨(Lib.join (xs.map (·.data.toList)) []).toArray⟩ : ByteArray).size) = total xs := by
        rw [← hj]
        simp [ByteArray.size]
      rw [this]
      omega
end Go.Proofs.Ytihbalbcocfnfaa.P

/- What both packages ask of two lists of lines. -/
set_option linter.unusedVariables false
set_option linter.unusedSimpArgs false
namespace Go.Proofs.Ytihbalbcocfnfaa.P
open Go.RowKit Go.Proofs.YtihbalbcocfnfaaW.PrintWords Go.Proofs.YtihbalbcocfnfaaW.PrintLast
/-- The sizes of lists of lines that the laws let in. -/
def Small (xs : List ByteArray) : Prop := (∀ x ∈ xs, x.size ≤ 9223372036854775807) ∧ xs.length ≤ 1048576 ∧ total xs ≤ 1048576
theorem Small.slf {xs : List ByteArray} (h : Small xs) : Ev (fun k => spec_LinesFault.f k xs) (LF xs) := slf_tells xs h.1 (by have := h.2.1; omega) (by have := h.2.2; omega)
theorem Small.ilf {xs : List ByteArray} (h : Small xs) : Ev (fun k => impl_LinesFault.f k xs) (LF xs) := ilf_tells xs h.1 (by have := h.2.1; omega) (by have := h.2.2; omega)
theorem LF_zero {xs : List ByteArray} (h : LF xs = 0) : xs.length ≤ 100 ∧ total xs ≤ 2000 ∧ linesBad xs = false := by
  unfold LF at h
  split at h
  · omega
  · rename_i h1
    split at h
    · omega
    · rename_i h2
      exact ⟨by omega, by omega, by simpa using h2⟩
/-- The first code of two. -/
def LF2 (a b : List ByteArray) : Int := if LF a = 0 then LF b else LF a
theorem LF2_zero {a b : List ByteArray} (h : LF2 a b = 0) : LF a = 0 ∧ LF b = 0 := by
  unfold LF2 at h
  split at h
  · exact ⟨by assumption, h⟩
  · exact absurd h (by assumption)
theorem asked_tells {a b : List ByteArray} (ha : Small a) (hb : Small b) : Ev (fun k => spec_l2Asked.f k a b) (LF2 a b) := by
  unfold spec_l2Asked.f LF2
  refine Ev_call ha.slf (Ev_if (fun h => ?_) (fun h => ?_))
  · rw [if_pos h]
    exact Ev_call hb.slf (Ev.now _)
  · rw [if_neg h]
    exact Ev.now _
/-- The first code of a list that is not 0. -/
def firstOf : List Int → Int
  | [] => 0
  | c :: l => if c = 0 then firstOf l else c
theorem first_loop (xs : List Int) (hl : xs.length ≤ 9223372036854775807) : ∀ (d i : Nat), xs.length - i = d → i ≤ xs.length → Ev (fun k => impl_firstCode.l0 k xs (xs.length : Int) (i : Int)) (firstOf (xs.drop i)) := by
  intro d
  induction d with
  | zero =>
    intro i hd hi
    refine Ev.step (fun k => by rw [impl_firstCode.l0]) (Ev_neg (by omega) (Ev_val ?_))
    rw [List.drop_eq_nil_of_le (by omega)]
    rfl
  | succ d ih =>
    intro i hd hi
    have hlt : i < xs.length := by omega
    refine Ev.step (fun k => by rw [impl_firstCode.l0]) (Ev_pos (by omega) (Ev_pos (by omega) (Ev_pos (by omega) ?_)))
    rw [rdi_nat hlt, drop_at hlt, wsucc hlt hl, firstOf]
    refine Ev_if (fun h => ?_) (fun h => ?_)
    · rw [if_pos h]
      exact ih (i + 1) (by omega) (by omega)
    · rw [if_neg h]
      exact Ev.now _
theorem first_tells (xs : List Int) (hl : xs.length ≤ 9223372036854775807) : Ev (fun k => impl_firstCode.f k xs) (firstOf xs) := by
  unfold impl_firstCode.f
  have := first_loop xs hl _ 0 rfl (by omega)
  rw [List.drop_zero] at this
  exact this
theorem both_tells {a b : List ByteArray} (ha : Small a) (hb : Small b) : Ev (fun k => impl_bothLines.f k a b) (LF2 a b) := by
  unfold impl_bothLines.f LF2
  refine Ev_call ha.ilf (Ev_call hb.ilf (Ev_call (first_tells _ (by simp)) (Ev_val ?_)))
  simp only [firstOf]
  split
  · split <;> omega
  · rfl
end Go.Proofs.Ytihbalbcocfnfaa.P

/- The laws' guards on the sizes of lists of lines. -/
set_option linter.unusedVariables false
set_option linter.unusedSimpArgs false
namespace Go.Proofs.Ytihbalbcocfnfaa.P
open Go.RowKit Go.Proofs.YtihbalbcocfnfaaW.PrintWords Go.Proofs.YtihbalbcocfnfaaW.PrintLast
theorem guard_lines (xs : List ByteArray) (hg : xs.length ≤ 9223372036854775807 ∧ ∀ x ∈ xs, x.size ≤ 9223372036854775807) (n : Int) (h0 : 0 ≤ n) (h1 : n ≤ 1048576) {F : Nat → Int → Option Bool}
    (h : ∀ r, 0 ≤ r → r ≤ n → Small xs → Ev (fun k => F k r) true) : Ev (fun k => (laws_szStringS.f k xs n).bind fun t => (if t < 0 then (some true) else F k t)) true := by
  obtain ⟨r, hr, hp⟩ := sz_tells xs hg n h0 h1
  refine Ev_call hr ?_
  rcases hp with hp | ⟨h2, h3, h4⟩
  · exact Ev_pos hp (Ev.now _)
  · exact Ev_neg (by omega) (h r h2 h3 ⟨hg.2, by omega, by omega⟩)
theorem Small.to {xs : List ByteArray} (h : Small xs) : Ev (fun k => laws_toStringS.f k xs) xs := to_tells xs (by have := h.2.1; omega)
theorem Small.eq {xs : List ByteArray} (h : Small xs) : Ev (fun k => laws_eqStringS.f k xs xs) true := eq_tells xs (by have := h.2.1; omega)
end Go.Proofs.Ytihbalbcocfnfaa.P

/- How many elements two lists have in common, in their orders: plain mathematics. -/
set_option linter.unusedVariables false
set_option linter.unusedSimpArgs false
namespace Go.Proofs.Ytihbalbcocfnfaa.P

section
variable {α : Type} [DecidableEq α]
/-- The most that may be chosen of both. -/
def lcs : List α → List α → Nat
  | [], _ => 0
  | _ :: _, [] => 0
  | x :: a, y :: b => if x = y then lcs a b + 1 else max (lcs a (y :: b)) (lcs (x :: a) b)
termination_by a b => a.length + b.length
theorem lcs_nil (b : List α) : lcs [] b = 0 := by rw [lcs]
theorem lcs_nil' (a : List α) : lcs a [] = 0 := by cases a <;> rw [lcs]
theorem lcs_cons (x y : α) (a b : List α) : lcs (x :: a) (y :: b) = if x = y then lcs a b + 1 else max (lcs a (y :: b)) (lcs (x :: a) b) := by rw [lcs]
theorem lcs_both : ∀ (n : Nat) (a b : List α), a.length + b.length = n → (∀ x, lcs a b ≤ lcs (x :: a) b) ∧ (∀ y, lcs a (y :: b) ≤ lcs a b + 1) := by
  intro n
  induction n using Nat.strongRecOn with
  | _ n ih =>
    intro a b hn
    constructor
    · intro x
      cases b with
      | nil => rw [lcs_nil', lcs_nil']; exact Nat.le_refl _
      | cons y b =>
        rw [lcs_cons]
        split
        · exact (ih (a.length + b.length) (by simp at hn; omega) a b rfl).2 y
        · exact Nat.le_max_left _ _
    · intro y
      cases a with
      | nil => rw [lcs_nil, lcs_nil]; omega
      | cons x a =>
        have h := ih (a.length + b.length) (by simp at hn; omega) a b rfl
        have h1 := h.1 x
        have h2 := h.2 y
        rw [lcs_cons]
        split <;> omega
theorem lcs_left (x : α) (a b : List α) : lcs a b ≤ lcs (x :: a) b := (lcs_both _ a b rfl).1 x
theorem lcs_step (y : α) (a b : List α) : lcs a (y :: b) ≤ lcs a b + 1 := (lcs_both _ a b rfl).2 y
theorem lcs_comm : ∀ (n : Nat) (a b : List α), a.length + b.length = n → lcs a b = lcs b a := by
  intro n
  induction n using Nat.strongRecOn with
  | _ n ih =>
    intro a b hn
    cases a with
    | nil => rw [lcs_nil, lcs_nil']
    | cons x a =>
      cases b with
      | nil => rw [lcs_nil, lcs_nil']
      | cons y b =>
        simp only [List.length_cons] at hn
        have h0 := ih (a.length + b.length) (by omega) a b rfl
        have h1 := ih (a.length + (b.length + 1)) (by omega) a (y :: b) rfl
        have h2 := ih (a.length + 1 + b.length) (by omega) (x :: a) b rfl
        rw [lcs_cons, lcs_cons]
        by_cases h : x = y
        · rw [if_pos h, if_pos h.symm, h0]
        · rw [if_neg h, if_neg (fun e => h e.symm), h1, h2]
          exact Nat.max_comm _ _
theorem lcs_symm (a b : List α) : lcs a b = lcs b a := lcs_comm _ a b rfl
theorem lcs_right (y : α) (a b : List α) : lcs a b ≤ lcs a (y :: b) := by rw [lcs_symm a b, lcs_symm a (y :: b)]; exact lcs_left y b a
theorem lcs_step' (x : α) (a b : List α) : lcs (x :: a) b ≤ lcs a b + 1 := by rw [lcs_symm (x :: a) b, lcs_symm a b]; exact lcs_step x b a
theorem lcs_le : ∀ (a b : List α), lcs a b ≤ a.length := by
  intro a b
  induction a with
  | nil => rw [lcs_nil]; exact Nat.le_refl _
  | cons x a ih =>
    have := lcs_step' x a b
    simp only [List.length_cons]
    omega
theorem lcs_le' (a b : List α) : lcs a b ≤ b.length := by rw [lcs_symm]; exact lcs_le b a
/-- The table's rule. -/
theorem lcs_at {a b : List α} {i j : Nat} (hi : i < a.length) (hj : j < b.length) :
    lcs (a.drop i) (b.drop j) = if a[i] = b[j] then lcs (a.drop (i + 1)) (b.drop (j + 1)) + 1 else max (lcs (a.drop (i + 1)) (b.drop j)) (lcs (a.drop i) (b.drop (j + 1))) := by
  rw [drop_at hi, drop_at hj, lcs_cons]
/-- The same, where all three are looked at. -/
theorem lcs_at3 {a b : List α} {i j : Nat} (hi : i < a.length) (hj : j < b.length) (h : a[i] = b[j]) :
    lcs (a.drop i) (b.drop j) = max (max (lcs (a.drop (i + 1)) (b.drop j)) (lcs (a.drop i) (b.drop (j + 1)))) (lcs (a.drop (i + 1)) (b.drop (j + 1)) + 1) := by
  have e := lcs_at hi hj
  rw [if_pos h] at e
  have h1 : lcs (a.drop (i + 1)) (b.drop j) ≤ lcs (a.drop (i + 1)) (b.drop (j + 1)) + 1 := by
    rw [drop_at hj]
    exact lcs_step _ _ _
  have h2 : lcs (a.drop i) (b.drop (j + 1)) ≤ lcs (a.drop (i + 1)) (b.drop (j + 1)) + 1 := by
    rw [drop_at hi]
    exact lcs_step' _ _ _
  omega
theorem lcs_self : ∀ a : List α, lcs a a = a.length := by
  intro a
  induction a with
  | nil => rw [lcs_nil]; rfl
  | cons x a ih => rw [lcs_cons, if_pos rfl, ih]; rfl
end

theorem getD_set {β : Type} {l : List β} {i r : Nat} {x d : β} (h : i < l.length) : (l.set i x).getD r d = if r = i then x else l.getD r d := by
  rw [List.getD_eq_getElem?_getD, List.getD_eq_getElem?_getD, List.getElem?_set]
  by_cases e : i = r
  · subst e
    simp [h]
  · rw [if_neg e, if_neg (fun z => e z.symm)]

/-- A table of what two lists have in common from places on: rows from i' on, and row i' - 1 from column j' on. -/
structure TabInv {α : Type} [DecidableEq α] (a b : List α) (t : List (List Int)) (i j : Nat) : Prop where
  len : t.length = a.length + 1
  rows : ∀ r, r ≤ a.length → (t.getD r []).length = b.length + 1
  val : ∀ r c, r ≤ a.length → c ≤ b.length → (i ≤ r ∨ (r + 1 = i ∧ j ≤ c) ∨ c = b.length ∨ r = a.length) → (t.getD r []).getD c 0 = (lcs (a.drop r) (b.drop c) : Int)
theorem TabInv.start {α : Type} [DecidableEq α] (a b : List α) : TabInv a b (List.replicate (a.length + 1) (List.replicate (b.length + 1) 0)) (a.length) (b.length) := by
  have hg : ∀ r, r ≤ a.length → (List.replicate (a.length + 1) (List.replicate (b.length + 1) (0 : Int))).getD r [] = List.replicate (b.length + 1) 0 := fun r hr => by
    rw [List.getD_eq_getElem?_getD, List.getElem?_replicate, if_pos (by omega)]
    rfl
  refine ⟨by simp, fun r hr => by rw [hg r hr]; simp, fun r c hr hc h => ?_⟩
  rw [hg r hr, List.getD_eq_getElem?_getD, List.getElem?_replicate, if_pos (by omega), Option.getD_some]
  have : lcs (a.drop r) (b.drop c) = 0 := by
    have hcase : c = b.length ∨ r = a.length := by omega
    rcases hcase with e | e
    · rw [List.drop_eq_nil_of_le (show b.length ≤ c by omega), lcs_nil']
    · rw [List.drop_eq_nil_of_le (show a.length ≤ r by omega), lcs_nil]
  rw [this]
  rfl
theorem TabInv.put {α : Type} [DecidableEq α] {a b : List α} {t : List (List Int)} {i j : Nat} (h : TabInv a b t (i + 1) (j + 1)) (hi : i < a.length) (hj : j < b.length) {v : Int} (hv : v = (lcs (a.drop i) (b.drop j) : Int)) :
    TabInv a b (t.set i ((t.getD i []).set j v)) (i + 1) j := by
  have hl := h.len
  have hr0 := h.rows i (by omega)
  refine ⟨by rw [List.length_set]; exact hl, fun r hr => ?_, fun r c hr hc hcase => ?_⟩
  · rw [getD_set (by omega)]
    split
    · rw [List.length_set]; exact hr0
    · exact h.rows r hr
  · rw [getD_set (by omega)]
    by_cases e : r = i
    · subst e
      rw [if_pos rfl, getD_set (by omega)]
      by_cases e2 : c = j
      · subst e2
        rw [if_pos rfl, hv]
      · rw [if_neg e2]
        exact h.val r c hr hc (by omega)
    · rw [if_neg e]
      exact h.val r c hr hc (by omega)
theorem TabInv.next {α : Type} [DecidableEq α] {a b : List α} {t : List (List Int)} {i : Nat} (h : TabInv a b t (i + 1) 0) : TabInv a b t i b.length :=
  ⟨h.len, h.rows, fun r c hr hc hcase => h.val r c hr hc (by omega)⟩
theorem TabInv.all {α : Type} [DecidableEq α] {a b : List α} {t : List (List Int)} {j : Nat} (h : TabInv a b t 0 j) {r c : Nat} (hr : r ≤ a.length) (hc : c ≤ b.length) : (t.getD r []).getD c 0 = (lcs (a.drop r) (b.drop c) : Int) := h.val r c hr hc (.inl (by omega))
end Go.Proofs.Ytihbalbcocfnfaa.P

/- Small lemmas on numbers that wrap. -/
namespace Go.Proofs.Ytihbalbcocfnfaa.P
open Go.RowKit
theorem wsucc' {i : Nat} (hn : i < 9223372036854775807) : wrap64 ((i : Int) + 1) = ((i + 1 : Nat) : Int) := by
  rw [wid (by omega) (by omega)]
  omega
theorem wpred {i : Nat} (hn : i ≤ 9223372036854775807) : wrap64 (((i + 1 : Nat) : Int) - 1) = (i : Int) := by
  rw [wid (by omega) (by omega)]
  omega
end Go.Proofs.Ytihbalbcocfnfaa.P

/- The tables of both packages: what they hold. -/
set_option linter.unusedVariables false
set_option linter.unusedSimpArgs false
namespace Go.Proofs.Ytihbalbcocfnfaa.P
open Go.RowKit Go.Proofs.YtihbalbcocfnfaaW.PrintWords Go.Proofs.YtihbalbcocfnfaaW.PrintLast

theorem rdl_nat (t : List (List Int)) (i : Nat) : rd_L4 t (i : Int) = t.getD i [] := by
  unfold rd_L4
  rw [Int.toNat_natCast]
theorem rd_getD (t : List Int) (i : Nat) : rd t (i : Int) = t.getD i 0 := by
  unfold rd
  rw [Int.toNat_natCast]
theorem max_tells (x y : Int) : spec_l1Max.f x y = some (max x y) := by
  unfold spec_l1Max.f
  split
  · rw [Int.max_def, if_neg (by omega)]
  · rw [Int.max_def, if_pos (by omega)]
theorem mx_max (x y : Int) : mx x y = max x y := by
  unfold mx
  split
  · rw [Int.max_def, if_pos (by omega)]
  · rw [Int.max_def]
    split <;> omega
theorem stab2 (a b : List ByteArray) (ha : a.length ≤ 1000000) (hb : b.length ≤ 1000000) (i : Nat) (hi : i < a.length) (K : List (List Int) → Prop)
    (hK : ∀ t, TabInv a b t (i + 1) 0 → ∃ t', K t' ∧ Ev (fun k => spec_l2Table.l1 k a b t (wrap64 ((i : Int) - 1))) t') : ∀ (j : Nat) (t : List (List Int)), j ≤ b.length → TabInv a b t (i + 1) j →
    ∃ t', K t' ∧ Ev (fun k => spec_l2Table.l2 k a b t (i : Int) ((j : Int) - 1)) t' := by
  intro j
  induction j with
  | zero =>
    intro t hj ht
    obtain ⟨t', h1, h2⟩ := hK t ht
    exact ⟨t', h1, Ev.step (fun k => by rw [spec_l2Table.l2]) (Ev_neg (by omega) h2)⟩
  | succ j ih =>
    intro t hj ht
    have hl := ht.len
    have hri := ht.rows i (by omega)
    have hri1 := ht.rows (i + 1) (by omega)
    have e1 := ht.val (i + 1) j (by omega) (by omega) (.inl (by omega))
    have e2 := ht.val i (j + 1) (by omega) (by omega) (by omega)
    have e3 := ht.val (i + 1) (j + 1) (by omega) (by omega) (.inl (by omega))
    have hat := lcs_at (a := a) (b := b) hi (show j < b.length by omega)
    have hb1 := lcs_le (a.drop i) (b.drop j)
    have hb3 := lcs_le (a.drop (i + 1)) (b.drop (j + 1))
    rw [List.length_drop] at hb1 hb3
    obtain ⟨t', h1, h2⟩ := ih (t.set i ((t.getD i []).set j ((lcs (a.drop i) (b.drop j) : Nat) : Int))) (by omega) (ht.put hi (by omega) rfl)
    refine ⟨t', h1, Ev.step (fun k => by rw [spec_l2Table.l2]) ?_⟩
    rw [wsucc' (i := i) (by omega), rdl_nat, rdl_nat, show ((((j + 1 : Nat) : Int)) - 1) = (j : Int) by omega, wsucc' (i := j) (by omega), rd_getD, rd_getD, rd_getD, rd_nat _ hi, rd_nat _ (show j < b.length by omega), e1, e2, e3, Int.toNat_natCast, Int.toNat_natCast]
    refine Ev_pos (by omega) (Ev_pos (by omega) (Ev_pos (by omega) (Ev_pos (by omega) (Ev_pos (by omega) (Ev_pos (by omega) (Ev_pos (by omega) (Ev_pos (by omega) (Ev_pos (by omega) (Ev_const (max_tells _ _) (Ev_pos (by omega) (Ev_pos (by omega) ?_)))))))))))
    refine Ev_if (fun h => ?_) (fun h => ?_)
    · have hx := data_eq.1 h
      have h3 := lcs_at3 (a := a) (b := b) hi (show j < b.length by omega) hx
      rw [wid (by omega) (by omega)]
      refine Ev_pos (by omega) (Ev_const (max_tells _ _) (Ev_pos (by omega) ?_))
      rw [show max (max ((lcs (a.drop (i + 1)) (b.drop j) : Nat) : Int) ((lcs (a.drop i) (b.drop (j + 1)) : Nat) : Int)) (1 + ((lcs (a.drop (i + 1)) (b.drop (j + 1)) : Nat) : Int)) = ((lcs (a.drop i) (b.drop j) : Nat) : Int) by omega, wid (by omega) (by omega)]
      exact h2
    · have hx : ¬ a[i] = b[j] := fun e => h (data_eq.2 e)
      rw [if_neg hx] at hat
      refine Ev_pos (by omega) ?_
      rw [show max ((lcs (a.drop (i + 1)) (b.drop j) : Nat) : Int) ((lcs (a.drop i) (b.drop (j + 1)) : Nat) : Int) = ((lcs (a.drop i) (b.drop j) : Nat) : Int) by omega, wid (by omega) (by omega)]
      exact h2
theorem stab1 (a b : List ByteArray) (ha : a.length ≤ 1000000) (hb : b.length ≤ 1000000) : ∀ (i : Nat) (t : List (List Int)), i ≤ a.length → TabInv a b t i b.length → ∃ t', TabInv a b t' 0 b.length ∧ Ev (fun k => spec_l2Table.l1 k a b t ((i : Int) - 1)) t' := by
  intro i
  induction i with
  | zero =>
    intro t hi ht
    exact ⟨t, ht, Ev.step (fun k => by rw [spec_l2Table.l1]) (Ev_neg (by omega) (Ev.now _))⟩
  | succ i ih =>
    intro t hi ht
    obtain ⟨t', h1, h2⟩ := stab2 a b ha hb i (by omega) (fun t' => TabInv a b t' 0 b.length) (fun t ht => by
      obtain ⟨t', h1, h2⟩ := ih t (by omega) ht.next
      exact ⟨t', h1, by rw [wid (by omega) (by omega)]; exact h2⟩) b.length t (Nat.le_refl _) ht
    refine ⟨t', h1, Ev.step (fun k => by rw [spec_l2Table.l1]) (Ev_pos (by omega) ?_)⟩
    rw [wid (x := (b.length : Int) - 1) (by omega) (by omega), show (((i + 1 : Nat) : Int) - 1) = (i : Int) by omega]
    exact h2
theorem stab0 (a b : List ByteArray) (ha : a.length ≤ 1000000) (hb : b.length ≤ 1000000) (t' : List (List Int)) (h : Ev (fun k => spec_l2Table.l1 k a b (List.replicate (a.length + 1) (List.replicate (b.length + 1) 0)) ((a.length : Int) - 1)) t') :
    ∀ (d i : Nat), a.length + 1 - i = d → i ≤ a.length + 1 → Ev (fun k => spec_l2Table.l0 k a b (List.replicate i (List.replicate (b.length + 1) 0)) (i : Int)) t' := by
  intro d
  induction d with
  | zero =>
    intro i hd hi
    have : i = a.length + 1 := by omega
    subst this
    refine Ev.step (fun k => by rw [spec_l2Table.l0]) (Ev_neg (by omega) ?_)
    rw [wid (by omega) (by omega)]
    exact h
  | succ d ih =>
    intro i hd hi
    refine Ev.step (fun k => by rw [spec_l2Table.l0]) (Ev_pos (by omega) ?_)
    rw [wsucc' (i := b.length) (by omega), wsucc' (i := i) (by omega), Int.toNat_natCast]
    refine Ev_pos (by omega) (Ev_pos (by omega) (Ev_pos (by rw [List.length_replicate]; omega) ?_))
    rw [← List.replicate_succ']
    exact ih (i + 1) (by omega) (by omega)
theorem stab_tells (a b : List ByteArray) (ha : a.length ≤ 1000000) (hb : b.length ≤ 1000000) : ∃ t, TabInv a b t 0 b.length ∧ Ev (fun k => spec_l2Table.f k a b) t := by
  obtain ⟨t, h1, h2⟩ := stab1 a b ha hb a.length _ (Nat.le_refl _) (TabInv.start a b)
  refine ⟨t, h1, ?_⟩
  unfold spec_l2Table.f
  exact stab0 a b ha hb t h2 _ 0 rfl (by omega)

theorem itab2 (a b : List ByteArray) (ha : a.length ≤ 1000000) (hb : b.length ≤ 1000000) (i : Nat) (hi : i < a.length) (K : List (List Int) → Prop)
    (hK : ∀ t, TabInv a b t (i + 1) 0 → ∃ t', K t' ∧ Ev (fun k => impl_commons.l1 k a b t (wrap64 ((i : Int) - 1))) t') : ∀ (j : Nat) (t : List (List Int)), j ≤ b.length → TabInv a b t (i + 1) j →
    ∃ t', K t' ∧ Ev (fun k => impl_commons.l2 k a b t (i : Int) ((j : Int) - 1)) t' := by
  intro j
  induction j with
  | zero =>
    intro t hj ht
    obtain ⟨t', h1, h2⟩ := hK t ht
    exact ⟨t', h1, Ev.step (fun k => by rw [impl_commons.l2]) (Ev_neg (by omega) h2)⟩
  | succ j ih =>
    intro t hj ht
    have hl := ht.len
    have hri := ht.rows i (by omega)
    have hri1 := ht.rows (i + 1) (by omega)
    have e1 := ht.val (i + 1) j (by omega) (by omega) (.inl (by omega))
    have e2 := ht.val i (j + 1) (by omega) (by omega) (by omega)
    have e3 := ht.val (i + 1) (j + 1) (by omega) (by omega) (.inl (by omega))
    have hat := lcs_at (a := a) (b := b) hi (show j < b.length by omega)
    have hb1 := lcs_le (a.drop i) (b.drop j)
    have hb3 := lcs_le (a.drop (i + 1)) (b.drop (j + 1))
    rw [List.length_drop] at hb1 hb3
    obtain ⟨t', h1, h2⟩ := ih (t.set i ((t.getD i []).set j ((lcs (a.drop i) (b.drop j) : Nat) : Int))) (by omega) (ht.put hi (by omega) rfl)
    refine ⟨t', h1, Ev.step (fun k => by rw [impl_commons.l2]) ?_⟩
    rw [wsucc' (i := i) (by omega), rdl_nat, rdl_nat, show ((((j + 1 : Nat) : Int)) - 1) = (j : Int) by omega, wsucc' (i := j) (by omega), rd_getD, rd_getD, e1, e2, Int.toNat_natCast, Int.toNat_natCast, mx_max]
    refine Ev_pos (by omega) (Ev_pos (by omega) (Ev_pos (by omega) (Ev_pos (by omega) (Ev_pos (by omega) (Ev_pos (by omega) (Ev_pos (by omega) (Ev_pos (by omega) (Ev_pos (by omega) (Ev_pos (by omega) ?_)))))))))
    refine Ev_const rfl ?_
    rw [rd_nat _ hi, rd_nat _ (show j < b.length by omega), rdl_nat, rdl_nat, getD_set (by omega), getD_set (by omega), if_neg (by omega), if_pos rfl, rd_getD, e3]
    refine Ev_pos (by omega) (Ev_pos (by omega) ?_)
    refine Ev_if (fun h => ?_) (fun h => ?_)
    · have hx := data_eq.1 h
      rw [if_pos hx] at hat
      refine Ev_pos (by omega) (Ev_pos (by rw [List.length_set]; omega) ?_)
      rw [wid (by omega) (by omega), wid (by omega) (by omega), List.set_set, List.set_set, show ((lcs (a.drop (i + 1)) (b.drop (j + 1)) : Nat) : Int) + 1 = ((lcs (a.drop i) (b.drop j) : Nat) : Int) by omega]
      exact h2
    · have hx : ¬ a[i] = b[j] := fun e => h (data_eq.2 e)
      rw [if_neg hx] at hat
      rw [show max ((lcs (a.drop (i + 1)) (b.drop j) : Nat) : Int) ((lcs (a.drop i) (b.drop (j + 1)) : Nat) : Int) = ((lcs (a.drop i) (b.drop j) : Nat) : Int) by omega, wid (by omega) (by omega)]
      exact h2
theorem itab1 (a b : List ByteArray) (ha : a.length ≤ 1000000) (hb : b.length ≤ 1000000) : ∀ (i : Nat) (t : List (List Int)), i ≤ a.length → TabInv a b t i b.length → ∃ t', TabInv a b t' 0 b.length ∧ Ev (fun k => impl_commons.l1 k a b t ((i : Int) - 1)) t' := by
  intro i
  induction i with
  | zero =>
    intro t hi ht
    exact ⟨t, ht, Ev.step (fun k => by rw [impl_commons.l1]) (Ev_neg (by omega) (Ev.now _))⟩
  | succ i ih =>
    intro t hi ht
    obtain ⟨t', h1, h2⟩ := itab2 a b ha hb i (by omega) (fun t' => TabInv a b t' 0 b.length) (fun t ht => by
      obtain ⟨t', h1, h2⟩ := ih t (by omega) ht.next
      exact ⟨t', h1, by rw [wid (by omega) (by omega)]; exact h2⟩) b.length t (Nat.le_refl _) ht
    refine ⟨t', h1, Ev.step (fun k => by rw [impl_commons.l1]) (Ev_pos (by omega) ?_)⟩
    rw [wid (x := (b.length : Int) - 1) (by omega) (by omega), show (((i + 1 : Nat) : Int) - 1) = (i : Int) by omega]
    exact h2
theorem set_rep {β : Type} (z y : β) (i d : Nat) : (List.replicate i z ++ List.replicate (d + 1) y).set i z = List.replicate (i + 1) z ++ List.replicate d y := by
  rw [List.set_append_right _ _ (by simp), List.length_replicate, Nat.sub_self, List.replicate_succ (n := d), List.set_cons_zero, List.replicate_succ', List.append_assoc]
  rfl
theorem itab0 (a b : List ByteArray) (ha : a.length ≤ 1000000) (hb : b.length ≤ 1000000) (t' : List (List Int)) (h : Ev (fun k => impl_commons.l1 k a b (List.replicate (a.length + 1) (List.replicate (b.length + 1) 0)) ((a.length : Int) - 1)) t') :
    ∀ (d i : Nat), a.length + 1 - i = d → i ≤ a.length + 1 → Ev (fun k => impl_commons.l0 k a b (List.replicate i (List.replicate (b.length + 1) 0) ++ List.replicate d []) ((a.length + 1 : Nat) : Int) (i : Int)) t' := by
  intro d
  induction d with
  | zero =>
    intro i hd hi
    have : i = a.length + 1 := by omega
    subst this
    refine Ev.step (fun k => by rw [impl_commons.l0]) (Ev_neg (by omega) ?_)
    rw [wid (by omega) (by omega), List.replicate_zero, List.append_nil]
    exact h
  | succ d ih =>
    intro i hd hi
    refine Ev.step (fun k => by rw [impl_commons.l0]) (Ev_pos (by omega) ?_)
    rw [wsucc' (i := b.length) (by omega), wsucc' (i := i) (by omega), Int.toNat_natCast, Int.toNat_natCast]
    refine Ev_pos (by omega) (Ev_pos (by omega) (Ev_pos (by omega) (Ev_pos (by simp; omega) ?_)))
    rw [set_rep]
    exact ih (i + 1) (by omega) (by omega)
theorem itab_tells (a b : List ByteArray) (ha : a.length ≤ 1000000) (hb : b.length ≤ 1000000) : ∃ t, TabInv a b t 0 b.length ∧ Ev (fun k => impl_commons.f k a b) t := by
  obtain ⟨t, h1, h2⟩ := itab1 a b ha hb a.length _ (Nat.le_refl _) (TabInv.start a b)
  refine ⟨t, h1, ?_⟩
  unfold impl_commons.f
  rw [wsucc' (i := a.length) (by omega), Int.toNat_natCast]
  refine Ev_pos (by omega) (Ev_pos (by omega) (Ev_const rfl ?_))
  rw [List.length_replicate]
  have h := itab0 a b ha hb t h2 _ 0 rfl (by omega)
  rw [List.replicate_zero, List.nil_append, Nat.sub_zero] at h
  exact h
end Go.Proofs.Ytihbalbcocfnfaa.P

/- CommonOf's two forms. -/
set_option linter.unusedVariables false
set_option linter.unusedSimpArgs false
namespace Go.Proofs.Ytihbalbcocfnfaa.P
open Go.RowKit Go.Proofs.YtihbalbcocfnfaaW.PrintWords Go.Proofs.YtihbalbcocfnfaaW.PrintLast
/-- How many lines both have in common, or a code. -/
def CO (a b : List ByteArray) : Int × Int := if LF2 a b = 0 then (0, (lcs a b : Int)) else (LF2 a b, 0)
theorem tab_head {a b : List ByteArray} {t : List (List Int)} (h : TabInv a b t 0 b.length) : rd (rd_L4 t 0) 0 = (lcs a b : Int) ∧ (0 : Int) < (t.length : Int) ∧ (0 : Int) < ((rd_L4 t 0).length : Int) := by
  have h0 := h.all (r := 0) (c := 0) (by omega) (by omega)
  have hr := h.rows 0 (by omega)
  have hl := h.len
  rw [List.drop_zero, List.drop_zero] at h0
  have e : rd_L4 t 0 = t.getD 0 [] := rdl_nat t 0
  have e2 : rd (t.getD 0 []) 0 = (t.getD 0 []).getD 0 0 := rd_getD (t.getD 0 []) 0
  rw [e, e2]
  exact ⟨h0, by omega, by omega⟩
theorem scommon_tells {a b : List ByteArray} (ha : Small a) (hb : Small b) : Ev (fun k => spec_CommonOf.f k a b) (CO a b) := by
  unfold spec_CommonOf.f CO
  refine Ev_call (asked_tells ha hb) (Ev_if (fun h => ?_) (fun h => ?_))
  · rw [if_pos h]
    have h1 := LF_zero (LF2_zero h).1
    have h2 := LF_zero (LF2_zero h).2
    obtain ⟨t, ht, e⟩ := stab_tells a b (by omega) (by omega)
    obtain ⟨e1, e2, e3⟩ := tab_head ht
    refine Ev_call e (Ev_pos e2 (Ev_pos e3 (Ev_val ?_)))
    rw [e1]
  · rw [if_neg h]
    exact Ev.now _
theorem icommon_tells {a b : List ByteArray} (ha : Small a) (hb : Small b) : Ev (fun k => impl_CommonOf.f k a b) (CO a b) := by
  unfold impl_CommonOf.f CO
  refine Ev_call (both_tells ha hb) (Ev_if (fun h => ?_) (fun h => ?_))
  · rw [if_pos h]
    have h1 := LF_zero (LF2_zero h).1
    have h2 := LF_zero (LF2_zero h).2
    obtain ⟨t, ht, e⟩ := itab_tells a b (by omega) (by omega)
    obtain ⟨e1, e2, e3⟩ := tab_head ht
    refine Ev_call e (Ev_pos e2 (Ev_pos e3 (Ev_val ?_)))
    rw [e1]
  · rw [if_neg h]
    exact Ev.now _
end Go.Proofs.Ytihbalbcocfnfaa.P

/- The law on CommonOf, as a statement on plain values. -/
set_option linter.unusedVariables false
namespace Go.Proofs.Ytihbalbcocfnfaa.P.VFnExactCommonOf
open Go.RowKit Go.Proofs.YtihbalbcocfnfaaW.PrintWords Go.Proofs.YtihbalbcocfnfaaW.PrintLast
theorem proof : UFnExactCommonOf.Pure := by
  intro l0 l1 g0 g1
  apply Ev.rounds
  unfold laws_FnExactCommonOf.f
  refine guard_lines l0 g0 1048576 (by omega) (by omega) (fun r h0 h1 hs => guard_lines l1 g1 r (by omega) (by omega) (fun r2 h2 h3 ht => ?_))
  refine Ev_call hs.to (Ev_call ht.to (Ev_call (scommon_tells hs ht) (Ev_call hs.to (Ev_call ht.to (Ev_call (icommon_tells hs ht) ?_)))))
  refine Ev_const (a := true) (by unfold laws_eqIntResult.f; rw [if_pos rfl, if_pos rfl]) (Ev_pos rfl (Ev_call hs.to (Ev_call hs.eq (Ev_pos rfl (Ev_call ht.to (Ev_call ht.eq (Ev_pos rfl (Ev.now _))))))))
end Go.Proofs.Ytihbalbcocfnfaa.P.VFnExactCommonOf

/- How an argument of any kind of data (numbers, bools, strings, slices and structs of these) is read out of the row's own reading. -/
set_option linter.unusedVariables false
set_option linter.unusedSimpArgs false
namespace Go.Proofs.Ytihbalbcocfnfaa.O
open Go.RowKit Go.ChangeShapes Go.WideShapes Go.Proofs.YtihbalbcocfnfaaW.PrintWords

/-- What a reading of a value of type t says, by the kind d; G: what is known of the value's size. -/
def Opens {α : Type} (P : Program) (t : TypeId) (d : Kd α) (G : α → Prop) : Prop :=
  P.cellsOf t = d.sz ∧ ∀ {H : Type} {enc : TypeId × Value → H} {w : World} {base : Nat} {spare : Nat → Bool} {held : Bool} {fuel : Nat} {cs : List Value} {x : DataW H × List MemPlace},
    DataW.trod enc P w base spare held fuel t cs = some x → ∃ a, d.K w a cs ∧ G a

theorem list_of {α : Type} {Q : Nat → α → Prop} : ∀ n : Nat, (∀ j, j < n → ∃ p, Q j p) → ∃ xs : List α, xs.length = n ∧ ∀ j p, xs[j]? = some p → Q j p
  | 0, _ => ⟨[], rfl, fun j p h => by simp at h⟩
  | n + 1, h => by
    obtain ⟨xs, hl, hx⟩ := list_of n (fun j hj => h j (Nat.lt_succ_of_lt hj))
    obtain ⟨p, hp⟩ := h n (Nat.lt_succ_self n)
    refine ⟨xs ++ [p], by simp [hl], fun j q hq => ?_⟩
    rcases Nat.lt_or_ge j xs.length with hj | hj
    · rw [List.getElem?_append_left hj] at hq
      exact hx j q hq
    · have hj' : j = xs.length := by
        have := (List.getElem?_eq_some_iff.1 hq).1
        rw [List.length_append, List.length_singleton] at this
        omega
      subst hj'
      have e : p = q := by simpa using hq
      subst e
      rw [hl]
      exact hp

theorem cells_get {w : World} {base : Nat} {a : Addr} {n : Nat} {cs : List Value} (h : w.cells? base a n = some cs) : cs.length = n ∧ ∀ i u, cs[i]? = some u → w.cell? (a.add i) = some u := by
  unfold World.cells? at h
  split at h
  · have hl := mapM_some_length h
    rw [List.length_range] at hl
    refine ⟨hl, fun i u hu => ?_⟩
    have hi : i < n := by
      have := (List.getElem?_eq_some_iff.1 hu).1
      omega
    have := mapM_some_get h i i (by simp [hi])
    rw [this, hu]
  · simp at h

theorem opens_int {P : Program} {t : TypeId} {k : IntKind} (ht : P.underlying t = some (.int k)) (hc : P.cellsOf t = 1) : Opens P t (Kd.int k) (fun x => (Lit.int k x).wf = true) :=
  ⟨hc, fun h => by
    obtain ⟨n, rfl, _, hw⟩ := DataW.trod_int ht h
    exact ⟨n, rfl, hw⟩⟩
theorem opens_bool {P : Program} {t : TypeId} (ht : P.underlying t = some .bool) (hc : P.cellsOf t = 1) : Opens P t Kd.bool (fun _ => True) :=
  ⟨hc, fun h => by
    obtain ⟨b, rfl, _⟩ := DataW.trod_bool ht h
    exact ⟨b, rfl, trivial⟩⟩
theorem opens_string {P : Program} {t : TypeId} (ht : P.underlying t = some .string) (hc : P.cellsOf t = 1) : Opens P t Kd.string (fun s => s.size ≤ 9223372036854775807) :=
  ⟨hc, fun h => by
    obtain ⟨s, rfl, _, hw⟩ := DataW.trod_string ht h
    exact ⟨s, rfl, hw⟩⟩
theorem opens_slice {α : Type} {P : Program} {t e : TypeId} {d : Kd α} {G : α → Prop} (ht : P.underlying t = some (.slice e)) (hc : P.cellsOf t = 1) (he : Opens P e d G) :
    Opens P t (Kd.slice e d) (fun l => l.length ≤ 9223372036854775807 ∧ ∀ x ∈ l, G x) := by
  refine ⟨hc, fun {H enc w base spare held fuel cs x} h => ?_⟩
  rcases DataW.trod_slice ht h with ⟨rfl, _⟩ | ⟨a, len, cap, elems, rest, n, _, rfl, _, hb, hl, hm, hlen, hel, _, _⟩
  · exact ⟨[], ⟨none, 0, rfl, Nat.le_refl _, rfl, by simp, fun hp => absurd hp (by simp)⟩, by simp, by simp⟩
  · have hcap : cap ≤ 9223372036854775807 := hm
    obtain ⟨xs, hxl, hx⟩ := list_of (Q := fun j p => (∃ c : List Value, c.length = d.sz ∧ d.K w p c ∧ ∀ i u, c[i]? = some u → w.cell? (a.add (j * d.sz + i)) = some u) ∧ G p) len (fun j hj => by
      have h1 := hel j hj
      rw [List.getElem?_eq_getElem (by omega), Option.bind_eq_some_iff] at h1
      obtain ⟨cs', hcs, hy⟩ := h1
      obtain ⟨p, hK, hG⟩ := he.2 hy
      obtain ⟨hcl, hcell⟩ := cells_get hcs
      refine ⟨p, ⟨cs', by rw [hcl, he.1], hK, fun i u hu => ?_⟩, hG⟩
      have := hcell i u hu
      rw [he.1] at this
      rw [← Addr.add_add]
      exact this)
    have hlen2 : xs.length ≤ cap := by omega
    refine ⟨xs, ⟨some a, cap, ?_, hlen2, rfl, by omega, fun _ => ⟨a, rfl, fun j p hj => (hx j p hj).1⟩⟩, by omega, fun y hy => ?_⟩
    · rw [hxl]
    · obtain ⟨j, hj⟩ := List.getElem?_of_mem hy
      exact (hx j y hj).2

/-- A struct's fields from an offset on. -/
def OpensTail {α : Type} (P : Program) (fs : List Field) (off : Nat) (d : Kd α) (G : α → Prop) : Prop :=
  ∀ {H : Type} {enc : TypeId × Value → H} {w : World} {base : Nat} {spare : Nat → Bool} {held : Bool} {fuel : Nat} {cs : List Value},
    (∀ f ∈ fs, ∃ y, DataW.trod enc P w base spare held fuel f.type ((cs.drop f.offset).take (P.cellsOf f.type)) = some y) → cs.length = off + d.sz → ∃ a, d.K w a (cs.drop off) ∧ G a
theorem tail_one {α : Type} {P : Program} {f : Field} {off : Nat} {d : Kd α} {G : α → Prop} (ho : f.offset = off) (h : Opens P f.type d G) : OpensTail P [f] off d G := by
  intro H enc w base spare held fuel cs hy hl
  obtain ⟨y, hy⟩ := hy f (List.mem_singleton.2 rfl)
  obtain ⟨a, hK, hG⟩ := h.2 hy
  refine ⟨a, ?_, hG⟩
  rw [ho, h.1, List.take_of_length_le (by rw [List.length_drop]; omega)] at hK
  exact hK
theorem tail_cons {α β : Type} {P : Program} {f : Field} {fs : List Field} {off off2 : Nat} {d : Kd α} {d2 : Kd β} {G : α → Prop} {G2 : β → Prop} (ho : f.offset = off) (h : Opens P f.type d G) (ho2 : off2 = off + d.sz) (h2 : OpensTail P fs off2 d2 G2) :
    OpensTail P (f :: fs) off (Kd.pair d d2) (fun x => G x.1 ∧ G2 x.2) := by
  intro H enc w base spare held fuel cs hy hl
  obtain ⟨y, hy1⟩ := hy f List.mem_cons_self
  obtain ⟨a, hK, hG⟩ := h.2 hy1
  have hl' : cs.length = off2 + d2.sz := by rw [hl, ho2]; exact (Nat.add_assoc _ _ _).symm
  obtain ⟨b, hK2, hG2⟩ := h2 (fun f' hf' => hy f' (List.mem_cons_of_mem _ hf')) hl'
  refine ⟨(a, b), ⟨(cs.drop off).take d.sz, (cs.drop off).drop d.sz, (List.take_append_drop _ _).symm, ?_, ?_⟩, hG, hG2⟩
  · rw [ho, h.1] at hK
    exact hK
  · rw [List.drop_drop, ← ho2]
    exact hK2
theorem opens_struct {α β : Type} {P : Program} {t : TypeId} {fs : Array Field} {d : Kd α} {f : β → α} {g : α → β} {G : α → Prop} (ht : P.underlying t = some (.struct fs)) (hc : P.cellsOf t = d.sz) (hfg : ∀ a, f (g a) = a) (h : OpensTail P fs.toList 0 d G) :
    Opens P t (Kd.iso d f) (fun b => G (f b)) := by
  refine ⟨hc, fun {H enc w base spare held fuel cs x} hx => ?_⟩
  obtain ⟨xs, n, rfl, _, hl, hxl, hf⟩ := DataW.trod_struct ht hx
  obtain ⟨a, hK, hG⟩ := h (enc := enc) (w := w) (base := base) (spare := spare) (held := held) (fuel := n) (cs := cs) (fun f' hf' => by
    obtain ⟨i, hi⟩ := List.getElem?_of_mem hf'
    have hi' : fs[i]? = some f' := by simpa using hi
    have hlt : i < fs.size := (Array.getElem?_eq_some_iff.1 hi').1
    exact ⟨xs[i]'(by omega), by rw [hf i f' hi', List.getElem?_eq_getElem]⟩) (by rw [hl, hc, Nat.zero_add])
  refine ⟨g a, ?_, ?_⟩
  · show d.K w (f (g a)) cs
    rw [hfg]
    simpa using hK
  · show G (f (g a))
    rw [hfg]
    exact hG
end Go.Proofs.Ytihbalbcocfnfaa.O

/- FnExactCommonOf: the law of the program holds at every input: the Go function returns true, and its arguments read afterwards as before.
Conditions: none beyond the given statement's own (what can be read as data, of a size that memory bears). -/
namespace Go.Proofs.Ytihbalbcocfnfaa.fnExactCommonOf
open Go.ChangeShapes Go.WideShapes Go.ChangeAt Go.RowKit
open Go.ChangeMaps (open_string shut_string)
open Go.Proofs.Ytihbalbcocfnfaa.P Go.Proofs.Ytihbalbcocfnfaa.P.UFnExactCommonOf Go.Proofs.YtihbalbcocfnfaaW.PrintWords
set_option linter.unusedVariables false
theorem own : ownKnob Try.prog.godebug = none := by kernel_rfl
theorem laidOut : laidOutB Try.prog = true := by kernel_rfl
set_option maxRecDepth 100000 in
theorem lifted (os : Os) (started : os.Started) (H : Type) (enc : TypeId × Value → H) :
    ReturnsInHanded {} Try.checked os 4 .any (Rows.fnExactCommonOfSpec.pre6 enc Try.prog Try.f4 Rows.fnExactCommonOfRow.domain false) (Rows.fnExactCommonOfSpec.post enc Try.prog Try.f4 false true false false) := by
  refine returnsInHanded_of_change_sized (C := Try.checked) own started (by kernel_rfl) Try.func4
    (ChangeSpec.witness6 (enc := enc) (C := Try.checked) false ⟨#[], #[.slice none 0 0, .slice none 0 0], []⟩ 8 (by kernel_rfl) (by kernel_rfl) (by kernel_rfl) (by kernel_rfl)) ?_
  intro W base args ds gs before hval0 hW hcnd hsz0 _
  have hval : ∀ (j : Nat) t v, Try.f4.params[j]? = some t → args[j]? = some v → Value.okWide Try.prog W .any base t v := hval0
  have hW' := hW
  obtain ⟨p, q, hA0, hV, rfl, hfz, hnd⟩ := hW
  have hA : DataW.TrodAll enc Try.prog W 0 (fun _ => true) true Try.f4.params.toList args.toList ds p := hA0
  rw [Try.params4] at hA hval
  obtain ⟨v0, vs0, d0, ds0, p0, q0, hargs, rfl, rfl, h0, r0⟩ := trodAll_cons hA
  obtain ⟨v1, vs1, d1, ds1, p1, q1, rfl, rfl, rfl, h1, r1⟩ := trodAll_cons r0
  obtain ⟨rfl, rfl, rfl⟩ := trodAll_nil r1
  obtain rfl : args = #[v0, v1] := by cases args; simp_all
  obtain ⟨rfl, rfl⟩ := trodVars_none hV
  have k0_ := h0
  have lt0 : ∀ x ∈ p0, x.block < W.heap.size := by obtain ⟨m, hm⟩ := k0_; exact DataW.trod_lt m _ _ _ hm
  obtain ⟨b0, len0, cap0, rfl⟩ := okWide_slice Try.underlying22 (hval 0 22 v0 rfl rfl)
  obtain ⟨fuel0, hf0⟩ := h0
  obtain ⟨l0, ⟨A0, c0, hcs0, hc0, hr0⟩, g0⟩ := (O.opens_slice Try.underlying22 (by kernel_rfl) (O.opens_string Try.underlying9 (by kernel_rfl))).2 hf0
  simp [Value.cells] at hcs0
  obtain ⟨rfl, rfl, rfl⟩ := hcs0
  have k1_ := h1
  have lt1 : ∀ x ∈ p1, x.block < W.heap.size := by obtain ⟨m, hm⟩ := k1_; exact DataW.trod_lt m _ _ _ hm
  obtain ⟨b1, len1, cap1, rfl⟩ := okWide_slice Try.underlying22 (hval 1 22 v1 rfl rfl)
  obtain ⟨fuel1, hf1⟩ := h1
  obtain ⟨l1, ⟨A1, c1, hcs1, hc1, hr1⟩, g1⟩ := (O.opens_slice Try.underlying22 (by kernel_rfl) (O.opens_string Try.underlying9 (by kernel_rfl))).2 hf1
  simp [Value.cells] at hcs1
  obtain ⟨rfl, rfl, rfl⟩ := hcs1
  clear hA0 hval0 hsz0
  obtain ⟨k, h⟩ := VFnExactCommonOf.proof l0 l1 g0 g1
  refine (laws_FnExactCommonOf.calls k _ _ l0 _ _ l1 true W hr0 hc0 hr1 hc1 h rfl).mono fun e W' hend => ?_
  obtain ⟨rfl, hbel⟩ := hend
  have bel : Below W.heap.size W W' := hbel
  exact ⟨_, rfl, _, _, _, [], _, [], hW', trodAll_mk1 (shut_bool Try.underlying4 _), (trodAll_cons_mk (Below.trod laidOut (by kernel_rfl) (of_decide_eq_true (by kernel_rfl)) k0_ bel lt0) (trodAll_cons_mk (Below.trod laidOut (by kernel_rfl) (of_decide_eq_true (by kernel_rfl)) k1_ bel lt1) trodAll_mk0)), rfl, bel.frame _, fun h => by cases h⟩
theorem over : Rows.fnExactCommonOfRow.holds Try.pinned (OpenSpec.ofChange Rows.fnExactCommonOfSpec) :=
  OpenClaim.holds_of_wide 4 Try.f4 rfl rfl rfl rfl rfl rfl rfl ⟨rfl, rfl, rfl, rfl, rfl⟩ rfl rfl rfl rfl rfl (by kernel_rfl) Try.func4 (by kernel_rfl)
    (of_decide_eq_true (by kernel_rfl)) (by unfold Func.isWrapper; first | (rw [if_pos (by decide +kernel)]; kernel_rfl) | (rw [if_neg (by decide +kernel)]; exact ⟨rfl, rfl⟩))
    (fun os started H enc _ => lifted os started H enc)
theorem proved : Rows.FnExactCommonOfSaid := over
#print axioms proved
end Go.Proofs.Ytihbalbcocfnfaa.fnExactCommonOf
namespace Go.Proofs.Ytihbalbcocfnfaa
/-- The row, under a short name, for the claim. -/
theorem fnExactCommonOf_holds : Rows.FnExactCommonOfSaid := fnExactCommonOf.proved
end Go.Proofs.Ytihbalbcocfnfaa
