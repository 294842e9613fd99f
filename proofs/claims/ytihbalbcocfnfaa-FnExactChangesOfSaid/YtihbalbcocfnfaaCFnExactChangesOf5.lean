/- FnExactChangesOf: the law of the program holds at every input: the Go function returns true, and its arguments read afterwards as before.
Conditions: none beyond the given statement's own (what can be read as data, of a size that memory bears). -/
import Derived.Laws.BytesArg
import Derived.SliceStrings
import Derived.DataReads
import Derived.DataElems
import Derived.Test.YtihbalbcocfnfaaRows
import Derived.WalkKit
import Derived.ProofKit
import Derived.OpenShut
import Derived.ShutString
import Derived.ChangeOld
import Derived.Below
import Derived.SizedLaws
import Derived.Carry
import Derived.Test.YtihbalbcocfnfaaCFnExactChangesOf1
import Derived.Test.YtihbalbcocfnfaaCFnExactChangesOf2
import Derived.Test.YtihbalbcocfnfaaCFnExactChangesOf3
import Derived.Test.YtihbalbcocfnfaaCFnExactChangesOf4
section
namespace Go.Proofs.Ytihbalbcocfnfaa.P
open Go.RowKit Go.Proofs.YtihbalbcocfnfaaW.PrintWords Go.Proofs.YtihbalbcocfnfaaW.PrintLast Go.Proofs.YtihbalbcocfnfaaW.PrintMore
attribute [local go_sem] max2_int min2_int max_two min_two max_three min_three max_four min_four
end Go.Proofs.Ytihbalbcocfnfaa.P
end
section
namespace Go.Proofs.Ytihbalbcocfnfaa.P
open Go.RowKit Go.Proofs.YtihbalbcocfnfaaW.PrintWords Go.Proofs.YtihbalbcocfnfaaW.PrintLast Go.Proofs.YtihbalbcocfnfaaW.PrintMore
attribute [local go_sem] max2_int min2_int max_two min_two max_three min_three max_four min_four
end Go.Proofs.Ytihbalbcocfnfaa.P
end
section
namespace Go.Proofs.Ytihbalbcocfnfaa.P
open Go.RowKit Go.Proofs.YtihbalbcocfnfaaW.PrintWords Go.Proofs.YtihbalbcocfnfaaW.PrintLast Go.Proofs.YtihbalbcocfnfaaW.PrintMore
attribute [local go_sem] max2_int min2_int max_two min_two max_three min_three max_four min_four
end Go.Proofs.Ytihbalbcocfnfaa.P
end
section
namespace Go.Proofs.Ytihbalbcocfnfaa.P
open Go.RowKit Go.Proofs.YtihbalbcocfnfaaW.PrintWords Go.Proofs.YtihbalbcocfnfaaW.PrintLast Go.Proofs.YtihbalbcocfnfaaW.PrintMore
attribute [local go_sem] max2_int min2_int max_two min_two max_three min_three max_four min_four
end Go.Proofs.Ytihbalbcocfnfaa.P
end
section
set_option linter.unusedVariables false
set_option linter.unusedSimpArgs false
namespace Go.Proofs.Ytihbalbcocfnfaa.P
open Go.RowKit Go.Proofs.YtihbalbcocfnfaaW.PrintWords Go.Proofs.YtihbalbcocfnfaaW.PrintLast
theorem mtext_loop : ∀ (n : Nat) (s : ByteArray), n + s.size ≤ 4611686018427387904 → ∃ t, Ev (fun k => laws_markText.l0 k (n : Int) s) t := by
  intro n
  induction n using Nat.strongRecOn with
  | _ n ih =>
    intro s hs
    by_cases h : n = 0
    · subst h
      exact ⟨_, Ev.step (fun k => by rw [laws_markText.l0]) (Ev_neg (by omega) (Ev_pos (by omega) (Ev.now _)))⟩
    · have hq : Int.tdiv (n : Int) 10 = ((n / 10 : Nat) : Int) := by
        rw [Int.tdiv_eq_ediv_of_nonneg (by omega)]
        omega
      have hsz : (strOfNums [(wrap64 (48 + (Int.tmod (n : Int) 10))) % 256] ++ s).size = 1 + s.size := by
        rw [ByteArray.size_append, strOfNums_size]
        rfl
      obtain ⟨t, ht⟩ := ih (n / 10) (by omega) (strOfNums [(wrap64 (48 + (Int.tmod (n : Int) 10))) % 256] ++ s) (by rw [hsz]; omega)
      refine ⟨t, Ev.step (fun k => by rw [laws_markText.l0]) (Ev_pos (by omega) ?_)⟩
      refine Ev_const rfl ?_
      refine Ev_pos (by rw [strOfNums_size]; simp; omega) ?_
      rw [hq, wid (by omega) (by omega)]
      exact ht
theorem mtext_some (n : Nat) (hn : n ≤ 4611686018427387904) : ∃ t, Ev (fun k => laws_markText.f k (n : Int)) t := by
  unfold laws_markText.f
  by_cases h : n = 0
  · subst h
    exact ⟨_, Ev_pos (by omega) (Ev.now _)⟩
  · obtain ⟨t, ht⟩ := mtext_loop n (⟨#[]⟩ : ByteArray) (by simp [ByteArray.size]; exact hn)
    exact ⟨t, Ev_neg (by omega) ht⟩
noncomputable def mtx (n : Nat) : ByteArray := @Classical.epsilon ByteArray ⟨⟨#[]⟩⟩ (fun t => Ev (fun k => laws_markText.f k (n : Int)) t)
theorem mtx_tells (n : Nat) (hn : n ≤ 4611686018427387904) : Ev (fun k => laws_markText.f k (n : Int)) (mtx n) := @Classical.epsilon_spec _ _ (mtext_some n hn)
noncomputable def mks : Nat → Nat → List ByteArray
  | _, 0 => []
  | n, d + 1 => mtx n :: mks (n + 1) d
theorem mark_loop (L : Nat) (hL : L ≤ 1000000000) : ∀ (d i n : Nat) (x : List ByteArray), L - i = d → i ≤ L → x.length = L → n + d ≤ 4611686018427387904 →
    Ev (fun k => laws_markStringS.l0 k x (n : Int) (i : Int)) (((n + d : Nat) : Int), x.take i ++ mks n d) := by
  intro d
  induction d with
  | zero =>
    intro i n x hd hi hx hn
    refine Ev.step (fun k => by rw [laws_markStringS.l0]) (Ev_neg (by omega) (Ev_val ?_))
    rw [mks, List.append_nil, List.take_of_length_le (by omega)]
    rfl
  | succ d ih =>
    intro i n x hd hi hx hn
    refine Ev.step (fun k => by rw [laws_markStringS.l0]) (Ev_pos (by omega) ?_)
    refine Ev_call (mtx_tells n (by omega)) ?_
    refine Ev_pos (by omega) ?_
    rw [wsucc' (i := n) (by omega), wsucc' (i := i) (by omega), Int.toNat_natCast]
    refine Ev_eq (ih (i + 1) (n + 1) (x.set i (mtx n)) (by omega) (by omega) (by rw [List.length_set]; exact hx) (by omega)) ?_
    rw [mks, List.take_succ_eq_append_getElem (by rw [List.length_set]; omega), List.getElem_set_self, List.take_set_of_le (by omega), List.append_assoc, show n + 1 + d = n + (d + 1) by omega]
    rfl
theorem mark_tells (x : List ByteArray) (n : Nat) (hx : x.length ≤ 1000000000) (hn : n ≤ 4611686017427387904) : Ev (fun k => laws_markStringS.f k x (n : Int)) (((n + x.length : Nat) : Int), mks n x.length) := by
  unfold laws_markStringS.f
  have h := mark_loop x.length hx _ 0 n x rfl (by omega) rfl (by omega)
  rw [List.take_zero, List.nil_append, Nat.sub_zero] at h
  exact h
end Go.Proofs.Ytihbalbcocfnfaa.P
end
section
set_option linter.unusedVariables false
set_option linter.unusedSimpArgs false
namespace Go.Proofs.Ytihbalbcocfnfaa.P
open Go.RowKit Go.Proofs.YtihbalbcocfnfaaW.PrintWords Go.Proofs.YtihbalbcocfnfaaW.PrintLast
theorem eqc_loop (xs : List S64) (hl : xs.length ≤ 9223372036854775807) : ∀ (d i : Nat), xs.length - i = d → i ≤ xs.length → Ev (fun k => laws_eqChangeS.l0 k xs xs (i : Int)) true := by
  intro d
  induction d with
  | zero => intro i hd hi; exact Ev.step (fun k => by rw [laws_eqChangeS.l0]) (Ev_neg (by omega) (Ev.now _))
  | succ d ih =>
    intro i hd hi
    have hlt : i < xs.length := by omega
    refine Ev.step (fun k => by rw [laws_eqChangeS.l0]) (Ev_pos (by omega) (Ev_pos (by omega) (Ev_pos (by omega) ?_)))
    refine Ev_const (a := true) (by unfold laws_eqChange.f; rw [if_pos rfl, if_pos rfl, if_pos rfl, if_pos rfl]) (Ev_pos rfl ?_)
    rw [wsucc hlt hl]
    exact ih (i + 1) (by omega) (by omega)
theorem eqc_tells (xs : List S64) (hl : xs.length ≤ 9223372036854775807) : Ev (fun k => laws_eqChangeS.f k xs xs) true := by
  unfold laws_eqChangeS.f
  exact Ev_pos rfl (eqc_loop xs hl _ 0 rfl (by omega))
def mcs : Nat → Nat → List S64
  | _, 0 => []
  | n, d + 1 => ⟨(n : Int), ((n + 1 : Nat) : Int), ((n + 2 : Nat) : Int), ((n + 3 : Nat) : Int)⟩ :: mcs (n + 4) d
theorem mcs_length : ∀ (d n : Nat), (mcs n d).length = d
  | 0, _ => rfl
  | d + 1, n => by rw [mcs, List.length_cons, mcs_length d (n + 4)]
theorem setc {x : List S64} {i : Nat} (v : S64) (h : i < x.length) : rd_T64 (x.set i v) (i : Int) = v := by
  rw [rdc_nat (by rw [List.length_set]; exact h), List.getElem_set_self]
theorem markc_loop (L : Nat) (hL : L ≤ 1000000000) : ∀ (d i n : Nat) (x : List S64), L - i = d → i ≤ L → x.length = L → n + 4 * d ≤ 4611686018427387904 →
    Ev (fun k => laws_markChangeS.l0 k x (n : Int) (i : Int)) (((n + 4 * d : Nat) : Int), x.take i ++ mcs n d) := by
  intro d
  induction d with
  | zero =>
    intro i n x hd hi hx hn
    refine Ev.step (fun k => by rw [laws_markChangeS.l0]) (Ev_neg (by omega) (Ev_val ?_))
    rw [mcs, List.append_nil, List.take_of_length_le (by omega)]
    rfl
  | succ d ih =>
    intro i n x hd hi hx hn
    have hlt : i < x.length := by omega
    refine Ev.step (fun k => by rw [laws_markChangeS.l0]) (Ev_pos (by omega) (Ev_pos (by omega) ?_))
    rw [Int.toNat_natCast, wsucc' (i := n) (by omega), wsucc' (i := n + 1) (by omega), wsucc' (i := n + 1 + 1) (by omega), wsucc' (i := n + 1 + 1 + 1) (by omega), wsucc' (i := i) (by omega)]
    have hset : ∀ v, rd_T64 (x.set i v) (i : Int) = v := fun v => setc v hlt
    refine Ev_const rfl ?_
    simp only [hset, List.set_set]
    refine Ev_const rfl ?_
    simp only [hset, List.set_set]
    refine Ev_const rfl ?_
    simp only [hset, List.set_set]
    refine Ev_eq (ih (i + 1) (n + 1 + 1 + 1 + 1) _ (by omega) (by omega) (by rw [List.length_set]; exact hx) (by omega)) ?_
    rw [mcs, List.take_succ_eq_append_getElem (by rw [List.length_set]; omega), List.getElem_set_self, List.take_set_of_le (by omega), List.append_assoc, show n + 1 + 1 + 1 + 1 + 4 * d = n + 4 * (d + 1) by omega]
    rfl
theorem markc_tells (x : List S64) (n : Nat) (hx : x.length ≤ 1000000000) (hn : n ≤ 1000000000) : Ev (fun k => laws_markChangeS.f k x (n : Int)) (((n + 4 * x.length : Nat) : Int), mcs n x.length) := by
  unfold laws_markChangeS.f
  have h := markc_loop x.length hx _ 0 n x rfl (by omega) rfl (by omega)
  rw [List.take_zero, List.nil_append, Nat.sub_zero] at h
  exact h
theorem heldc_loop : ∀ (d n : Nat) (p : List S64), p.length + d ≤ 1000000000 → n + 4 * d ≤ 4611686018427387904 → Ev (fun k => laws_heldChangeS.l0 k (p ++ mcs n d) (n : Int) (p.length : Int)) ((n + 4 * d : Nat) : Int) := by
  intro d
  induction d with
  | zero =>
    intro n p hp hn
    refine Ev.step (fun k => by rw [laws_heldChangeS.l0]) ?_
    exact Ev_neg (by rw [mcs, List.append_nil]; omega) (Ev.now _)
  | succ d ih =>
    intro n p hp hn
    have hl : (p ++ mcs n (d + 1)).length = p.length + (d + 1) := by rw [List.length_append, mcs_length]
    refine Ev.step (fun k => by rw [laws_heldChangeS.l0]) (Ev_pos (by omega) (Ev_pos (by omega) ?_))
    have hg : rd_T64 (p ++ mcs n (d + 1)) (p.length : Int) = ⟨(n : Int), ((n + 1 : Nat) : Int), ((n + 2 : Nat) : Int), ((n + 3 : Nat) : Int)⟩ := by
      rw [rdc_nat (by omega), List.getElem_append_right (by omega)]
      simp [mcs]
    rw [hg, wsucc' (i := n) (by omega), wsucc' (i := n + 1) (by omega), wsucc' (i := n + 1 + 1) (by omega), wsucc' (i := n + 1 + 1 + 1) (by omega), wsucc' (i := p.length) (by omega)]
    refine Ev_pos rfl (Ev_pos rfl (Ev_pos rfl (Ev_pos rfl ?_)))
    have h := ih (n + 4) (p ++ [⟨(n : Int), ((n + 1 : Nat) : Int), ((n + 2 : Nat) : Int), ((n + 3 : Nat) : Int)⟩]) (by simp; omega) (by omega)
    rw [List.append_assoc, List.length_append, List.length_singleton] at h
    rw [show n + 4 * (d + 1) = n + 4 + 4 * d by omega, mcs]
    exact h
theorem heldc_tells (n d : Nat) (hd : d ≤ 1000000000) (hn : n ≤ 1000000000) : Ev (fun k => laws_heldChangeS.f k (mcs n d) (n : Int)) ((n + 4 * d : Nat) : Int) := by
  unfold laws_heldChangeS.f
  exact heldc_loop d n [] (by simp; exact hd) (by omega)
theorem eqcr_tells (c : Int) (x : List S64) (hx : x.length ≤ 1000000000) : Ev (fun k => laws_eqChangesResult.f k c x c x) true := by
  unfold laws_eqChangesResult.f
  exact Ev_pos rfl (Ev_call (eqc_tells x (by omega)) (Ev_pos rfl (Ev.now _)))
end Go.Proofs.Ytihbalbcocfnfaa.P
end
section
set_option linter.unusedVariables false
set_option linter.unusedSimpArgs false
namespace Go.Proofs.Ytihbalbcocfnfaa.P
section
variable {α : Type} [DecidableEq α]
def lcs : List α → List α → Nat
  | [], _ => 0
  | _ :: _, [] => 0
  | x :: a, y :: b => if x = y then lcs a b + 1 else max (lcs a (y :: b)) (lcs (x :: a) b)
termination_by a b => a.length + b.length
theorem lcs_nil (b : List α) : lcs [] b = 0 := by rw [lcs]
theorem lcs_nil' (a : List α) : lcs a [] = 0 := by cases a <;> rw [lcs]
theorem lcs_cons (x y : α) (a b : List α) : lcs (x :: a) (y :: b) = if x = y then lcs a b + 1 else max (lcs a (y :: b)) (lcs (x :: a) b) := by rw [lcs]
theorem lcs_both : ∀ (n : Nat) (a b : List α), a.length + b.length = n → (∀ x, lcs a b ≤ lcs (x :: a) b) ∧ (∀ y, lcs a (y :: b) ≤ lcs a b + 1) := by
  intro n
  induction n using Nat.strongRecOn with
  | _ n ih =>
    intro a b hn
    constructor
    · intro x
      cases b with
      | nil => rw [lcs_nil', lcs_nil']; exact Nat.le_refl _
      | cons y b =>
        rw [lcs_cons]
        split
        · exact (ih (a.length + b.length) (by simp at hn; omega) a b rfl).2 y
        · exact Nat.le_max_left _ _
    · intro y
      cases a with
      | nil => rw [lcs_nil, lcs_nil]; omega
      | cons x a =>
        have h := ih (a.length + b.length) (by simp at hn; omega) a b rfl
        have h1 := h.1 x
        have h2 := h.2 y
        rw [lcs_cons]
        split <;> omega
theorem lcs_step (y : α) (a b : List α) : lcs a (y :: b) ≤ lcs a b + 1 := (lcs_both _ a b rfl).2 y
theorem lcs_comm : ∀ (n : Nat) (a b : List α), a.length + b.length = n → lcs a b = lcs b a := by
  intro n
  induction n using Nat.strongRecOn with
  | _ n ih =>
    intro a b hn
    cases a with
    | nil => rw [lcs_nil, lcs_nil']
    | cons x a =>
      cases b with
      | nil => rw [lcs_nil, lcs_nil']
      | cons y b =>
        simp only [List.length_cons] at hn
        have h0 := ih (a.length + b.length) (by omega) a b rfl
        have h1 := ih (a.length + (b.length + 1)) (by omega) a (y :: b) rfl
        have h2 := ih (a.length + 1 + b.length) (by omega) (x :: a) b rfl
        rw [lcs_cons, lcs_cons]
        by_cases h : x = y
        · rw [if_pos h, if_pos h.symm, h0]
        · rw [if_neg h, if_neg (fun e => h e.symm), h1, h2]
          exact Nat.max_comm _ _
theorem lcs_symm (a b : List α) : lcs a b = lcs b a := lcs_comm _ a b rfl
theorem lcs_step' (x : α) (a b : List α) : lcs (x :: a) b ≤ lcs a b + 1 := by rw [lcs_symm (x :: a) b, lcs_symm a b]; exact lcs_step x b a
theorem lcs_le : ∀ (a b : List α), lcs a b ≤ a.length := by
  intro a b
  induction a with
  | nil => rw [lcs_nil]; exact Nat.le_refl _
  | cons x a ih =>
    have := lcs_step' x a b
    simp only [List.length_cons]
    omega
theorem lcs_at {a b : List α} {i j : Nat} (hi : i < a.length) (hj : j < b.length) :
    lcs (a.drop i) (b.drop j) = if a[i] = b[j] then lcs (a.drop (i + 1)) (b.drop (j + 1)) + 1 else max (lcs (a.drop (i + 1)) (b.drop j)) (lcs (a.drop i) (b.drop (j + 1))) := by
  rw [drop_at hi, drop_at hj, lcs_cons]
theorem lcs_at3 {a b : List α} {i j : Nat} (hi : i < a.length) (hj : j < b.length) (h : a[i] = b[j]) :
    lcs (a.drop i) (b.drop j) = max (max (lcs (a.drop (i + 1)) (b.drop j)) (lcs (a.drop i) (b.drop (j + 1)))) (lcs (a.drop (i + 1)) (b.drop (j + 1)) + 1) := by
  have e := lcs_at hi hj
  rw [if_pos h] at e
  have h1 : lcs (a.drop (i + 1)) (b.drop j) ≤ lcs (a.drop (i + 1)) (b.drop (j + 1)) + 1 := by
    rw [drop_at hj]
    exact lcs_step _ _ _
  have h2 : lcs (a.drop i) (b.drop (j + 1)) ≤ lcs (a.drop (i + 1)) (b.drop (j + 1)) + 1 := by
    rw [drop_at hi]
    exact lcs_step' _ _ _
  omega
end
theorem getD_set {β : Type} {l : List β} {i r : Nat} {x d : β} (h : i < l.length) : (l.set i x).getD r d = if r = i then x else l.getD r d := by
  rw [List.getD_eq_getElem?_getD, List.getD_eq_getElem?_getD, List.getElem?_set]
  by_cases e : i = r
  · subst e
    simp [h]
  · rw [if_neg e, if_neg (fun z => e z.symm)]
structure TabInv {α : Type} [DecidableEq α] (a b : List α) (t : List (List Int)) (i j : Nat) : Prop where
  len : t.length = a.length + 1
  rows : ∀ r, r ≤ a.length → (t.getD r []).length = b.length + 1
  val : ∀ r c, r ≤ a.length → c ≤ b.length → (i ≤ r ∨ (r + 1 = i ∧ j ≤ c) ∨ c = b.length ∨ r = a.length) → (t.getD r []).getD c 0 = (lcs (a.drop r) (b.drop c) : Int)
theorem TabInv.start {α : Type} [DecidableEq α] (a b : List α) : TabInv a b (List.replicate (a.length + 1) (List.replicate (b.length + 1) 0)) (a.length) (b.length) := by
  have hg : ∀ r, r ≤ a.length → (List.replicate (a.length + 1) (List.replicate (b.length + 1) (0 : Int))).getD r [] = List.replicate (b.length + 1) 0 := fun r hr => by
    rw [List.getD_eq_getElem?_getD, List.getElem?_replicate, if_pos (by omega)]
    rfl
  refine ⟨by simp, fun r hr => by rw [hg r hr]; simp, fun r c hr hc h => ?_⟩
  rw [hg r hr, List.getD_eq_getElem?_getD, List.getElem?_replicate, if_pos (by omega), Option.getD_some]
  have : lcs (a.drop r) (b.drop c) = 0 := by
    have hcase : c = b.length ∨ r = a.length := by omega
    rcases hcase with e | e
    · rw [List.drop_eq_nil_of_le (show b.length ≤ c by omega), lcs_nil']
    · rw [List.drop_eq_nil_of_le (show a.length ≤ r by omega), lcs_nil]
  rw [this]
  rfl
theorem TabInv.put {α : Type} [DecidableEq α] {a b : List α} {t : List (List Int)} {i j : Nat} (h : TabInv a b t (i + 1) (j + 1)) (hi : i < a.length) (hj : j < b.length) {v : Int} (hv : v = (lcs (a.drop i) (b.drop j) : Int)) :
    TabInv a b (t.set i ((t.getD i []).set j v)) (i + 1) j := by
  have hl := h.len
  have hr0 := h.rows i (by omega)
  refine ⟨by rw [List.length_set]; exact hl, fun r hr => ?_, fun r c hr hc hcase => ?_⟩
  · rw [getD_set (by omega)]
    split
    · rw [List.length_set]; exact hr0
    · exact h.rows r hr
  · rw [getD_set (by omega)]
    by_cases e : r = i
    · subst e
      rw [if_pos rfl, getD_set (by omega)]
      by_cases e2 : c = j
      · subst e2
        rw [if_pos rfl, hv]
      · rw [if_neg e2]
        exact h.val r c hr hc (by omega)
    · rw [if_neg e]
      exact h.val r c hr hc (by omega)
theorem TabInv.next {α : Type} [DecidableEq α] {a b : List α} {t : List (List Int)} {i : Nat} (h : TabInv a b t (i + 1) 0) : TabInv a b t i b.length :=
  ⟨h.len, h.rows, fun r c hr hc hcase => h.val r c hr hc (by omega)⟩
theorem TabInv.all {α : Type} [DecidableEq α] {a b : List α} {t : List (List Int)} {j : Nat} (h : TabInv a b t 0 j) {r c : Nat} (hr : r ≤ a.length) (hc : c ≤ b.length) : (t.getD r []).getD c 0 = (lcs (a.drop r) (b.drop c) : Int) := h.val r c hr hc (.inl (by omega))
end Go.Proofs.Ytihbalbcocfnfaa.P
end
section
set_option linter.unusedVariables false
set_option linter.unusedSimpArgs false
namespace Go.Proofs.Ytihbalbcocfnfaa.P
open Go.RowKit Go.Proofs.YtihbalbcocfnfaaW.PrintWords Go.Proofs.YtihbalbcocfnfaaW.PrintLast
theorem rdl_nat (t : List (List Int)) (i : Nat) : rd_L4 t (i : Int) = t.getD i [] := by
  unfold rd_L4
  rw [Int.toNat_natCast]
theorem rd_getD (t : List Int) (i : Nat) : rd t (i : Int) = t.getD i 0 := by
  unfold rd
  rw [Int.toNat_natCast]
theorem max_tells (x y : Int) : spec_l1Max.f x y = some (max x y) := by
  unfold spec_l1Max.f
  split
  · rw [Int.max_def, if_neg (by omega)]
  · rw [Int.max_def, if_pos (by omega)]
theorem mx_max (x y : Int) : mx x y = max x y := by
  unfold mx
  split
  · rw [Int.max_def, if_pos (by omega)]
  · rw [Int.max_def]
    split <;> omega
theorem stab2 (a b : List ByteArray) (ha : a.length ≤ 1000000) (hb : b.length ≤ 1000000) (i : Nat) (hi : i < a.length) (K : List (List Int) → Prop)
    (hK : ∀ t, TabInv a b t (i + 1) 0 → ∃ t', K t' ∧ Ev (fun k => spec_l2Table.l1 k a b t (wrap64 ((i : Int) - 1))) t') : ∀ (j : Nat) (t : List (List Int)), j ≤ b.length → TabInv a b t (i + 1) j →
    ∃ t', K t' ∧ Ev (fun k => spec_l2Table.l2 k a b t (i : Int) ((j : Int) - 1)) t' := by
  intro j
  induction j with
  | zero =>
    intro t hj ht
    obtain ⟨t', h1, h2⟩ := hK t ht
    exact ⟨t', h1, Ev.step (fun k => by rw [spec_l2Table.l2]) (Ev_neg (by omega) h2)⟩
  | succ j ih =>
    intro t hj ht
    have hl := ht.len
    have hri := ht.rows i (by omega)
    have hri1 := ht.rows (i + 1) (by omega)
    have e1 := ht.val (i + 1) j (by omega) (by omega) (.inl (by omega))
    have e2 := ht.val i (j + 1) (by omega) (by omega) (by omega)
    have e3 := ht.val (i + 1) (j + 1) (by omega) (by omega) (.inl (by omega))
    have hat := lcs_at (a := a) (b := b) hi (show j < b.length by omega)
    have hb1 := lcs_le (a.drop i) (b.drop j)
    have hb3 := lcs_le (a.drop (i + 1)) (b.drop (j + 1))
    rw [List.length_drop] at hb1 hb3
    obtain ⟨t', h1, h2⟩ := ih (t.set i ((t.getD i []).set j ((lcs (a.drop i) (b.drop j) : Nat) : Int))) (by omega) (ht.put hi (by omega) rfl)
    refine ⟨t', h1, Ev.step (fun k => by rw [spec_l2Table.l2]) ?_⟩
    rw [wsucc' (i := i) (by omega), rdl_nat, rdl_nat, show ((((j + 1 : Nat) : Int)) - 1) = (j : Int) by omega, wsucc' (i := j) (by omega), rd_getD, rd_getD, rd_getD, rd_nat _ hi, rd_nat _ (show j < b.length by omega), e1, e2, e3, Int.toNat_natCast, Int.toNat_natCast]
    refine Ev_pos (by omega) (Ev_pos (by omega) (Ev_pos (by omega) (Ev_pos (by omega) (Ev_pos (by omega) (Ev_pos (by omega) (Ev_pos (by omega) (Ev_pos (by omega) (Ev_pos (by omega) (Ev_const (max_tells _ _) (Ev_pos (by omega) (Ev_pos (by omega) ?_)))))))))))
    refine Ev_if (fun h => ?_) (fun h => ?_)
    · have hx := data_eq.1 h
      have h3 := lcs_at3 (a := a) (b := b) hi (show j < b.length by omega) hx
      rw [wid (by omega) (by omega)]
      refine Ev_pos (by omega) (Ev_const (max_tells _ _) (Ev_pos (by omega) ?_))
      rw [show max (max ((lcs (a.drop (i + 1)) (b.drop j) : Nat) : Int) ((lcs (a.drop i) (b.drop (j + 1)) : Nat) : Int)) (1 + ((lcs (a.drop (i + 1)) (b.drop (j + 1)) : Nat) : Int)) = ((lcs (a.drop i) (b.drop j) : Nat) : Int) by omega, wid (by omega) (by omega)]
      exact h2
    · have hx : ¬ a[i] = b[j] := fun e => h (data_eq.2 e)
      rw [if_neg hx] at hat
      refine Ev_pos (by omega) ?_
      rw [show max ((lcs (a.drop (i + 1)) (b.drop j) : Nat) : Int) ((lcs (a.drop i) (b.drop (j + 1)) : Nat) : Int) = ((lcs (a.drop i) (b.drop j) : Nat) : Int) by omega, wid (by omega) (by omega)]
      exact h2
theorem stab1 (a b : List ByteArray) (ha : a.length ≤ 1000000) (hb : b.length ≤ 1000000) : ∀ (i : Nat) (t : List (List Int)), i ≤ a.length → TabInv a b t i b.length → ∃ t', TabInv a b t' 0 b.length ∧ Ev (fun k => spec_l2Table.l1 k a b t ((i : Int) - 1)) t' := by
  intro i
  induction i with
  | zero =>
    intro t hi ht
    exact ⟨t, ht, Ev.step (fun k => by rw [spec_l2Table.l1]) (Ev_neg (by omega) (Ev.now _))⟩
  | succ i ih =>
    intro t hi ht
    obtain ⟨t', h1, h2⟩ := stab2 a b ha hb i (by omega) (fun t' => TabInv a b t' 0 b.length) (fun t ht => by
      obtain ⟨t', h1, h2⟩ := ih t (by omega) ht.next
      exact ⟨t', h1, by rw [wid (by omega) (by omega)]; exact h2⟩) b.length t (Nat.le_refl _) ht
    refine ⟨t', h1, Ev.step (fun k => by rw [spec_l2Table.l1]) (Ev_pos (by omega) ?_)⟩
    rw [wid (x := (b.length : Int) - 1) (by omega) (by omega), show (((i + 1 : Nat) : Int) - 1) = (i : Int) by omega]
    exact h2
theorem stab0 (a b : List ByteArray) (ha : a.length ≤ 1000000) (hb : b.length ≤ 1000000) (t' : List (List Int)) (h : Ev (fun k => spec_l2Table.l1 k a b (List.replicate (a.length + 1) (List.replicate (b.length + 1) 0)) ((a.length : Int) - 1)) t') :
    ∀ (d i : Nat), a.length + 1 - i = d → i ≤ a.length + 1 → Ev (fun k => spec_l2Table.l0 k a b (List.replicate i (List.replicate (b.length + 1) 0)) (i : Int)) t' := by
  intro d
  induction d with
  | zero =>
    intro i hd hi
    have : i = a.length + 1 := by omega
    subst this
    refine Ev.step (fun k => by rw [spec_l2Table.l0]) (Ev_neg (by omega) ?_)
    rw [wid (by omega) (by omega)]
    exact h
  | succ d ih =>
    intro i hd hi
    refine Ev.step (fun k => by rw [spec_l2Table.l0]) (Ev_pos (by omega) ?_)
    rw [wsucc' (i := b.length) (by omega), wsucc' (i := i) (by omega), Int.toNat_natCast]
    refine Ev_pos (by omega) (Ev_pos (by omega) (Ev_pos (by rw [List.length_replicate]; omega) ?_))
    rw [← List.replicate_succ']
    exact ih (i + 1) (by omega) (by omega)
theorem stab_tells (a b : List ByteArray) (ha : a.length ≤ 1000000) (hb : b.length ≤ 1000000) : ∃ t, TabInv a b t 0 b.length ∧ Ev (fun k => spec_l2Table.f k a b) t := by
  obtain ⟨t, h1, h2⟩ := stab1 a b ha hb a.length _ (Nat.le_refl _) (TabInv.start a b)
  refine ⟨t, h1, ?_⟩
  unfold spec_l2Table.f
  exact stab0 a b ha hb t h2 _ 0 rfl (by omega)
theorem itab2 (a b : List ByteArray) (ha : a.length ≤ 1000000) (hb : b.length ≤ 1000000) (i : Nat) (hi : i < a.length) (K : List (List Int) → Prop)
    (hK : ∀ t, TabInv a b t (i + 1) 0 → ∃ t', K t' ∧ Ev (fun k => impl_commons.l1 k a b t (wrap64 ((i : Int) - 1))) t') : ∀ (j : Nat) (t : List (List Int)), j ≤ b.length → TabInv a b t (i + 1) j →
    ∃ t', K t' ∧ Ev (fun k => impl_commons.l2 k a b t (i : Int) ((j : Int) - 1)) t' := by
  intro j
  induction j with
  | zero =>
    intro t hj ht
    obtain ⟨t', h1, h2⟩ := hK t ht
    exact ⟨t', h1, Ev.step (fun k => by rw [impl_commons.l2]) (Ev_neg (by omega) h2)⟩
  | succ j ih =>
    intro t hj ht
    have hl := ht.len
    have hri := ht.rows i (by omega)
    have hri1 := ht.rows (i + 1) (by omega)
    have e1 := ht.val (i + 1) j (by omega) (by omega) (.inl (by omega))
    have e2 := ht.val i (j + 1) (by omega) (by omega) (by omega)
    have e3 := ht.val (i + 1) (j + 1) (by omega) (by omega) (.inl (by omega))
    have hat := lcs_at (a := a) (b := b) hi (show j < b.length by omega)
    have hb1 := lcs_le (a.drop i) (b.drop j)
    have hb3 := lcs_le (a.drop (i + 1)) (b.drop (j + 1))
    rw [List.length_drop] at hb1 hb3
    obtain ⟨t', h1, h2⟩ := ih (t.set i ((t.getD i []).set j ((lcs (a.drop i) (b.drop j) : Nat) : Int))) (by omega) (ht.put hi (by omega) rfl)
    refine ⟨t', h1, Ev.step (fun k => by rw [impl_commons.l2]) ?_⟩
    rw [wsucc' (i := i) (by omega), rdl_nat, rdl_nat, show ((((j + 1 : Nat) : Int)) - 1) = (j : Int) by omega, wsucc' (i := j) (by omega), rd_getD, rd_getD, e1, e2, Int.toNat_natCast, Int.toNat_natCast, mx_max]
    refine Ev_pos (by omega) (Ev_pos (by omega) (Ev_pos (by omega) (Ev_pos (by omega) (Ev_pos (by omega) (Ev_pos (by omega) (Ev_pos (by omega) (Ev_pos (by omega) (Ev_pos (by omega) (Ev_pos (by omega) ?_)))))))))
    refine Ev_const rfl ?_
    rw [rd_nat _ hi, rd_nat _ (show j < b.length by omega), rdl_nat, rdl_nat, getD_set (by omega), getD_set (by omega), if_neg (by omega), if_pos rfl, rd_getD, e3]
    refine Ev_pos (by omega) (Ev_pos (by omega) ?_)
    refine Ev_if (fun h => ?_) (fun h => ?_)
    · have hx := data_eq.1 h
      rw [if_pos hx] at hat
      refine Ev_pos (by omega) (Ev_pos (by rw [List.length_set]; omega) ?_)
      rw [wid (by omega) (by omega), wid (by omega) (by omega), List.set_set, List.set_set, show ((lcs (a.drop (i + 1)) (b.drop (j + 1)) : Nat) : Int) + 1 = ((lcs (a.drop i) (b.drop j) : Nat) : Int) by omega]
      exact h2
    · have hx : ¬ a[i] = b[j] := fun e => h (data_eq.2 e)
      rw [if_neg hx] at hat
      rw [show max ((lcs (a.drop (i + 1)) (b.drop j) : Nat) : Int) ((lcs (a.drop i) (b.drop (j + 1)) : Nat) : Int) = ((lcs (a.drop i) (b.drop j) : Nat) : Int) by omega, wid (by omega) (by omega)]
      exact h2
theorem itab1 (a b : List ByteArray) (ha : a.length ≤ 1000000) (hb : b.length ≤ 1000000) : ∀ (i : Nat) (t : List (List Int)), i ≤ a.length → TabInv a b t i b.length → ∃ t', TabInv a b t' 0 b.length ∧ Ev (fun k => impl_commons.l1 k a b t ((i : Int) - 1)) t' := by
  intro i
  induction i with
  | zero =>
    intro t hi ht
    exact ⟨t, ht, Ev.step (fun k => by rw [impl_commons.l1]) (Ev_neg (by omega) (Ev.now _))⟩
  | succ i ih =>
    intro t hi ht
    obtain ⟨t', h1, h2⟩ := itab2 a b ha hb i (by omega) (fun t' => TabInv a b t' 0 b.length) (fun t ht => by
      obtain ⟨t', h1, h2⟩ := ih t (by omega) ht.next
      exact ⟨t', h1, by rw [wid (by omega) (by omega)]; exact h2⟩) b.length t (Nat.le_refl _) ht
    refine ⟨t', h1, Ev.step (fun k => by rw [impl_commons.l1]) (Ev_pos (by omega) ?_)⟩
    rw [wid (x := (b.length : Int) - 1) (by omega) (by omega), show (((i + 1 : Nat) : Int) - 1) = (i : Int) by omega]
    exact h2
theorem set_rep {β : Type} (z y : β) (i d : Nat) : (List.replicate i z ++ List.replicate (d + 1) y).set i z = List.replicate (i + 1) z ++ List.replicate d y := by
  rw [List.set_append_right _ _ (by simp), List.length_replicate, Nat.sub_self, List.replicate_succ (n := d), List.set_cons_zero, List.replicate_succ', List.append_assoc]
  rfl
theorem itab0 (a b : List ByteArray) (ha : a.length ≤ 1000000) (hb : b.length ≤ 1000000) (t' : List (List Int)) (h : Ev (fun k => impl_commons.l1 k a b (List.replicate (a.length + 1) (List.replicate (b.length + 1) 0)) ((a.length : Int) - 1)) t') :
    ∀ (d i : Nat), a.length + 1 - i = d → i ≤ a.length + 1 → Ev (fun k => impl_commons.l0 k a b (List.replicate i (List.replicate (b.length + 1) 0) ++ List.replicate d []) ((a.length + 1 : Nat) : Int) (i : Int)) t' := by
  intro d
  induction d with
  | zero =>
    intro i hd hi
    have : i = a.length + 1 := by omega
    subst this
    refine Ev.step (fun k => by rw [impl_commons.l0]) (Ev_neg (by omega) ?_)
    rw [wid (by omega) (by omega), List.replicate_zero, List.append_nil]
    exact h
  | succ d ih =>
    intro i hd hi
    refine Ev.step (fun k => by rw [impl_commons.l0]) (Ev_pos (by omega) ?_)
    rw [wsucc' (i := b.length) (by omega), wsucc' (i := i) (by omega), Int.toNat_natCast, Int.toNat_natCast]
    refine Ev_pos (by omega) (Ev_pos (by omega) (Ev_pos (by omega) (Ev_pos (by simp; omega) ?_)))
    rw [set_rep]
    exact ih (i + 1) (by omega) (by omega)
theorem itab_tells (a b : List ByteArray) (ha : a.length ≤ 1000000) (hb : b.length ≤ 1000000) : ∃ t, TabInv a b t 0 b.length ∧ Ev (fun k => impl_commons.f k a b) t := by
  obtain ⟨t, h1, h2⟩ := itab1 a b ha hb a.length _ (Nat.le_refl _) (TabInv.start a b)
  refine ⟨t, h1, ?_⟩
  unfold impl_commons.f
  rw [wsucc' (i := a.length) (by omega), Int.toNat_natCast]
  refine Ev_pos (by omega) (Ev_pos (by omega) (Ev_const rfl ?_))
  rw [List.length_replicate]
  have h := itab0 a b ha hb t h2 _ 0 rfl (by omega)
  rw [List.replicate_zero, List.nil_append, Nat.sub_zero] at h
  exact h
end Go.Proofs.Ytihbalbcocfnfaa.P
end
section
set_option linter.unusedVariables false
set_option linter.unusedSimpArgs false
namespace Go.Proofs.Ytihbalbcocfnfaa.P
open Go.RowKit Go.Proofs.YtihbalbcocfnfaaW.PrintWords Go.Proofs.YtihbalbcocfnfaaW.PrintLast
def mt : List ByteArray → List ByteArray → Nat → Nat → List Int × List Int
  | [], _, _, _ => ([], [])
  | _ :: _, [], _, _ => ([], [])
  | x :: a, y :: b, i, j => if x = y then ((i : Int) :: (mt a b (i + 1) (j + 1)).1, (j : Int) :: (mt a b (i + 1) (j + 1)).2) else if lcs (x :: a) b ≤ lcs a (y :: b) then mt a (y :: b) (i + 1) j else mt (x :: a) b i (j + 1)
termination_by a b => a.length + b.length
theorem mt_nil (b : List ByteArray) (i j : Nat) : mt [] b i j = ([], []) := by rw [mt]
theorem mt_nil' (a : List ByteArray) (i j : Nat) : mt a [] i j = ([], []) := by cases a <;> rw [mt]
theorem mt_eq {a b : List ByteArray} {i j : Nat} (hi : i < a.length) (hj : j < b.length) (h : a[i] = b[j]) (p q : Nat) :
    mt (a.drop i) (b.drop j) p q = ((p : Int) :: (mt (a.drop (i + 1)) (b.drop (j + 1)) (p + 1) (q + 1)).1, (q : Int) :: (mt (a.drop (i + 1)) (b.drop (j + 1)) (p + 1) (q + 1)).2) := by
  rw [drop_at hi, drop_at hj, mt, if_pos h]
theorem mt_a {a b : List ByteArray} {i j : Nat} (hi : i < a.length) (hj : j < b.length) (h : ¬ a[i] = b[j]) (h2 : lcs (a.drop i) (b.drop (j + 1)) ≤ lcs (a.drop (i + 1)) (b.drop j)) (p q : Nat) :
    mt (a.drop i) (b.drop j) p q = mt (a.drop (i + 1)) (b.drop j) (p + 1) q := by
  rw [drop_at hi, drop_at hj] at *
  rw [mt, if_neg h, if_pos h2]
theorem mt_b {a b : List ByteArray} {i j : Nat} (hi : i < a.length) (hj : j < b.length) (h : ¬ a[i] = b[j]) (h2 : ¬ lcs (a.drop i) (b.drop (j + 1)) ≤ lcs (a.drop (i + 1)) (b.drop j)) (p q : Nat) :
    mt (a.drop i) (b.drop j) p q = mt (a.drop i) (b.drop (j + 1)) p (q + 1) := by
  rw [drop_at hi, drop_at hj] at *
  rw [mt, if_neg h, if_neg h2]
def Inc (A B : Int) : List Int → List Int → Int → Int → Prop
  | [], [], i, j => i ≤ A ∧ j ≤ B
  | u :: us, v :: vs, i, j => i ≤ u ∧ j ≤ v ∧ Inc A B us vs (u + 1) (v + 1)
  | [], _ :: _, _, _ => False
  | _ :: _, [], _, _ => False
theorem mt_inc : ∀ (n : Nat) (a b : List ByteArray) (i j : Nat) (i' j' : Int), a.length + b.length = n → i' ≤ i → j' ≤ j → Inc ((i + a.length : Nat) : Int) ((j + b.length : Nat) : Int) (mt a b i j).1 (mt a b i j).2 i' j' := by
  intro n
  induction n using Nat.strongRecOn with
  | _ n ih =>
    intro a b i j i' j' hn hi hj
    cases a with
    | nil =>
      rw [mt_nil]
      exact ⟨by simp only [List.length_nil]; omega, by omega⟩
    | cons x a =>
      cases b with
      | nil =>
        rw [mt_nil']
        exact ⟨by omega, by simp only [List.length_nil]; omega⟩
      | cons y b =>
        simp only [List.length_cons] at hn ⊢
        rw [mt]
        split
        · have := ih _ (by omega) a b (i + 1) (j + 1) ((i : Int) + 1) ((j : Int) + 1) rfl (by omega) (by omega)
          rw [show i + (a.length + 1) = i + 1 + a.length by omega, show j + (b.length + 1) = j + 1 + b.length by omega]
          exact ⟨hi, hj, this⟩
        · split
          · have := ih _ (by simp only [List.length_cons]; omega) a (y :: b) (i + 1) j i' j' rfl (by omega) (by omega)
            rw [show i + (a.length + 1) = i + 1 + a.length by omega]
            exact this
          · have := ih _ (by simp only [List.length_cons]; omega) (x :: a) b i (j + 1) i' j' rfl (by omega) (by omega)
            rw [show j + (b.length + 1) = j + 1 + b.length by omega]
            exact this
theorem mt_len : ∀ (n : Nat) (a b : List ByteArray) (i j : Nat), a.length + b.length = n → (mt a b i j).1.length = lcs a b ∧ (mt a b i j).2.length = lcs a b := by
  intro n
  induction n using Nat.strongRecOn with
  | _ n ih =>
    intro a b i j hn
    cases a with
    | nil => rw [mt_nil, lcs_nil]; exact ⟨rfl, rfl⟩
    | cons x a =>
      cases b with
      | nil => rw [mt_nil', lcs_nil']; exact ⟨rfl, rfl⟩
      | cons y b =>
        simp only [List.length_cons] at hn
        rw [mt, lcs_cons]
        split
        · have := ih _ (by omega) a b (i + 1) (j + 1) rfl
          exact ⟨by rw [List.length_cons, this.1], by rw [List.length_cons, this.2]⟩
        · split
          · rename_i h1 h2
            have := ih _ (by simp only [List.length_cons]; omega) a (y :: b) (i + 1) j rfl
            rw [Nat.max_eq_left h2]
            exact this
          · rename_i h1 h2
            have := ih _ (by simp only [List.length_cons]; omega) (x :: a) b i (j + 1) rfl
            rw [Nat.max_eq_right (by omega)]
            exact this
theorem spec_l2Match_loop (a b : List ByteArray) (ha : a.length ≤ 1000000) (hb : b.length ≤ 1000000) (t : List (List Int)) (ht : TabInv a b t 0 b.length) : ∀ (n i j : Nat) (x y : List Int), (a.length - i) + (b.length - j) = n → i ≤ a.length → j ≤ b.length → x.length ≤ i → y.length ≤ j →
    Ev (fun k => spec_l2Match.l0 k a b t x y (i : Int) (j : Int)) (x ++ (mt (a.drop i) (b.drop j) i j).1, y ++ (mt (a.drop i) (b.drop j) i j).2) := by
  intro n
  induction n using Nat.strongRecOn with
  | _ n ih =>
    intro i j x y hn hi hj hx hy
    by_cases h : i < a.length ∧ j < b.length
    · obtain ⟨h1, h2⟩ := h
      have hl := ht.len
      have r0 := ht.rows i (by omega)
      have r1 := ht.rows (i + 1) (by omega)
      have v1 := ht.all (r := i + 1) (c := j) (by omega) (by omega)
      have v2 := ht.all (r := i) (c := j + 1) (by omega) (by omega)
      refine Ev.step (fun k => by rw [spec_l2Match.l0]) (Ev_pos (by omega) ?_)
      rw [show (decide ((j : Int) < (b.length : Int))) = true from decide_eq_true (by omega)]
      refine Ev.step (fun k => by rw [spec_l2Match.j1]) (Ev_pos rfl (Ev_pos (by omega) (Ev_pos (by omega) (Ev_pos (by omega) (Ev_pos (by omega) ?_)))))
      rw [rd_nat _ h1, rd_nat _ h2, wsucc' (i := i) (by omega), wsucc' (i := j) (by omega), rdl_nat, rdl_nat, rd_getD, rd_getD, v1, v2]
      refine Ev_if (fun h => ?_) (fun h => ?_)
      · rw [mt_eq h1 h2 (data_eq.1 h)]
        refine Ev_pos (by omega) (Ev_pos (by omega) ?_)
        have e := ih _ (by omega) (i + 1) (j + 1) (x ++ [(i : Int)]) (y ++ [(j : Int)]) rfl (by omega) (by omega) (by simp; omega) (by simp; omega)
        rw [List.append_assoc, List.append_assoc] at e
        exact e
      · have hne : ¬ a[i] = b[j] := fun e => h (data_eq.2 e)
        refine Ev_pos (by omega) (Ev_pos (by omega) (Ev_pos (by omega) (Ev_pos (by omega) (Ev_pos (by omega) (Ev_pos (by omega) ?_)))))
        refine Ev_if (fun h3 => ?_) (fun h3 => ?_)
        · rw [mt_a h1 h2 hne (by omega)]
          exact ih _ (by omega) (i + 1) j x y rfl (by omega) (by omega) (by omega) (by omega)
        · rw [mt_b h1 h2 hne (by omega)]
          exact ih _ (by omega) i (j + 1) x y rfl (by omega) (by omega) (by omega) (by omega)
    · have hm : mt (a.drop i) (b.drop j) i j = ([], []) := by
        by_cases h1 : i < a.length
        · rw [List.drop_eq_nil_of_le (show b.length ≤ j by omega), mt_nil']
        · rw [List.drop_eq_nil_of_le (show a.length ≤ i by omega), mt_nil]
      rw [hm, List.append_nil, List.append_nil]
      have e : Ev (fun k => spec_l2Match.j1 k a b t x y (i : Int) (j : Int) false) (x, y) := Ev.step (fun k => by rw [spec_l2Match.j1]) (Ev_neg (by simp) (Ev.now _))
      refine Ev.step (fun k => by rw [spec_l2Match.l0]) (Ev_if (fun h1 => ?_) (fun h1 => e))
      rw [show (decide ((j : Int) < (b.length : Int))) = false from decide_eq_false (by omega)]
      exact e
theorem spec_l2Match_tells (a b : List ByteArray) (ha : a.length ≤ 1000000) (hb : b.length ≤ 1000000) : Ev (fun k => spec_l2Match.f k a b) (mt a b 0 0) := by
  obtain ⟨t, h1, h2⟩ := stab_tells a b ha hb
  unfold spec_l2Match.f
  refine Ev_call h2 ?_
  have e := spec_l2Match_loop a b ha hb t h1 _ 0 0 [] [] rfl (by omega) (by omega) (by simp) (by simp)
  rw [List.drop_zero, List.drop_zero, List.nil_append, List.nil_append] at e
  exact e
theorem impl_match_loop (a b : List ByteArray) (ha : a.length ≤ 1000000) (hb : b.length ≤ 1000000) (t : List (List Int)) (ht : TabInv a b t 0 b.length) : ∀ (n i j : Nat) (x y : List Int), (a.length - i) + (b.length - j) = n → i ≤ a.length → j ≤ b.length → x.length ≤ i → y.length ≤ j →
    Ev (fun k => impl_match.l0 k a b t x y (i : Int) (j : Int)) (x ++ (mt (a.drop i) (b.drop j) i j).1, y ++ (mt (a.drop i) (b.drop j) i j).2) := by
  intro n
  induction n using Nat.strongRecOn with
  | _ n ih =>
    intro i j x y hn hi hj hx hy
    by_cases h : i < a.length ∧ j < b.length
    · obtain ⟨h1, h2⟩ := h
      have hl := ht.len
      have r0 := ht.rows i (by omega)
      have r1 := ht.rows (i + 1) (by omega)
      have v1 := ht.all (r := i + 1) (c := j) (by omega) (by omega)
      have v2 := ht.all (r := i) (c := j + 1) (by omega) (by omega)
      refine Ev.step (fun k => by rw [impl_match.l0]) (Ev_pos (by omega) ?_)
      rw [show (decide ((j : Int) < (b.length : Int))) = true from decide_eq_true (by omega)]
      refine Ev.step (fun k => by rw [impl_match.j1]) (Ev_pos rfl (Ev_pos (by omega) (Ev_pos (by omega) (Ev_pos (by omega) (Ev_pos (by omega) ?_)))))
      rw [rd_nat _ h1, rd_nat _ h2, wsucc' (i := i) (by omega), wsucc' (i := j) (by omega), rdl_nat, rdl_nat, rd_getD, rd_getD, v1, v2]
      refine Ev_if (fun h => ?_) (fun h => ?_)
      · rw [mt_eq h1 h2 (data_eq.1 h)]
        refine Ev_pos (by omega) (Ev_pos (by omega) ?_)
        have e := ih _ (by omega) (i + 1) (j + 1) (x ++ [(i : Int)]) (y ++ [(j : Int)]) rfl (by omega) (by omega) (by simp; omega) (by simp; omega)
        rw [List.append_assoc, List.append_assoc] at e
        exact e
      · have hne : ¬ a[i] = b[j] := fun e => h (data_eq.2 e)
        refine Ev_pos (by omega) (Ev_pos (by omega) (Ev_pos (by omega) (Ev_pos (by omega) (Ev_pos (by omega) (Ev_pos (by omega) ?_)))))
        refine Ev_if (fun h3 => ?_) (fun h3 => ?_)
        · rw [mt_a h1 h2 hne (by omega)]
          exact ih _ (by omega) (i + 1) j x y rfl (by omega) (by omega) (by omega) (by omega)
        · rw [mt_b h1 h2 hne (by omega)]
          exact ih _ (by omega) i (j + 1) x y rfl (by omega) (by omega) (by omega) (by omega)
    · have hm : mt (a.drop i) (b.drop j) i j = ([], []) := by
        by_cases h1 : i < a.length
        · rw [List.drop_eq_nil_of_le (show b.length ≤ j by omega), mt_nil']
        · rw [List.drop_eq_nil_of_le (show a.length ≤ i by omega), mt_nil]
      rw [hm, List.append_nil, List.append_nil]
      have e : Ev (fun k => impl_match.j1 k a b t x y (i : Int) (j : Int) false) (x, y) := Ev.step (fun k => by rw [impl_match.j1]) (Ev_neg (by simp) (Ev.now _))
      refine Ev.step (fun k => by rw [impl_match.l0]) (Ev_if (fun h1 => ?_) (fun h1 => e))
      rw [show (decide ((j : Int) < (b.length : Int))) = false from decide_eq_false (by omega)]
      exact e
theorem impl_match_tells (a b : List ByteArray) (ha : a.length ≤ 1000000) (hb : b.length ≤ 1000000) : Ev (fun k => impl_match.f k a b) (mt a b 0 0) := by
  obtain ⟨t, h1, h2⟩ := itab_tells a b ha hb
  unfold impl_match.f
  refine Ev_call h2 ?_
  have e := impl_match_loop a b ha hb t h1 _ 0 0 [] [] rfl (by omega) (by omega) (by simp) (by simp)
  rw [List.drop_zero, List.drop_zero, List.nil_append, List.nil_append] at e
  exact e
end Go.Proofs.Ytihbalbcocfnfaa.P
end
section
namespace Go.Proofs.Ytihbalbcocfnfaa.P
open Go.RowKit Go.Proofs.YtihbalbcocfnfaaW.PrintWords Go.Proofs.YtihbalbcocfnfaaW.PrintLast Go.Proofs.YtihbalbcocfnfaaW.PrintMore
attribute [local go_sem] max2_int min2_int max_two min_two max_three min_three max_four min_four
end Go.Proofs.Ytihbalbcocfnfaa.P
end
section
namespace Go.Proofs.Ytihbalbcocfnfaa.P
open Go.RowKit Go.Proofs.YtihbalbcocfnfaaW.PrintWords Go.Proofs.YtihbalbcocfnfaaW.PrintLast Go.Proofs.YtihbalbcocfnfaaW.PrintMore
attribute [local go_sem] max2_int min2_int max_two min_two max_three min_three max_four min_four
end Go.Proofs.Ytihbalbcocfnfaa.P
end
section
namespace Go.Proofs.Ytihbalbcocfnfaa.P
open Go.RowKit Go.Proofs.YtihbalbcocfnfaaW.PrintWords Go.Proofs.YtihbalbcocfnfaaW.PrintLast Go.Proofs.YtihbalbcocfnfaaW.PrintMore
attribute [local go_sem] max2_int min2_int max_two min_two max_three min_three max_four min_four
end Go.Proofs.Ytihbalbcocfnfaa.P
end
section
namespace Go.Proofs.Ytihbalbcocfnfaa.P
open Go.RowKit Go.Proofs.YtihbalbcocfnfaaW.PrintWords Go.Proofs.YtihbalbcocfnfaaW.PrintLast Go.Proofs.YtihbalbcocfnfaaW.PrintMore
attribute [local go_sem] max2_int min2_int max_two min_two max_three min_three max_four min_four
end Go.Proofs.Ytihbalbcocfnfaa.P
end
section
set_option linter.unusedVariables false
set_option linter.unusedSimpArgs false
namespace Go.Proofs.Ytihbalbcocfnfaa.P
end Go.Proofs.Ytihbalbcocfnfaa.P
end
section
set_option linter.unusedVariables false
set_option linter.unusedSimpArgs false
namespace Go.Proofs.Ytihbalbcocfnfaa.P
open Go.RowKit Go.Proofs.YtihbalbcocfnfaaW.PrintWords Go.Proofs.YtihbalbcocfnfaaW.PrintLast
def Inc2 (M : Int) : List Int → List Int → Int → Int → Prop
  | [], [], _, _ => True
  | u :: us, v :: vs, i, j => i ≤ u ∧ j ≤ v ∧ u ≤ M ∧ v ≤ M ∧ Inc2 M us vs (u + 1) (v + 1)
  | [], _ :: _, _, _ => False
  | _ :: _, [], _, _ => False
theorem Inc.two {A B M : Int} (hA : A ≤ M) (hB : B ≤ M) : ∀ (p q : List Int) (i j : Int), Inc A B p q i j → i ≤ A ∧ j ≤ B ∧ Inc2 M (p ++ [A]) (q ++ [B]) i j
  | [], [], i, j, h => ⟨h.1, h.2, h.1, h.2, hA, hB, trivial⟩
  | u :: us, v :: vs, i, j, h => by
    obtain ⟨h1, h2, h3⟩ := h
    obtain ⟨h4, h5, h6⟩ := Inc.two hA hB us vs _ _ h3
    exact ⟨by omega, by omega, h1, h2, by omega, by omega, h6⟩
  | [], _ :: _, _, _, h => h.elim
  | _ :: _, [], _, _, h => h.elim
theorem Inc2.len {M : Int} : ∀ (p q : List Int) (i j : Int), Inc2 M p q i j → p.length = q.length
  | [], [], _, _, _ => rfl
  | _ :: us, _ :: vs, _, _, h => by rw [List.length_cons, List.length_cons, Inc2.len us vs _ _ h.2.2.2.2]
  | [], _ :: _, _, _, h => h.elim
  | _ :: _, [], _, _, h => h.elim
def chs : List Int → List Int → Int → Int → List S64
  | u :: us, v :: vs, i, j => if u > i ∨ v > j then ⟨i, u - i, j, v - j⟩ :: chs us vs (u + 1) (v + 1) else chs us vs (u + 1) (v + 1)
  | _, _, _, _ => []
theorem chs_cons (u v : Int) (us vs : List Int) (i j : Int) : chs (u :: us) (v :: vs) i j = if u > i ∨ v > j then ⟨i, u - i, j, v - j⟩ :: chs us vs (u + 1) (v + 1) else chs us vs (u + 1) (v + 1) := rfl
theorem sch_loop (us vs : List Int) (hl : us.length ≤ 2000000) (he : us.length = vs.length) : ∀ (d n : Nat) (o : List S64) (i j : Int), us.length - n = d → n ≤ us.length → o.length ≤ n → 0 ≤ i → 0 ≤ j → Inc2 1000000 (us.drop n) (vs.drop n) i j →
    Ev (fun k => spec_l2Changes.l0 k us vs o i j (n : Int)) (o ++ chs (us.drop n) (vs.drop n) i j) := by
  intro d
  induction d with
  | zero =>
    intro n o i j hd hn ho hi hj h
    refine Ev.step (fun k => by rw [spec_l2Changes.l0]) (Ev_neg (by omega) (Ev_val ?_))
    rw [List.drop_eq_nil_of_le (show us.length ≤ n by omega), List.drop_eq_nil_of_le (show vs.length ≤ n by omega)]
    exact (List.append_nil _).symm
  | succ d ih =>
    intro n o i j hd hn ho hi hj h
    have h1 : n < us.length := by omega
    have h2 : n < vs.length := by omega
    rw [drop_at h1, drop_at h2] at h ⊢
    obtain ⟨g1, g2, g3, g4, g5⟩ := h
    rw [chs_cons]
    refine Ev.step (fun k => by rw [spec_l2Changes.l0]) (Ev_pos (by omega) (Ev_pos (by omega) ?_))
    rw [rdi_nat h1, rdi_nat h2, wid (x := us[n] - i) (by omega) (by omega), wid (x := vs[n] - j) (by omega) (by omega), wid (x := us[n] + 1) (by omega) (by omega), wid (x := vs[n] + 1) (by omega) (by omega), wsucc' (by omega)]
    have go1 : Ev (fun k => spec_l2Changes.l0 k us vs (o ++ [⟨i, us[n] - i, j, vs[n] - j⟩]) (us[n] + 1) (vs[n] + 1) ((n + 1 : Nat) : Int)) (o ++ ⟨i, us[n] - i, j, vs[n] - j⟩ :: chs (us.drop (n + 1)) (vs.drop (n + 1)) (us[n] + 1) (vs[n] + 1)) := by
      have := ih (n + 1) (o ++ [⟨i, us[n] - i, j, vs[n] - j⟩]) (us[n] + 1) (vs[n] + 1) (by omega) (by omega) (by simp; omega) (by omega) (by omega) g5
      rw [List.append_assoc] at this
      exact this
    refine Ev_if (fun h => ?_) (fun h => ?_)
    · rw [if_pos (.inl h)]
      exact Ev_pos (by omega) (Ev_pos (by omega) go1)
    · refine Ev_pos (by omega) (Ev_if (fun h3 => ?_) (fun h3 => ?_))
      · rw [if_pos (.inr h3)]
        exact Ev_pos (by omega) go1
      · rw [if_neg (by omega)]
        exact ih (n + 1) o (us[n] + 1) (vs[n] + 1) (by omega) (by omega) (by omega) (by omega) (by omega) g5
theorem ich_loop (us vs : List Int) (hl : us.length ≤ 2000000) (he : us.length = vs.length) : ∀ (d n : Nat) (o : List S64) (i j : Int), us.length - n = d → n ≤ us.length → o.length ≤ n → 0 ≤ i → 0 ≤ j → Inc2 1000000 (us.drop n) (vs.drop n) i j →
    Ev (fun k => impl_changesOf.l0 k vs o i j us (us.length : Int) (n : Int)) (o ++ chs (us.drop n) (vs.drop n) i j) := by
  intro d
  induction d with
  | zero =>
    intro n o i j hd hn ho hi hj h
    refine Ev.step (fun k => by rw [impl_changesOf.l0]) (Ev_neg (by omega) (Ev_val ?_))
    rw [List.drop_eq_nil_of_le (show us.length ≤ n by omega), List.drop_eq_nil_of_le (show vs.length ≤ n by omega)]
    exact (List.append_nil _).symm
  | succ d ih =>
    intro n o i j hd hn ho hi hj h
    have h1 : n < us.length := by omega
    have h2 : n < vs.length := by omega
    rw [drop_at h1, drop_at h2] at h ⊢
    obtain ⟨g1, g2, g3, g4, g5⟩ := h
    rw [chs_cons]
    refine Ev.step (fun k => by rw [impl_changesOf.l0]) (Ev_pos (by omega) (Ev_pos (by omega) (Ev_pos (by omega) (Ev_pos (by omega) ?_))))
    rw [rdi_nat h1, rdi_nat h2, wid (x := us[n] - i) (by omega) (by omega), wid (x := vs[n] - j) (by omega) (by omega), wid (x := us[n] + 1) (by omega) (by omega), wid (x := vs[n] + 1) (by omega) (by omega), wsucc' (by omega)]
    have go1 : Ev (fun k => impl_changesOf.l0 k vs (o ++ [⟨i, us[n] - i, j, vs[n] - j⟩]) (us[n] + 1) (vs[n] + 1) us (us.length : Int) ((n + 1 : Nat) : Int)) (o ++ ⟨i, us[n] - i, j, vs[n] - j⟩ :: chs (us.drop (n + 1)) (vs.drop (n + 1)) (us[n] + 1) (vs[n] + 1)) := by
      have := ih (n + 1) (o ++ [⟨i, us[n] - i, j, vs[n] - j⟩]) (us[n] + 1) (vs[n] + 1) (by omega) (by omega) (by simp; omega) (by omega) (by omega) g5
      rw [List.append_assoc] at this
      exact this
    refine Ev_if (fun h => ?_) (fun h => ?_)
    · rw [if_pos (.inl h)]
      exact Ev_pos (by omega) go1
    · refine Ev_if (fun h3 => ?_) (fun h3 => ?_)
      · rw [if_pos (.inr h3)]
        exact Ev_pos (by omega) go1
      · rw [if_neg (by omega)]
        exact ih (n + 1) o (us[n] + 1) (vs[n] + 1) (by omega) (by omega) (by omega) (by omega) (by omega) g5
def CHS (a b : List ByteArray) : List S64 := chs ((mt a b 0 0).1 ++ [(a.length : Int)]) ((mt a b 0 0).2 ++ [(b.length : Int)]) 0 0
theorem chs_ready (a b : List ByteArray) (ha : a.length ≤ 1000000) (hb : b.length ≤ 1000000) : Inc2 1000000 ((mt a b 0 0).1 ++ [(a.length : Int)]) ((mt a b 0 0).2 ++ [(b.length : Int)]) 0 0 ∧ ((mt a b 0 0).1 ++ [(a.length : Int)]).length ≤ 1000001 ∧ ((mt a b 0 0).2 ++ [(b.length : Int)]).length ≤ 1000001 := by
  have h := mt_inc _ a b 0 0 0 0 rfl (by omega) (by omega)
  rw [Nat.zero_add, Nat.zero_add] at h
  have h2 := (Inc.two (M := 1000000) (by omega) (by omega) _ _ _ _ h).2.2
  have hl := mt_len _ a b 0 0 rfl
  have hle := lcs_le a b
  refine ⟨h2, ?_, ?_⟩
  · rw [List.length_append, hl.1]
    simp
    omega
  · rw [List.length_append, hl.2]
    simp
    omega
theorem sch_tells (a b : List ByteArray) (ha : a.length ≤ 1000000) (hb : b.length ≤ 1000000) : Ev (fun k => spec_l2Changes.f k a b) (CHS a b) := by
  obtain ⟨h1, h2, h3⟩ := chs_ready a b ha hb
  have he := Inc2.len _ _ _ _ h1
  unfold spec_l2Changes.f
  refine Ev_call (spec_l2Match_tells a b ha hb) (Ev_pos (by rw [List.length_append] at h2; simp at h2; omega) (Ev_pos (by rw [List.length_append] at h3; simp at h3; omega) ?_))
  have := sch_loop _ _ (by omega) he _ 0 [] 0 0 rfl (by omega) (by simp) (by omega) (by omega) (by rw [List.drop_zero, List.drop_zero]; exact h1)
  rw [List.drop_zero, List.drop_zero, List.nil_append] at this
  exact this
theorem ich_tells (a b : List ByteArray) (ha : a.length ≤ 1000000) (hb : b.length ≤ 1000000) : Ev (fun k => impl_changesOf.f k a b) (CHS a b) := by
  obtain ⟨h1, h2, h3⟩ := chs_ready a b ha hb
  have he := Inc2.len _ _ _ _ h1
  unfold impl_changesOf.f
  refine Ev_call (impl_match_tells a b ha hb) (Ev_pos (by rw [List.length_append] at h2; simp at h2; omega) ?_)
  refine Ev_const rfl ?_
  refine Ev_pos (by rw [List.length_append] at h3; simp at h3; omega) ?_
  have := ich_loop _ _ (by omega) he _ 0 [] 0 0 rfl (by omega) (by simp) (by omega) (by omega) (by rw [List.drop_zero, List.drop_zero]; exact h1)
  rw [List.drop_zero, List.drop_zero, List.nil_append] at this
  exact this
def ChOk (l : List S64) : Prop := ∀ c ∈ l, 0 ≤ c.f0 ∧ c.f0 ≤ 1000001 ∧ 0 ≤ c.f1 ∧ c.f1 ≤ 1000001 ∧ 0 ≤ c.f2 ∧ c.f2 ≤ 1000001 ∧ 0 ≤ c.f3 ∧ c.f3 ≤ 1000001
theorem chs_ok : ∀ (p q : List Int) (i j : Int), 0 ≤ i → 0 ≤ j → Inc2 1000000 p q i j → ChOk (chs p q i j) ∧ (chs p q i j).length ≤ p.length
  | [], [], _, _, _, _, _ => ⟨fun c hc => by simp [chs] at hc, by simp [chs]⟩
  | u :: us, v :: vs, i, j, hi, hj, h => by
    obtain ⟨h1, h2, h3, h4, h5⟩ := h
    have ih := chs_ok us vs _ _ (by omega) (by omega) h5
    rw [chs_cons]
    split
    · refine ⟨fun c hc => ?_, by simp only [List.length_cons]; omega⟩
      rcases List.mem_cons.1 hc with rfl | hc
      · exact ⟨hi, by show i ≤ _; omega, by show 0 ≤ u - i; omega, by show u - i ≤ _; omega, hj, by show j ≤ _; omega, by show 0 ≤ v - j; omega, by show v - j ≤ _; omega⟩
      · exact ih.1 c hc
    · exact ⟨ih.1, by simp only [List.length_cons]; omega⟩
  | [], _ :: _, _, _, _, _, h => h.elim
  | _ :: _, [], _, _, _, _, h => h.elim
theorem CHS_ok (a b : List ByteArray) (ha : a.length ≤ 1000000) (hb : b.length ≤ 1000000) : ChOk (CHS a b) ∧ (CHS a b).length ≤ 1000001 := by
  obtain ⟨h1, h2, h3⟩ := chs_ready a b ha hb
  have := chs_ok _ _ _ _ (by omega) (by omega) h1
  exact ⟨this.1, by unfold CHS; omega⟩
theorem sco_tells {a b : List ByteArray} (ha : Small a) (hb : Small b) : Ev (fun k => spec_ChangesOf.f k a b) (if LF2 a b = 0 then (0, CHS a b) else (LF2 a b, [])) := by
  unfold spec_ChangesOf.f
  refine Ev_call (asked_tells ha hb) (Ev_if (fun h => ?_) (fun h => ?_))
  · rw [if_pos h]
    have h1 := LF_zero (LF2_zero h).1
    have h2 := LF_zero (LF2_zero h).2
    exact Ev_call (sch_tells a b (by omega) (by omega)) (Ev.now _)
  · rw [if_neg h]
    exact Ev.now _
theorem ico_tells {a b : List ByteArray} (ha : Small a) (hb : Small b) : Ev (fun k => impl_ChangesOf.f k a b) (if LF2 a b = 0 then (0, CHS a b) else (LF2 a b, [])) := by
  unfold impl_ChangesOf.f
  refine Ev_call (both_tells ha hb) (Ev_if (fun h => ?_) (fun h => ?_))
  · rw [if_pos h]
    have h1 := LF_zero (LF2_zero h).1
    have h2 := LF_zero (LF2_zero h).2
    exact Ev_call (ich_tells a b (by omega) (by omega)) (Ev.now _)
  · rw [if_neg h]
    exact Ev.now _
end Go.Proofs.Ytihbalbcocfnfaa.P
end
section
set_option linter.unusedVariables false
namespace Go.Proofs.Ytihbalbcocfnfaa.P.VFnExactChangesOf
open Go.RowKit Go.Proofs.YtihbalbcocfnfaaW.PrintWords Go.Proofs.YtihbalbcocfnfaaW.PrintLast
theorem behind (a b : List ByteArray) (ha : Small a) (hb : Small b) (c : Int) (x : List S64) (h : (if LF2 a b = 0 then (0, CHS a b) else (LF2 a b, [])) = (c, x)) (h1 : x.length ≤ 1000001) : Ev (fun k => laws_FnExactChangesOf.j0 k a b false c x c x) true := by
  refine Ev.step (fun k => by rw [laws_FnExactChangesOf.j0]) (Ev_neg (by simp) ?_)
  refine Ev_call (a := (((1 + 4 * x.length : Nat) : Int), mcs 1 x.length)) (by unfold laws_markChangesResult.f; exact Ev_call (markc_tells x 1 (by omega) (by omega)) (Ev.now _)) ?_
  have hh : Ev (fun k => laws_heldChangesResult.f k c (mcs 1 x.length) 1) ((1 + 4 * x.length : Nat) : Int) := by
    unfold laws_heldChangesResult.f
    exact Ev_call (heldc_tells 1 x.length (by omega) (by omega)) (Ev_neg (by omega) (Ev.now _))
  refine Ev_call hh (Ev_neg (by omega) (Ev_pos rfl ?_))
  have s := ico_tells ha hb
  rw [h] at s
  exact Ev_call ha.to (Ev_call hb.to (Ev_call s (Ev_call (eqcr_tells c x (by omega)) (Ev_pos rfl (Ev_call hh (Ev_neg (by omega) (Ev_pos rfl (Ev.now _))))))))
theorem proof : UFnExactChangesOf.Pure := by
  intro l0 l1 g0 g1
  apply Ev.rounds
  unfold laws_FnExactChangesOf.f
  refine guard_lines l0 g0 1048576 (by omega) (by omega) (fun r h0 h1 hs => guard_lines l1 g1 r (by omega) (by omega) (fun r2 h2 h3 ht => ?_))
  obtain ⟨c, x, hm⟩ : ∃ c x, (if LF2 l0 l1 = 0 then (0, CHS l0 l1) else (LF2 l0 l1, [])) = (c, x) := ⟨_, _, rfl⟩
  have hx : x.length ≤ 1000001 := by
    split at hm
    · rename_i h
      obtain ⟨rfl, rfl⟩ := Prod.mk.inj hm
      have h1 := LF_zero (LF2_zero h).1
      have h2 := LF_zero (LF2_zero h).2
      exact (CHS_ok l0 l1 (by omega) (by omega)).2
    · obtain ⟨rfl, rfl⟩ := Prod.mk.inj hm
      simp
  have s1 := sco_tells hs ht
  have s2 := ico_tells hs ht
  rw [hm] at s1 s2
  have n1 := hs.2.1
  have n2 := ht.2.1
  have e := eqcr_tells c x (by omega)
  refine Ev_call hs.to (Ev_call ht.to (Ev_call s1 (Ev_call hs.to (Ev_call ht.to (Ev_call s2 (Ev_call e (Ev_pos rfl (Ev_call hs.to (Ev_call hs.eq (Ev_pos rfl (Ev_call ht.to (Ev_call ht.eq (Ev_pos rfl ?_)))))))))))))
  refine Ev_call (mark_tells l0 1 (by omega) (by omega)) (Ev_call (mark_tells l1 (1 + l0.length) (by omega) (by omega)) (Ev_neg (by omega) (Ev_call e ?_)))
  exact behind l0 l1 hs ht c x hm hx
end Go.Proofs.Ytihbalbcocfnfaa.P.VFnExactChangesOf
end
section
set_option linter.unusedVariables false
set_option linter.unusedSimpArgs false
namespace Go.Proofs.Ytihbalbcocfnfaa.O
open Go.RowKit Go.ChangeShapes Go.WideShapes Go.Proofs.YtihbalbcocfnfaaW.PrintWords
def Opens {α : Type} (P : Program) (t : TypeId) (d : Kd α) (G : α → Prop) : Prop :=
  P.cellsOf t = d.sz ∧ ∀ {H : Type} {enc : TypeId × Value → H} {w : World} {base : Nat} {spare : Nat → Bool} {held : Bool} {fuel : Nat} {cs : List Value} {x : DataW H × List MemPlace},
    DataW.trod enc P w base spare held fuel t cs = some x → ∃ a, d.K w a cs ∧ G a
theorem list_of {α : Type} {Q : Nat → α → Prop} : ∀ n : Nat, (∀ j, j < n → ∃ p, Q j p) → ∃ xs : List α, xs.length = n ∧ ∀ j p, xs[j]? = some p → Q j p
  | 0, _ => ⟨[], rfl, fun j p h => by simp at h⟩
  | n + 1, h => by
    obtain ⟨xs, hl, hx⟩ := list_of n (fun j hj => h j (Nat.lt_succ_of_lt hj))
    obtain ⟨p, hp⟩ := h n (Nat.lt_succ_self n)
    refine ⟨xs ++ [p], by simp [hl], fun j q hq => ?_⟩
    rcases Nat.lt_or_ge j xs.length with hj | hj
    · rw [List.getElem?_append_left hj] at hq
      exact hx j q hq
    · have hj' : j = xs.length := by
        have := (List.getElem?_eq_some_iff.1 hq).1
        rw [List.length_append, List.length_singleton] at this
        omega
      subst hj'
      have e : p = q := by simpa using hq
      subst e
      rw [hl]
      exact hp
theorem cells_get {w : World} {base : Nat} {a : Addr} {n : Nat} {cs : List Value} (h : w.cells? base a n = some cs) : cs.length = n ∧ ∀ i u, cs[i]? = some u → w.cell? (a.add i) = some u := by
  unfold World.cells? at h
  split at h
  · have hl := mapM_some_length h
    rw [List.length_range] at hl
    refine ⟨hl, fun i u hu => ?_⟩
    have hi : i < n := by
      have := (List.getElem?_eq_some_iff.1 hu).1
      omega
    have := mapM_some_get h i i (by simp [hi])
    rw [this, hu]
  · simp at h
theorem opens_string {P : Program} {t : TypeId} (ht : P.underlying t = some .string) (hc : P.cellsOf t = 1) : Opens P t Kd.string (fun s => s.size ≤ 9223372036854775807) :=
  ⟨hc, fun h => by
    obtain ⟨s, rfl, _, hw⟩ := DataW.trod_string ht h
    exact ⟨s, rfl, hw⟩⟩
theorem opens_slice {α : Type} {P : Program} {t e : TypeId} {d : Kd α} {G : α → Prop} (ht : P.underlying t = some (.slice e)) (hc : P.cellsOf t = 1) (he : Opens P e d G) :
    Opens P t (Kd.slice e d) (fun l => l.length ≤ 9223372036854775807 ∧ ∀ x ∈ l, G x) := by
  refine ⟨hc, fun {H enc w base spare held fuel cs x} h => ?_⟩
  rcases DataW.trod_slice ht h with ⟨rfl, _⟩ | ⟨a, len, cap, elems, rest, n, _, rfl, _, hb, hl, hm, hlen, hel, _, _⟩
  · exact ⟨[], ⟨none, 0, rfl, Nat.le_refl _, rfl, by simp, fun hp => absurd hp (by simp)⟩, by simp, by simp⟩
  · have hcap : cap ≤ 9223372036854775807 := hm
    obtain ⟨xs, hxl, hx⟩ := list_of (Q := fun j p => (∃ c : List Value, c.length = d.sz ∧ d.K w p c ∧ ∀ i u, c[i]? = some u → w.cell? (a.add (j * d.sz + i)) = some u) ∧ G p) len (fun j hj => by
      have h1 := hel j hj
      rw [List.getElem?_eq_getElem (by omega), Option.bind_eq_some_iff] at h1
      obtain ⟨cs', hcs, hy⟩ := h1
      obtain ⟨p, hK, hG⟩ := he.2 hy
      obtain ⟨hcl, hcell⟩ := cells_get hcs
      refine ⟨p, ⟨cs', by rw [hcl, he.1], hK, fun i u hu => ?_⟩, hG⟩
      have := hcell i u hu
      rw [he.1] at this
      rw [← Addr.add_add]
      exact this)
    have hlen2 : xs.length ≤ cap := by omega
    refine ⟨xs, ⟨some a, cap, ?_, hlen2, rfl, by omega, fun _ => ⟨a, rfl, fun j p hj => (hx j p hj).1⟩⟩, by omega, fun y hy => ?_⟩
    · rw [hxl]
    · obtain ⟨j, hj⟩ := List.getElem?_of_mem hy
      exact (hx j y hj).2
end Go.Proofs.Ytihbalbcocfnfaa.O
end
namespace Go.Proofs.Ytihbalbcocfnfaa.fnExactChangesOf
open Go.ChangeShapes Go.WideShapes Go.ChangeAt Go.RowKit
open Go.ChangeMaps (open_string shut_string)
open Go.Proofs.Ytihbalbcocfnfaa.P Go.Proofs.Ytihbalbcocfnfaa.P.UFnExactChangesOf Go.Proofs.YtihbalbcocfnfaaW.PrintWords
set_option linter.unusedVariables false
theorem own : ownKnob Try.prog.godebug = none := by kernel_rfl
theorem laidOut : laidOutB Try.prog = true := by kernel_rfl
set_option maxRecDepth 100000 in
theorem lifted (os : Os) (started : os.Started) (H : Type) (enc : TypeId × Value → H) :
    ReturnsInHanded {} Try.checked os 9 .any (Rows.fnExactChangesOfSpec.pre6 enc Try.prog Try.f9 Rows.fnExactChangesOfRow.domain false) (Rows.fnExactChangesOfSpec.post enc Try.prog Try.f9 false true false false) := by
  refine returnsInHanded_of_change_sized (C := Try.checked) own started (by kernel_rfl) Try.func9
    (ChangeSpec.witness6 (enc := enc) (C := Try.checked) false ⟨#[], #[.slice none 0 0, .slice none 0 0], []⟩ 8 (by kernel_rfl) (by kernel_rfl) (by kernel_rfl) (by kernel_rfl)) ?_
  intro W base args ds gs before hval0 hW hcnd hsz0 _
  have hval : ∀ (j : Nat) t v, Try.f9.params[j]? = some t → args[j]? = some v → Value.okWide Try.prog W .any base t v := hval0
  have hW' := hW
  obtain ⟨p, q, hA0, hV, rfl, hfz, hnd⟩ := hW
  have hA : DataW.TrodAll enc Try.prog W 0 (fun _ => true) true Try.f9.params.toList args.toList ds p := hA0
  rw [Try.params9] at hA hval
  obtain ⟨v0, vs0, d0, ds0, p0, q0, hargs, rfl, rfl, h0, r0⟩ := trodAll_cons hA
  obtain ⟨v1, vs1, d1, ds1, p1, q1, rfl, rfl, rfl, h1, r1⟩ := trodAll_cons r0
  obtain ⟨rfl, rfl, rfl⟩ := trodAll_nil r1
  obtain rfl : args = #[v0, v1] := by cases args; simp_all
  obtain ⟨rfl, rfl⟩ := trodVars_none hV
  have k0_ := h0
  have lt0 : ∀ x ∈ p0, x.block < W.heap.size := by obtain ⟨m, hm⟩ := k0_; exact DataW.trod_lt m _ _ _ hm
  obtain ⟨b0, len0, cap0, rfl⟩ := okWide_slice Try.underlying22 (hval 0 22 v0 rfl rfl)
  obtain ⟨fuel0, hf0⟩ := h0
  obtain ⟨l0, ⟨A0, c0, hcs0, hc0, hr0⟩, g0⟩ := (O.opens_slice Try.underlying22 (by kernel_rfl) (O.opens_string Try.underlying9 (by kernel_rfl))).2 hf0
  simp [Value.cells] at hcs0
  obtain ⟨rfl, rfl, rfl⟩ := hcs0
  have k1_ := h1
  have lt1 : ∀ x ∈ p1, x.block < W.heap.size := by obtain ⟨m, hm⟩ := k1_; exact DataW.trod_lt m _ _ _ hm
  obtain ⟨b1, len1, cap1, rfl⟩ := okWide_slice Try.underlying22 (hval 1 22 v1 rfl rfl)
  obtain ⟨fuel1, hf1⟩ := h1
  obtain ⟨l1, ⟨A1, c1, hcs1, hc1, hr1⟩, g1⟩ := (O.opens_slice Try.underlying22 (by kernel_rfl) (O.opens_string Try.underlying9 (by kernel_rfl))).2 hf1
  simp [Value.cells] at hcs1
  obtain ⟨rfl, rfl, rfl⟩ := hcs1
  clear hA0 hval0 hsz0
  obtain ⟨k, h⟩ := VFnExactChangesOf.proof l0 l1 g0 g1
  refine (laws_FnExactChangesOf.calls k _ _ l0 _ _ l1 true W hr0 hc0 hr1 hc1 h rfl).mono fun e W' hend => ?_
  obtain ⟨rfl, hbel⟩ := hend
  have bel : Below W.heap.size W W' := hbel
  exact ⟨_, rfl, _, _, _, [], _, [], hW', trodAll_mk1 (shut_bool Try.underlying4 _), (trodAll_cons_mk (Below.trod laidOut (by kernel_rfl) (of_decide_eq_true (by kernel_rfl)) k0_ bel lt0) (trodAll_cons_mk (Below.trod laidOut (by kernel_rfl) (of_decide_eq_true (by kernel_rfl)) k1_ bel lt1) trodAll_mk0)), rfl, bel.frame _, fun h => by cases h⟩
theorem over : Rows.fnExactChangesOfRow.holds Try.pinned (OpenSpec.ofChange Rows.fnExactChangesOfSpec) :=
  OpenClaim.holds_of_wide 9 Try.f9 rfl rfl rfl rfl rfl rfl rfl ⟨rfl, rfl, rfl, rfl, rfl⟩ rfl rfl rfl rfl rfl (by kernel_rfl) Try.func9 (by kernel_rfl)
    (of_decide_eq_true (by kernel_rfl)) (by unfold Func.isWrapper; first | (rw [if_pos (by decide +kernel)]; kernel_rfl) | (rw [if_neg (by decide +kernel)]; exact ⟨rfl, rfl⟩))
    (fun os started H enc _ => lifted os started H enc)
theorem proved : Rows.FnExactChangesOfSaid := over
#print axioms proved
end Go.Proofs.Ytihbalbcocfnfaa.fnExactChangesOf
namespace Go.Proofs.Ytihbalbcocfnfaa
theorem fnExactChangesOf_holds : Rows.FnExactChangesOfSaid := fnExactChangesOf.proved
end Go.Proofs.Ytihbalbcocfnfaa
