/- FnChunks: the law of the program holds at every input: the Go function returns true, and its arguments read afterwards as before.
Conditions: none beyond the given statement's own (what can be read as data, of a size that memory bears). -/
import Derived.SliceStrings
import Derived.DataReads
import Derived.DataElems
import Derived.Test.YtjngmhngedecdaaRows
import Derived.WalkKit
import Derived.ProofKit
import Derived.OpenShut
import Derived.ShutString
import Derived.ChangeOld
import Derived.Below
import Derived.SizedLaws
import Derived.Carry
import Derived.Test.YtjngmhngedecdaaCFnChunks1
import Derived.Test.YtjngmhngedecdaaCFnChunks2
import Derived.Test.YtjngmhngedecdaaCFnChunks3
import Derived.Test.YtjngmhngedecdaaCFnChunks4
import Derived.Test.YtjngmhngedecdaaCFnChunks5
import Derived.Test.YtjngmhngedecdaaCFnChunks6
section
set_option linter.unusedVariables false
set_option linter.unusedSimpArgs false
namespace Go.Proofs.Ytjngmhngedecdaa.P
open Go.RowKit Go.Proofs.YtjngmhngedecdaaW.PrintWords Go.Proofs.YtjngmhngedecdaaW.PrintLast
def mt : List ByteArray → List ByteArray → Nat → Nat → List Int × List Int
  | [], _, _, _ => ([], [])
  | _ :: _, [], _, _ => ([], [])
  | x :: a, y :: b, i, j => if x = y then ((i : Int) :: (mt a b (i + 1) (j + 1)).1, (j : Int) :: (mt a b (i + 1) (j + 1)).2) else if lcs (x :: a) b ≤ lcs a (y :: b) then mt a (y :: b) (i + 1) j else mt (x :: a) b i (j + 1)
termination_by a b => a.length + b.length
theorem mt_nil (b : List ByteArray) (i j : Nat) : mt [] b i j = ([], []) := by rw [mt]
theorem mt_nil' (a : List ByteArray) (i j : Nat) : mt a [] i j = ([], []) := by cases a <;> rw [mt]
theorem mt_eq {a b : List ByteArray} {i j : Nat} (hi : i < a.length) (hj : j < b.length) (h : a[i] = b[j]) (p q : Nat) :
    mt (a.drop i) (b.drop j) p q = ((p : Int) :: (mt (a.drop (i + 1)) (b.drop (j + 1)) (p + 1) (q + 1)).1, (q : Int) :: (mt (a.drop (i + 1)) (b.drop (j + 1)) (p + 1) (q + 1)).2) := by
 rw [drop_at hi, drop_at hj, mt, if_pos h]
theorem mt_a {a b : List ByteArray} {i j : Nat} (hi : i < a.length) (hj : j < b.length) (h : ¬ a[i] = b[j]) (h2 : lcs (a.drop i) (b.drop (j + 1)) ≤ lcs (a.drop (i + 1)) (b.drop j)) (p q : Nat) :
    mt (a.drop i) (b.drop j) p q = mt (a.drop (i + 1)) (b.drop j) (p + 1) q := by
 rw [drop_at hi, drop_at hj] at *;rw [mt, if_neg h, if_pos h2]
theorem mt_b {a b : List ByteArray} {i j : Nat} (hi : i < a.length) (hj : j < b.length) (h : ¬ a[i] = b[j]) (h2 : ¬ lcs (a.drop i) (b.drop (j + 1)) ≤ lcs (a.drop (i + 1)) (b.drop j)) (p q : Nat) :
    mt (a.drop i) (b.drop j) p q = mt (a.drop i) (b.drop (j + 1)) p (q + 1) := by
 rw [drop_at hi, drop_at hj] at *;rw [mt, if_neg h, if_neg h2]
def Inc (A B : Int) : List Int → List Int → Int → Int → Prop
  | [], [], i, j => i ≤ A ∧ j ≤ B
  | u :: us, v :: vs, i, j => i ≤ u ∧ j ≤ v ∧ Inc A B us vs (u + 1) (v + 1)
  | [], _ :: _, _, _ => False
  | _ :: _, [], _, _ => False
theorem mt_inc : ∀ (n : Nat) (a b : List ByteArray) (i j : Nat) (i' j' : Int), a.length + b.length = n → i' ≤ i → j' ≤ j → Inc ((i + a.length : Nat) : Int) ((j + b.length : Nat) : Int) (mt a b i j).1 (mt a b i j).2 i' j' := by
 intro n
 induction n using Nat.strongRecOn with
 | _ n ih =>
  intro a b i j i' j' hn hi hj
  cases a with
  | nil =>
   rw [mt_nil];exact ⟨by simp only [List.length_nil];omega, by omega⟩
  | cons x a =>
   cases b with
   | nil =>
    rw [mt_nil'];exact ⟨by omega, by simp only [List.length_nil];omega⟩
   | cons y b =>
    simp only [List.length_cons] at hn ⊢;rw [mt];split;(·have := ih _ (by omega) a b (i + 1) (j + 1) ((i : Int) + 1) ((j : Int) + 1) rfl (by omega) (by omega);rw [show i + (a.length + 1) = i + 1 + a.length by omega, show j + (b.length + 1) = j + 1 + b.length by omega];exact ⟨hi, hj, this⟩);split;(·have := ih _ (by simp only [List.length_cons];omega) a (y :: b) (i + 1) j i' j' rfl (by omega) (by omega);rw [show i + (a.length + 1) = i + 1 + a.length by omega];exact this);have := ih _ (by simp only [List.length_cons];omega) (x :: a) b i (j + 1) i' j' rfl (by omega) (by omega);rw [show j + (b.length + 1) = j + 1 + b.length by omega];exact this
theorem mt_len : ∀ (n : Nat) (a b : List ByteArray) (i j : Nat), a.length + b.length = n → (mt a b i j).1.length = lcs a b ∧ (mt a b i j).2.length = lcs a b := by
 intro n
 induction n using Nat.strongRecOn with
 | _ n ih =>
  intro a b i j hn
  cases a with
  | nil => rw [mt_nil, lcs_nil];exact ⟨rfl, rfl⟩
  | cons x a =>
   cases b with
   | nil => rw [mt_nil', lcs_nil'];exact ⟨rfl, rfl⟩
   | cons y b =>
    simp only [List.length_cons] at hn;rw [mt, lcs_cons];split;(·have := ih _ (by omega) a b (i + 1) (j + 1) rfl;exact ⟨by rw [List.length_cons, this.1], by rw [List.length_cons, this.2]⟩);split;(·rename_i h1 h2;have := ih _ (by simp only [List.length_cons];omega) a (y :: b) (i + 1) j rfl;rw [Nat.max_eq_left h2];exact this);rename_i h1 h2;have := ih _ (by simp only [List.length_cons];omega) (x :: a) b i (j + 1) rfl;rw [Nat.max_eq_right (by omega)];exact this
theorem spec_l2Match_loop (a b : List ByteArray) (ha : a.length ≤ 1000000) (hb : b.length ≤ 1000000) (t : List (List Int)) (ht : TabInv a b t 0 b.length) : ∀ (n i j : Nat) (x y : List Int), (a.length - i) + (b.length - j) = n → i ≤ a.length → j ≤ b.length → x.length ≤ i → y.length ≤ j →
    Ev (fun k => spec_l2Match.l0 k a b t x y (i : Int) (j : Int)) (x ++ (mt (a.drop i) (b.drop j) i j).1, y ++ (mt (a.drop i) (b.drop j) i j).2) := by
 intro n
 induction n using Nat.strongRecOn with
 | _ n ih =>
  intro i j x y hn hi hj hx hy;by_cases h : i < a.length ∧ j < b.length;rotate_left;(·(have hm : mt (a.drop i) (b.drop j) i j = ([], []) := by by_cases h1 : i < a.length;(·rw [List.drop_eq_nil_of_le (show b.length ≤ j by omega), mt_nil']);rw [List.drop_eq_nil_of_le (show a.length ≤ i by omega), mt_nil]);rw [hm, List.append_nil, List.append_nil];have e : Ev (fun k => spec_l2Match.j1 k a b t x y (i : Int) (j : Int) false) (x, y) := Ev.step (fun k => by rw [spec_l2Match.j1]) (Ev_neg (by simp) (Ev.now _));refine Ev.step (fun k => by rw [spec_l2Match.l0]) (Ev_if (fun h1 => ?_) (fun h1 => e));rw [show (decide ((j : Int) < (b.length : Int))) = false from decide_eq_false (by omega)];exact e);obtain ⟨h1, h2⟩ := h;have hl := ht.len;have r0 := ht.rows i (by omega);have r1 := ht.rows (i + 1) (by omega);have v1 := ht.all (r := i + 1) (c := j) (by omega) (by omega);have v2 := ht.all (r := i) (c := j + 1) (by omega) (by omega);refine Ev.step (fun k => by rw [spec_l2Match.l0]) (Ev_pos (by omega) ?_);rw [show (decide ((j : Int) < (b.length : Int))) = true from decide_eq_true (by omega)];refine Ev.step (fun k => by rw [spec_l2Match.j1]) (Ev_pos rfl (Ev_pos (by omega) (Ev_pos (by omega) (Ev_pos (by omega) (Ev_pos (by omega) ?_)))));rw [rd_nat _ h1, rd_nat _ h2, wsucc' (i := i) (by omega), wsucc' (i := j) (by omega), rdl_nat, rdl_nat, rd_getD, rd_getD, v1, v2];refine Ev_if (fun h => ?_) (fun h => ?_);(·rw [mt_eq h1 h2 (data_eq.1 h)];refine Ev_pos (by omega) (Ev_pos (by omega) ?_);have e := ih _ (by omega) (i + 1) (j + 1) (x ++ [(i : Int)]) (y ++ [(j : Int)]) rfl (by omega) (by omega) (by simp;omega) (by simp;omega);rw [List.append_assoc, List.append_assoc] at e;exact e);(have hne : ¬ a[i] = b[j] := fun e => h (data_eq.2 e));refine Ev_pos (by omega) (Ev_pos (by omega) (Ev_pos (by omega) (Ev_pos (by omega) (Ev_pos (by omega) (Ev_pos (by omega) ?_)))));refine Ev_if (fun h3 => ?_) (fun h3 => ?_);(·rw [mt_a h1 h2 hne (by omega)];exact ih _ (by omega) (i + 1) j x y rfl (by omega) (by omega) (by omega) (by omega));rw [mt_b h1 h2 hne (by omega)];exact ih _ (by omega) i (j + 1) x y rfl (by omega) (by omega) (by omega) (by omega)
theorem spec_l2Match_tells (a b : List ByteArray) (ha : a.length ≤ 1000000) (hb : b.length ≤ 1000000) : Ev (fun k => spec_l2Match.f k a b) (mt a b 0 0) := by
 obtain ⟨t, h1, h2⟩ := stab_tells a b ha hb;unfold spec_l2Match.f;refine Ev_call h2 ?_;have e := spec_l2Match_loop a b ha hb t h1 _ 0 0 [] [] rfl (by omega) (by omega) (by simp) (by simp);rw [List.drop_zero, List.drop_zero, List.nil_append, List.nil_append] at e;exact e
theorem impl_match_loop (a b : List ByteArray) (ha : a.length ≤ 1000000) (hb : b.length ≤ 1000000) (t : List (List Int)) (ht : TabInv a b t 0 b.length) : ∀ (n i j : Nat) (x y : List Int), (a.length - i) + (b.length - j) = n → i ≤ a.length → j ≤ b.length → x.length ≤ i → y.length ≤ j →
    Ev (fun k => impl_match.l0 k a b t x y (i : Int) (j : Int)) (x ++ (mt (a.drop i) (b.drop j) i j).1, y ++ (mt (a.drop i) (b.drop j) i j).2) := by
 intro n
 induction n using Nat.strongRecOn with
 | _ n ih =>
  intro i j x y hn hi hj hx hy;by_cases h : i < a.length ∧ j < b.length;rotate_left;(·(have hm : mt (a.drop i) (b.drop j) i j = ([], []) := by by_cases h1 : i < a.length;(·rw [List.drop_eq_nil_of_le (show b.length ≤ j by omega), mt_nil']);rw [List.drop_eq_nil_of_le (show a.length ≤ i by omega), mt_nil]);rw [hm, List.append_nil, List.append_nil];have e : Ev (fun k => impl_match.j1 k a b t x y (i : Int) (j : Int) false) (x, y) := Ev.step (fun k => by rw [impl_match.j1]) (Ev_neg (by simp) (Ev.now _));refine Ev.step (fun k => by rw [impl_match.l0]) (Ev_if (fun h1 => ?_) (fun h1 => e));rw [show (decide ((j : Int) < (b.length : Int))) = false from decide_eq_false (by omega)];exact e);obtain ⟨h1, h2⟩ := h;have hl := ht.len;have r0 := ht.rows i (by omega);have r1 := ht.rows (i + 1) (by omega);have v1 := ht.all (r := i + 1) (c := j) (by omega) (by omega);have v2 := ht.all (r := i) (c := j + 1) (by omega) (by omega);refine Ev.step (fun k => by rw [impl_match.l0]) (Ev_pos (by omega) ?_);rw [show (decide ((j : Int) < (b.length : Int))) = true from decide_eq_true (by omega)];refine Ev.step (fun k => by rw [impl_match.j1]) (Ev_pos rfl (Ev_pos (by omega) (Ev_pos (by omega) (Ev_pos (by omega) (Ev_pos (by omega) ?_)))));rw [rd_nat _ h1, rd_nat _ h2, wsucc' (i := i) (by omega), wsucc' (i := j) (by omega), rdl_nat, rdl_nat, rd_getD, rd_getD, v1, v2];refine Ev_if (fun h => ?_) (fun h => ?_);(·rw [mt_eq h1 h2 (data_eq.1 h)];refine Ev_pos (by omega) (Ev_pos (by omega) ?_);have e := ih _ (by omega) (i + 1) (j + 1) (x ++ [(i : Int)]) (y ++ [(j : Int)]) rfl (by omega) (by omega) (by simp;omega) (by simp;omega);rw [List.append_assoc, List.append_assoc] at e;exact e);(have hne : ¬ a[i] = b[j] := fun e => h (data_eq.2 e));refine Ev_pos (by omega) (Ev_pos (by omega) (Ev_pos (by omega) (Ev_pos (by omega) (Ev_pos (by omega) (Ev_pos (by omega) ?_)))));refine Ev_if (fun h3 => ?_) (fun h3 => ?_);(·rw [mt_a h1 h2 hne (by omega)];exact ih _ (by omega) (i + 1) j x y rfl (by omega) (by omega) (by omega) (by omega));rw [mt_b h1 h2 hne (by omega)];exact ih _ (by omega) i (j + 1) x y rfl (by omega) (by omega) (by omega) (by omega)
theorem impl_match_tells (a b : List ByteArray) (ha : a.length ≤ 1000000) (hb : b.length ≤ 1000000) : Ev (fun k => impl_match.f k a b) (mt a b 0 0) := by
 obtain ⟨t, h1, h2⟩ := itab_tells a b ha hb;unfold impl_match.f;refine Ev_call h2 ?_;have e := impl_match_loop a b ha hb t h1 _ 0 0 [] [] rfl (by omega) (by omega) (by simp) (by simp);rw [List.drop_zero, List.drop_zero, List.nil_append, List.nil_append] at e;exact e
end Go.Proofs.Ytjngmhngedecdaa.P
end
section
set_option linter.unusedVariables false
set_option linter.unusedSimpArgs false
namespace Go.Proofs.Ytjngmhngedecdaa.P
open Go.RowKit Go.Proofs.YtjngmhngedecdaaW.PrintWords Go.Proofs.YtjngmhngedecdaaW.PrintLast
def pg (p : List Int) (k : Nat) : Int := p.getD k (-1)
theorem pg_at {p : List Int} {k : Nat} (h : k < p.length) : pg p k = p[k] := by
 unfold pg;rw [List.getD_eq_getElem?_getD, List.getElem?_eq_getElem h];rfl
theorem rd_pg {p : List Int} {k : Nat} (h : k < p.length) : rd p (k : Int) = pg p k := by rw [rdi_nat h, pg_at h]
theorem rd_ext1 {p : List Int} {y : Int} {k : Nat} (h : k < p.length) : rd (p ++ [y]) (k : Int) = pg p k := by
 rw [rdi_nat (by simp;omega), pg_at h, List.getElem_append_left h]
theorem rd_ext2 {p : List Int} {y : Int} {n : Nat} (h : p.length = n) : rd (p ++ [y]) (n : Int) = y := by
 subst h;rw [rdi_nat (by simp)];simp
def pset : List Int → List Int → List Int → List Int
  | o, [], _ => o
  | o, _ :: _, [] => o
  | o, u :: us, v :: vs => pset (o.set u.toNat v) us vs
structure PI (p : List Int) (n m : Nat) : Prop where
  len : p.length = n
  rng : ∀ k, k < n → -1 ≤ pg p k ∧ pg p k < (m : Int)
  inc : ∀ k k', k < k' → k' < n → 0 ≤ pg p k → 0 ≤ pg p k' → pg p k < pg p k'
theorem inc_le {A B : Int} : ∀ (us vs : List Int) (i j : Int), Inc A B us vs i j → i ≤ A ∧ j ≤ B ∧ us.length = vs.length ∧ ∀ u ∈ us, i ≤ u ∧ u < A := by
 intro us
 induction us with
 | nil =>
  intro vs i j h
  cases vs with
  | nil => exact ⟨h.1, h.2, rfl, fun u hu => absurd hu (by simp)⟩
  | cons v vs => exact h.elim
 | cons u us ih =>
  intro vs i j h
  cases vs with
  | nil => exact h.elim
  | cons v vs =>
   obtain ⟨h1, h2, h3⟩ := h;obtain ⟨a, b, c, d⟩ := ih vs _ _ h3;refine ⟨by omega, by omega, by simp [c], fun x hx => ?_⟩;(rcases List.mem_cons.1 hx with rfl | hx);(·omega);have := d x hx;omega
theorem pset_PI {n m : Nat} : ∀ (us vs : List Int) (o : List Int) (i j : Int), Inc n m us vs i j → 0 ≤ i → 0 ≤ j → o.length = n → (∀ k, k < n → -1 ≤ pg o k ∧ pg o k < j ∧ (i ≤ (k : Int) → pg o k = -1)) →
    (∀ k k', k < k' → k' < n → 0 ≤ pg o k → 0 ≤ pg o k' → pg o k < pg o k') → PI (pset o us vs) n m := by
 intro us
 induction us with
 | nil =>
  intro vs o i j h hi hj hl hr hc;have := (inc_le _ _ _ _ h).2.1;rw [pset];exact ⟨hl, fun k hk => ⟨(hr k hk).1, by have := (hr k hk).2.1;omega⟩, hc⟩
 | cons u us ih =>
  intro vs o i j h hi hj hl hr hc
  cases vs with
  | nil => exact h.elim
  | cons v vs =>
   obtain ⟨h1, h2, h3⟩ := h;have hle := inc_le _ _ _ _ h3;(have hu : u.toNat < o.length := by omega);(have hg : ∀ k, pg (o.set u.toNat v) k = if k = u.toNat then v else pg o k := fun k => getD_set hu);rw [pset];refine ih vs (o.set u.toNat v) (u + 1) (v + 1) h3 (by omega) (by omega) (by rw [List.length_set];exact hl) (fun k hk => ?_) (fun k k' hkk hk' h4 h5 => ?_);(·rw [hg];have := hr k hk;split;(·refine ⟨by omega, by omega, fun _ => by omega⟩);exact ⟨this.1, by omega, fun _ => this.2.2 (by omega)⟩);rw [hg] at h4 h5 ⊢;rw [hg];by_cases e1 : k = u.toNat;(·(have e2 : ¬ k' = u.toNat := by omega);rw [if_neg e2] at h5;have := (hr k' hk').2.2 (by omega);omega);rw [if_neg e1] at h4 ⊢;by_cases e2 : k' = u.toNat;rotate_left;(·rw [if_neg e2] at h5 ⊢;exact hc k k' hkk hk' h4 h5);rw [if_pos e2];have := (hr k (by omega)).2.1;omega
def PT (a b : List ByteArray) : List Int := pset (List.replicate a.length (-1)) (mt a b 0 0).1 (mt a b 0 0).2
theorem mt_all (a b : List ByteArray) : Inc (a.length : Int) (b.length : Int) (mt a b 0 0).1 (mt a b 0 0).2 0 0 := by
 have := mt_inc _ a b 0 0 0 0 rfl (by omega) (by omega);rw [Nat.zero_add, Nat.zero_add] at this;exact this
theorem pg_rep (n k : Nat) : pg (List.replicate n (-1)) k = -1 := by
 unfold pg;rw [List.getD_eq_getElem?_getD, List.getElem?_replicate];split <;> rfl
theorem PT_PI (a b : List ByteArray) : PI (PT a b) a.length b.length := by
 refine pset_PI _ _ _ 0 0 (mt_all a b) (by omega) (by omega) (by simp) (fun k hk => ?_) (fun k k' _ _ h _ => ?_);(·rw [pg_rep];exact ⟨by omega, by omega, fun _ => rfl⟩);rw [pg_rep] at h;exact absurd h (by decide)
theorem mt_few (a b : List ByteArray) : (mt a b 0 0).1.length ≤ a.length ∧ (mt a b 0 0).1.length = (mt a b 0 0).2.length := by
 have h := mt_len _ a b 0 0 rfl;have := lcs_le a b;omega
theorem spart1 {n : Nat} (p q : List Int) (hl : p.length = q.length) (hp : ∀ u ∈ p, 0 ≤ u ∧ u < (n : Int)) (hn : p.length ≤ 1000000) : ∀ (d i : Nat) (o : List Int), p.length - i = d → i ≤ p.length → o.length = n →
    Ev (fun k => spec_l4Partner.l1 k o p q (i : Int)) (pset o (p.drop i) (q.drop i)) := by
 intro d
 induction d with
 | zero =>
  intro i o hd hi ho;refine Ev.step (fun k => by rw [spec_l4Partner.l1]) (Ev_neg (by omega) (Ev_val ?_));rw [List.drop_eq_nil_of_le (show p.length ≤ i by omega), pset]
 | succ d ih =>
  intro i o hd hi ho;(have h1 : i < p.length := by omega);(have h2 : i < q.length := by omega);have hu := hp p[i] (List.getElem_mem h1);refine Ev.step (fun k => by rw [spec_l4Partner.l1]) (Ev_pos (by omega) (Ev_pos (by omega) (Ev_pos (by omega) ?_)));rw [rdi_nat h1, rdi_nat h2, wsucc h1 (by omega), drop_at h1, drop_at h2, pset];exact Ev_pos (by omega) (Ev_pos (by omega) (ih (i + 1) _ (by omega) (by omega) (by rw [List.length_set];exact ho)))
theorem ipart1 {n : Nat} (p q : List Int) (hl : p.length = q.length) (hp : ∀ u ∈ p, 0 ≤ u ∧ u < (n : Int)) (hn : p.length ≤ 1000000) : ∀ (d i : Nat) (o : List Int), p.length - i = d → i ≤ p.length → o.length = n →
    Ev (fun k => impl_places.l1 k o q p (p.length : Int) (i : Int)) (pset o (p.drop i) (q.drop i)) := by
 intro d
 induction d with
 | zero =>
  intro i o hd hi ho;refine Ev.step (fun k => by rw [impl_places.l1]) (Ev_neg (by omega) (Ev_val ?_));rw [List.drop_eq_nil_of_le (show p.length ≤ i by omega), pset]
 | succ d ih =>
  intro i o hd hi ho;(have h1 : i < p.length := by omega);(have h2 : i < q.length := by omega);have hu := hp p[i] (List.getElem_mem h1);refine Ev.step (fun k => by rw [impl_places.l1]) (Ev_pos (by omega) (Ev_pos (by omega) (Ev_pos (by omega) (Ev_pos (by omega) ?_))));rw [rdi_nat h1, rdi_nat h2, wsucc h1 (by omega), drop_at h1, drop_at h2, pset];exact Ev_pos (by omega) (Ev_pos (by omega) (ih (i + 1) _ (by omega) (by omega) (by rw [List.length_set];exact ho)))
theorem spart0 (a b : List ByteArray) (ha : a.length ≤ 1000000) {r : List Int} (h : Ev (fun k => (spec_l2Match.f k a b).bind fun bt => (spec_l4Partner.l1 k (List.replicate a.length (-1)) bt.1 bt.2 0)) r) :
    ∀ (d i : Nat), i + d = a.length → Ev (fun k => spec_l4Partner.l0 k a b (List.replicate i (-1) ++ List.replicate d 0) (i : Int)) r := by
 intro d
 induction d with
 | zero =>
  intro i hi;refine Ev.step (fun k => by rw [spec_l4Partner.l0]) (Ev_neg (by simp) ?_);rw [show i = a.length by omega, List.replicate_zero, List.append_nil];exact h
 | succ d ih =>
  intro i hi;refine Ev.step (fun k => by rw [spec_l4Partner.l0]) (Ev_pos (by simp;omega) (Ev_pos (by omega) ?_));rw [Int.toNat_natCast, set_rep, wsucc' (by omega)];exact ih (i + 1) (by omega)
theorem ipart0 (a b : List ByteArray) (ha : a.length ≤ 1000000) {r : List Int} (h : Ev (fun k => (impl_match.f k a b).bind fun bt => (impl_places.l1 k (List.replicate a.length (-1)) bt.2 bt.1 (bt.1.length : Int) 0)) r) :
    ∀ (d i : Nat), i + d = a.length → Ev (fun k => impl_places.l0 k a b (List.replicate i (-1)) (a.length : Int) (i : Int)) r := by
 intro d
 induction d with
 | zero =>
  intro i hi;refine Ev.step (fun k => by rw [impl_places.l0]) (Ev_neg (by omega) ?_);rw [show i = a.length by omega];exact h
 | succ d ih =>
  intro i hi;refine Ev.step (fun k => by rw [impl_places.l0]) (Ev_pos (by omega) (Ev_pos (by simp;omega) ?_));rw [← List.replicate_succ', wsucc' (by omega)];exact ih (i + 1) (by omega)
theorem spt_tells (a b : List ByteArray) (ha : a.length ≤ 1000000) (hb : b.length ≤ 1000000) : Ev (fun k => spec_l4Partner.f k a b) (PT a b) := by
 have hm := mt_few a b;have hi := inc_le _ _ _ _ (mt_all a b);unfold spec_l4Partner.f;refine Ev_pos (by omega) (Ev_pos (by omega) ?_);have := spart0 a b ha (Ev_call (spec_l2Match_tells a b ha hb) (spart1 (n := a.length) _ _ hm.2 hi.2.2.2 (by omega) _ 0 (List.replicate a.length (-1)) rfl (by omega) (by simp))) a.length 0 (by omega);rw [List.drop_zero, List.drop_zero] at this;rw [Int.toNat_natCast];exact this
theorem ipt_tells (a b : List ByteArray) (ha : a.length ≤ 1000000) (hb : b.length ≤ 1000000) : Ev (fun k => impl_places.f k a b) (PT a b) := by
 have hm := mt_few a b;have hi := inc_le _ _ _ _ (mt_all a b);unfold impl_places.f;have := ipart0 a b ha (Ev_call (impl_match_tells a b ha hb) (ipart1 (n := a.length) _ _ hm.2 hi.2.2.2 (by omega) _ 0 (List.replicate a.length (-1)) rfl (by omega) (by simp))) a.length 0 (by omega);rw [List.drop_zero, List.drop_zero] at this;exact this
def seg (l : List ByteArray) (x y : Nat) : List ByteArray := (l.take y).drop x
theorem seg_len {l : List ByteArray} {x y : Nat} (h : y ≤ l.length) : (seg l x y).length = y - x := by
 unfold seg;rw [List.length_drop, List.length_take];omega
theorem seg_same (l : List ByteArray) (x : Nat) : seg l x x = [] := by
 unfold seg;rw [List.drop_eq_nil_of_le (by rw [List.length_take];omega)]
def pt1 (b o t : List ByteArray) : List CK := if b.length + o.length + t.length = 0 then [] else [mkc b o t]
theorem pt1_nil : pt1 [] [] [] = [] := rfl
theorem pt1_len (b o t : List ByteArray) : (pt1 b o t).length ≤ 1 := by
 unfold pt1;split <;> simp
def nx (p q : List Int) : Nat → Nat → Nat
  | 0, k => k
  | d + 1, k => if 0 ≤ pg p k ∧ 0 ≤ pg q k then k else nx p q d (k + 1)
def rn (p q : List Int) (k0 u v : Nat) : Nat → Nat → Nat
  | 0, k => k
  | d + 1, k => if pg p k = ((u + (k - k0) : Nat) : Int) ∧ pg q k = ((v + (k - k0) : Nat) : Int) then rn p q k0 u v d (k + 1) else k
theorem nx_spec (p q : List Int) : ∀ (d k : Nat), k ≤ nx p q d k ∧ nx p q d k ≤ k + d ∧ (nx p q d k < k + d → 0 ≤ pg p (nx p q d k) ∧ 0 ≤ pg q (nx p q d k)) ∧ ∀ x, k ≤ x → x < nx p q d k → ¬ (0 ≤ pg p x ∧ 0 ≤ pg q x) := by
 intro d
 induction d with
 | zero => intro k;exact ⟨Nat.le_refl _, Nat.le_refl _, fun h => absurd h (by simp [nx]), fun x h1 h2 => absurd h2 (by simp [nx];omega)⟩
 | succ d ih =>
  intro k;rw [nx];split;(·rename_i h;exact ⟨Nat.le_refl _, by omega, fun _ => h, fun x h1 h2 => by omega⟩);rename_i h;obtain ⟨h1, h2, h3, h4⟩ := ih (k + 1);refine ⟨by omega, by omega, fun h5 => h3 (by omega), fun x h5 h6 => ?_⟩;by_cases e : x = k;(·rw [e];exact h);exact h4 x (by omega) h6
theorem rn_spec (p q : List Int) (k0 u v : Nat) : ∀ (d k : Nat), k ≤ rn p q k0 u v d k ∧ rn p q k0 u v d k ≤ k + d ∧ (∀ x, k ≤ x → x < rn p q k0 u v d k → pg p x = ((u + (x - k0) : Nat) : Int) ∧ pg q x = ((v + (x - k0) : Nat) : Int)) ∧
    (rn p q k0 u v d k < k + d → ¬ (pg p (rn p q k0 u v d k) = ((u + (rn p q k0 u v d k - k0) : Nat) : Int) ∧ pg q (rn p q k0 u v d k) = ((v + (rn p q k0 u v d k - k0) : Nat) : Int))) := by
 intro d
 induction d with
 | zero => intro k;exact ⟨Nat.le_refl _, Nat.le_refl _, fun x h1 h2 => absurd h2 (by simp [rn];omega), fun h => absurd h (by simp [rn])⟩
 | succ d ih =>
  intro k;rw [rn];split;rotate_left;(·rename_i h;exact ⟨Nat.le_refl _, by omega, fun x h1 h2 => by omega, fun _ => h⟩);rename_i h;obtain ⟨h1, h2, h3, h4⟩ := ih (k + 1);refine ⟨by omega, by omega, fun x h5 h6 => ?_, fun h5 => h4 (by omega)⟩;by_cases e : x = k;(·rw [e];exact h);exact h3 x (by omega) h6
def chk (b o t : List ByteArray) (p q : List Int) : Nat → Nat → Nat → Nat → List CK
  | 0, _, _, _ => []
  | d + 1, a, i, j =>
    if nx p q (b.length - a) a = b.length then pt1 (b.drop a) (o.drop i) (t.drop j) else
    let K := nx p q (b.length - a) a
    let U := (pg p K).toNat
    let V := (pg q K).toNat
    let X := rn p q K U V (b.length - K) K
    pt1 (seg b a K) (seg o i U) (seg t j V) ++ (pt1 (seg b K X) (seg o U (U + (X - K))) (seg t V (V + (X - K))) ++ chk b o t p q d X (U + (X - K)) (V + (X - K)))
theorem chk_last {b o t : List ByteArray} {p q : List Int} {d a i j : Nat} (h : nx p q (b.length - a) a = b.length) : chk b o t p q (d + 1) a i j = pt1 (b.drop a) (o.drop i) (t.drop j) := by
 rw [chk, if_pos h]
theorem chk_step {b o t : List ByteArray} {p q : List Int} {d a i j K U V X : Nat} (hK : nx p q (b.length - a) a = K) (hn : K ≠ b.length) (hU : pg p K = (U : Int)) (hV : pg q K = (V : Int)) (hX : rn p q K U V (b.length - K) K = X) :
    chk b o t p q (d + 1) a i j = pt1 (seg b a K) (seg o i U) (seg t j V) ++ (pt1 (seg b K X) (seg o U (U + (X - K))) (seg t V (V + (X - K))) ++ chk b o t p q d X (U + (X - K)) (V + (X - K))) := by
 (have hU' : (pg p K).toNat = U := by omega);(have hV' : (pg q K).toNat = V := by omega);rw [chk, hK, if_neg hn];simp only [hU', hV', hX]
def Lo (p : List Int) (n m a i : Nat) : Prop := i ≤ m ∧ ∀ k, a ≤ k → k < n → 0 ≤ pg p k → (i : Int) ≤ pg p k
structure St (p q : List Int) (n mo mt_ a i j K U V X : Nat) : Prop where
  aK : a ≤ K
  Kn : K < n
  hU : pg p K = (U : Int)
  hV : pg q K = (V : Int)
  iU : i ≤ U
  jV : j ≤ V
  KX : K < X
  Xn : X ≤ n
  Um : U + (X - K) ≤ mo
  Vm : V + (X - K) ≤ mt_
  on : ∀ x, K ≤ x → x < X → pg p x = ((U + (x - K) : Nat) : Int) ∧ pg q x = ((V + (x - K) : Nat) : Int)
  off : X < n → ¬ (pg p X = ((U + (X - K) : Nat) : Int) ∧ pg q X = ((V + (X - K) : Nat) : Int))
  skip : ∀ x, a ≤ x → x < K → ¬ (0 ≤ pg p x ∧ 0 ≤ pg q x)
  lo1 : Lo p n mo X (U + (X - K))
  lo2 : Lo q n mt_ X (V + (X - K))
theorem lo_next {p : List Int} {n m K U X : Nat} (hp : PI p n m) (hKX : K < X) (hX : X ≤ n) (hon : ∀ x, K ≤ x → x < X → pg p x = ((U + (x - K) : Nat) : Int)) : Lo p n m X (U + (X - K)) := by
 have h1 := hon (X - 1) (by omega) (by omega);have h2 := hp.rng (X - 1) (by omega);refine ⟨by omega, fun k hk hn h0 => ?_⟩;have := hp.inc (X - 1) k (by omega) hn (by omega) h0;omega
theorem st_of {p q : List Int} {n mo mt_ a i j : Nat} (hp : PI p n mo) (hq : PI q n mt_) (ha : a ≤ n) (l1 : Lo p n mo a i) (l2 : Lo q n mt_ a j) (hK : nx p q (n - a) a ≠ n) :
    ∃ K U V X, nx p q (n - a) a = K ∧ rn p q K U V (n - K) K = X ∧ St p q n mo mt_ a i j K U V X := by
 obtain ⟨h1, h2, h3, h4⟩ := nx_spec p q (n - a) a;obtain ⟨K, hKe⟩ : ∃ K, nx p q (n - a) a = K := ⟨_, rfl⟩;rw [hKe] at h1 h2 h3 h4 hK;have hb := h3 (by omega);obtain ⟨U, hU⟩ : ∃ U : Nat, pg p K = (U : Int) := ⟨(pg p K).toNat, by omega⟩;obtain ⟨V, hV⟩ : ∃ V : Nat, pg q K = (V : Int) := ⟨(pg q K).toNat, by omega⟩;obtain ⟨X, hX⟩ : ∃ X, rn p q K U V (n - K) K = X := ⟨_, rfl⟩;obtain ⟨g1, g2, g3, g4⟩ := rn_spec p q K U V (n - K) K;rw [hX] at g1 g2 g3 g4;(have hKX : K < X := by (rcases Nat.lt_or_ge K X with h | h);(·exact h);(have e : X = K := by omega);exfalso;refine g4 (by omega) ?_;rw [e, Nat.sub_self, Nat.add_zero, Nat.add_zero];exact ⟨hU, hV⟩);have hUi := l1.2 K h1 (by omega) hb.1;have hVj := l2.2 K h1 (by omega) hb.2;have n1 := lo_next hp hKX (by omega) (fun x a b => (g3 x a b).1);have n2 := lo_next hq hKX (by omega) (fun x a b => (g3 x a b).2);exact ⟨K, U, V, X, hKe, hX, ⟨h1, by omega, hU, hV, by omega, by omega, hKX, by omega, n1.1, n2.1, g3, fun h => g4 (by omega), h4, n1, n2⟩⟩
theorem chk_fuel {b o t : List ByteArray} {p q : List Int} (hp : PI p b.length o.length) (hq : PI q b.length t.length) : ∀ (d d' a i j : Nat), a ≤ b.length → b.length - a < d → b.length - a < d' → Lo p b.length o.length a i → Lo q b.length t.length a j → chk b o t p q d a i j = chk b o t p q d' a i j := by
 intro d
 induction d with
 | zero => intro d' a i j ha h;omega
 | succ d ih =>
  intro d' a i j ha h h' l1 l2
  cases d' with
  | zero => omega
  | succ d' =>
   by_cases hl : nx p q (b.length - a) a = b.length;(·rw [chk_last hl, chk_last hl]);obtain ⟨K, U, V, X, hK, hX, s⟩ := st_of hp hq ha l1 l2 hl;rw [chk_step hK (by have := s.Kn;omega) s.hU s.hV hX, chk_step hK (by have := s.Kn;omega) s.hU s.hV hX];rw [ih d' X _ _ s.Xn (by have := s.KX;have := s.aK;have := s.Kn;omega) (by have := s.KX;have := s.aK;have := s.Kn;omega) s.lo1 s.lo2]
def CHK (b o t : List ByteArray) : List CK := chk b o t (PT b o) (PT b t) (b.length + 1) 0 0 0
theorem lo_start (p : List Int) (n m : Nat) : Lo p n m 0 0 := ⟨Nat.zero_le _, fun k _ _ h => h⟩
theorem chk_start {b o t : List ByteArray} {p q : List Int} (hp : PI p b.length o.length) (hq : PI q b.length t.length) {X : Nat} (hX : rn p q 0 0 0 b.length 0 = X) :
    X ≤ b.length ∧ X ≤ o.length ∧ X ≤ t.length ∧ Lo p b.length o.length X X ∧ Lo q b.length t.length X X ∧ pt1 (seg b 0 X) (seg o 0 X) (seg t 0 X) ++ chk b o t p q (b.length + 1) X X X = chk b o t p q (b.length + 1) 0 0 0 := by
 obtain ⟨g1, g2, g3, g4⟩ := rn_spec p q 0 0 0 b.length 0;rw [hX] at g1 g2 g3 g4;(rcases Nat.eq_zero_or_pos X with h0 | h0);(·subst h0;refine ⟨Nat.zero_le _, Nat.zero_le _, Nat.zero_le _, lo_start _ _ _, lo_start _ _ _, ?_⟩;rw [seg_same, seg_same, seg_same, pt1_nil, List.nil_append]);have e0 := g3 0 (by omega) h0;have n1 := lo_next (K := 0) (U := 0) hp h0 (by omega) (fun x a b => (g3 x a b).1);have n2 := lo_next (K := 0) (U := 0) hq h0 (by omega) (fun x a b => (g3 x a b).2);rw [Nat.sub_zero, Nat.zero_add] at n1 n2;refine ⟨by omega, n1.1, n2.1, n1, n2, ?_⟩;(have hK : nx p q (b.length - 0) 0 = 0 := by obtain ⟨m, hm⟩ : ∃ m, b.length = m + 1 := ⟨b.length - 1, by omega⟩;rw [Nat.sub_zero, hm, nx, if_pos (by omega)]);rw [chk_step (a := 0) (i := 0) (j := 0) (d := b.length) hK (by omega) (U := 0) (V := 0) e0.1 e0.2 (X := X) (by rw [Nat.sub_zero];exact hX)];rw [seg_same, seg_same, seg_same, pt1_nil, List.nil_append, Nat.sub_zero, Nat.zero_add];rw [chk_fuel hp hq (b.length + 1) b.length X X X (by omega) (by omega) (by omega) n1 n2]
theorem add_tells (out : List CK) {b o t : List ByteArray} (hb : b.length ≤ 1048576) (ho : o.length ≤ 1048576) (ht : t.length ≤ 1048576) (hl : out.length ≤ 1759218604440) : impl_chunksOf_1.f out (kindK b o t) b o t = some (out ++ pt1 b o t) := by
 unfold impl_chunksOf_1.f pt1;rw [wid (x := (b.length : Int) + (o.length : Int)) (by omega) (by omega), wid (by omega) (by omega)];by_cases h : b.length + o.length + t.length = 0;(·rw [if_neg (by omega), if_pos h, List.append_nil]);rw [if_pos (by omega), if_neg h, if_pos (by omega)];rfl
section
variable {b o t : List ByteArray} {p q : List Int}
theorem iscan (hp : p.length = b.length) (hq : q.length = b.length) (hb : b.length ≤ 1000000) {y z : Int} {acc : List CK} {a i j : Int} {K : Nat} (hK : K ≤ b.length) {r : List CK} (h : Ev (fun k => impl_chunksOf.l0 k b o t (p ++ [y]) (q ++ [z]) acc a i j (K : Int)) r) :
    ∀ (d x : Nat), K - x = d → x ≤ K → (∀ z, x ≤ z → z < K → ¬ (0 ≤ pg p z ∧ 0 ≤ pg q z)) → Ev (fun k => impl_chunksOf.l0 k b o t (p ++ [y]) (q ++ [z]) acc a i j (x : Int)) r := by
 intro d
 induction d with
 | zero =>
  intro x hd hx _;rw [show x = K by omega];exact h
 | succ d ih =>
  intro x hd hx hs;have nx_ := ih (x + 1) (by omega) (by omega) (fun z h1 h2 => hs z (by omega) h2);(have l1 : (p ++ [y]).length = b.length + 1 := by simp [hp]);(have l2 : (q ++ [z]).length = b.length + 1 := by simp [hq]);(have hj : Ev (fun k => impl_chunksOf.j1 k b o t (p ++ [y]) (q ++ [z]) acc a i j (x : Int) true) r := by refine Ev.step (fun k => by rw [impl_chunksOf.j1]) (Ev_pos rfl ?_);rw [wsucc' (by omega)];exact nx_);refine Ev.step (fun k => by rw [impl_chunksOf.l0]) (Ev_pos (by omega) (Ev_pos (by omega) (Ev_pos (by omega) ?_)));rw [rd_ext1 (by omega), rd_ext1 (by omega)];refine Ev_if (fun _ => hj) (fun h2 => Ev_pos (by omega) ?_);rw [decide_eq_true (show pg q x < 0 by have := hs x (by omega) (by omega);omega)];exact hj
theorem irun (hp : p.length = b.length) (hq : q.length = b.length) (hb : b.length ≤ 1000000) {y z : Int} {acc : List CK} {K U V X : Nat} (hU1 : U ≤ 2000000) (hV1 : V ≤ 2000000) (hKX : K ≤ X) (hX : X ≤ b.length)
    (on : ∀ x, K ≤ x → x < X → pg p x = ((U + (x - K) : Nat) : Int) ∧ pg q x = ((V + (x - K) : Nat) : Int)) (off : X < b.length → ¬ (pg p X = ((U + (X - K) : Nat) : Int) ∧ pg q X = ((V + (X - K) : Nat) : Int)))
    {r : List CK} (h : Ev (fun k => impl_chunksOf.j3 k b o t (p ++ [y]) (q ++ [z]) acc (K : Int) (U : Int) (V : Int) (X : Int)) r) :
    ∀ (d x : Nat), X - x = d → K ≤ x → x ≤ X → Ev (fun k => impl_chunksOf.l1 k b o t (p ++ [y]) (q ++ [z]) acc (K : Int) (U : Int) (V : Int) (x : Int)) r := by
 (have l1 : (p ++ [y]).length = b.length + 1 := by simp [hp]);(have l2 : (q ++ [z]).length = b.length + 1 := by simp [hq]);intro d
 induction d with
 | zero =>
  intro x hd hk hx;(obtain rfl : x = X := by omega);refine Ev.step (fun k => by rw [impl_chunksOf.l1]) (Ev_if (fun h1 => ?_) (fun _ => h));rw [rd_ext1 (by omega), rd_ext1 (by omega), wid (x := (U : Int) + (x : Int)) (by omega) (by omega), wid (x := (V : Int) + (x : Int)) (by omega) (by omega), wid (by omega) (by omega), wid (by omega) (by omega)];refine Ev_pos (by omega) (Ev_pos (by omega) (Ev_if (fun h2 => Ev_pos (by omega) (Ev_neg (fun h3 => off (by omega) ?_) h)) (fun _ => h)));exact ⟨by omega, by omega⟩
 | succ d ih =>
  intro x hd hk hx;have e := on x hk (by omega);refine Ev.step (fun k => by rw [impl_chunksOf.l1]) (Ev_pos (by omega) (Ev_pos (by omega) (Ev_pos (by omega) ?_)));rw [rd_ext1 (by omega), rd_ext1 (by omega), wid (x := (U : Int) + (x : Int)) (by omega) (by omega), wid (x := (V : Int) + (x : Int)) (by omega) (by omega), wid (by omega) (by omega), wid (x := (V : Int) + (x : Int) - (K : Int)) (by omega) (by omega), wsucc' (by omega)];exact Ev_pos (by omega) (Ev_pos (by omega) (Ev_pos (by omega) (ih (x + 1) (by omega) (by omega) (by omega))))
theorem ich_last (lp : p.length = b.length) (lq : q.length = b.length) (hb : b.length ≤ 1000000) (ho : o.length ≤ 1000000) (ht : t.length ≤ 1000000) {acc : List CK} {a i j : Nat} (ha : a ≤ b.length) (hi : i ≤ o.length) (hj : j ≤ t.length) (hacc : acc.length ≤ 4000000) :
    Ev (fun k => impl_chunksOf.l0 k b o t (p ++ [(o.length : Int)]) (q ++ [(t.length : Int)]) acc (a : Int) (i : Int) (j : Int) (b.length : Int)) (acc ++ pt1 (b.drop a) (o.drop i) (t.drop j)) := by
 (have l1 : (p ++ [(o.length : Int)]).length = b.length + 1 := by simp [lp]);(have l2 : (q ++ [(t.length : Int)]).length = b.length + 1 := by simp [lq]);refine Ev.step (fun k => by rw [impl_chunksOf.l0]) (Ev_pos (by omega) (Ev_pos (by omega) (Ev_pos (by omega) ?_)));rw [rd_ext2 lp, rd_ext2 lq];refine Ev_neg (by omega) (Ev_pos (by omega) ?_);rw [decide_eq_false (show ¬ (t.length : Int) < 0 by omega)];refine Ev.step (fun k => by rw [impl_chunksOf.j1]) (Ev_neg (by simp) ?_);rw [rd_ext2 lp, rd_ext2 lq];refine Ev_pos (by omega) (Ev_pos (by omega) (Ev_pos (by omega) (Ev_pos (by omega) (Ev_pos (by omega) (Ev_pos (by omega) (Ev_pos (by omega) (Ev_pos (by omega) (Ev_pos (by omega) (Ev_pos (by omega) (Ev_pos (by omega) (Ev_pos (by omega) ?_)))))))))));simp only [Int.toNat_natCast];rw [List.take_length, List.take_length, List.take_length];(have z1 : (b.drop a).length ≤ 1048576 := by rw [List.length_drop];omega);(have z2 : (o.drop i).length ≤ 1048576 := by rw [List.length_drop];omega);(have z3 : (t.drop j).length ≤ 1048576 := by rw [List.length_drop];omega);refine Ev_call (chunkOf_tells z1 z2 z3) (Ev_const (add_tells acc z1 z2 z3 (by omega)) ?_);have hlen := pt1_len (b.drop a) (o.drop i) (t.drop j);(have hlen2 : (acc ++ pt1 (b.drop a) (o.drop i) (t.drop j)).length ≤ 4000001 := by rw [List.length_append];omega);clear hlen z1 z2 z3 hacc;refine Ev.step (fun k => by rw [impl_chunksOf.l1]) (Ev_neg (by omega) ?_);refine Ev.step (fun k => by rw [impl_chunksOf.j3]) ?_;(have w0 : wrap64 ((b.length : Int) - (b.length : Int)) = 0 := by rw [wid (by omega) (by omega)];omega);rw [w0, wid (x := (o.length : Int) + 0) (by omega) (by omega), wid (x := (t.length : Int) + 0) (by omega) (by omega)];refine Ev_pos (by omega) (Ev_pos (by omega) (Ev_pos (by omega) (Ev_pos (by omega) (Ev_pos (by omega) (Ev_pos (by omega) (Ev_pos (by omega) (Ev_pos (by omega) (Ev_pos (by omega) ?_))))))));simp only [Int.add_zero, Int.toNat_natCast];(have s1 : (b.take b.length).drop b.length = [] := by simp);(have s2 : (o.take o.length).drop o.length = [] := by simp);(have s3 : (t.take t.length).drop t.length = [] := by simp);rw [s1, s2, s3];refine Ev_call (chunkOf_tells (by simp) (by simp) (by simp)) (Ev_const (add_tells _ (by simp) (by simp) (by simp) (by omega)) (Ev_pos (by first | trivial | rfl) (Ev_val ?_)));rw [pt1_nil, List.append_nil]
theorem ich_one (lp : p.length = b.length) (lq : q.length = b.length) (hb : b.length ≤ 1000000) (ho : o.length ≤ 1000000) (ht : t.length ≤ 1000000) {acc : List CK} {a i j K U V M : Nat} (aK : a ≤ K) (M0 : 0 < M) (Xn : K + M ≤ b.length) (iU : i ≤ U) (Um : U + M ≤ o.length) (jV : j ≤ V) (Vm : V + M ≤ t.length) (hacc : acc.length ≤ 4000000)
    (hU : pg p K = (U : Int)) (hV : pg q K = (V : Int)) (on : ∀ x, K ≤ x → x < K + M → pg p x = ((U + (x - K) : Nat) : Int) ∧ pg q x = ((V + (x - K) : Nat) : Int))
    (off : K + M < b.length → ¬ (pg p (K + M) = ((U + (K + M - K) : Nat) : Int) ∧ pg q (K + M) = ((V + (K + M - K) : Nat) : Int))) {r : List CK}
    (h : Ev (fun k => impl_chunksOf.l0 k b o t (p ++ [(o.length : Int)]) (q ++ [(t.length : Int)]) (acc ++ pt1 (seg b a K) (seg o i U) (seg t j V) ++ pt1 (seg b K (K + M)) (seg o U (U + M)) (seg t V (V + M))) ((K + M : Nat) : Int) ((U + M : Nat) : Int) ((V + M : Nat) : Int) ((K + M : Nat) : Int)) r) :
    Ev (fun k => impl_chunksOf.l0 k b o t (p ++ [(o.length : Int)]) (q ++ [(t.length : Int)]) acc (a : Int) (i : Int) (j : Int) (K : Int)) r := by
 (have l1 : (p ++ [(o.length : Int)]).length = b.length + 1 := by simp [lp]);(have l2 : (q ++ [(t.length : Int)]).length = b.length + 1 := by simp [lq]);refine Ev.step (fun k => by rw [impl_chunksOf.l0]) (Ev_pos (by omega) (Ev_pos (by omega) (Ev_pos (by omega) ?_)));rw [rd_ext1 (by omega), rd_ext1 (by omega), hU, hV];refine Ev_neg (by omega) (Ev_pos (by omega) ?_);rw [decide_eq_false (show ¬ (V : Int) < 0 by omega)];refine Ev.step (fun k => by rw [impl_chunksOf.j1]) (Ev_neg (by simp) ?_);rw [rd_ext1 (by omega), rd_ext1 (by omega), hU, hV];refine Ev_pos (by omega) (Ev_pos (by omega) (Ev_pos (by omega) (Ev_pos (by omega) (Ev_pos (by omega) (Ev_pos (by omega) (Ev_pos (by omega) (Ev_pos (by omega) (Ev_pos (by omega) (Ev_pos (by omega) (Ev_pos (by omega) (Ev_pos (by omega) ?_)))))))))));simp only [Int.toNat_natCast];(have z1 : (seg b a K).length ≤ 1048576 := by rw [seg_len (by omega)];omega);(have z2 : (seg o i U).length ≤ 1048576 := by rw [seg_len (by omega)];omega);(have z3 : (seg t j V).length ≤ 1048576 := by rw [seg_len (by omega)];omega);refine Ev_call (chunkOf_tells z1 z2 z3) (Ev_const (add_tells acc z1 z2 z3 (by omega)) ?_);have hlen := pt1_len (seg b a K) (seg o i U) (seg t j V);(have hlen2 : (acc ++ pt1 (seg b a K) (seg o i U) (seg t j V)).length ≤ 4000001 := by rw [List.length_append];omega);clear hlen z1 z2 z3 hacc hU hV;refine irun lp lq hb (by omega) (by omega) (by omega) Xn on off ?_ _ K rfl (by omega) (by omega);clear on off;refine Ev.step (fun k => by rw [impl_chunksOf.j3]) ?_;(have w0 : wrap64 (((K + M : Nat) : Int) - (K : Int)) = (M : Int) := by rw [wid (by omega) (by omega)];omega);(have w1 : wrap64 ((U : Int) + (M : Int)) = ((U + M : Nat) : Int) := by rw [wid (by omega) (by omega)];omega);(have w2 : wrap64 ((V : Int) + (M : Int)) = ((V + M : Nat) : Int) := by rw [wid (by omega) (by omega)];omega);rw [w0, w1, w2];clear w0 w1 w2;refine Ev_pos (by omega) (Ev_pos (by omega) (Ev_pos (by omega) (Ev_pos (by omega) (Ev_pos (by omega) (Ev_pos (by omega) (Ev_pos (by omega) (Ev_pos (by omega) (Ev_pos (by omega) ?_))))))));simp only [Int.toNat_natCast];(have y1 : (seg b K (K + M)).length ≤ 1048576 := by rw [seg_len (by omega)];omega);(have y2 : (seg o U (U + M)).length ≤ 1048576 := by rw [seg_len (by omega)];omega);(have y3 : (seg t V (V + M)).length ≤ 1048576 := by rw [seg_len (by omega)];omega);exact Ev_call (chunkOf_tells y1 y2 y3) (Ev_const (add_tells (acc ++ pt1 (seg b a K) (seg o i U) (seg t j V)) y1 y2 y3 (by omega)) (Ev_neg (by omega) h))
theorem ich_loop (hp : PI p b.length o.length) (hq : PI q b.length t.length) (hb : b.length ≤ 1000000) (ho : o.length ≤ 1000000) (ht : t.length ≤ 1000000) : ∀ (d a i j : Nat) (acc : List CK), a ≤ b.length → b.length < d + a → Lo p b.length o.length a i → Lo q b.length t.length a j → acc.length ≤ 2 * a →
    Ev (fun k => impl_chunksOf.l0 k b o t (p ++ [(o.length : Int)]) (q ++ [(t.length : Int)]) acc (a : Int) (i : Int) (j : Int) (a : Int)) (acc ++ chk b o t p q d a i j) := by
 intro d
 induction d with
 | zero => intro a i j acc ha h;omega
 | succ d ih =>
  intro a i j acc ha h lo1 lo2 hacc;by_cases hl : nx p q (b.length - a) a = b.length;(·have hs := nx_spec p q (b.length - a) a;rw [hl] at hs;rw [chk_last hl];exact iscan hp.len hq.len hb (Nat.le_refl _) (ich_last hp.len hq.len hb ho ht ha lo1.1 lo2.1 (by omega)) _ a rfl ha hs.2.2.2);obtain ⟨K, U, V, X, hK, hX, s⟩ := st_of hp hq ha lo1 lo2 hl;obtain ⟨aK, Kn, hU, hV, iU, jV, KX, Xn, Um, Vm, on, off, skip, n1, n2⟩ := s;obtain ⟨M, rfl⟩ : ∃ M, X = K + M := ⟨X - K, by omega⟩;(have eM : K + M - K = M := by omega);rw [chk_step hK (by omega) hU hV hX];refine iscan hp.len hq.len hb (by omega) ?_ _ a rfl aK skip;rw [eM] at Um Vm n1 n2 ⊢;refine ich_one hp.len hq.len hb ho ht aK (by omega) Xn iU Um jV Vm (by omega) hU hV on off ?_;have k1 := pt1_len (seg b a K) (seg o i U) (seg t j V);have k2 := pt1_len (seg b K (K + M)) (seg o U (U + M)) (seg t V (V + M));have e := ih (K + M) (U + M) (V + M) (acc ++ pt1 (seg b a K) (seg o i U) (seg t j V) ++ pt1 (seg b K (K + M)) (seg o U (U + M)) (seg t V (V + M))) Xn (by omega) n1 n2 (by rw [List.length_append, List.length_append];omega);refine Ev_eq e ?_;simp only [List.append_assoc]
theorem ichk_tells (hb : b.length ≤ 1000000) (ho : o.length ≤ 1000000) (ht : t.length ≤ 1000000) : Ev (fun k => impl_chunksOf.f k b o t) (CHK b o t) := by
 have h1 := (PT_PI b o).len;have h2 := (PT_PI b t).len;unfold impl_chunksOf.f;refine Ev_call (ipt_tells b o hb ho) (Ev_call (ipt_tells b t hb ht) (Ev_pos (by omega) (Ev_pos (by omega) ?_)));have := ich_loop (PT_PI b o) (PT_PI b t) hb ho ht (b.length + 1) 0 0 0 [] (by omega) (by omega) (lo_start _ _ _) (lo_start _ _ _) (by simp);exact this
end
end Go.Proofs.Ytjngmhngedecdaa.P
end
section
set_option linter.unusedVariables false
set_option linter.unusedSimpArgs false
namespace Go.Proofs.Ytjngmhngedecdaa.P
open Go.RowKit Go.Proofs.YtjngmhngedecdaaW.PrintWords Go.Proofs.YtjngmhngedecdaaW.PrintLast
theorem seg_drop (l : List ByteArray) {x y : Nat} (h : x ≤ y) (hy : y ≤ l.length) : seg l x y ++ l.drop y = l.drop x := by
 unfold seg;(have e : l.drop x = (l.take y ++ l.drop y).drop x := by rw [List.take_append_drop]);rw [e, List.drop_append_of_le_length (by rw [List.length_take];omega)]
theorem sides_app (n : Int) (x y : List CK) : sides n (x ++ y) = sides n x ++ sides n y := by
 unfold sides;rw [List.map_append, List.flatten_append]
theorem sides_pt1 (b o t : List ByteArray) : sides 0 (pt1 b o t) = b ∧ sides 1 (pt1 b o t) = o ∧ sides 2 (pt1 b o t) = t := by
 unfold pt1;split;rotate_left;(·refine ⟨?_, ?_, ?_⟩ <;> simp [sides, sideK, mkc]);rename_i h;have h1 : b = [] := List.eq_nil_of_length_eq_zero (by omega);have h2 : o = [] := List.eq_nil_of_length_eq_zero (by omega);have h3 : t = [] := List.eq_nil_of_length_eq_zero (by omega);subst h1 h2 h3;exact ⟨rfl, rfl, rfl⟩
section
variable {b o t : List ByteArray} {p q : List Int}
theorem chk_sides (hp : PI p b.length o.length) (hq : PI q b.length t.length) : ∀ (d a i j : Nat), a ≤ b.length → b.length < d + a → Lo p b.length o.length a i → Lo q b.length t.length a j →
    sides 0 (chk b o t p q d a i j) = b.drop a ∧ sides 1 (chk b o t p q d a i j) = o.drop i ∧ sides 2 (chk b o t p q d a i j) = t.drop j := by
 intro d
 induction d with
 | zero => intro a i j ha h;omega
 | succ d ih =>
  intro a i j ha h lo1 lo2;by_cases hl : nx p q (b.length - a) a = b.length;(·rw [chk_last hl];exact sides_pt1 _ _ _);obtain ⟨K, U, V, X, hK, hX, s⟩ := st_of hp hq ha lo1 lo2 hl;obtain ⟨aK, Kn, hU, hV, iU, jV, KX, Xn, Um, Vm, on, off, skip, n1, n2⟩ := s;clear on off skip;obtain ⟨M, rfl⟩ : ∃ M, X = K + M := ⟨X - K, by omega⟩;(have eM : K + M - K = M := by omega);rw [chk_step hK (by omega) hU hV hX];clear hK hX hU hV hl;rw [eM] at Um Vm n1 n2 ⊢;obtain ⟨e0, e1, e2⟩ := ih (K + M) (U + M) (V + M) Xn (by omega) n1 n2;obtain ⟨f0, f1, f2⟩ := sides_pt1 (seg b a K) (seg o i U) (seg t j V);obtain ⟨g0, g1, g2⟩ := sides_pt1 (seg b K (K + M)) (seg o U (U + M)) (seg t V (V + M));refine ⟨?_, ?_, ?_⟩;(·rw [sides_app, sides_app, e0, f0, g0, seg_drop b (by omega) Xn, seg_drop b aK (by omega)]);(·rw [sides_app, sides_app, e1, f1, g1, seg_drop o (by omega) Um, seg_drop o iU (by omega)]);rw [sides_app, sides_app, e2, f2, g2, seg_drop t (by omega) Vm, seg_drop t jV (by omega)]
theorem chk_len (hp : PI p b.length o.length) (hq : PI q b.length t.length) : ∀ (d a i j : Nat), a ≤ b.length → b.length < d + a → Lo p b.length o.length a i → Lo q b.length t.length a j → (chk b o t p q d a i j).length + 2 * a ≤ 2 * b.length + 1 := by
 intro d
 induction d with
 | zero => intro a i j ha h;omega
 | succ d ih =>
  intro a i j ha h lo1 lo2;by_cases hl : nx p q (b.length - a) a = b.length;(·rw [chk_last hl];have := pt1_len (b.drop a) (o.drop i) (t.drop j);omega);obtain ⟨K, U, V, X, hK, hX, s⟩ := st_of hp hq ha lo1 lo2 hl;obtain ⟨aK, Kn, hU, hV, iU, jV, KX, Xn, Um, Vm, on, off, skip, n1, n2⟩ := s;clear on off skip;rw [chk_step hK (by omega) hU hV hX, List.length_append, List.length_append];clear hK hX hU hV hl;have h1 := pt1_len (seg b a K) (seg o i U) (seg t j V);have h2 := pt1_len (seg b K X) (seg o U (U + (X - K))) (seg t V (V + (X - K)));have h3 := ih X (U + (X - K)) (V + (X - K)) Xn (by omega) n1 n2;omega
def RK (c : CK) : Prop := c.f0 = kindK c.f1 c.f2 c.f3 ∧ ¬ c.f1.length + c.f2.length + c.f3.length = 0
theorem pt1_RK (b o t : List ByteArray) : ∀ c ∈ pt1 b o t, RK c := by
 intro c hc;unfold pt1 at hc;split at hc;(·exact absurd hc (by simp));rename_i h;rw [List.mem_singleton] at hc;subst hc;exact ⟨rfl, h⟩
theorem chk_RK : ∀ (d a i j : Nat), ∀ c ∈ chk b o t p q d a i j, RK c := by
 intro d
 induction d with
 | zero => intro a i j c hc;exact absurd hc (by simp [chk])
 | succ d ih =>
  intro a i j c hc;rw [chk] at hc;split at hc;(·exact pt1_RK _ _ _ c hc);(rcases List.mem_append.1 hc with hc | hc);(·exact pt1_RK _ _ _ c hc);(rcases List.mem_append.1 hc with hc | hc);(·exact pt1_RK _ _ _ c hc);exact ih _ _ _ c hc
def swp (c : CK) : CK := mkc c.f1 c.f3 c.f2
theorem pt1_swp (b o t : List ByteArray) : (pt1 b o t).map swp = pt1 b t o := by
 unfold pt1;by_cases h : b.length + o.length + t.length = 0;(·rw [if_pos h, if_pos (by omega)];rfl);rw [if_neg h, if_neg (by omega)];rfl
theorem nx_comm (p q : List Int) : ∀ (d k : Nat), nx p q d k = nx q p d k := by
 intro d
 induction d with
 | zero => intro k;rfl
 | succ d ih =>
  intro k;rw [nx, nx, ih];by_cases h : 0 ≤ pg p k ∧ 0 ≤ pg q k;(·rw [if_pos h, if_pos ⟨h.2, h.1⟩]);rw [if_neg h, if_neg (fun e => h ⟨e.2, e.1⟩)]
theorem rn_comm (p q : List Int) (k0 u v : Nat) : ∀ (d k : Nat), rn p q k0 u v d k = rn q p k0 v u d k := by
 intro d
 induction d with
 | zero => intro k;rfl
 | succ d ih =>
  intro k;rw [rn, rn, ih];by_cases h : pg p k = ((u + (k - k0) : Nat) : Int) ∧ pg q k = ((v + (k - k0) : Nat) : Int);(·rw [if_pos h, if_pos ⟨h.2, h.1⟩]);rw [if_neg h, if_neg (fun e => h ⟨e.2, e.1⟩)]
theorem chk_swp : ∀ (d a i j : Nat), (chk b o t p q d a i j).map swp = chk b t o q p d a j i := by
 intro d
 induction d with
 | zero => intro a i j;rfl
 | succ d ih =>
  intro a i j;rw [chk, chk, nx_comm q p];by_cases h : nx p q (b.length - a) a = b.length;(·rw [if_pos h, if_pos h, pt1_swp]);rw [if_neg h, if_neg h];simp only [List.map_append, pt1_swp, ih];rw [rn_comm p q]
end
theorem CHK_sides (b o t : List ByteArray) : sides 0 (CHK b o t) = b ∧ sides 1 (CHK b o t) = o ∧ sides 2 (CHK b o t) = t := by
 have := chk_sides (PT_PI b o) (PT_PI b t) (b.length + 1) 0 0 0 (by omega) (by omega) (lo_start _ _ _) (lo_start _ _ _);rw [List.drop_zero, List.drop_zero, List.drop_zero] at this;exact this
theorem CHK_len (b o t : List ByteArray) : (CHK b o t).length ≤ 2 * b.length + 1 := by
 have := chk_len (PT_PI b o) (PT_PI b t) (b.length + 1) 0 0 0 (by omega) (by omega) (lo_start _ _ _) (lo_start _ _ _);exact this
theorem CHK_RK (b o t : List ByteArray) : ∀ c ∈ CHK b o t, RK c := chk_RK _ _ _ _
theorem CHK_swp (b o t : List ByteArray) : (CHK b o t).map swp = CHK b t o := chk_swp _ _ _ _
theorem kw_sides : ∀ l : List CK, kw l = lw (sides 0 l) + lw (sides 1 l) + lw (sides 2 l) := by
 intro l
 induction l with
 | nil => simp [kw, sides, lw, total]
 | cons c l ih =>
  rw [sides_cons, sides_cons, sides_cons, lw_append, lw_append, lw_append, kw, ih];have e0 : sideK 0 c = c.f1 := rfl;have e1 : sideK 1 c = c.f2 := rfl;have e2 : sideK 2 c = c.f3 := rfl;rw [e0, e1, e2];omega
theorem mem_sides {l : List CK} {c : CK} (hc : c ∈ l) (n : Int) {a : ByteArray} (ha : a ∈ sideK n c) : a ∈ sides n l := by
 unfold sides;exact List.mem_flatten.2 ⟨_, List.mem_map.2 ⟨c, hc, rfl⟩, ha⟩
theorem CHK_small {b o t : List ByteArray} (hb : Small b) (ho : Small o) (ht : Small t) (hw : lw b + lw o + lw t ≤ 1048576) (hn : b.length ≤ 1000) : SmallK (CHK b o t) := by
 obtain ⟨s0, s1, s2⟩ := CHK_sides b o t;refine ⟨fun c hc => ⟨fun a ha => ?_, fun a ha => ?_, fun a ha => ?_⟩, ?_, ?_⟩;(·exact hb.1 a (by rw [← s0];exact mem_sides hc 0 ha));(·exact ho.1 a (by rw [← s1];exact mem_sides hc 1 ha));(·exact ht.1 a (by rw [← s2];exact mem_sides hc 2 ha));(·have := CHK_len b o t;omega);rw [kw_sides, s0, s1, s2];exact hw
theorem LF_lw {x : List ByteArray} (h : LF x = 0) : lw x ≤ 2100 := by
 have := LF_zero h;unfold lw;omega
theorem KF_RK : ∀ {l : List CK}, (∀ c ∈ l, RK c) → KF l = 0 := by
 intro l
 induction l with
 | nil => intro _;rfl
 | cons c l ih =>
  intro h;have hc := h c (by simp);(have h0 : 0 ≤ c.f0 ∧ c.f0 ≤ 4 := by rw [hc.1];refine ⟨kindK_pos, ?_⟩;unfold kindK;(repeat' split);all_goals omega);rw [KF_cons, if_neg (fun e => e h0), if_neg];(·exact ih (fun x hx => h x (by simp [hx])));rintro (e | e);(·exact e hc.1.symm);exact hc.2 e
theorem CHK_CKF {b o t : List ByteArray} (hb : LF b = 0) (ho : LF o = 0) (ht : LF t = 0) : CKF (CHK b o t) = 0 := by
 obtain ⟨s0, s1, s2⟩ := CHK_sides b o t;have h1 := CHK_len b o t;have h2 := (LF_zero hb).1;unfold CKF;rw [if_neg (by omega), if_pos (KF_RK (CHK_RK b o t))];unfold SF;rw [s0, s1, s2, hb, ho, ht];rfl
def COF (b o t : List ByteArray) : Int × List CK := if LF b = 0 then (if LF2 o t = 0 then (0, CHK b o t) else (LF2 o t, [])) else (LF b, [])
end Go.Proofs.Ytjngmhngedecdaa.P
end
section
set_option linter.unusedVariables false
set_option linter.unusedSimpArgs false
namespace Go.Proofs.Ytjngmhngedecdaa.P
open Go.RowKit Go.Proofs.YtjngmhngedecdaaW.PrintWords Go.Proofs.YtjngmhngedecdaaW.PrintLast
section
variable {b o t : List ByteArray} {p q : List Int}
theorem sput_tells (acc : List CK) {b o t : List ByteArray} (hb : b.length ≤ 1048576) (ho : o.length ≤ 1048576) (ht : t.length ≤ 1048576) (hl : acc.length ≤ 1759218604440) : Ev (fun k => spec_l4Put.f k acc b o t) (acc ++ pt1 b o t) := by
 refine Ev_eq (put_tells acc hb ho ht hl) ?_;unfold pt1;split;(·rw [List.append_nil]);rfl
theorem sscan (lp : p.length = b.length) (lq : q.length = b.length) (hb : b.length ≤ 1000000) {acc : List CK} {a i j : Int} {K : Nat} (hK : K ≤ b.length) {r : List CK} (h : Ev (fun k => spec_l4Chunks.j4 k b o t p q acc a i j (b.length : Int) (K : Int)) r) (hb2 : K < b.length → 0 ≤ pg p K ∧ 0 ≤ pg q K) :
    ∀ (d x : Nat), K - x = d → x ≤ K → (∀ z, x ≤ z → z < K → ¬ (0 ≤ pg p z ∧ 0 ≤ pg q z)) → Ev (fun k => spec_l4Chunks.l2 k b o t p q acc a i j (b.length : Int) (x : Int)) r := by
 intro d
 induction d with
 | zero =>
  intro x hd hx _;(obtain rfl : x = K := by omega);refine Ev.step (fun k => by rw [spec_l4Chunks.l2]) (Ev_if (fun h1 => ?_) (fun _ => h));have := hb2 (by omega);refine Ev_pos (by omega) (Ev_pos (by omega) ?_);rw [rd_pg (by omega), rd_pg (by omega)];exact Ev_neg (by omega) (Ev_pos (by omega) (Ev_neg (by omega) h))
 | succ d ih =>
  intro x hd hx hs;have nx_ := ih (x + 1) (by omega) (by omega) (fun z h1 h2 => hs z (by omega) h2);have := hs x (by omega) (by omega);refine Ev.step (fun k => by rw [spec_l4Chunks.l2]) (Ev_pos (by omega) (Ev_pos (by omega) (Ev_pos (by omega) ?_)));rw [rd_pg (by omega), rd_pg (by omega), wsucc' (by omega)];exact Ev_if (fun _ => nx_) (fun _ => Ev_pos (by omega) (Ev_pos (by omega) nx_))
theorem wone {x : Nat} (h : x ≤ 1000000) : wrap64 ((x : Int) + 1) = ((x + 1 : Nat) : Int) := wsucc' (by omega)
theorem wadd {x y : Nat} (h : x ≤ 2000000) (h2 : y ≤ 1000000) : wrap64 ((x : Int) + (y : Int)) = ((x + y : Nat) : Int) := by rw [wid (by omega) (by omega)];omega
set_option maxHeartbeats 1000000 in
theorem srun (lp : p.length = b.length) (lq : q.length = b.length) (hb : b.length ≤ 1000000) {acc : List CK} {K U V M : Nat} (hU1 : U ≤ 2000000) (hV1 : V ≤ 2000000) (hX : K + M ≤ b.length)
    (on : ∀ x, K ≤ x → x < K + M → pg p x = ((U + (x - K) : Nat) : Int) ∧ pg q x = ((V + (x - K) : Nat) : Int)) (off : K + M < b.length → ¬ (pg p (K + M) = ((U + (K + M - K) : Nat) : Int) ∧ pg q (K + M) = ((V + (K + M - K) : Nat) : Int)))
    {r : List CK} (h : Ev (fun k => spec_l4Chunks.j2 k b o t p q acc (K : Int) (U : Int) (V : Int) (b.length : Int) (M : Int)) r) :
    ∀ (d x : Nat), M - x = d → x ≤ M → Ev (fun k => spec_l4Chunks.l1 k b o t p q acc (K : Int) (U : Int) (V : Int) (b.length : Int) (x : Int)) r := by
 (have hK2 : K ≤ 2000000 := by clear on off;omega);(have hM2 : M ≤ 1000000 := by clear on off;omega);have OFF := a_ off;have ON := a_ on;clear off on;intro d
 induction d with
 | zero =>
  intro x hd hx;have hx3 : x ≤ 1000000 := Nat.le_trans hx hM2;(have hxM : x = M := by omega);subst hxM;have w0 : wrap64 ((K : Int) + (x : Int)) = ((K + x : Nat) : Int) := wadd hK2 hx3;have w1 : wrap64 ((U : Int) + (x : Int)) = ((U + x : Nat) : Int) := wadd hU1 hx3;have w2 : wrap64 ((V : Int) + (x : Int)) = ((V + x : Nat) : Int) := wadd hV1 hx3;refine Ev.step (fun k => by rw [spec_l4Chunks.l1]) ?_;rw [w0, w1, w2];refine Ev_if (fun h1 => ?_) (fun _ => h);have ho := OFF.out (by omega);(have e0 : K + x - K = x := by clear ho;omega);rw [e0] at ho;rw [rd_pg (by clear ho;omega), rd_pg (by clear ho;omega)];exact Ev_pos (by clear ho;omega) (Ev_pos (by clear ho;omega) (Ev_if (fun h2 => Ev_pos (by clear ho;omega) (Ev_neg (fun h3 => ho ⟨h2, h3⟩) h)) (fun _ => h)))
 | succ d ih =>
  intro x hd hx;have hx3 : x ≤ 1000000 := Nat.le_trans hx hM2;have nx_ := ih (x + 1) (by omega) (by omega);(have hKp : K + x < p.length := by omega);(have hKq : K + x < q.length := by omega);(have hn : ((K + x : Nat) : Int) < (b.length : Int) := by omega);(have h0 : (0 : Int) ≤ ((K + x : Nat) : Int) := by omega);(have hp_ : ((K + x : Nat) : Int) < (p.length : Int) := by omega);(have hq_ : ((K + x : Nat) : Int) < (q.length : Int) := by omega);(have e0 : K + x - K = x := by omega);have e := ON.out (K + x) (by omega) (by omega);rw [e0] at e;refine Ev.step (fun k => by rw [spec_l4Chunks.l1]) ?_;rw [wadd hK2 hx3, wadd hU1 hx3, wadd hV1 hx3, rd_pg hKp, rd_pg hKq, wone hx3];exact Ev_pos hn (Ev_pos h0 (Ev_pos hp_ (Ev_pos e.1 (Ev_pos hq_ (Ev_pos e.2 nx_)))))
theorem sput (hb : b.length ≤ 1000000) (ho : o.length ≤ 1000000) (ht : t.length ≤ 1000000) {acc : List CK} {K U V M : Nat} (Xn : K + M ≤ b.length) (Um : U + M ≤ o.length) (Vm : V + M ≤ t.length) (hacc : acc.length ≤ 5000000) {r : List CK}
    (h : Ev (fun k => spec_l4Chunks.l2 k b o t p q (acc ++ pt1 (seg b K (K + M)) (seg o U (U + M)) (seg t V (V + M))) ((K + M : Nat) : Int) ((U + M : Nat) : Int) ((V + M : Nat) : Int) (b.length : Int) ((K + M : Nat) : Int)) r) :
    Ev (fun k => spec_l4Chunks.j2 k b o t p q acc (K : Int) (U : Int) (V : Int) (b.length : Int) (M : Int)) r := by
 (have w0 : wrap64 ((K : Int) + (M : Int)) = ((K + M : Nat) : Int) := by rw [wid (by omega) (by omega)];omega);(have w1 : wrap64 ((U : Int) + (M : Int)) = ((U + M : Nat) : Int) := by rw [wid (by omega) (by omega)];omega);(have w2 : wrap64 ((V : Int) + (M : Int)) = ((V + M : Nat) : Int) := by rw [wid (by omega) (by omega)];omega);refine Ev.step (fun k => by rw [spec_l4Chunks.j2]) ?_;rw [w0, w1, w2];clear w0 w1 w2;refine Ev_pos (by omega) (Ev_pos (by omega) (Ev_pos (by omega) (Ev_pos (by omega) (Ev_pos (by omega) (Ev_pos (by omega) (Ev_pos (by omega) (Ev_pos (by omega) (Ev_pos (by omega) ?_))))))));simp only [Int.toNat_natCast];(have y1 : (seg b K (K + M)).length ≤ 1048576 := by rw [seg_len (by omega)];omega);(have y2 : (seg o U (U + M)).length ≤ 1048576 := by rw [seg_len (by omega)];omega);(have y3 : (seg t V (V + M)).length ≤ 1048576 := by rw [seg_len (by omega)];omega);exact Ev_call (sput_tells acc y1 y2 y3 (by omega)) h
theorem slast (lp : p.length = b.length) (lq : q.length = b.length) (hb : b.length ≤ 1000000) (ho : o.length ≤ 1000000) (ht : t.length ≤ 1000000) {acc : List CK} {a i j : Nat} (ha : a ≤ b.length) (hi : i ≤ o.length) (hj : j ≤ t.length) (hacc : acc.length ≤ 4000000) :
    Ev (fun k => spec_l4Chunks.j4 k b o t p q acc (a : Int) (i : Int) (j : Int) (b.length : Int) (b.length : Int)) (acc ++ pt1 (b.drop a) (o.drop i) (t.drop j)) := by
 refine Ev.step (fun k => by rw [spec_l4Chunks.j4]) (Ev_pos rfl (Ev_pos (by omega) (Ev_pos (by omega) (Ev_pos (by omega) (Ev_pos (by omega) (Ev_pos (by omega) (Ev_pos (by omega) ?_)))))));simp only [Int.toNat_natCast];(have z1 : (b.drop a).length ≤ 1048576 := by rw [List.length_drop];omega);(have z2 : (o.drop i).length ≤ 1048576 := by rw [List.length_drop];omega);(have z3 : (t.drop j).length ≤ 1048576 := by rw [List.length_drop];omega);exact Ev_call (sput_tells acc z1 z2 z3 (by omega)) (Ev.now _)
theorem sgap (lp : p.length = b.length) (lq : q.length = b.length) (hb : b.length ≤ 1000000) (ho : o.length ≤ 1000000) (ht : t.length ≤ 1000000) {acc : List CK} {a i j K U V : Nat} (aK : a ≤ K) (Kn : K < b.length) (iU : i ≤ U) (Um : U ≤ o.length) (jV : j ≤ V) (Vm : V ≤ t.length) (hacc : acc.length ≤ 4000000)
    (hU : pg p K = (U : Int)) (hV : pg q K = (V : Int)) {r : List CK}
    (h : Ev (fun k => spec_l4Chunks.l1 k b o t p q (acc ++ pt1 (seg b a K) (seg o i U) (seg t j V)) (K : Int) (U : Int) (V : Int) (b.length : Int) 0) r) :
    Ev (fun k => spec_l4Chunks.j4 k b o t p q acc (a : Int) (i : Int) (j : Int) (b.length : Int) (K : Int)) r := by
 refine Ev.step (fun k => by rw [spec_l4Chunks.j4]) (Ev_neg (by omega) ?_);rw [rd_pg (by omega), rd_pg (by omega), hU, hV];clear hU hV;refine Ev_pos (by omega) (Ev_pos (by omega) (Ev_pos (by omega) (Ev_pos (by omega) (Ev_pos (by omega) (Ev_pos (by omega) (Ev_pos (by omega) (Ev_pos (by omega) (Ev_pos (by omega) (Ev_pos (by omega) (Ev_pos (by omega) (Ev_pos (by omega) ?_)))))))))));simp only [Int.toNat_natCast];(have z1 : (seg b a K).length ≤ 1048576 := by rw [seg_len (by omega)];omega);(have z2 : (seg o i U).length ≤ 1048576 := by rw [seg_len (by omega)];omega);(have z3 : (seg t j V).length ≤ 1048576 := by rw [seg_len (by omega)];omega);refine Ev_call (sput_tells acc z1 z2 z3 (by omega)) (Ev.step (fun k => by rw [spec_l4Chunks.l0]) ?_);exact h
theorem sch_loop_ (hp : PI p b.length o.length) (hq : PI q b.length t.length) (hb : b.length ≤ 1000000) (ho : o.length ≤ 1000000) (ht : t.length ≤ 1000000) : ∀ (d a i j : Nat) (acc : List CK), a ≤ b.length → b.length < d + a → Lo p b.length o.length a i → Lo q b.length t.length a j → acc.length ≤ 2 * a + 1 →
    Ev (fun k => spec_l4Chunks.l2 k b o t p q acc (a : Int) (i : Int) (j : Int) (b.length : Int) (a : Int)) (acc ++ chk b o t p q d a i j) := by
 intro d
 induction d with
 | zero => intro a i j acc ha h;omega
 | succ d ih =>
  intro a i j acc ha h lo1 lo2 hacc;by_cases hl : nx p q (b.length - a) a = b.length;(·have hs := nx_spec p q (b.length - a) a;rw [hl] at hs;rw [chk_last hl];exact sscan hp.len hq.len hb (Nat.le_refl _) (slast hp.len hq.len hb ho ht ha lo1.1 lo2.1 (by omega)) (fun h => absurd h (Nat.lt_irrefl _)) _ a rfl ha hs.2.2.2);obtain ⟨K, U, V, X, hK, hX, s⟩ := st_of hp hq ha lo1 lo2 hl;obtain ⟨aK, Kn, hU, hV, iU, jV, KX, Xn, Um, Vm, on, off, skip, n1, n2⟩ := s;obtain ⟨M, rfl⟩ : ∃ M, X = K + M := ⟨X - K, by omega⟩;(have eM : K + M - K = M := by omega);rw [chk_step hK (by omega) hU hV hX];refine sscan hp.len hq.len hb (by omega) ?_ (fun _ => ⟨by omega, by omega⟩) _ a rfl aK skip;rw [eM] at Um Vm n1 n2 ⊢;have k1 := pt1_len (seg b a K) (seg o i U) (seg t j V);have k2 := pt1_len (seg b K (K + M)) (seg o U (U + M)) (seg t V (V + M));refine sgap hp.len hq.len hb ho ht aK (by omega) iU (by omega) jV (by omega) (by omega) hU hV ?_;have e := ih (K + M) (U + M) (V + M) (acc ++ pt1 (seg b a K) (seg o i U) (seg t j V) ++ pt1 (seg b K (K + M)) (seg o U (U + M)) (seg t V (V + M))) Xn (by omega) n1 n2 (by rw [List.length_append, List.length_append];omega);refine srun hp.len hq.len hb (by omega) (by omega) Xn on off (sput hb ho ht Xn Um Vm (by rw [List.length_append];omega) (Ev_eq e ?_)) _ 0 rfl (by omega);simp only [List.append_assoc]
theorem schk_tells (hb : b.length ≤ 1000000) (ho : o.length ≤ 1000000) (ht : t.length ≤ 1000000) : Ev (fun k => spec_l4Chunks.f k b o t) (CHK b o t) := by
 have hp := PT_PI b o;have hq := PT_PI b t;obtain ⟨X, hX⟩ : ∃ X, rn (PT b o) (PT b t) 0 0 0 b.length 0 = X := ⟨_, rfl⟩;obtain ⟨x1, x2, x3, n1, n2, he⟩ := chk_start hp hq hX;have hs := rn_spec (PT b o) (PT b t) 0 0 0 b.length 0;rw [hX] at hs;unfold spec_l4Chunks.f CHK;rw [← he];refine Ev_call (spt_tells b o hb ho) (Ev_call (spt_tells b t hb ht) (Ev.step (fun k => by rw [spec_l4Chunks.l0]) ?_));have k1 := pt1_len (seg b 0 X) (seg o 0 X) (seg t 0 X);have e := sch_loop_ hp hq hb ho ht (b.length + 1) X X X (pt1 (seg b 0 X) (seg o 0 X) (seg t 0 X)) x1 (by omega) n1 n2 (by omega);have h0 : 0 + X = X := Nat.zero_add X;refine srun (K := 0) (U := 0) (V := 0) (M := X) hp.len hq.len hb (by omega) (by omega) (by omega) (fun x h1 h2 => hs.2.2.1 x h1 (by omega)) (fun h => ?_) (sput (K := 0) (U := 0) (V := 0) hb ho ht (by omega) (by omega) (by omega) (by simp) ?_) _ 0 rfl (by omega);rotate_left;(·rw [h0, List.nil_append];exact e);have := hs.2.2.2 (by omega);rw [h0];exact this
end
end Go.Proofs.Ytjngmhngedecdaa.P
end
section
set_option linter.unusedVariables false
set_option linter.unusedSimpArgs false
namespace Go.Proofs.Ytjngmhngedecdaa.P
open Go.RowKit Go.Proofs.YtjngmhngedecdaaW.PrintWords Go.Proofs.YtjngmhngedecdaaW.PrintLast
theorem COF_small {b o t : List ByteArray} (hb : Small b) (ho : Small o) (ht : Small t) : SmallK (COF b o t).2 := by
 have nil : SmallK ([] : List CK) := ⟨fun c hc => absurd hc (by simp), by simp, by simp [kw]⟩;unfold COF;split;rotate_left;(·exact nil);rename_i h;split;rotate_left;(·exact nil);rename_i h2;have h3 := LF2_zero h2;have w1 := LF_lw h;have w2 := LF_lw h3.1;have w3 := LF_lw h3.2;have n := (LF_zero h).1;exact CHK_small hb ho ht (by omega) (by omega)
theorem sco_tells3 {b o t : List ByteArray} (hb : Small b) (ho : Small o) (ht : Small t) : Ev (fun k => spec_ChunksOf.f k b o t) (COF b o t) := by
 unfold spec_ChunksOf.f COF;refine Ev_call hb.slf (Ev_if (fun h => ?_) (fun h => Ev_val ?_));rotate_left;(·rw [if_neg h]);rw [if_pos h];refine Ev_call (asked_tells ho ht) (Ev_if (fun h2 => ?_) (fun h2 => Ev_val ?_));rotate_left;(·rw [if_neg h2]);rw [if_pos h2];have h3 := LF2_zero h2;have n1 := (LF_zero h).1;have n2 := (LF_zero h3.1).1;have n3 := (LF_zero h3.2).1;exact Ev_call (schk_tells (by omega) (by omega) (by omega)) (Ev.now _)
theorem ico_tells3 {b o t : List ByteArray} (hb : Small b) (ho : Small o) (ht : Small t) : Ev (fun k => impl_ChunksOf.f k b o t) (COF b o t) := by
 unfold impl_ChunksOf.f COF;refine Ev_call hb.ilf (Ev_call ho.ilf (Ev_call ht.ilf (Ev_call (first_tells _ (by simp)) ?_)));(have e : firstOf [LF b, LF o, LF t] = if LF b = 0 then LF2 o t else LF b := by simp only [firstOf, LF2];by_cases h1 : LF b = 0 <;> by_cases h2 : LF o = 0 <;> by_cases h3 : LF t = 0 <;> simp [h1, h2, h3]);rw [e];by_cases h : LF b = 0;rotate_left;(·rw [if_neg h, if_neg h];exact Ev_neg h (Ev_val rfl));rw [if_pos h, if_pos h];refine Ev_if (fun h2 => ?_) (fun h2 => Ev_val ?_);rotate_left;(·rw [if_neg h2]);rw [if_pos h2];have h3 := LF2_zero h2;have n1 := (LF_zero h).1;have n2 := (LF_zero h3.1).1;have n3 := (LF_zero h3.2).1;exact Ev_call (ichk_tells (by omega) (by omega) (by omega)) (Ev.now _)
def Code (c : List Int) : Prop := ∀ x ∈ c, 0 ≤ x ∧ x ≤ 255
theorem Code.rd {c : List Int} (hc : Code c) {i : Int} (h0 : 0 ≤ i) (h1 : i < (c.length : Int)) : 0 ≤ rd c i ∧ rd c i ≤ 255 := by
 obtain ⟨n, rfl⟩ := Int.eq_ofNat_of_zero_le h0;(have hn : n < c.length := by omega);rw [rdi_nat hn];exact hc _ (List.getElem_mem hn)
theorem next_tells {c : List Int} (hc : Code c) {p n : Int} (h0 : 0 ≤ p) (h1 : p ≤ 1000000) (hn : n ≤ 1000000) : ∃ v, spec_l1Next.f c p n = some (v, p + 1) ∧ 0 ≤ v ∧ (1 ≤ n → v < n) := by
 unfold spec_l1Next.f;rw [wid (x := p + 1) (by omega) (by omega), show p + 1 - 1 = p by omega, wid (x := p) (by omega) (by omega)];by_cases c0 : n < 1;(·rw [if_pos c0];exact ⟨0, rfl, by omega, by omega⟩);rw [if_neg c0];by_cases c1 : (c.length : Int) = 0;(·rw [if_pos c1, if_neg (by omega), wid (x := p * 7) (by omega) (by omega)];exact ⟨_, rfl, Int.tmod_nonneg _ (by omega), fun _ => Int.tmod_lt_of_pos _ (by omega)⟩);rw [if_neg c1];have q0 : 0 ≤ Int.tmod p (c.length : Int) := Int.tmod_nonneg _ h0;have q1 : Int.tmod p (c.length : Int) < (c.length : Int) := Int.tmod_lt_of_pos _ (by omega);have r1 := hc.rd q0 q1;rw [if_pos q0, if_pos q1];have d0 : 0 ≤ Int.tdiv p (c.length : Int) := Int.tdiv_nonneg h0 (by omega);have d1 : Int.tdiv p (c.length : Int) ≤ p := Int.tdiv_le_self _ h0;rw [wid (x := Int.tdiv p (c.length : Int)) (by omega) (by omega), wid (x := rd c (Int.tmod p (c.length : Int))) (by omega) (by omega), wid (x := Int.tdiv p (c.length : Int) * 37) (by omega) (by omega), wid (x := rd c (Int.tmod p (c.length : Int)) + Int.tdiv p (c.length : Int) * 37) (by omega) (by omega)];by_cases c2 : n > 200;rotate_left;(·rw [if_neg c2, if_neg (by omega)];exact ⟨_, rfl, Int.tmod_nonneg _ (by omega), fun _ => Int.tmod_lt_of_pos _ (by omega)⟩);rw [if_pos c2, wid (x := p + 1) (by omega) (by omega)];have q2 : 0 ≤ Int.tmod (p + 1) (c.length : Int) := Int.tmod_nonneg _ (by omega);have q3 : Int.tmod (p + 1) (c.length : Int) < (c.length : Int) := Int.tmod_lt_of_pos _ (by omega);have r2 := hc.rd q2 q3
 rw [if_pos q2, if_pos q3, if_neg (by omega), wid (x := rd c (Int.tmod (p + 1) (c.length : Int))) (by omega) (by omega), wid (x := rd c (Int.tmod (p + 1) (c.length : Int)) * 13) (by omega) (by omega),
   wid (x := (rd c (Int.tmod p (c.length : Int)) + Int.tdiv p (c.length : Int) * 37) * 251) (by omega) (by omega), wid (x := (rd c (Int.tmod p (c.length : Int)) + Int.tdiv p (c.length : Int) * 37) * 251 + rd c (Int.tmod (p + 1) (c.length : Int)) * 13) (by omega) (by omega), wid (by omega) (by omega)]
 exact ⟨_, rfl, Int.tmod_nonneg _ (by omega), fun _ => Int.tmod_lt_of_pos _ (by omega)⟩
theorem chance_tells {c : List Int} (hc : Code c) {p n : Int} (h0 : 0 ≤ p) (h1 : p ≤ 1000000) (hn : n ≤ 1000000) : ∃ b, spec_l1Chance.f c p n = some (b, p + 1) := by
 obtain ⟨v, e, _⟩ := next_tells hc h0 h1 hn;unfold spec_l1Chance.f;rw [e];exact ⟨_, rfl⟩
def Lin (lo hi : Nat) (l : List ByteArray) : Prop := ∀ x ∈ l, lo ≤ x.size ∧ x.size ≤ hi
theorem Lin.mono {lo hi lo' hi' : Nat} {l : List ByteArray} (h : Lin lo hi l) (h1 : lo' ≤ lo) (h2 : hi ≤ hi') : Lin lo' hi' l := fun x hx => ⟨Nat.le_trans h1 (h x hx).1, Nat.le_trans (h x hx).2 h2⟩
theorem Lin.app {lo hi : Nat} {l m : List ByteArray} (h : Lin lo hi l) (g : Lin lo hi m) : Lin lo hi (l ++ m) := fun x hx => by
  rcases List.mem_append.1 hx with hx | hx
  · exact h x hx
  · exact g x hx
theorem Lin.one {lo hi : Nat} {s : ByteArray} (h : lo ≤ s.size ∧ s.size ≤ hi) : Lin lo hi [s] := fun x hx => by
  rw [List.mem_singleton.1 hx]
  exact h
theorem Lin.take {lo hi : Nat} {l : List ByteArray} (h : Lin lo hi l) (n : Nat) : Lin lo hi (l.take n) := fun x hx => h x (List.mem_of_mem_take hx)
theorem Lin.drop {lo hi : Nat} {l : List ByteArray} (h : Lin lo hi l) (n : Nat) : Lin lo hi (l.drop n) := fun x hx => h x (List.mem_of_mem_drop hx)
theorem Lin.set {lo hi : Nat} {l : List ByteArray} (h : Lin lo hi l) (i : Nat) {s : ByteArray} (hs : lo ≤ s.size ∧ s.size ≤ hi) : Lin lo hi (l.set i s) := fun x hx => by
  rcases List.mem_or_eq_of_mem_set hx with hx | rfl
  · exact h x hx
  · exact hs
theorem Lin.total {lo hi : Nat} : ∀ {l : List ByteArray}, Lin lo hi l → total l ≤ hi * l.length := by
 intro l
 induction l with
 | nil => intro _;simp [Go.Proofs.Ytjngmhngedecdaa.P.total]
 | cons x l ih =>
  intro h;have h1 := (h x (by simp)).2;have h2 := ih (fun y hy => h y (by simp [hy]));simp only [Go.Proofs.Ytjngmhngedecdaa.P.total, List.length_cons, Nat.mul_add, Nat.mul_one];omega
theorem Lin.small {lo hi : Nat} {l : List ByteArray} (h : Lin lo hi l) (hh : hi ≤ 1000) (hl : l.length ≤ 1000) : Small l := by
 have := h.total;refine ⟨fun x hx => by have := (h x hx).2;omega, by omega, ?_⟩;have : hi * l.length ≤ 1000 * 1000 := Nat.mul_le_mul hh hl;omega
theorem end_size (s : ByteArray) : (s ++ (⟨#[10]⟩ : ByteArray)).size = s.size + 1 := by
 rw [ByteArray.size_append];rfl
theorem word_tells {c : List Int} (hc : Code c) {p : Int} (h0 : 0 ≤ p) (h1 : p ≤ 1000000) : ∃ s, spec_l1Word.f c p = some (s, p + 1) ∧ s.size ≤ 7 := by
 obtain ⟨v, e, v0, v1⟩ := next_tells hc (n := 9) h0 h1 (by omega);unfold spec_l1Word.f;rw [Option.bind_some, e, Option.bind_some];have v2 := v1 (by omega);obtain ⟨n, rfl⟩ := Int.eq_ofNat_of_zero_le v0;(have hn : n < ([(⟨#[97]⟩ : ByteArray), (⟨#[98]⟩ : ByteArray), (⟨#[99]⟩ : ByteArray), (⟨#[100]⟩ : ByteArray), (⟨#[120, 32, 121]⟩ : ByteArray), (⟨#[]⟩ : ByteArray), (⟨#[60, 60, 60, 60, 60, 60, 60]⟩ : ByteArray), (⟨#[61, 61, 61, 61, 61, 61, 61]⟩ : ByteArray), (⟨#[111, 110, 101]⟩ : ByteArray)] : List ByteArray).length := by show n < 9;omega);rw [if_pos v0, if_pos (by omega), rd_nat _ hn];refine ⟨_, rfl, ?_⟩;(have all : ∀ x ∈ ([(⟨#[97]⟩ : ByteArray), (⟨#[98]⟩ : ByteArray), (⟨#[99]⟩ : ByteArray), (⟨#[100]⟩ : ByteArray), (⟨#[120, 32, 121]⟩ : ByteArray), (⟨#[]⟩ : ByteArray), (⟨#[60, 60, 60, 60, 60, 60, 60]⟩ : ByteArray), (⟨#[61, 61, 61, 61, 61, 61, 61]⟩ : ByteArray), (⟨#[111, 110, 101]⟩ : ByteArray)] : List ByteArray), x.size ≤ 7 := by decide);exact all _ (List.getElem_mem hn)
theorem lines_loop {c : List Int} (hc : Code c) : ∀ (d : Nat) (p : Int) (o : List ByteArray), d ≤ 100 → 0 ≤ p → p ≤ 900000 + (100 - d) → o.length + d ≤ 1000 → Lin 1 8 o →
    ∃ r q, Ev (fun k => spec_l1Lines.l0 k (d : Int) o c p) (r, q) ∧ Lin 1 8 r ∧ r.length ≤ o.length + d ∧ p ≤ q ∧ q ≤ p + d + 2 := by
 intro d
 induction d with
 | zero =>
  intro p o hd h0 h1 ho hl;by_cases c0 : (o.length : Int) > 0;rotate_left;(·exact ⟨o, p, Ev.step (fun k => by rw [spec_l1Lines.l0]) (Ev_neg (by omega) (Ev_neg c0 (Ev.now _))), hl, by omega, by omega, by omega⟩);obtain ⟨b, e⟩ := chance_tells hc (p := p) (n := 5) h0 (by omega) (by omega)
  cases b with
  | false =>
   refine ⟨o, p + 1, Ev.step (fun k => by rw [spec_l1Lines.l0]) ?_, hl, by omega, by omega, by omega⟩;refine Ev_neg (by omega) (Ev_pos c0 (Ev_const e ?_));exact Ev_neg (by simp) (Ev.now _)
  | true =>
   obtain ⟨v, e2, v0, v1⟩ := next_tells hc (p := p + 1) (n := 3) (by omega) (by omega) (by omega);have v2 := v1 (by omega);obtain ⟨n, rfl⟩ := Int.eq_ofNat_of_zero_le v0;(have hn : n < ([(⟨#[122]⟩ : ByteArray), (⟨#[97]⟩ : ByteArray), (⟨#[101, 110, 100]⟩ : ByteArray)] : List ByteArray).length := by show n < 3;omega);(have all : ∀ x ∈ ([(⟨#[122]⟩ : ByteArray), (⟨#[97]⟩ : ByteArray), (⟨#[101, 110, 100]⟩ : ByteArray)] : List ByteArray), 1 ≤ x.size ∧ x.size ≤ 8 := by decide);refine ⟨o.set ((o.length : Int) - 1).toNat ([(⟨#[122]⟩ : ByteArray), (⟨#[97]⟩ : ByteArray), (⟨#[101, 110, 100]⟩ : ByteArray)] : List ByteArray)[n], p + 1 + 1, ?_, hl.set _ (all _ (List.getElem_mem hn)), by rw [List.length_set];omega, by omega, by omega⟩;refine Ev.step (fun k => by rw [spec_l1Lines.l0]) ?_;refine Ev_neg (by omega) (Ev_pos c0 (Ev_const e ?_));refine Ev_pos rfl (Ev_const rfl (Ev_const e2 ?_));refine Ev_pos v0 (Ev_pos (by omega) ?_);rw [wid (by omega) (by omega), rd_nat _ hn];exact Ev_pos (by omega) (Ev_pos (by omega) (Ev.now _))
 | succ d ih =>
  intro p o hd h0 h1 ho hl;obtain ⟨s, e, hs⟩ := word_tells hc (p := p) h0 (by omega);obtain ⟨r, q, hr, g1, g2, g3, g4⟩ := ih (p + 1) (o ++ [s ++ (⟨#[10]⟩ : ByteArray)]) (by omega) (by omega) (by omega) (by rw [List.length_append];simp only [List.length_singleton];omega) (hl.app (Lin.one (by rw [end_size];omega)));rw [List.length_append, List.length_singleton] at g2;refine ⟨r, q, Ev.step (fun k => by rw [spec_l1Lines.l0]) ?_, g1, by omega, by omega, by omega⟩;refine Ev_pos (by omega) (Ev_const e ?_);rw [wpred (by omega)];refine Ev_pos (by show s.size + 1 ≤ 9223372036854775807;omega) (Ev_pos (by omega) ?_);exact hr
theorem lines_tells {c : List Int} (hc : Code c) {p n : Int} (h0 : 0 ≤ p) (h1 : p ≤ 900000) (n0 : 0 ≤ n) (n1 : n ≤ 100) :
    ∃ r q, Ev (fun k => spec_l1Lines.f k c p n) (r, q) ∧ Lin 1 8 r ∧ r.length ≤ 100 ∧ p ≤ q ∧ q ≤ p + 102 := by
 obtain ⟨m, rfl⟩ := Int.eq_ofNat_of_zero_le n0;obtain ⟨r, q, hr, g1, g2, g3, g4⟩ := lines_loop hc m p [] (by omega) h0 (by omega) (by simp only [List.length_nil];omega) (fun x hx => absurd hx (by simp));simp only [List.length_nil] at g2;exact ⟨r, q, hr, g1, by omega, g3, by omega⟩
theorem near_pass {c : List Int} (p : Int) : ∀ (y x : List ByteArray), x.length + y.length ≤ 1000 → Lin 1 9 x → Lin 1 8 y → ∃ r, Ev (fun k => spec_l1Near.l1 k (x ++ y) (x.length : Int) c p) (r, p) ∧ Lin 1 9 r ∧ r.length = x.length + y.length := by
 intro y
 induction y with
 | nil =>
  intro x hl hx hy;refine ⟨x, Ev.step (fun k => by rw [spec_l1Near.l1]) ?_, hx, rfl⟩;rw [List.append_nil, wid (by omega) (by omega)];exact Ev_neg (by omega) (Ev.now _)
 | cons s y ih =>
  intro x hl hx hy;rw [List.length_cons] at hl;have hs := hy s (by simp);(have hy' : Lin 1 8 y := fun z hz => hy z (by simp [hz]));(have hlen : (x ++ s :: y).length = x.length + y.length + 1 := by rw [List.length_append, List.length_cons];omega);by_cases c0 : y = [];(·subst c0;refine ⟨x ++ [s], Ev.step (fun k => by rw [spec_l1Near.l1]) ?_, hx.app (Lin.one (by omega)), by simp⟩;rw [hlen, wid (by omega) (by omega)];exact Ev_neg (by simp only [List.length_nil];first | done | omega) (Ev.now _));have hpos : 0 < y.length := List.length_pos_iff.2 c0;(have hat : rdOf ByteArray.empty (x ++ s :: y) (x.length : Int) = s := by rw [rd_nat _ (by omega)];simp);(have go : ∀ s' : ByteArray, 1 ≤ s'.size ∧ s'.size ≤ 9 → ∃ r, Ev (fun k => spec_l1Near.l1 k (x ++ s' :: y) ((x.length + 1 : Nat) : Int) c p) (r, p) ∧ Lin 1 9 r ∧ r.length = x.length + (y.length + 1) := by intro s' hs';obtain ⟨r, h1, h2, h3⟩ := ih (x ++ [s']) (by rw [List.length_append, List.length_singleton];omega) (hx.app (Lin.one hs')) hy';rw [List.append_assoc, List.length_append, List.length_singleton] at h1;rw [List.length_append, List.length_singleton] at h3;exact ⟨r, h1, h2, by omega⟩);(have head : ∀ {r : List ByteArray}, Ev (fun k => if (bt s ((s.size : Int) - 1)) = 10 then (spec_l1Near.l1 k (x ++ s :: y) ((x.length + 1 : Nat) : Int) c p) else (if s.size + 1 ≤ 9223372036854775807 then (spec_l1Near.l1 k ((x ++ s :: y).set x.length (s ++ (⟨#[10]⟩ : ByteArray))) ((x.length + 1 : Nat) : Int) c p) else (none))) (r, p) → Ev (fun k => spec_l1Near.l1 k (x ++ s :: y) (x.length : Int) c p) (r, p) := by intro r hr;refine Ev.step (fun k => by rw [spec_l1Near.l1]) ?_;rw [hlen, hat, wid (x := ((x.length + y.length + 1 : Nat) : Int) - 1) (by omega) (by omega), wid (x := (s.size : Int) - 1) (by omega) (by omega), wsucc' (by omega), Int.toNat_natCast];exact Ev_pos (by omega) (Ev_pos (by omega) (Ev_pos (by omega) (Ev_pos (by omega) (Ev_pos (by omega) hr)))));by_cases c1 : bt s ((s.size : Int) - 1) = 10;(·obtain ⟨r, h1, h2, h3⟩ := go s (by omega);exact ⟨r, head (Ev_pos c1 h1), h2, by rw [List.length_cons];exact h3⟩);obtain ⟨r, h1, h2, h3⟩ := go (s ++ (⟨#[10]⟩ : ByteArray)) (by rw [end_size];omega);refine ⟨r, head (Ev_neg c1 (Ev_pos (by omega) ?_)), h2, by rw [List.length_cons];exact h3⟩;rw [show (x ++ s :: y).set x.length (s ++ (⟨#[10]⟩ : ByteArray)) = x ++ (s ++ (⟨#[10]⟩ : ByteArray)) :: y by simp];exact h1
theorem near_loop {c : List Int} (hc : Code c) : ∀ (d : Nat) (p : Int) (o : List ByteArray), d ≤ 100 → 0 ≤ p → p ≤ 900000 + 3 * (100 - d) → o.length + d ≤ 900 → Lin 1 8 o →
    ∃ r q, Ev (fun k => spec_l1Near.l0 k o (d : Int) c p) (r, q) ∧ Lin 1 9 r ∧ r.length ≤ o.length + d ∧ p ≤ q ∧ q ≤ p + 3 * d := by
 intro d
 induction d with
 | zero =>
  intro p o hd h0 h1 ho hl;obtain ⟨r, hr, g1, g2⟩ := near_pass (c := c) p o [] (by simp only [List.length_nil];omega) (fun x hx => absurd hx (by simp)) hl;refine ⟨r, p, Ev.step (fun k => by rw [spec_l1Near.l0]) ?_, g1, by simp only [List.length_nil] at g2;omega, by omega, by omega⟩;exact Ev_neg (by omega) hr
 | succ d ih =>
  intro p o hd h0 h1 ho hl;obtain ⟨v, e, v0, v1⟩ := next_tells hc (p := p) (n := (o.length : Int) + 1) h0 (by omega) (by omega);have v2 := v1 (by omega);obtain ⟨i, rfl⟩ := Int.eq_ofNat_of_zero_le v0;obtain ⟨u, e2, u0, u1⟩ := next_tells hc (p := p + 1) (n := 4) (by omega) (by omega) (by omega);have u2 := u1 (by omega);(have nx : ∀ (o' : List ByteArray) (p' : Int), 0 ≤ p' → p' ≤ p + 3 → p + 2 ≤ p' → o'.length ≤ o.length + 1 → Lin 1 8 o' → ∃ r q, Ev (fun k => spec_l1Near.l0 k o' (wrap64 (((d + 1 : Nat) : Int) - 1)) c p') (r, q) ∧ Lin 1 9 r ∧ r.length ≤ o.length + (d + 1) ∧ p ≤ q ∧ q ≤ p + 3 * (d + 1 : Nat) := by intro o' p' a1 a2 a3 a4 a5;obtain ⟨r, q, hr, g1, g2, g3, g4⟩ := ih p' o' (by omega) a1 (by omega) (by omega) a5;rw [wpred (by omega)];exact ⟨r, q, hr, g1, by omega, by omega, by omega⟩)
  have start : ∀ {r : List ByteArray} {q : Int}, Ev (fun k => if u = 0 then (if (i : Int) < (o.length : Int) then ((some (([] : List ByteArray) : List ByteArray)).bind fun y807 => (if 0 ≤ (i : Int) then (if (i : Int) ≤ (o.length : Int) then ((some (o.take (i : Int).toNat : List ByteArray)).bind fun y810 => (if y807.length + y810.length < 8796093022208 then ((some (y807 ++ y810 : List ByteArray)).bind fun y814 => (if 0 ≤ (wrap64 ((i : Int) + 1)) then (if (wrap64 ((i : Int) + 1)) ≤ (o.length : Int) then ((some (o.drop ((wrap64 ((i : Int) + 1)) : Int).toNat : List ByteArray)).bind fun y817 => (if y814.length + y817.length < 8796093022208 then (spec_l1Near.l0 k (y814 ++ y817) (wrap64 (((d + 1 : Nat) : Int) - 1)) c (p + 1 + 1)) else (none))) else (none)) else (none))) else (none))) else (none)) else (none))) else (spec_l1Near.l0 k o (wrap64 (((d + 1 : Nat) : Int) - 1)) c (p + 1 + 1))) else (if u = 1 then (spec_l1Near.j1 k o ((d + 1 : Nat) : Int) (o.length : Int) (i : Int) u (u == 1) c (p + 1 + 1)) else (spec_l1Near.j1 k o ((d + 1 : Nat) : Int) (o.length : Int) (i : Int) u (u == 2) c (p + 1 + 1)))) (r, q) →
      Ev (fun k => spec_l1Near.l0 k o ((d + 1 : Nat) : Int) c p) (r, q) := by
    intro r q h
    refine Ev.step (fun k => by rw [spec_l1Near.l0]) (Ev_pos (by omega) ?_)
    rw [wid (x := (o.length : Int) + 1) (by omega) (by omega)]
    exact Ev_const e (Ev_const e2 h)
  by_cases c0 : u = 0;(·by_cases c1 : (i : Int) < (o.length : Int);rotate_left;(·obtain ⟨r, q, hr, g⟩ := nx o (p + 1 + 1) (by omega) (by omega) (by omega) (by omega) hl;exact ⟨r, q, start (Ev_pos c0 (Ev_neg c1 hr)), g⟩);obtain ⟨r, q, hr, g⟩ := nx (([] ++ o.take i) ++ o.drop (i + 1)) (p + 1 + 1) (by omega) (by omega) (by omega) (by rw [List.length_append, List.nil_append, List.length_take, List.length_drop];omega) (((hl.take i)).app (hl.drop _));refine ⟨r, q, start (Ev_pos c0 (Ev_pos c1 (Ev_const rfl (Ev_pos (by omega) (Ev_pos (by omega) (Ev_const rfl (Ev_pos (by rw [Int.toNat_natCast, List.length_take];simp only [List.length_nil];omega) (Ev_const rfl ?_)))))))), g⟩;rw [wsucc' (by omega), Int.toNat_natCast, Int.toNat_natCast];exact Ev_pos (by omega) (Ev_pos (by omega) (Ev_const rfl (Ev_pos (by rw [List.nil_append, List.length_take, List.length_drop];omega) hr))));(have ins : ∀ b : Bool, b = true → ∃ r q, Ev (fun k => spec_l1Near.j1 k o ((d + 1 : Nat) : Int) (o.length : Int) (i : Int) u b c (p + 1 + 1)) (r, q) ∧ Lin 1 9 r ∧ r.length ≤ o.length + (d + 1) ∧ p ≤ q ∧ q ≤ p + 3 * (d + 1 : Nat) := by intro b hb;obtain ⟨s, e3, hs⟩ := word_tells hc (p := p + 1 + 1) (by omega) (by omega);obtain ⟨r, q, hr, g⟩ := nx ((([] ++ o.take i) ++ [s ++ (⟨#[10]⟩ : ByteArray)]) ++ o.drop i) (p + 1 + 1 + 1) (by omega) (by omega) (by omega) (by rw [List.length_append, List.length_append, List.nil_append, List.length_take, List.length_drop];simp only [List.length_singleton];omega) (((hl.take i).app (Lin.one (by rw [end_size];omega))).app (hl.drop _));refine ⟨r, q, Ev.step (fun k => by rw [spec_l1Near.j1]) ?_, g⟩;refine Ev_pos hb (Ev_const rfl ?_);refine Ev_pos (by omega) (Ev_pos (by omega) (Ev_const rfl ?_));refine Ev_pos (by rw [Int.toNat_natCast, List.length_take];simp only [List.length_nil];omega) (Ev_const rfl (Ev_const e3 ?_));rw [Int.toNat_natCast];exact Ev_pos (by show s.size + 1 ≤ 9223372036854775807;omega) (Ev_pos (by rw [List.nil_append, List.length_take];omega) (Ev_const rfl (Ev_const rfl (Ev_pos (by rw [List.length_append, List.nil_append, List.length_take, List.length_drop];simp only [List.length_singleton];omega) hr)))));by_cases c1 : u = 1;(·obtain ⟨r, q, hr, g⟩ := ins (u == 1) (by simp [c1]);exact ⟨r, q, start (Ev_neg c0 (Ev_pos c1 hr)), g⟩);by_cases c2 : u = 2;(·obtain ⟨r, q, hr, g⟩ := ins (u == 2) (by simp [c2]);exact ⟨r, q, start (Ev_neg c0 (Ev_neg c1 hr)), g⟩);(have c3 : u = 3 := by omega);by_cases c4 : (i : Int) < (o.length : Int);rotate_left;(·obtain ⟨r, q, hr, g⟩ := nx o (p + 1 + 1) (by omega) (by omega) (by omega) (by omega) hl;refine ⟨r, q, start (Ev_neg c0 (Ev_neg c1 (Ev.step (fun k => by rw [spec_l1Near.j1]) ?_))), g⟩;exact Ev_neg (by simp [c2]) (Ev_pos c3 (Ev_neg c4 hr)));obtain ⟨s, e3, hs⟩ := word_tells hc (p := p + 1 + 1) (by omega) (by omega);obtain ⟨r, q, hr, g⟩ := nx (o.set i (s ++ (⟨#[10]⟩ : ByteArray))) (p + 1 + 1 + 1) (by omega) (by omega) (by omega) (by rw [List.length_set];omega) (hl.set _ (by rw [end_size];omega));refine ⟨r, q, start (Ev_neg c0 (Ev_neg c1 (Ev.step (fun k => by rw [spec_l1Near.j1]) ?_))), g⟩;refine Ev_neg (by simp [c2]) (Ev_pos c3 (Ev_pos c4 (Ev_const e3 ?_)));rw [Int.toNat_natCast];exact Ev_pos (by show s.size + 1 ≤ 9223372036854775807;omega) (Ev_pos (by omega) (Ev_pos c4 hr))
theorem near_tells {c : List Int} (hc : Code c) {p : Int} (h0 : 0 ≤ p) (h1 : p ≤ 900000) {l : List ByteArray} (hl : l.length ≤ 500) (hi : Lin 1 8 l) :
    ∃ r q, Ev (fun k => spec_l1Near.f k c p l) (r, q) ∧ Lin 1 9 r ∧ r.length ≤ l.length + 3 ∧ p ≤ q ∧ q ≤ p + 10 := by
 obtain ⟨v, e, v0, v1⟩ := next_tells hc (p := p) (n := 4) h0 (by omega) (by omega);have v2 := v1 (by omega);obtain ⟨m, rfl⟩ := Int.eq_ofNat_of_zero_le v0;obtain ⟨r, q, hr, g1, g2, g3, g4⟩ := near_loop hc m (p + 1) ([] ++ l) (by omega) (by omega) (by omega) (by rw [List.nil_append];omega) hi;refine ⟨r, q, ?_, g1, by rw [List.nil_append] at g2;omega, by omega, by omega⟩;unfold spec_l1Near.f;exact Ev_const rfl (Ev_pos (by simp only [List.length_nil];omega) (Ev_const e hr))
theorem bent_loop {c : List Int} (hc : Code c) : ∀ (d i : Nat) (p : Int) (o : List ByteArray), 101 - i = d → i ≤ 101 → o.length = 101 → 0 ≤ p → p ≤ 950000 + (i : Int) → Lin 0 10 o →
    ∃ r q, Ev (fun k => spec_l1Bent.l0 k o (i : Int) c p) (r, q) ∧ Lin 0 10 r ∧ r.length = 101 ∧ p ≤ q ∧ q ≤ p + 102 - i := by
 intro d
 induction d with
 | zero =>
  intro i p o hd hi ho h0 h1 hl;obtain ⟨v, e, v0, v1⟩ := next_tells hc (p := p) (n := 2) h0 (by omega) (by omega);refine ⟨o, p + 1, Ev.step (fun k => by rw [spec_l1Bent.l0]) ?_, hl, ho, by omega, by omega⟩;refine Ev_const e ?_;have v2 := v1 (by omega);rw [wid (by omega) (by omega)];exact Ev_neg (by omega) (Ev.now _)
 | succ d ih =>
  intro i p o hd hi ho h0 h1 hl;obtain ⟨v, e, v0, v1⟩ := next_tells hc (p := p) (n := 2) h0 (by omega) (by omega);have v2 := v1 (by omega);by_cases c0 : (i : Int) < (o.length : Int) - v;rotate_left;(·refine ⟨o, p + 1, Ev.step (fun k => by rw [spec_l1Bent.l0]) ?_, hl, ho, by omega, by omega⟩;refine Ev_const e ?_;rw [wid (by omega) (by omega)];exact Ev_neg c0 (Ev.now _));obtain ⟨r, q, hr, g1, g2, g3, g4⟩ := ih (i + 1) (p + 1) (o.set i (⟨#[10]⟩ : ByteArray)) (by omega) (by omega) (by rw [List.length_set];exact ho) (by omega) (by omega) (hl.set _ (by decide));refine ⟨r, q, Ev.step (fun k => by rw [spec_l1Bent.l0]) ?_, g1, g2, by omega, by omega⟩;refine Ev_const e ?_;rw [wid (x := (o.length : Int) - v) (by omega) (by omega), wsucc' (by omega), Int.toNat_natCast];exact Ev_pos c0 (Ev_pos (by omega) (Ev_pos (by omega) hr))
theorem bent_tells {c : List Int} (hc : Code c) {p : Int} (h0 : 0 ≤ p) (h1 : p ≤ 900000) {l : List ByteArray} (hl : l.length ≤ 900) (hi : Lin 0 10 l) :
    ∃ r q, Ev (fun k => spec_l1Bent.f k c p l) (r, q) ∧ Lin 0 10 r ∧ r.length ≤ 900 ∧ p ≤ q ∧ q ≤ p + 110 := by
 by_cases c0 : (l.length : Int) = 0;(·refine ⟨l, p, ?_, hi, hl, by omega, by omega⟩;unfold spec_l1Bent.f;exact Ev_pos c0 (Ev.now _));obtain ⟨v, e, v0, v1⟩ := next_tells hc (p := p) (n := (([] ++ l : List ByteArray).length : Int)) h0 (by omega) (by rw [List.nil_append];omega);rw [List.nil_append] at v1;have v2 := v1 (by omega);obtain ⟨i, rfl⟩ := Int.eq_ofNat_of_zero_le v0;obtain ⟨u, e2, u0, u1⟩ := next_tells hc (p := p + 1) (n := 24) (by omega) (by omega) (by omega)
 have start : ∀ {r : List ByteArray} {q : Int}, Ev (fun k => if u = 0 then (if 0 ≤ (i : Int) then (if (i : Int) < (l.length : Int) then (some ((l.set (i : Int).toNat (⟨#[]⟩ : ByteArray)), (p + 1 + 1))) else (none)) else (none)) else (if u = 1 then (if 0 ≤ (i : Int) then (if (i : Int) < (l.length : Int) then (some ((l.set (i : Int).toNat (⟨#[97, 10, 98, 10]⟩ : ByteArray)), (p + 1 + 1))) else (none)) else (none)) else (if u = 2 then (if 0 ≤ (i : Int) then (if (i : Int) < (l.length : Int) then (some ((l.set (i : Int).toNat (⟨#[113]⟩ : ByteArray)), (p + 1 + 1))) else (none)) else (none)) else (if u = 3 then (if 101 ≤ 17592186044416 then (spec_l1Bent.l0 k (List.replicate 101 (⟨#[]⟩ : ByteArray)) 0 c (p + 1 + 1)) else (none)) else (some (l, (p + 1 + 1))))))) (r, q) →
     Ev (fun k => spec_l1Bent.f k c p l) (r, q) := by
   intro r q h
   unfold spec_l1Bent.f
   exact Ev_neg c0 (Ev_const rfl (Ev_pos (by simp only [List.length_nil];omega) (Ev_const rfl (Ev_const e (Ev_const e2 h)))))
 by_cases c1 : u = 0;(·exact ⟨_, _, start (Ev_pos c1 (Ev_pos (by omega) (Ev_pos (by omega) (Ev.now _)))), hi.set _ (by decide), by rw [List.length_set];exact hl, by omega, by omega⟩);by_cases c2 : u = 1;(·exact ⟨_, _, start (Ev_neg c1 (Ev_pos c2 (Ev_pos (by omega) (Ev_pos (by omega) (Ev.now _))))), hi.set _ (by decide), by rw [List.length_set];exact hl, by omega, by omega⟩);by_cases c3 : u = 2;(·exact ⟨_, _, start (Ev_neg c1 (Ev_neg c2 (Ev_pos c3 (Ev_pos (by omega) (Ev_pos (by omega) (Ev.now _)))))), hi.set _ (by decide), by rw [List.length_set];exact hl, by omega, by omega⟩);by_cases c4 : u = 3;rotate_left;(·exact ⟨l, p + 1 + 1, start (Ev_neg c1 (Ev_neg c2 (Ev_neg c3 (Ev_neg c4 (Ev.now _))))), hi, hl, by omega, by omega⟩);obtain ⟨r, q, hr, g1, g2, g3, g4⟩ := bent_loop hc _ 0 (p + 1 + 1) (List.replicate 101 (⟨#[]⟩ : ByteArray)) rfl (by omega) (by simp) (by omega) (by omega) (fun x hx => by rw [List.eq_of_mem_replicate hx];decide);exact ⟨r, q, start (Ev_neg c1 (Ev_neg c2 (Ev_neg c3 (Ev_pos c4 (Ev_pos (by omega) hr))))), g1, by omega, by omega, by omega⟩
theorem three_tells {c : List Int} (hc : Code c) {p : Int} (h0 : 0 ≤ p) (h1 : p ≤ 1000) :
    ∃ x y z q, Ev (fun k => spec_l4Three.f k c p) (x, y, z, q) ∧ (Lin 1 9 x ∧ x.length ≤ 200) ∧ (Lin 1 9 y ∧ y.length ≤ 200) ∧ (Lin 1 9 z ∧ z.length ≤ 200) ∧ 0 ≤ q ∧ q ≤ p + 300 := by
 obtain ⟨v, e, v0, v1⟩ := next_tells hc (p := p) (n := 9) (by omega) (by omega) (by omega);have v2 := v1 (by omega);obtain ⟨a, p1, ha, a1, a2, a3, a4⟩ := lines_tells hc (p := p + 1) (n := v) (by omega) (by omega) v0 (by omega);obtain ⟨b, p2, hb, b1, b2, b3, b4⟩ := near_tells hc (p := p1) (by omega) (by omega) (l := a) (by omega) a1;obtain ⟨d, p3, hd, d1, d2, d3, d4⟩ := near_tells hc (p := p2) (by omega) (by omega) (l := a) (by omega) a1;obtain ⟨u, e2, u0, u1⟩ := next_tells hc (p := p3) (n := 8) (by omega) (by omega) (by omega);have a9 : Lin 1 9 a ∧ a.length ≤ 200 := ⟨a1.mono (by omega) (by omega), by omega⟩;have b9 : Lin 1 9 b ∧ b.length ≤ 200 := ⟨b1, by omega⟩;have d9 : Lin 1 9 d ∧ d.length ≤ 200 := ⟨d1, by omega⟩;(have start : ∀ {r : List ByteArray × List ByteArray × List ByteArray × Int}, Ev (fun k => (if u = 0 then ((spec_l4Copy.f a).bind fun t => (some (a, t, d, p3 + 1))) else (if u = 1 then ((spec_l4Copy.f a).bind fun t => (some (a, b, t, p3 + 1))) else (if u = 2 then ((spec_l4Copy.f b).bind fun t => (some (a, b, t, p3 + 1))) else (some (a, b, d, p3 + 1)))))) r → Ev (fun k => spec_l4Three.f k c p) r := by intro r h;unfold spec_l4Three.f;exact Ev_const e (Ev_call ha (Ev_call hb (Ev_call hd (Ev_const e2 h)))));by_cases c0 : u = 0;(·exact ⟨a, a, d, p3 + 1, start (Ev_pos c0 (Ev_const (copy_tells (by omega)) (Ev.now _))), a9, a9, d9, by omega, by omega⟩);by_cases c1 : u = 1;(·exact ⟨a, b, a, p3 + 1, start (Ev_neg c0 (Ev_pos c1 (Ev_const (copy_tells (by omega)) (Ev.now _)))), a9, b9, a9, by omega, by omega⟩);by_cases c2 : u = 2;(·exact ⟨a, b, b, p3 + 1, start (Ev_neg c0 (Ev_neg c1 (Ev_pos c2 (Ev_const (copy_tells (by omega)) (Ev.now _))))), a9, b9, b9, by omega, by omega⟩);exact ⟨a, b, d, p3 + 1, start (Ev_neg c0 (Ev_neg c1 (Ev_neg c2 (Ev.now _)))), a9, b9, d9, by omega, by omega⟩
theorem drawc {c : List Int} (hc : Code c) : ∃ x y z, Ev (fun k => spec_DrawChunksOf.f k c) (x, y, z) ∧ Small x ∧ Small y ∧ Small z := by
 obtain ⟨x, y, z, q, h, ⟨x1, x2⟩, ⟨y1, y2⟩, ⟨z1, z2⟩, q0, q1⟩ := three_tells hc (p := 0) (by omega) (by omega);obtain ⟨u, e, u0, u1⟩ := next_tells hc (p := q) (n := 20) (by omega) (by omega) (by omega);have sx := x1.small (by omega) (by omega);have sy := y1.small (by omega) (by omega);have sz := z1.small (by omega) (by omega);obtain ⟨x', _, hx, gx, lx, _⟩ := bent_tells hc (p := q + 1) (by omega) (by omega) (l := x) (by omega) (x1.mono (by omega) (by omega));obtain ⟨y', _, hy, gy, ly, _⟩ := bent_tells hc (p := q + 1) (by omega) (by omega) (l := y) (by omega) (y1.mono (by omega) (by omega));obtain ⟨z', _, hz, gz, lz, _⟩ := bent_tells hc (p := q + 1) (by omega) (by omega) (l := z) (by omega) (z1.mono (by omega) (by omega));(have start : ∀ {r : List ByteArray × List ByteArray × List ByteArray}, Ev (fun k => (if u = 0 then ((spec_l1Bent.f k c (q + 1) x).bind fun b => (some (b.1, y, z))) else (if u = 1 then ((spec_l1Bent.f k c (q + 1) y).bind fun b => (some (x, b.1, z))) else (if u = 2 then ((spec_l1Bent.f k c (q + 1) z).bind fun b => (some (x, y, b.1))) else (some (x, y, z)))))) r → Ev (fun k => spec_DrawChunksOf.f k c) r := by intro r hh;unfold spec_DrawChunksOf.f;exact Ev_const (a := (c, 0)) (by unfold spec_l1Source.f;rfl) (Ev_call h (Ev_const e hh)));by_cases c0 : u = 0;(·exact ⟨x', y, z, start (Ev_pos c0 (Ev_call hx (Ev.now _))), gx.small (by omega) (by omega), sy, sz⟩);by_cases c1 : u = 1;(·exact ⟨x, y', z, start (Ev_neg c0 (Ev_pos c1 (Ev_call hy (Ev.now _)))), sx, gy.small (by omega) (by omega), sz⟩);by_cases c2 : u = 2;(·exact ⟨x, y, z', start (Ev_neg c0 (Ev_neg c1 (Ev_pos c2 (Ev_call hz (Ev.now _))))), sx, sy, gz.small (by omega) (by omega)⟩);exact ⟨x, y, z, start (Ev_neg c0 (Ev_neg c1 (Ev_neg c2 (Ev.now _)))), sx, sy, sz⟩
end Go.Proofs.Ytjngmhngedecdaa.P
end
section
set_option linter.unusedVariables false
namespace Go.Proofs.Ytjngmhngedecdaa.P.WeaveSide
open Go.RowKit Go.Proofs.YtjngmhngedecdaaW.PrintWords Go.Proofs.YtjngmhngedecdaaW.PrintLast
def WS (l : List CK) (n : Int) : Int × List ByteArray := if CKF l = 0 then (if 0 ≤ n ∧ n ≤ 2 then (0, sides n l) else (3, [])) else (CKF l, [])
theorem i_tells {l : List CK} (hs : SmallK l) (n : Int) : Ev (fun k => impl_WeaveSide.f k l n) (WS l n) := by
 unfold impl_WeaveSide.f WS;(have hcode : impl_codeIf.f (!decide (0 ≤ n ∧ n ≤ 2)) 3 = some (if 0 ≤ n ∧ n ≤ 2 then 0 else 3) := by unfold impl_codeIf.f;by_cases h : 0 ≤ n ∧ n ≤ 2;(·rw [decide_eq_true h, if_pos h];rfl);rw [decide_eq_false h, if_neg h];rfl);refine Ev_call (ickf_tells hs) (Ev_const (within_tells n 0 2) (Ev_const hcode (Ev_call (first_tells _ (by simp)) ?_)));by_cases h1 : CKF l = 0;rotate_left;(·rw [if_neg h1];(have e : firstOf [CKF l, if 0 ≤ n ∧ n ≤ 2 then 0 else 3] = CKF l := by rw [firstOf, if_neg h1]);rw [e];exact Ev_neg h1 (Ev_val rfl));rw [if_pos h1];by_cases h2 : 0 ≤ n ∧ n ≤ 2;(·rw [if_pos h2, if_pos h2, h1];exact Ev_pos rfl (Ev_call (iside_tells hs n h2.1 h2.2) (Ev.now _)));rw [if_neg h2, if_neg h2, h1];exact Ev_neg (by decide) (Ev_val rfl)
end Go.Proofs.Ytjngmhngedecdaa.P.WeaveSide
end
section
set_option linter.unusedVariables false
set_option linter.unusedSimpArgs false
namespace Go.Proofs.Ytjngmhngedecdaa.P.SwapChunks
open Go.RowKit Go.Proofs.YtjngmhngedecdaaW.PrintWords Go.Proofs.YtjngmhngedecdaaW.PrintLast
def swk (c : CK) : CK := mkc c.f1 c.f3 c.f2
def SW (l : List CK) : Int × List CK := if CKF l = 0 then (0, l.map swk) else (CKF l, [])
theorem i_loop {l : List CK} (hs : SmallK l) : ∀ (d i : Nat) (acc : List CK), l.length - i = d → i ≤ l.length → acc.length ≤ i → Ev (fun k => impl_swapChunks.l0 k acc l (l.length : Int) (i : Int)) (acc ++ (l.drop i).map swk) := by
 have hl := hs.2.1;intro d
 induction d with
 | zero =>
  intro i acc hd hi ha;refine Ev.step (fun k => by rw [impl_swapChunks.l0]) (Ev_neg (by omega) (Ev_val ?_));rw [List.drop_eq_nil_of_le (by omega), List.map_nil, List.append_nil]
 | succ d ih =>
  intro i acc hd hi ha;(have hlt : i < l.length := by omega);obtain ⟨s1, s2, s3⟩ := hs.at hlt;have nx := ih (i + 1) (acc ++ [swk l[i]]) (by omega) (by omega) (by simp;omega);refine Ev.step (fun k => by rw [impl_swapChunks.l0]) (Ev_pos (by omega) (Ev_pos (by omega) (Ev_pos (by omega) ?_)));rw [rdk_nat hlt, wsucc hlt (by omega)];refine Ev_call (chunkOf_tells s1.2.1 s3.2.1 s2.2.1) (Ev_pos (by omega) (Ev_eq nx ?_));rw [drop_at hlt, List.map_cons, List.append_assoc];rfl
theorem i_tells {l : List CK} (hs : SmallK l) : Ev (fun k => impl_SwapChunks.f k l) (SW l) := by
 unfold impl_SwapChunks.f SW;refine Ev_call (ickf_tells hs) (Ev_if (fun h => ?_) (fun h => Ev_val ?_));rotate_left;(·rw [if_neg h]);rw [if_pos h];refine Ev_call (a := l.map swk) ?_ (Ev.now _);unfold impl_swapChunks.f;exact i_loop hs _ 0 [] rfl (by omega) (by simp)
end Go.Proofs.Ytjngmhngedecdaa.P.SwapChunks
end
section
set_option linter.unusedVariables false
set_option linter.unusedSimpArgs false
namespace Go.Proofs.Ytjngmhngedecdaa.P.VFnChunks
open Go.RowKit Go.Proofs.YtjngmhngedecdaaW.PrintWords Go.Proofs.YtjngmhngedecdaaW.PrintLast
def cc : List CK → Nat
  | [] => 0
  | c :: l => (if c.f0 = 4 then 1 else 0) + cc l
theorem iloop (l : List CK) (hl : l.length ≤ 1048576) : ∀ (d i n : Nat), l.length - i = d → i ≤ l.length → n ≤ i → Ev (fun k => impl_CountClashes.l0 k (n : Int) l (l.length : Int) (i : Int)) (0, ((n + cc (l.drop i) : Nat) : Int)) := by
 intro d
 induction d with
 | zero =>
  intro i n hd hi hn;refine Ev.step (fun k => by rw [impl_CountClashes.l0]) (Ev_neg (by omega) (Ev_val ?_));rw [List.drop_eq_nil_of_le (by omega)];rfl
 | succ d ih =>
  intro i n hd hi hn;(have hlt : i < l.length := by omega);refine Ev.step (fun k => by rw [impl_CountClashes.l0]) (Ev_pos (by omega) (Ev_pos (by omega) (Ev_pos (by omega) ?_)));rw [rdk_nat hlt, wsucc hlt (by omega), drop_at hlt];simp only [cc];refine Ev_if (fun h => ?_) (fun h => ?_);(·rw [if_pos h, wsucc' (by omega)];exact Ev_eq (ih (i + 1) (n + 1) (by omega) (by omega) (by omega)) (by congr 2;omega));rw [if_neg h];exact Ev_eq (ih (i + 1) n (by omega) (by omega) (by omega)) (by congr 2;omega)
theorem count_tells {l : List CK} (hs : SmallK l) (h : CKF l = 0) : Ev (fun k => impl_CountClashes.f k l) (0, ((cc l : Nat) : Int)) := by
 unfold impl_CountClashes.f;have e := iloop l hs.2.1 _ 0 0 rfl (by omega) (by omega);rw [List.drop_zero, Nat.zero_add] at e;exact Ev_call (ickf_tells hs) (Ev_pos h e)
theorem cc_swp : ∀ {l : List CK}, (∀ c ∈ l, RK c) → cc (l.map swp) = cc l := by
 intro l
 induction l with
 | nil => intro _;rfl
 | cons c l ih =>
  intro h;have hc := (h c (by simp)).1;simp only [List.map_cons, cc];rw [ih (fun x hx => h x (by simp [hx]))];have e : (swp c).f0 = kindK c.f1 c.f3 c.f2 := rfl;rw [e, hc];(have e2 : kindK c.f1 c.f3 c.f2 = 4 ↔ kindK c.f1 c.f2 c.f3 = 4 := by unfold kindK;(by_cases h1 : c.f1 = c.f2 <;> by_cases h2 : c.f1 = c.f3 <;> by_cases h3 : c.f2 = c.f3 <;> simp_all);all_goals (intro e;exact absurd e.symm h3));by_cases h4 : kindK c.f1 c.f2 c.f3 = 4;(·rw [if_pos (e2.2 h4), if_pos h4]);rw [if_neg (fun e => h4 (e2.1 e)), if_neg h4]
theorem same_tells (x : List ByteArray) (h : x.length ≤ 1048576) : Ev (fun k => impl_SameLines.f k x x) true := by
 unfold impl_SameLines.f;exact Ev_call (isame_tells x x (by omega)) (Ev_val (by simp))
theorem loop {l : List CK} (hs : SmallK l) (c1 c2 c3 : Int) (x : List CK) (n : Nat) (h1 : Ev (fun k => impl_CountClashes.f k x) (0, (n : Int))) (h2 : Ev (fun k => impl_CountClashes.f k l) (0, (n : Int))) : ∀ (d i : Nat), l.length - i = d → i ≤ l.length → Ev (fun k => laws_FnChunks.l0 k (i : Int) c1 x c2 l c3 l) true := by
 have hl := hs.2.1;intro d
 induction d with
 | zero =>
  intro i hd hi;refine Ev.step (fun k => by rw [laws_FnChunks.l0]) (Ev_neg (by omega) (Ev_call h1 (Ev_call h2 ?_)));exact Ev_eq (Ev.now _) (by simp)
 | succ d ih =>
  intro i hd hi;(have hlt : i < l.length := by omega);obtain ⟨s1, s2, s3⟩ := hs.at hlt;have nx_ := ih (i + 1) (by omega) (by omega);refine Ev.step (fun k => by rw [laws_FnChunks.l0]) (Ev_pos (by omega) (Ev_pos (by omega) (Ev_pos (by omega) (Ev_pos rfl ?_))));rw [rdk_nat hlt, wsucc hlt (by omega)];exact Ev_call (same_tells _ s2.2.1) (Ev_pos rfl (Ev_call (same_tells _ s3.2.1) (Ev_pos rfl nx_)))
theorem proof : UFnChunks.Pure := by
 intro l0 g0;apply Ev.rounds;unfold laws_FnChunks.f;(have hc : Code l0 := fun x hx => by have := g0.2 x hx;simp [Lit.wf, IntKind.min, IntKind.max, IntKind.signed, IntKind.bits] at this;omega);refine Ev_const (by unfold laws_lwBig.f;rfl) ?_;by_cases hb : (l0.length : Int) > 1048576;(·exact Ev_pos (by simpa using hb) (Ev.now _));refine Ev_neg (by simpa using hb) ?_;obtain ⟨b, o, t, h1, sb, so, st⟩ := drawc hc;refine Ev_call h1 (Ev_call (ico_tells3 sb so st) ?_);by_cases e : (COF b o t).1 = 0;rotate_left;(·refine Ev_neg e (Ev_call (sco_tells3 sb so st) (Ev_val ?_));simp);(have e2 : LF b = 0 ∧ LF2 o t = 0 := by unfold COF at e;by_cases h1 : LF b = 0;rotate_left;(·rw [if_neg h1] at e;exact absurd e h1);rw [if_pos h1] at e;by_cases h2 : LF2 o t = 0;(·exact ⟨h1, h2⟩);rw [if_neg h2] at e;exact absurd e h2);have e3 := LF2_zero e2.2;(have e4 : LF2 t o = 0 := by unfold LF2;rw [if_pos e3.2];exact e3.1);have n1 := (LF_zero e2.1).1;(have c1 : COF b o t = (0, CHK b o t) := by unfold COF;rw [if_pos e2.1, if_pos e2.2]);(have c2 : COF b t o = (0, CHK b t o) := by unfold COF;rw [if_pos e2.1, if_pos e4]);have k1 := COF_small sb so st;have k2 := COF_small sb st so;rw [c1] at k1;rw [c2] at k2;have f1 := CHK_CKF e2.1 e3.1 e3.2;have f2 := CHK_CKF e2.1 e3.2 e3.1;have hsw := CHK_swp b o t;obtain ⟨s0, s1, s2⟩ := CHK_sides b o t;(have w : ∀ n : Int, 0 ≤ n → n ≤ 2 → Ev (fun k => impl_WeaveSide.f k (CHK b o t) n) (0, sides n (CHK b o t)) := by intro n h0 h2;have := WeaveSide.i_tells k1 n;unfold WeaveSide.WS at this;rw [if_pos f1, if_pos ⟨h0, h2⟩] at this;exact this);(have sw : Ev (fun k => impl_SwapChunks.f k (CHK b o t)) (0, CHK b t o) := by have := SwapChunks.i_tells k1;unfold SwapChunks.SW at this;rw [if_pos f1] at this;rw [← hsw];exact this);have w0 := w 0 (by omega) (by omega);have w1 := w 1 (by omega) (by omega);have w2 := w 2 (by omega) (by omega);rw [s0] at w0;rw [s1] at w1;rw [s2] at w2;have t2 := ico_tells3 sb st so;rw [c2] at t2;rw [c1];refine Ev_pos rfl (Ev_call w0 (Ev_call w1 (Ev_call w2 (Ev_call sw (Ev_call t2 (Ev_call (ickf_tells k1) (Ev_pos f1 ?_)))))));refine Ev_call (same_tells b sb.2.1) (Ev_pos rfl (Ev_call (same_tells o so.2.1) (Ev_pos rfl (Ev_call (same_tells t st.2.1) (Ev_pos rfl (Ev_pos rfl ?_))))));refine Ev.step (fun k => by rw [laws_FnChunks.j0]) (Ev_neg (by simp) ?_);have cnt := count_tells k1 f1;have cnt2 := count_tells k2 f2;(have ec : cc (CHK b t o) = cc (CHK b o t) := by rw [← hsw];exact cc_swp (CHK_RK b o t));rw [ec] at cnt2;exact loop k2 _ _ _ _ _ cnt cnt2 _ 0 rfl (by omega)
end Go.Proofs.Ytjngmhngedecdaa.P.VFnChunks
end
section
set_option linter.unusedVariables false
set_option linter.unusedSimpArgs false
namespace Go.Proofs.Ytjngmhngedecdaa.O
open Go.RowKit Go.ChangeShapes Go.WideShapes Go.Proofs.YtjngmhngedecdaaW.PrintWords
def Opens {α : Type} (P : Program) (t : TypeId) (d : Kd α) (G : α → Prop) : Prop :=
  P.cellsOf t = d.sz ∧ ∀ {H : Type} {enc : TypeId × Value → H} {w : World} {base : Nat} {spare : Nat → Bool} {held : Bool} {fuel : Nat} {cs : List Value} {x : DataW H × List MemPlace},
    DataW.trod enc P w base spare held fuel t cs = some x → ∃ a, d.K w a cs ∧ G a
theorem list_of {α : Type} {Q : Nat → α → Prop} : ∀ n : Nat, (∀ j, j < n → ∃ p, Q j p) → ∃ xs : List α, xs.length = n ∧ ∀ j p, xs[j]? = some p → Q j p
  | 0, _ => ⟨[], rfl, fun j p h => by simp at h⟩
  | n + 1, h => by
    obtain ⟨xs, hl, hx⟩ := list_of n (fun j hj => h j (Nat.lt_succ_of_lt hj))
    obtain ⟨p, hp⟩ := h n (Nat.lt_succ_self n)
    refine ⟨xs ++ [p], by simp [hl], fun j q hq => ?_⟩
    rcases Nat.lt_or_ge j xs.length with hj | hj
    · rw [List.getElem?_append_left hj] at hq
      exact hx j q hq
    · have hj' : j = xs.length := by
        have := (List.getElem?_eq_some_iff.1 hq).1
        rw [List.length_append, List.length_singleton] at this
        omega
      subst hj'
      have e : p = q := by simpa using hq
      subst e
      rw [hl]
      exact hp
theorem cells_get {w : World} {base : Nat} {a : Addr} {n : Nat} {cs : List Value} (h : w.cells? base a n = some cs) : cs.length = n ∧ ∀ i u, cs[i]? = some u → w.cell? (a.add i) = some u := by
 unfold World.cells? at h;split at h;rotate_left;(·simp at h);have hl := mapM_some_length h;rw [List.length_range] at hl;refine ⟨hl, fun i u hu => ?_⟩;(have hi : i < n := by have := (List.getElem?_eq_some_iff.1 hu).1;omega);have := mapM_some_get h i i (by simp [hi]);rw [this, hu]
theorem opens_int {P : Program} {t : TypeId} {k : IntKind} (ht : P.underlying t = some (.int k)) (hc : P.cellsOf t = 1) : Opens P t (Kd.int k) (fun x => (Lit.int k x).wf = true) :=
  ⟨hc, fun h => by
    obtain ⟨n, rfl, _, hw⟩ := DataW.trod_int ht h
    exact ⟨n, rfl, hw⟩⟩
theorem opens_slice {α : Type} {P : Program} {t e : TypeId} {d : Kd α} {G : α → Prop} (ht : P.underlying t = some (.slice e)) (hc : P.cellsOf t = 1) (he : Opens P e d G) :
    Opens P t (Kd.slice e d) (fun l => l.length ≤ 9223372036854775807 ∧ ∀ x ∈ l, G x) := by
 refine ⟨hc, fun {H enc w base spare held fuel cs x} h => ?_⟩;(rcases DataW.trod_slice ht h with ⟨rfl, _⟩ | ⟨a, len, cap, elems, rest, n, _, rfl, _, hb, hl, hm, hlen, hel, _, _⟩);(·exact ⟨[], ⟨none, 0, rfl, Nat.le_refl _, rfl, by simp, fun hp => absurd hp (by simp)⟩, by simp, by simp⟩);have hcap : cap ≤ 9223372036854775807 := hm
 obtain ⟨xs, hxl, hx⟩ := list_of (Q := fun j p => (∃ c : List Value, c.length = d.sz ∧ d.K w p c ∧ ∀ i u, c[i]? = some u → w.cell? (a.add (j * d.sz + i)) = some u) ∧ G p) len (fun j hj => by
   have h1 := hel j hj
   rw [List.getElem?_eq_getElem (by omega), Option.bind_eq_some_iff] at h1
   obtain ⟨cs', hcs, hy⟩ := h1
   obtain ⟨p, hK, hG⟩ := he.2 hy
   obtain ⟨hcl, hcell⟩ := cells_get hcs
   refine ⟨p, ⟨cs', by rw [hcl, he.1], hK, fun i u hu => ?_⟩, hG⟩
   have := hcell i u hu
   rw [he.1] at this
   rw [← Addr.add_add]
   exact this)
 (have hlen2 : xs.length ≤ cap := by omega);refine ⟨xs, ⟨some a, cap, ?_, hlen2, rfl, by omega, fun _ => ⟨a, rfl, fun j p hj => (hx j p hj).1⟩⟩, by omega, fun y hy => ?_⟩;(·rw [hxl]);obtain ⟨j, hj⟩ := List.getElem?_of_mem hy;exact (hx j y hj).2
end Go.Proofs.Ytjngmhngedecdaa.O
end
namespace Go.Proofs.Ytjngmhngedecdaa.fnChunks
open Go.ChangeShapes Go.WideShapes Go.ChangeAt Go.RowKit
open Go.ChangeMaps (open_string shut_string)
open Go.Proofs.Ytjngmhngedecdaa.P Go.Proofs.Ytjngmhngedecdaa.P.UFnChunks Go.Proofs.YtjngmhngedecdaaW.PrintWords
set_option linter.unusedVariables false
theorem own : ownKnob Try.prog.godebug = none := by kernel_rfl
theorem laidOut : laidOutB Try.prog = true := by kernel_rfl
set_option maxRecDepth 100000 in
theorem lifted (os : Os) (started : os.Started) (H : Type) (enc : TypeId × Value → H) :
    ReturnsInHanded {} Try.checked os 12 .any (Rows.fnChunksSpec.pre6 enc Try.prog Try.f12 Rows.fnChunksRow.domain false) (Rows.fnChunksSpec.post enc Try.prog Try.f12 false true false false) := by
 refine returnsInHanded_of_change_sized (C := Try.checked) own started (by kernel_rfl) Try.func12
   (ChangeSpec.witness6 (enc := enc) (C := Try.checked) false ⟨#[], #[.slice none 0 0], []⟩ 8 (by kernel_rfl) (by kernel_rfl) (by kernel_rfl) (by kernel_rfl)) ?_
 intro W base args ds gs before hval0 hW hcnd hsz0 _;have hval : ∀ (j : Nat) t v, Try.f12.params[j]? = some t → args[j]? = some v → Value.okWide Try.prog W .any base t v := hval0;have hW' := hW;obtain ⟨p, q, hA0, hV, rfl, hfz, hnd⟩ := hW;have hA : DataW.TrodAll enc Try.prog W 0 (fun _ => true) true Try.f12.params.toList args.toList ds p := hA0;rw [Try.params12] at hA hval;obtain ⟨v0, vs0, d0, ds0, p0, q0, hargs, rfl, rfl, h0, r0⟩ := trodAll_cons hA;obtain ⟨rfl, rfl, rfl⟩ := trodAll_nil r0;(obtain rfl : args = #[v0] := by cases args;simp_all);obtain ⟨rfl, rfl⟩ := trodVars_none hV;have k0_ := h0;(have lt0 : ∀ x ∈ p0, x.block < W.heap.size := by obtain ⟨m, hm⟩ := k0_;exact DataW.trod_lt m _ _ _ hm);obtain ⟨b0, len0, cap0, rfl⟩ := okWide_slice Try.underlying63 (hval 0 63 v0 rfl rfl);obtain ⟨fuel0, hf0⟩ := h0;obtain ⟨l0, ⟨A0, c0, hcs0, hc0, hr0⟩, g0⟩ := (O.opens_slice Try.underlying63 (by kernel_rfl) (O.opens_int Try.underlying5 (by kernel_rfl))).2 hf0;simp [Value.cells] at hcs0;obtain ⟨rfl, rfl, rfl⟩ := hcs0;clear hA0 hval0 hsz0;obtain ⟨k, h⟩ := VFnChunks.proof l0 g0;(refine (laws_FnChunks.calls k _ _ l0 true W hr0 hc0 h rfl).mono fun e W' hend => ?_);obtain ⟨rfl, hbel⟩ := hend;have bel : Below W.heap.size W W' := hbel;exact ⟨_, rfl, _, _, _, [], _, [], hW', trodAll_mk1 (shut_bool Try.underlying4 _), (trodAll_cons_mk (Below.trod laidOut (by kernel_rfl) (of_decide_eq_true (by kernel_rfl)) k0_ bel lt0) trodAll_mk0), rfl, bel.frame _, fun h => by cases h⟩
theorem over : Rows.fnChunksRow.holds Try.pinned (OpenSpec.ofChange Rows.fnChunksSpec) :=
  OpenClaim.holds_of_wide 12 Try.f12 rfl rfl rfl rfl rfl rfl rfl ⟨rfl, rfl, rfl, rfl, rfl⟩ rfl rfl rfl rfl rfl (by kernel_rfl) Try.func12 (by kernel_rfl)
    (of_decide_eq_true (by kernel_rfl)) (by unfold Func.isWrapper;first | (rw [if_pos (by decide +kernel)];kernel_rfl) | (rw [if_neg (by decide +kernel)];exact ⟨rfl, rfl⟩))
    (fun os started H enc _ => lifted os started H enc)
theorem proved : Rows.FnChunksSaid := over
#print axioms proved
end Go.Proofs.Ytjngmhngedecdaa.fnChunks
namespace Go.Proofs.Ytjngmhngedecdaa
theorem fnChunks_holds : Rows.FnChunksSaid := fnChunks.proved
end Go.Proofs.Ytjngmhngedecdaa
