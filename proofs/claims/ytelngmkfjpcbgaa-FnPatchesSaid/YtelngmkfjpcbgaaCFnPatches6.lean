/- FnPatches: the law of the program holds at every input: the Go function returns true, and its arguments read afterwards as before.
Conditions: none beyond the given statement's own (what can be read as data, of a size that memory bears). -/
import Derived.Laws.BytesArg
import Derived.SliceStrings
import Derived.DataReads
import Derived.DataElems
import Derived.Test.YtelngmkfjpcbgaaRows
import Derived.WalkKit
import Derived.ProofKit
import Derived.OpenShut
import Derived.ShutString
import Derived.ChangeOld
import Derived.Below
import Derived.SizedLaws
import Derived.Carry
import Derived.Test.YtelngmkfjpcbgaaCFnPatches1
import Derived.Test.YtelngmkfjpcbgaaCFnPatches2
import Derived.Test.YtelngmkfjpcbgaaCFnPatches3
import Derived.Test.YtelngmkfjpcbgaaCFnPatches4
import Derived.Test.YtelngmkfjpcbgaaCFnPatches5
section
set_option linter.unusedVariables false
set_option linter.unusedSimpArgs false
namespace Go.Proofs.Ytelngmkfjpcbgaa.P
open Go.RowKit Go.Proofs.YtelngmkfjpcbgaaW.PrintWords Go.Proofs.YtelngmkfjpcbgaaW.PrintLast
theorem rdh_nat {l:List S56} {i:Nat} (h:i < l.length):rd_T56 l (i:Int)=l[i] := by
 unfold rd_T56;rw [Int.toNat_natCast, List.getD_eq_getElem?_getD, List.getElem?_eq_getElem h];rfl
def hw:List S56->Nat
 | [] => 0
 | c :: l => lw c.f2 + hw l
theorem hw_at:∀ (l:List S56) (i:Nat) (h:i < l.length), lw l[i].f2<=hw l := by
 intro l
 induction l with
 | nil => intro i h;exact absurd h (by simp)
 | cons c l ih =>
  intro i h
  cases i with
  | zero => simp only [List.getElem_cons_zero, hw];omega
  | succ i => simp only [List.getElem_cons_succ, hw];have := ih i (by simpa using h);omega
def SmallH (l:List S56):Prop := (∀ c ∈ l, ∀ a ∈ c.f2, a.size<=9223372036854775807)/\l.length<=1048576/\hw l<=1048576
theorem SmallH.at {l:List S56} (h:SmallH l) {i:Nat} (hi:i < l.length):Small l[i].f2 :=
 lw_small (h.1 l[i] (List.getElem_mem hi)) (by have := hw_at l i hi;have := h.2.2;omega)
theorem ichanges_loop (l:List ByteArray) (hl:l.length<=1048576) (hg:HB l=false):∀ (d i:Nat), l.length - i=d->i<=l.length->Ev (fun k => impl_Hunk_changes.l0 k l (l.length:Int) (i:Int)) (decide (hS (l.drop i) ≠ (l.drop i).length)) := by
 intro d
 induction d with
 | zero =>
  intro i hd hi;refine Ev.step (fun k => by rw [impl_Hunk_changes.l0]) (Ev_neg (by omega) (Ev_val ?_));rw [List.drop_eq_nil_of_le (by omega)];rfl
 | succ d ih =>
  intro i hd hi;(have hlt:i < l.length := by omega);have hp := good_pos (HB_at hg hlt);refine Ev.step (fun k => by rw [impl_Hunk_changes.l0]) (Ev_pos (by omega) (Ev_pos (by omega) (Ev_pos (by omega) ?_)));rw [rd_nat _ hlt, wsucc hlt (by omega), drop_at hlt];refine Ev_pos (by omega) (Ev_if (fun h => ?_) (fun h => Ev_val ?_));(·have h':mk l[i]=32 := h;refine Ev_eq (ih (i + 1) (by omega) (by omega)) ?_;rw [decide_eq_decide];simp only [hS, if_pos h', List.length_cons];omega);have h':¬ mk l[i]=32 := h;have := hS_le (l.drop (i + 1));symm;apply decide_eq_true;simp only [hS, if_neg h', List.length_cons];omega
theorem ichanges_tells (a b:Int) {l:List ByteArray} (hl:l.length<=1048576) (hg:HB l=false):Ev (fun k => impl_Hunk_changes.f k a b l) (decide (hS l ≠ l.length)) := by
 have := ichanges_loop l hl hg _ 0 rfl (by omega);rw [List.drop_zero] at this;exact this
def HF:List S56->Int->Int->Int
 | [], _, _ => 0
 | h :: l, i, j => if h.f2.length > 200 then 2 else if HB h.f2=true ∨ hS h.f2=h.f2.length then 1 else if ¬ ((0<=h.f0/\h.f0<=100)/\(0<=h.f1/\h.f1<=100)) then 3 else if h.f0 < i ∨ h.f0 - i ≠ h.f1 - j then 1 else HF l (h.f0 + hA h.f2) (h.f1 + hB h.f2)
theorem HF_cons (h:S56) (l:List S56) (i j:Int):HF (h :: l) i j=if h.f2.length > 200 then 2 else if HB h.f2=true ∨ hS h.f2=h.f2.length then 1 else if ¬ ((0<=h.f0/\h.f0<=100)/\(0<=h.f1/\h.f1<=100)) then 3 else if h.f0 < i ∨ h.f0 - i ≠ h.f1 - j then 1 else HF l (h.f0 + hA h.f2) (h.f1 + hB h.f2) := rfl
def HKF (l:List S56):Int := if l.length > 100 then 2 else HF l 0 0
theorem ihf_loop {l:List S56} (hl:SmallH l):∀ (d n:Nat) (i j:Int), l.length - n=d->n<=l.length->0<=i->i<=300->0<=j->j<=300->Ev (fun k => impl_HunksFault.l0 k i j l (l.length:Int) (n:Int)) (HF (l.drop n) i j) := by
 intro d
 induction d with
 | zero =>
  intro n i j hd hn _ _ _ _;refine Ev.step (fun k => by rw [impl_HunksFault.l0]) (Ev_neg (by omega) (Ev_val ?_));rw [List.drop_eq_nil_of_le (by omega)];rfl
 | succ d ih =>
  intro n i j hd hn hi0 hi1 hj0 hj1;(have hlt:n < l.length := by omega);have hs := hl.at hlt;have hll := hl.2.1;refine Ev.step (fun k => by rw [impl_HunksFault.l0]) (Ev_pos (by omega) (Ev_pos (by omega) (Ev_pos (by omega) ?_)));rw [rdh_nat hlt, drop_at hlt, HF_cons];refine Ev_if (fun h => Ev_val ?_) (fun h => ?_);(·rw [if_pos (by omega)]);rw [if_neg (by omega)];refine Ev_call (isizes_tells _ _ hs.2.1 hs.1) ?_
  have bad1:∀ x y:Int, HB l[n].f2=true ∨ hS l[n].f2=l[n].f2.length->∀ b:Bool, b=true->Ev (fun k => impl_HunksFault.j1 k i j x y l (l.length:Int) (n:Int) b l[n].f0 l[n].f1 l[n].f2)
      (if HB l[n].f2=true ∨ hS l[n].f2=l[n].f2.length then 1 else if ¬ ((0<=l[n].f0/\l[n].f0<=100)/\(0<=l[n].f1/\l[n].f1<=100)) then 3 else if l[n].f0 < i ∨ l[n].f0 - i ≠ l[n].f1 - j then 1 else HF (l.drop (n + 1)) (l[n].f0 + hA l[n].f2) (l[n].f1 + hB l[n].f2)) := by
    intro x y h b hb
    rw [if_pos h]
    exact Ev.step (fun k => by rw [impl_HunksFault.j1]) (Ev_pos hb (Ev.now _))
  by_cases hb:HB l[n].f2=true;(·rw [if_pos hb];exact Ev_neg (by simp) (bad1 _ _ (.inl hb) _ rfl));(have hg:HB l[n].f2=false := by simpa using hb);rw [if_neg hb];refine Ev_pos rfl (Ev_call (ichanges_tells _ _ hs.2.1 hg) ?_);by_cases hq:hS l[n].f2=l[n].f2.length;(·exact bad1 _ _ (.inr hq) _ (by simp [hq]));rw [if_neg (by rintro (e | e);exact hb e;exact hq e)];refine Ev.step (fun k => by rw [impl_HunksFault.j1]) (Ev_neg (by simp [hq]) ?_);(have bad:∀ x y:Int, ∀ b:Bool, b=true->¬ ((0<=l[n].f0/\l[n].f0<=100)/\(0<=l[n].f1/\l[n].f1<=100))->Ev (fun k => impl_HunksFault.j2 k i j x y l (l.length:Int) (n:Int) b l[n].f0 l[n].f1 l[n].f2) (if ¬ ((0<=l[n].f0/\l[n].f0<=100)/\(0<=l[n].f1/\l[n].f1<=100)) then 3 else if l[n].f0 < i ∨ l[n].f0 - i ≠ l[n].f1 - j then 1 else HF (l.drop (n + 1)) (l[n].f0 + hA l[n].f2) (l[n].f1 + hB l[n].f2)) := by intro x y b hb hn;rw [if_pos hn];exact Ev.step (fun k => by rw [impl_HunksFault.j2]) (Ev_pos hb (Ev.now _)));refine Ev_const (within_tells _ _ _) (Ev_if (fun h1 => ?_) (fun h1 => bad _ _ _ rfl (fun e => h1 (decide_eq_true e.1))));refine Ev_const (within_tells _ _ _) ?_;by_cases hr:0<=l[n].f1/\l[n].f1<=100;rotate_left;(·rw [decide_eq_false hr];exact bad _ _ _ rfl (fun e => hr e.2));have h0 := of_decide_eq_true h1;rw [decide_eq_true hr, if_neg (fun e => e ⟨h0, hr⟩)];have la := hA_le l[n].f2;have lb := hB_le l[n].f2;refine Ev.step (fun k => by rw [impl_HunksFault.j2]) (Ev_neg (by simp) (Ev_if (fun g1 => Ev_val ?_) (fun g1 => ?_)));(·rw [if_pos (.inl g1)]);rw [wid (x := l[n].f0 - i) (by omega) (by omega), wid (x := l[n].f1 - j) (by omega) (by omega), wid (x := l[n].f0 + ((hA l[n].f2:Nat):Int)) (by omega) (by omega), wid (x := l[n].f1 + ((hB l[n].f2:Nat):Int)) (by omega) (by omega), wsucc' (by omega)];refine Ev_if (fun g2 => ?_) (fun g2 => Ev_val ?_);rotate_left;(·rw [if_pos (.inr (fun e => g2 e.symm))]);rw [if_neg (by rintro (e | e);exact g1 e;exact e g2.symm)];exact ih (n + 1) _ _ (by omega) (by omega) (by omega) (by omega) (by omega) (by omega)
theorem ihf_tells {l:List S56} (hl:SmallH l):Ev (fun k => impl_HunksFault.f k l) (HKF l) := by
 unfold impl_HunksFault.f HKF;refine Ev_if (fun h => Ev_val ?_) (fun h => ?_);(·rw [if_pos (by omega)]);rw [if_neg (by omega)];have := ihf_loop hl _ 0 0 0 rfl (by omega) (by omega) (by omega) (by omega) (by omega);rw [List.drop_zero] at this;exact this
end Go.Proofs.Ytelngmkfjpcbgaa.P
end
section
namespace Go.Proofs.Ytelngmkfjpcbgaa.P
open Go.RowKit Go.Proofs.YtelngmkfjpcbgaaW.PrintWords Go.Proofs.YtelngmkfjpcbgaaW.PrintLast Go.Proofs.YtelngmkfjpcbgaaW.PrintMore
attribute [local go_sem] max2_int min2_int max_two min_two max_three min_three max_four min_four
end Go.Proofs.Ytelngmkfjpcbgaa.P
end
section
namespace Go.Proofs.Ytelngmkfjpcbgaa.P
open Go.RowKit Go.Proofs.YtelngmkfjpcbgaaW.PrintWords Go.Proofs.YtelngmkfjpcbgaaW.PrintLast Go.Proofs.YtelngmkfjpcbgaaW.PrintMore
attribute [local go_sem] max2_int min2_int max_two min_two max_three min_three max_four min_four
end Go.Proofs.Ytelngmkfjpcbgaa.P
end
section
namespace Go.Proofs.Ytelngmkfjpcbgaa.P
open Go.RowKit Go.Proofs.YtelngmkfjpcbgaaW.PrintWords Go.Proofs.YtelngmkfjpcbgaaW.PrintLast Go.Proofs.YtelngmkfjpcbgaaW.PrintMore
attribute [local go_sem] max2_int min2_int max_two min_two max_three min_three max_four min_four
end Go.Proofs.Ytelngmkfjpcbgaa.P
end
section
set_option linter.unusedVariables false
set_option linter.unusedSimpArgs false
namespace Go.Proofs.Ytelngmkfjpcbgaa.P
end Go.Proofs.Ytelngmkfjpcbgaa.P
end
section
namespace Go.Proofs.Ytelngmkfjpcbgaa.P
open Go.RowKit Go.Proofs.YtelngmkfjpcbgaaW.PrintWords Go.Proofs.YtelngmkfjpcbgaaW.PrintLast Go.Proofs.YtelngmkfjpcbgaaW.PrintMore
attribute [local go_sem] max2_int min2_int max_two min_two max_three min_three max_four min_four
end Go.Proofs.Ytelngmkfjpcbgaa.P
end
section
namespace Go.Proofs.Ytelngmkfjpcbgaa.P
open Go.RowKit Go.Proofs.YtelngmkfjpcbgaaW.PrintWords Go.Proofs.YtelngmkfjpcbgaaW.PrintLast Go.Proofs.YtelngmkfjpcbgaaW.PrintMore
attribute [local go_sem] max2_int min2_int max_two min_two max_three min_three max_four min_four
end Go.Proofs.Ytelngmkfjpcbgaa.P
end
section
set_option linter.unusedVariables false
set_option linter.unusedSimpArgs false
namespace Go.Proofs.Ytelngmkfjpcbgaa.P
open Go.RowKit Go.Proofs.YtelngmkfjpcbgaaW.PrintWords Go.Proofs.YtelngmkfjpcbgaaW.PrintLast
theorem HF_good:∀ (l:List S56) (i j:Int), HF l i j=0->∀ c ∈ l, c.f2.length<=200/\HB c.f2=false/\(0<=c.f0/\c.f0<=100)/\(0<=c.f1/\c.f1<=100) := by
 intro l
 induction l with
 | nil => intro i j h c hc;exact absurd hc (by simp)
 | cons x l ih =>
  intro i j h c hc;rw [HF_cons] at h;split at h;(·cases h);split at h;(·cases h);split at h;(·cases h);split at h;(·cases h);rename_i h1 h2 h3 h4;(rcases List.mem_cons.1 hc with rfl | hc);rotate_left;(·exact ih _ _ h c hc)
  exact ⟨by omega, by cases e:HB c.f2 with
    | false => rfl
    | true => exact absurd (.inl e) h2, by omega, by omega⟩
theorem HKF_good {l:List S56} (h:HKF l=0):l.length<=100/\∀ c ∈ l, c.f2.length<=200/\HB c.f2=false/\(0<=c.f0/\c.f0<=100)/\(0<=c.f1/\c.f1<=100) := by
 unfold HKF at h;split at h;(·cases h);exact ⟨by omega, HF_good l 0 0 h⟩
def hs:Nat->List S56->Nat
 | n, [] => n
 | n, c :: l => hs (n + 2 + c.f2.length) l
theorem set_mid {α:Type} (p:List α) (c v:α) (r:List α):(p ++ c :: r).set p.length v=p ++ v :: r := by
 rw [List.set_append_right _ _ (Nat.le_refl _), Nat.sub_self];rfl
theorem rdh_mid (p:List S56) (c:S56) (r:List S56):rd_T56 (p ++ c :: r) (p.length:Int)=c := by
 rw [rdh_nat (by simp)];simp
def tlB (s:ByteArray):ByteArray := s.extract 1 s.size
def apL (a:List ByteArray):List ByteArray->List ByteArray->Nat->Option (List ByteArray × Nat)
 | [], o, at_ => some (o, at_)
 | s :: l, o, at_ => if mk s=43 then apL a l (o ++ [tlB s]) at_ else if h:at_ < a.length then (if a[at_]=tlB s then (if mk s=45 then apL a l o (at_ + 1) else apL a l (o ++ [tlB s]) (at_ + 1)) else none) else none
def RLh (y:List ByteArray):Int × List ByteArray := if LF y=0 then (0, y) else (LF y, [])
def apH (a:List ByteArray):List S56->List ByteArray->Nat->Int × List ByteArray
 | [], o, at_ => RLh (o ++ a.drop at_)
 | h :: r, o, at_ => if h.f0 > (a.length:Int) then (6, []) else match apL a h.f2 (o ++ (a.take h.f0.toNat).drop at_) h.f0.toNat with
  | none => (6, [])
  | some p => apH a r p.1 p.2
def Bd (o:List ByteArray):Prop := ∀ x ∈ o, x.size<=1048576
theorem Bd.app {x y:List ByteArray} (h:Bd x) (g:Bd y):Bd (x ++ y) := fun s hs => (List.mem_append.1 hs).elim (h s) (g s)
theorem Bd.total:∀ {l:List ByteArray}, Bd l->total l<=1048576 * l.length := by
 intro l
 induction l with
 | nil => intro _;exact Nat.zero_le _
 | cons a l ih =>
  intro h;have h1 := h a (by simp);have h2 := ih (fun x hx => h x (by simp [hx]));rw [_root_.Go.Proofs.Ytelngmkfjpcbgaa.P.total, List.length_cons];omega
theorem size_le_total:∀ (l:List ByteArray), ∀ x ∈ l, x.size<=total l := by
 intro l
 induction l with
 | nil => intro x hx;exact absurd hx (by simp)
 | cons a l ih =>
  intro x hx;rw [total];(rcases List.mem_cons.1 hx with rfl | hx);(·omega);have := ih x hx;omega
theorem Small.bd {l:List ByteArray} (h:Small l):Bd l := fun x hx => by have := size_le_total l x hx;have := h.2.2;omega
theorem tlB_size (s:ByteArray):(tlB s).size<=s.size := by
 unfold tlB;rw [ext_size];omega
theorem apL_some (a:List ByteArray):∀ (l o:List ByteArray) (n:Nat) (o':List ByteArray) (n':Nat), apL a l o n=some (o', n')->n<=a.length->n'=n + hA l/\o'.length<=o.length + l.length/\n'<=a.length/\(Bd o->Bd l->Bd o') := by
 intro l
 induction l with
 | nil =>
  intro o n o' n' h hn;rw [apL] at h;(injection h with h);(injection h with h1 h2);subst h1 h2;exact ⟨by simp [hA], by simp, hn, fun h _ => h⟩
 | cons s l ih =>
  intro o n o' n' h hn;(have one:Bd (s :: l)->Bd [tlB s] := fun h x hx => by rw [List.mem_singleton.1 hx];exact Nat.le_trans (tlB_size s) (h s (by simp)));(have rest:Bd (s :: l)->Bd l := fun h x hx => h x (by simp [hx]));rw [apL] at h;split at h;(·rename_i hm;obtain ⟨e1, e2, e3, e4⟩ := ih _ _ _ _ h hn;refine ⟨by rw [hA, if_pos hm];omega, by rw [List.length_append, List.length_singleton] at e2;rw [List.length_cons];omega, e3, fun h1 h2 => e4 (h1.app (one h2)) (rest h2)⟩);rename_i hm;split at h;rotate_left;(·cases h);rename_i hlt;split at h;rotate_left;(·cases h);split at h;(·obtain ⟨e1, e2, e3, e4⟩ := ih _ _ _ _ h (by omega);refine ⟨by rw [hA, if_neg hm];omega, by rw [List.length_cons];omega, e3, fun h1 h2 => e4 h1 (rest h2)⟩);obtain ⟨e1, e2, e3, e4⟩ := ih _ _ _ _ h (by omega);refine ⟨by rw [hA, if_neg hm];omega, by rw [List.length_append, List.length_singleton] at e2;rw [List.length_cons];omega, e3, fun h1 h2 => e4 (h1.app (one h2)) (rest h2)⟩
theorem bne_lists {x y:ByteArray} : (x.toList != y.toList)=true ↔ x ≠ y := by
 rw [bne_iff_ne, ne_eq, ne_eq, data_eq]
theorem iap_line {a:List ByteArray} {x:List S56} {i:Nat} {l:List ByteArray} (ha:a.length<=100) (hl:l.length<=200) (hg:HB l=false) (hz:∀ s ∈ l, s.size<=1048576) {R:Int × List ByteArray} :
    ∀ (d j n:Nat) (o:List ByteArray), l.length - j=d->j<=l.length->n<=a.length->o.length<=60000 + j →
    (apL a (l.drop j) o n=none->R=(6, [])) →
    (∀ o' n', apL a (l.drop j) o n=some (o', n')->Ev (fun k => impl_ApplyHunks.l0 k a o' (n':Int) x (x.length:Int) (wrap64 ((i:Int) + 1))) R) →
    Ev (fun k => impl_ApplyHunks.l1 k a o (n:Int) x (x.length:Int) (i:Int) l (l.length:Int) (j:Int)) R := by
 intro d
 induction d with
 | zero =>
  intro j n o hd hj hn ho h1 h2;rw [List.drop_eq_nil_of_le (by omega)] at h1 h2;refine Ev.step (fun k => by rw [impl_ApplyHunks.l1]) ?_;exact Ev_neg (by omega) (h2 o n rfl)
 | succ d ih =>
  intro j n o hd hj hn ho h1 h2;(have hlt:j < l.length := by omega);have hb := HB_at hg hlt;have hp := good_pos hb;have hs := hz l[j] (List.getElem_mem hlt);have he := ext_size l[j];rw [drop_at hlt, apL] at h1 h2;refine Ev.step (fun k => by rw [impl_ApplyHunks.l1]) ?_;refine Ev_pos (by omega) (Ev_pos (by omega) (Ev_pos (by omega) ?_));rw [rd_nat _ hlt];refine Ev_pos (by omega) ?_;by_cases m43:mk l[j]=43;(·rw [if_pos m43] at h1 h2;(have m45:¬ bt l[j] 0=45 := fun e => by unfold mk at m43;omega);rw [wsucc hlt (by omega)];exact Ev_pos m43 (Ev_neg m45 (Ev_pos (by omega) (Ev_pos (by omega) (ih (j + 1) n (o ++ [tlB l[j]]) (by omega) (by omega) hn (by rw [List.length_append, List.length_singleton];omega) h1 h2)))));rw [if_neg m43] at h1 h2;refine Ev_neg m43 ?_;by_cases hat:n < a.length;rotate_left;(·rw [dif_neg hat] at h1 h2;refine Ev_pos (by omega) ?_;refine Ev.step (fun k => by rw [impl_ApplyHunks.j2]) ?_;exact Ev_pos rfl (Ev_val (h1 rfl).symm));rw [dif_pos hat] at h1 h2;refine Ev_neg (by omega) (Ev_pos (by omega) (Ev_pos (by omega) (Ev_pos (by omega) ?_)));rw [rd_nat _ hat];by_cases eq:a[n]=tlB l[j];rotate_left;(·rw [if_neg eq] at h1 h2;have hne:(a[n].toList != (l[j].extract 1 l[j].size).toList)=true := bne_lists.2 eq;refine Ev.step (fun k => by rw [impl_ApplyHunks.j2]) ?_;exact Ev_pos hne (Ev_val (h1 rfl).symm));rw [if_pos eq] at h1 h2;(have hne:¬ ((a[n].toList != (l[j].extract 1 l[j].size).toList)=true) := fun e => (bne_lists.1 e) eq);refine Ev.step (fun k => by rw [impl_ApplyHunks.j2]) ?_;refine Ev_neg hne (Ev_pos (by omega) ?_);rw [wsucc hlt (by omega), wsucc hat (by omega)];by_cases m45:mk l[j]=45;(·rw [if_pos m45] at h1 h2;exact Ev_pos m45 (ih (j + 1) (n + 1) o (by omega) (by omega) (by omega) (by omega) h1 h2));rw [if_neg m45] at h1 h2;exact Ev_neg m45 (Ev_pos (by omega) (Ev_pos (by omega) (ih (j + 1) (n + 1) (o ++ [tlB l[j]]) (by omega) (by omega) (by omega) (by rw [List.length_append, List.length_singleton];omega) h1 h2)))
theorem irl_tells {y:List ByteArray} (h:Bd y) (hl:y.length<=100000):Ev (fun k => impl_LinesFault.f k y) (LF y) :=
 ilf_tells y (fun x hx => by have := h x hx;omega) (by omega) (by have := h.total;omega)
theorem cut_len (a:List ByteArray) (i j:Nat):((a.take i).drop j).length<=a.length := by
 rw [List.length_drop, List.length_take];omega
theorem cut_bd {a:List ByteArray} (h:Bd a) (i j:Nat):Bd ((a.take i).drop j) := fun x hx => h x (List.mem_of_mem_take (List.mem_of_mem_drop hx))
theorem HF_next {h:S56} {l:List S56} {i j:Int} (e:HF (h :: l) i j=0):i<=h.f0/\h.f0<=100/\0<=h.f0/\h.f2.length<=200/\HB h.f2=false/\HF l (h.f0 + hA h.f2) (h.f1 + hB h.f2)=0 := by
 have hg := HF_good _ _ _ e h (by simp);rw [HF_cons] at e;split at e;(·cases e);split at e;(·cases e);split at e;(·cases e);split at e;(·cases e);rename_i h4;exact ⟨by omega, hg.2.2.1.2, hg.2.2.1.1, hg.1, hg.2.1, e⟩
theorem iap_loop {a:List ByteArray} {x:List S56} (ha:a.length<=100) (hba:Bd a) (hx:x.length<=100) (hbx:∀ c ∈ x, Bd c.f2):∀ (d i n:Nat) (q:Int) (o:List ByteArray), x.length - i=d->i<=x.length->n<=a.length->o.length<=i * 300->Bd o->HF (x.drop i) (n:Int) q=0 →
    Ev (fun k => impl_ApplyHunks.l0 k a o (n:Int) x (x.length:Int) (i:Int)) (apH a (x.drop i) o n) := by
 intro d
 induction d with
 | zero =>
  intro i n q o hd hi hn ho hb hf;(have hdl:(a.drop n).length<=a.length := by rw [List.length_drop];omega);refine Ev.step (fun k => by rw [impl_ApplyHunks.l0]) ?_;refine Ev_neg (by omega) (Ev_pos (by omega) (Ev_pos (by omega) ?_));rw [Int.toNat_natCast];refine Ev_pos (by omega) ?_;rw [List.drop_eq_nil_of_le (show x.length<=i by omega), apH];refine Ev_call (a := RLh (o ++ a.drop n)) ?_ (Ev.now _);unfold impl_rightLines.f RLh;refine Ev_call (irl_tells (hb.app (fun s hs => hba s (List.mem_of_mem_drop hs))) (by rw [List.length_append];omega)) (Ev_if (fun h => ?_) (fun h => ?_));(·rw [if_pos h];exact Ev.now _);rw [if_neg h];exact Ev.now _
 | succ d ih =>
  intro i n q o hd hi hn ho hb hf;(have hlt:i < x.length := by omega);rw [drop_at hlt] at hf ⊢;obtain ⟨h1, h2, h3, h4, h5, h6⟩ := HF_next hf;have hbl := hbx x[i] (List.getElem_mem hlt);refine Ev.step (fun k => by rw [impl_ApplyHunks.l0]) ?_;refine Ev_pos (by omega) (Ev_pos (by omega) (Ev_pos (by omega) ?_));rw [rdh_nat hlt, apH];refine Ev_if (fun hc => by rw [if_pos hc];exact Ev.now _) (fun hc => ?_);rw [if_neg hc];have hcl := cut_len a x[i].f0.toNat n;refine Ev_pos (by omega) (Ev_pos h1 (Ev_pos (by omega) ?_));rw [Int.toNat_natCast];refine Ev_pos (by omega) ?_;obtain ⟨g, hgq⟩ : ∃ g:Nat, x[i].f0=(g:Int) := ⟨x[i].f0.toNat, by omega⟩;rw [hgq] at h6 ⊢;rw [Int.toNat_natCast];rw [hgq, Int.toNat_natCast] at hcl;have hbo:Bd (o ++ (a.take g).drop n) := hb.app (cut_bd hba _ _);refine iap_line (i := i) ha h4 h5 hbl _ 0 g _ rfl (by omega) (by omega) (by rw [List.length_append];omega) (fun e => ?_) (fun o' n' e => ?_);(·rw [List.drop_zero] at e;rw [e]);rw [List.drop_zero] at e;rw [e];obtain ⟨e1, e2, e3, e4⟩ := apL_some a _ _ _ _ _ e (by omega);rw [wsucc hlt (by omega)];refine ih (i + 1) n' (x[i].f1 + hB x[i].f2) o' (by omega) (by omega) e3 (by rw [List.length_append] at e2;omega) (e4 hbo hbl) ?_;rw [e1];exact h6
def APH (a:List ByteArray) (x:List S56):Int × List ByteArray := if LF a=0 then (if HKF x=0 then apH a x [] 0 else (HKF x, [])) else (LF a, [])
theorem ap_hyp {a:List ByteArray} {x:List S56} (ha:Small a) (hs:SmallH x) (h1:LF a=0) (h2:HKF x=0):a.length<=100/\Bd a/\x.length<=100/\(∀ c ∈ x, Bd c.f2)/\HF x 0 0=0 := by
 refine ⟨(LF_zero h1).1, ha.bd, (HKF_good h2).1, fun c hc => ?_, ?_⟩;(·obtain ⟨i, hi, rfl⟩ := List.mem_iff_getElem.1 hc;exact (hs.at hi).bd);unfold HKF at h2;split at h2;(·cases h2);exact h2
theorem iap_tells {a:List ByteArray} {x:List S56} (ha:Small a) (hs:SmallH x):Ev (fun k => impl_ApplyHunks.f k a x) (APH a x) := by
 unfold impl_ApplyHunks.f APH;refine Ev_call ha.ilf (Ev_call (ihf_tells hs) (Ev_call (first_tells _ (by simp)) ?_));by_cases h:LF a=0;rotate_left;(·rw [if_neg h];(have e:firstOf [LF a, HKF x]=LF a := by simp only [firstOf];rw [if_neg h]);rw [e];exact Ev_neg h (Ev.now _));rw [if_pos h];(have e:firstOf [LF a, HKF x]=HKF x := by simp only [firstOf];rw [if_pos h];split <;> omega);rw [e];refine Ev_if (fun h2 => ?_) (fun h2 => by rw [if_neg h2];exact Ev.now _);rw [if_pos h2];obtain ⟨g1, g2, g3, g4, g5⟩ := ap_hyp ha hs h h2;have := iap_loop g1 g2 g3 g4 _ 0 0 0 [] rfl (by omega) (by omega) (by simp) (fun x hx => absurd hx (by simp)) g5;rw [List.drop_zero] at this;exact this
end Go.Proofs.Ytelngmkfjpcbgaa.P
end
section
namespace Go.Proofs.Ytelngmkfjpcbgaa.P
open Go.RowKit Go.Proofs.YtelngmkfjpcbgaaW.PrintWords Go.Proofs.YtelngmkfjpcbgaaW.PrintLast Go.Proofs.YtelngmkfjpcbgaaW.PrintMore
attribute [local go_sem] max2_int min2_int max_two min_two max_three min_three max_four min_four
end Go.Proofs.Ytelngmkfjpcbgaa.P
end
section
set_option linter.unusedVariables false
set_option linter.unusedSimpArgs false
namespace Go.Proofs.Ytelngmkfjpcbgaa.P
open Go.RowKit Go.Proofs.YtelngmkfjpcbgaaW.PrintWords Go.Proofs.YtelngmkfjpcbgaaW.PrintLast
def rl (s:ByteArray):ByteArray := if mk s=45 then (⟨#[43]⟩ : ByteArray) ++ s.extract 1 s.size else if mk s=43 then (⟨#[45]⟩ : ByteArray) ++ s.extract 1 s.size else s
def rvh (c:S56):S56 := ⟨c.f1, c.f0, c.f2.map rl⟩
theorem rl_size {s:ByteArray} (h:0 < s.size):(rl s).size=s.size := by
 (have e:∀ b:UInt8, ((⟨#[b]⟩ : ByteArray) ++ s.extract 1 s.size).size=s.size := fun b => by rw [ByteArray.size_append, ext_size];show 1 + (s.size - 1)=_;omega);unfold rl;split;(·exact e _);split;(·exact e _);rfl
theorem irev_line {x:List S56} {i:Nat} (hi:i < x.length) (hw0:x.length<=100) {l:List ByteArray} (hl:l.length<=200) (hg:HB l=false) (hz:∀ a ∈ l, a.size<=9223372036854775807) {r:List S56} (hr:r.length<=100) (p q:Int) {R:Int × Int × List S56} {T:List ByteArray}
    (hK:Ev (fun k => impl_ReverseHunks.l0 k (r ++ [⟨p, q, T⟩]) x (x.length:Int) ((i + 1:Nat):Int)) R) :
    ∀ (d j:Nat) (o:List ByteArray), l.length - j=d->j<=l.length->o.length<=j->o ++ (l.drop j).map rl=T →
    Ev (fun k => impl_ReverseHunks.l1 k r x (x.length:Int) (i:Int) l (l.length:Int) (j:Int) p q o) R := by
 intro d
 induction d with
 | zero =>
  intro j o hd hj ho hT;refine Ev.step (fun k => by rw [impl_ReverseHunks.l1]) (Ev_neg (by omega) (Ev_pos (by omega) ?_));rw [wsucc hi (by omega)];rw [List.drop_eq_nil_of_le (by omega), List.map_nil, List.append_nil] at hT;rw [hT];exact hK
 | succ d ih =>
  intro j o hd hj ho hT;(have hlt:j < l.length := by omega);have hb := HB_at hg hlt;have hp := good_pos hb;have hs := hz l[j] (List.getElem_mem hlt);have he := ext_size l[j];rw [drop_at hlt, List.map_cons] at hT;refine Ev.step (fun k => by rw [impl_ReverseHunks.l1]) (Ev_pos (by omega) (Ev_pos (by omega) (Ev_pos (by omega) ?_)));rw [rd_nat _ hlt, wsucc hlt (by omega)];refine Ev_pos (by omega) ?_;(have next:∀ y:ByteArray, y=rl l[j]->Ev (fun k => impl_ReverseHunks.l1 k r x (x.length:Int) (i:Int) l (l.length:Int) ((j + 1:Nat):Int) p q (o ++ [y])) R := fun y hy => by refine ih (j + 1) (o ++ [y]) (by omega) (by omega) (by rw [List.length_append, List.length_singleton];omega) ?_;rw [hy, List.append_assoc];exact hT);refine Ev_if (fun h1 => ?_) (fun h1 => ?_);(·refine Ev_pos (by omega) (Ev_pos (by omega) (Ev_pos (by omega) (next _ ?_)));unfold rl;exact (if_pos h1).symm);refine Ev_if (fun h2 => ?_) (fun h2 => ?_);(·refine Ev_pos (by omega) (Ev_pos (by omega) (Ev_pos (by omega) (next _ ?_)));unfold rl;exact ((if_neg h1).trans (if_pos h2)).symm);refine Ev_pos (by omega) (next _ ?_);unfold rl;exact ((if_neg h1).trans (if_neg h2)).symm
theorem irev_loop {x:List S56} (hw0:x.length<=100) (hg:∀ c ∈ x, c.f2.length<=200/\HB c.f2=false/\∀ a ∈ c.f2, a.size<=9223372036854775807):∀ (d i:Nat) (r:List S56), x.length - i=d->i<=x.length->r.length=i →
    Ev (fun k => impl_ReverseHunks.l0 k r x (x.length:Int) (i:Int)) (0, 0, r ++ (x.drop i).map rvh) := by
 intro d
 induction d with
 | zero =>
  intro i r hd hi hr;refine Ev.step (fun k => by rw [impl_ReverseHunks.l0]) (Ev_neg (by omega) (Ev_val ?_));rw [List.drop_eq_nil_of_le (by omega), List.map_nil, List.append_nil]
 | succ d ih =>
  intro i r hd hi hr;(have hlt:i < x.length := by omega);have h := hg x[i] (List.getElem_mem hlt);refine Ev.step (fun k => by rw [impl_ReverseHunks.l0]) (Ev_pos (by omega) (Ev_pos (by omega) (Ev_pos (by omega) ?_)));rw [rdh_nat hlt];refine irev_line hlt hw0 h.1 h.2.1 h.2.2 (by omega) _ _ (T := x[i].f2.map rl) ?_ _ 0 [] rfl (by omega) (by simp) (by rw [List.drop_zero];rfl);refine Ev_eq (ih (i + 1) _ (by omega) (by omega) (by rw [List.length_append, List.length_singleton];omega)) ?_;rw [drop_at hlt, List.map_cons, List.append_assoc];rfl
def RVH (l:List S56):Int × Int × List S56 := if HKF l=0 then (0, 0, l.map rvh) else (HKF l, 0, [])
theorem rev_good {l:List S56} (hs:SmallH l) (h:HKF l=0):l.length<=100/\∀ c ∈ l, c.f2.length<=200/\HB c.f2=false/\∀ a ∈ c.f2, a.size<=9223372036854775807 :=
 ⟨(HKF_good h).1, fun c hc => ⟨((HKF_good h).2 c hc).1, ((HKF_good h).2 c hc).2.1, hs.1 c hc⟩⟩
theorem irev_tells {l:List S56} (hs:SmallH l):Ev (fun k => impl_ReverseHunks.f k l) (RVH l) := by
 unfold impl_ReverseHunks.f RVH;refine Ev_call (ihf_tells hs) (Ev_if (fun h => ?_) (fun h => by rw [if_neg h];exact Ev.now _));rw [if_pos h];have hg := rev_good hs h;have := irev_loop hg.1 hg.2 _ 0 [] rfl (by omega) rfl;rw [List.drop_zero] at this;exact this
theorem rl_total:∀ (l:List ByteArray), (∀ a ∈ l, 0 < a.size)->total (l.map rl)=total l := by
 intro l
 induction l with
 | nil => intro _;rfl
 | cons a l ih =>
  intro h;rw [List.map_cons, total, total, ih (fun x hx => h x (by simp [hx])), rl_size (h a (by simp))]
theorem rvh_small {l:List S56} (hs:SmallH l) (h:HKF l=0):SmallH (l.map rvh) := by
 have hg := (HKF_good h).2;(have pos:∀ c ∈ l, ∀ a ∈ c.f2, 0 < a.size := fun c hc a ha => by obtain ⟨j, hj, rfl⟩ := List.mem_iff_getElem.1 ha;exact good_pos (HB_at (hg c hc).2.1 hj));refine ⟨fun c hc a ha => ?_, by rw [List.length_map];exact hs.2.1, ?_⟩;(·obtain ⟨x, hx, rfl⟩ := List.mem_map.1 hc;obtain ⟨y, hy, rfl⟩ := List.mem_map.1 ha;rw [rl_size (pos x hx y hy)];exact hs.1 x hx y hy)
 have:∀ (m:List S56), (∀ c ∈ m, ∀ a ∈ c.f2, 0 < a.size)->hw (m.map rvh)=hw m := by
  intro m
  induction m with
  | nil => intro _;rfl
  | cons c m ih =>
   intro hm;rw [List.map_cons, hw, hw, ih (fun x hx => hm x (by simp [hx]))];(have e:lw (rvh c).f2=lw c.f2 := by show (c.f2.map rl).length + total (c.f2.map rl)=_;rw [List.length_map, rl_total _ (hm c (by simp))];rfl);rw [e]
 rw [this l pos];exact hs.2.2
abbrev HK := S56
def sg (l:List ByteArray) (i j:Nat):List ByteArray := (l.take j).drop i
theorem sg_len {l:List ByteArray} {i j:Nat} (h:j<=l.length):(sg l i j).length=j - i := by
 unfold sg;rw [List.length_drop, List.length_take];omega
theorem sg_same (l:List ByteArray) (i:Nat):sg l i i=[] := by
 unfold sg;rw [List.drop_eq_nil_iff, List.length_take];omega
theorem sg_next {l:List ByteArray} {i j:Nat} (h:i < j) (hj:j<=l.length):sg l i j=l[i]'(by omega) :: sg l (i + 1) j := by
 unfold sg;(have hlt:i < (l.take j).length := by rw [List.length_take];omega);rw [List.drop_eq_getElem_cons hlt, List.getElem_take]
theorem sg_cat {l:List ByteArray} {i j k:Nat} (h:i<=j) (h2:j<=k) (hk:k<=l.length):sg l i j ++ sg l j k=sg l i k := by
 unfold sg;(have e:l.take k=l.take j ++ (l.take k).drop j := by (conv => lhs;rw [← List.take_append_drop j (l.take k)]);rw [List.take_take, Nat.min_eq_left h2]);(conv => rhs;rw [e]);rw [List.drop_append_of_le_length (by rw [List.length_take];omega)]
theorem sg_rest {l:List ByteArray} {i j:Nat} (h:i<=j) (hj:j<=l.length):sg l i j ++ l.drop j=l.drop i := by
 unfold sg;rw [← List.drop_append_of_le_length (by rw [List.length_take];omega), List.take_append_drop]
inductive Ld (a b:List ByteArray):List ByteArray->Nat->Nat->Nat->Nat->Prop
 | nil {i j:Nat} : Ld a b [] i j i j
 | stay {s:ByteArray} {l:List ByteArray} {i j i' j':Nat} (hm:mk s=32) (hi:i < a.length) (hj:j < b.length) (h1:a[i]=tlB s) (h2:b[j]=tlB s) (h:Ld a b l (i + 1) (j + 1) i' j'):Ld a b (s :: l) i j i' j'
 | goes {s:ByteArray} {l:List ByteArray} {i j i' j':Nat} (hm:mk s=45) (hi:i < a.length) (h1:a[i]=tlB s) (h:Ld a b l (i + 1) j i' j'):Ld a b (s :: l) i j i' j'
 | come {s:ByteArray} {l:List ByteArray} {i j i' j':Nat} (hm:mk s=43) (hj:j < b.length) (h2:b[j]=tlB s) (h:Ld a b l i (j + 1) i' j'):Ld a b (s :: l) i j i' j'
theorem Ld.le {a b l:List ByteArray} {i j i' j':Nat} (h:Ld a b l i j i' j'):i<=i'/\j<=j'/\i'=i + hA l/\j'=j + hB l/\(i<=a.length->i'<=a.length)/\(j<=b.length->j'<=b.length) := by
 induction h with
 | nil => simp [hA, hB]
 | stay hm hi hj h1 h2 h ih => rw [hA, hB, hm, if_neg (by decide), if_neg (by decide)];omega
 | goes hm hi h1 h ih => rw [hA, hB, hm, if_neg (by decide), if_pos rfl];omega
 | come hm hj h2 h ih => rw [hA, hB, hm, if_pos rfl, if_neg (by decide)];omega
theorem Ld.cat {a b l m:List ByteArray} {i j i' j' i2 j2:Nat} (h:Ld a b l i j i' j') (g:Ld a b m i' j' i2 j2):Ld a b (l ++ m) i j i2 j2 := by
 induction h with
 | nil => exact g
 | stay hm hi hj h1 h2 h ih => exact .stay hm hi hj h1 h2 (ih g)
 | goes hm hi h1 h ih => exact .goes hm hi h1 (ih g)
 | come hm hj h2 h ih => exact .come hm hj h2 (ih g)
theorem Ld.app {a b l:List ByteArray} {i j i' j':Nat} (h:Ld a b l i j i' j') (o:List ByteArray):apL a l o i=some (o ++ sg b j j', i') := by
 induction h generalizing o with
 | nil => rw [apL, sg_same, List.append_nil]
 | @stay s l i j i' j' hm hi hj h1 h2 h ih =>
  have hle := h.le;rw [apL, if_neg (by omega), dif_pos hi, if_pos h1, if_neg (by omega), ih, List.append_assoc, ← h2];congr 3;exact (sg_next (by omega) (hle.2.2.2.2.2 (by omega))).symm
 | goes hm hi h1 h ih => rw [apL, if_neg (by omega), dif_pos hi, if_pos h1, if_pos hm, ih]
 | @come s l i j i' j' hm hj h2 h ih =>
  have hle := h.le;rw [apL, if_pos hm, ih, List.append_assoc, ← h2];congr 3;exact (sg_next (by omega) (hle.2.2.2.2.2 (by omega))).symm
theorem Ld.of {a:List ByteArray} : ∀ (l o:List ByteArray) (i:Nat) (o':List ByteArray) (i':Nat) (rest:List ByteArray), apL a l o i=some (o', i')->(∀ s ∈ l, mk s=32 ∨ mk s=45 ∨ mk s=43)->∃ p, o'=o ++ p/\Ld a (o ++ p ++ rest) l i o.length i' (o.length + p.length) := by
 intro l
 induction l with
 | nil =>
  intro o i o' i' rest h _;rw [apL] at h;(injection h with h);(injection h with h1 h2);subst h1 h2;exact ⟨[], by simp, .nil⟩
 | cons s l ih =>
  intro o i o' i' rest h hg;(have hl := fun x hx => hg x (List.mem_cons_of_mem s hx));rw [apL] at h;split at h;(·rename_i hm;obtain ⟨p, e, g⟩ := ih _ _ _ _ rest h hl;refine ⟨tlB s :: p, by rw [e];simp, ?_⟩;(have e2:o ++ [tlB s] ++ p ++ rest=o ++ tlB s :: p ++ rest := by simp);rw [e2] at g;refine .come hm (by simp) (by simp) ?_;rw [List.length_append, List.length_singleton] at g;rw [List.length_cons, show o.length + (p.length + 1)=o.length + 1 + p.length by omega];exact g);rename_i hm;split at h;rotate_left;(·cases h);rename_i hlt;split at h;rotate_left;(·cases h);rename_i ha;split at h;(·rename_i h5;obtain ⟨p, e, g⟩ := ih _ _ _ _ rest h hl;exact ⟨p, e, .goes h5 hlt ha g⟩);rename_i h5;obtain ⟨p, e, g⟩ := ih _ _ _ _ rest h hl;refine ⟨tlB s :: p, by rw [e];simp, ?_⟩;(have e2:o ++ [tlB s] ++ p ++ rest=o ++ tlB s :: p ++ rest := by simp);rw [e2] at g;(have h3:mk s=32 := by have := hg s (by simp);omega);refine .stay h3 hlt (by simp) ha (by simp) ?_;rw [List.length_append, List.length_singleton] at g;rw [List.length_cons, show o.length + (p.length + 1)=o.length + 1 + p.length by omega];exact g
theorem mk_front (x:UInt8) (t:ByteArray):mk ((⟨#[x]⟩ : ByteArray) ++ t)=(x.toNat:Int) := by
 unfold mk;(have hlt:0 < ((⟨#[x]⟩ : ByteArray) ++ t).data.toList.length := by rw [ByteArray.data_append, Array.toList_append];simp);have := bt_nat hlt;rw [show (((0:Nat)):Int)=0 from rfl] at this;rw [this];congr 2
theorem tl_front (x:UInt8) (t:ByteArray):tlB ((⟨#[x]⟩ : ByteArray) ++ t)=t := by
 unfold tlB;apply data_eq.1;rw [ByteArray.toList_eq, tl_ext];unfold tl;rw [ByteArray.toList_eq, ByteArray.data_append, Array.toList_append];rfl
theorem rl_mk (s:ByteArray):(mk s=45->mk (rl s)=43)/\(mk s=43->mk (rl s)=45)/\(mk s=32->rl s=s)/\tlB (rl s)=tlB s := by
 unfold rl;by_cases h:mk s=45;(·rw [if_pos h];exact ⟨fun _ => mk_front 43 _, fun e => by omega, fun e => by omega, tl_front _ _⟩);rw [if_neg h];by_cases h2:mk s=43;(·rw [if_pos h2];exact ⟨fun e => absurd e h, fun _ => mk_front 45 _, fun e => by omega, tl_front _ _⟩);rw [if_neg h2];exact ⟨fun e => absurd e h, fun e => absurd e h2, fun _ => rfl, rfl⟩
theorem Ld.back {a b l:List ByteArray} {i j i' j':Nat} (h:Ld a b l i j i' j'):Ld b a (l.map rl) j i j' i' := by
 induction h with
 | nil => exact .nil
 | @stay s l i j i' j' hm hi hj h1 h2 h ih =>
  rw [List.map_cons, (rl_mk s).2.2.1 hm];exact .stay hm hj hi h2 h1 ih
 | @goes s l i j i' j' hm hi h1 h ih =>
  rw [List.map_cons];exact .come ((rl_mk s).1 hm) hi (by rw [(rl_mk s).2.2.2];exact h1) ih
 | @come s l i j i' j' hm hj h2 h ih =>
  rw [List.map_cons];exact .goes ((rl_mk s).2.1 hm) hj (by rw [(rl_mk s).2.2.2];exact h2) ih
inductive Chn (a b:List ByteArray):List HK->Nat->Nat->Prop
 | nil {i j:Nat} (hi:i<=a.length) (hj:j<=b.length) (h:a.drop i=b.drop j):Chn a b [] i j
 | cons {h:HK} {r:List HK} {i j p q i' j':Nat} (e0:h.f0=(p:Int)) (e1:h.f1=(q:Int)) (hi:i<=p) (hj:j<=q) (hd:p - i=q - j) (ha:p<=a.length) (hb:q<=b.length) (hs:sg a i p=sg b j q) (hl:Ld a b h.f2 p q i' j') (hr:Chn a b r i' j'):Chn a b (h :: r) i j
theorem Chn.back {a b:List ByteArray} {x:List HK} {i j:Nat} (h:Chn a b x i j):Chn b a (x.map rvh) j i := by
 induction h with
 | nil hi hj h => exact .nil hj hi h.symm
 | cons e0 e1 hi hj hd ha hb hs hl hr ih => exact .cons (h := rvh _) e1 e0 hj hi hd.symm hb ha hs.symm hl.back ih
theorem Chn.app {a b:List ByteArray} {x:List HK} {i j:Nat} (h:Chn a b x i j) (hj:j<=b.length):apH a x (sg b 0 j) i=RLh b := by
 induction h with
 | nil hi hj h =>
  rw [apH, h, sg_rest (Nat.zero_le _) hj];rfl
 | @cons h r i j p q i' j' e0 e1 hi hj' hd ha hb hs hl hr ih =>
  rw [apH, e0, if_neg (by omega), Int.toNat_natCast];rw [show (a.take p).drop i=sg a i p from rfl, hs, sg_cat (Nat.zero_le _) hj' hb, hl.app];have hle := hl.le;rw [sg_cat (Nat.zero_le _) hle.2.1 (hle.2.2.2.2.2 hb)];exact ih (hle.2.2.2.2.2 hb)
theorem Chn.of {a:List ByteArray} (ha:LF a=0):∀ (x:List HK) (o:List ByteArray) (i j:Nat) (r:List ByteArray), apH a x o i=(0, r)->i<=a.length->HF x (i:Int) (j:Int)=0->j=o.length->LF r=0/\(∃ p, r=o ++ p)/\Chn a r x i j := by
 intro x
 induction x with
 | nil =>
  intro o i j r h hi _ hj;rw [apH] at h;unfold RLh at h;split at h;rotate_left;(·rename_i hl;exact absurd (Prod.mk.inj h).1 hl);rename_i hl;have e:o ++ a.drop i=r := (Prod.mk.inj h).2;subst e;subst hj;exact ⟨hl, ⟨_, rfl⟩, .nil hi (by simp) (by simp)⟩
 | cons c x ih =>
  intro o i j r h hi hf hj;obtain ⟨f1, f2, f3, f4, f5, f6⟩ := HF_next hf;have hg := HF_good _ _ _ hf c (by simp);(have hd:c.f0 - (i:Int)=c.f1 - (j:Int) := by rw [HF_cons] at hf;split at hf;(·cases hf);split at hf;(·cases hf);split at hf;(·cases hf);split at hf;(·cases hf);omega);rw [apH] at h;split at h;(·exact absurd (Prod.mk.inj h).1 (by omega));rename_i hle;split at h;(·exact absurd (Prod.mk.inj h).1 (by omega));rename_i pq e;obtain ⟨o', i'⟩ := pq;obtain ⟨p, hp⟩ : ∃ p:Nat, c.f0=(p:Int) := ⟨c.f0.toNat, by omega⟩;obtain ⟨q, hq⟩ : ∃ q:Nat, c.f1=(q:Int) := ⟨c.f1.toNat, by omega⟩;rw [hp, Int.toNat_natCast] at e;(have hm:∀ s ∈ c.f2, mk s=32 ∨ mk s=45 ∨ mk s=43 := fun s hs => by obtain ⟨n, hn, rfl⟩ := List.mem_iff_getElem.1 hs;have := HB_at f5 hn;unfold hbad at this;exact Classical.byContradiction fun e => this (.inr (.inl e)));(have hol:(o ++ (a.take p).drop i).length=q := by rw [List.length_append, show ((a.take p).drop i).length=p - i from sg_len (by omega)];omega);obtain ⟨pp, e1, hld0⟩ := Ld.of _ _ _ _ _ [] e hm;have hle2 := hld0.le;have hA':i'=p + hA c.f2 := hle2.2.2.1;(have hB':(o ++ (a.take p).drop i).length + pp.length=q + hB c.f2 := by rw [hle2.2.2.2.1, hol]);have hi':i'<=a.length := hle2.2.2.2.2.1 (by omega);dsimp only at h;obtain ⟨g1, ⟨w, g2⟩, g3⟩ := ih o' i' (q + hB c.f2) r h hi' (by rw [hp, hq] at f6;rw [hA'];exact f6) (by rw [e1, List.length_append, hB']);obtain ⟨pp2, e2, hld⟩ := Ld.of _ _ _ _ _ w e hm;(have ep:pp2=pp := by rw [e1] at e2;exact (List.append_cancel_left e2).symm);subst ep;rw [← e1, ← g2, hol] at hld;(have hB2:q + pp2.length=q + hB c.f2 := by rw [← hB', hol]);rw [hB2] at hld;refine ⟨g1, ⟨(a.take p).drop i ++ pp2 ++ w, by rw [g2, e1];simp⟩, .cons hp hq (by omega) (by omega) (by omega) (by omega) ?_ ?_ hld g3⟩;(·rw [g2, e1, List.length_append, List.length_append, hol];omega);(have er:r=o ++ (sg a i p ++ (pp2 ++ w)) := by rw [g2, e1];unfold sg;simp);(have e5:sg r j q=sg a i p := by rw [er];unfold sg;rw [List.take_append, List.drop_append, hj];have:(List.take q o)=o := List.take_of_length_le (by omega);rw [this, List.drop_length, List.nil_append, Nat.sub_self, List.drop_zero];(have hl3:((a.take p).drop i).length=q - o.length := by rw [show ((a.take p).drop i).length=p - i from sg_len (by omega)];omega);rw [← hl3, List.take_append_of_le_length (Nat.le_refl _), List.take_length]);exact e5.symm
theorem rl_bad {s:ByteArray} (h:¬ hbad s):¬ hbad (rl s) := by
 have hp := good_pos h;have hsz := rl_size hp;(have htl:tl (rl s)=tl s := by rw [← tl_ext, ← tl_ext];exact congrArg (fun x:ByteArray => x.data.toList) (rl_mk s).2.2.2);unfold hbad at h ⊢;rw [hsz, htl];rintro (e | e | e);(·exact h (.inl e));(·refine h (.inr (.inl (fun q => e ?_)));(rcases q with q | q | q);(·left;rw [(rl_mk s).2.2.1 q];exact q);(·right;right;exact (rl_mk s).1 q);right;left;exact (rl_mk s).2.1 q);·exact h (.inr (.inr e))
theorem HB_rl:∀ {l:List ByteArray}, HB l=false->HB (l.map rl)=false/\hA (l.map rl)=hB l/\hB (l.map rl)=hA l/\hS (l.map rl)=hS l := by
 intro l
 induction l with
 | nil => intro _;exact ⟨rfl, rfl, rfl, rfl⟩
 | cons s l ih =>
  intro h;rw [HB_cons, Bool.or_eq_false_iff] at h;obtain ⟨i1, i2, i3, i4⟩ := ih h.2;have hs:¬ hbad s := of_decide_eq_false h.1;(have hm:mk s=32 ∨ mk s=45 ∨ mk s=43 := by unfold hbad at hs;exact Classical.byContradiction fun e => hs (.inr (.inl e)));refine ⟨?_, ?_, ?_, ?_⟩;(·rw [List.map_cons, HB_cons, decide_eq_false (rl_bad hs), i1];rfl)
  all_goals
    rw [List.map_cons]
    simp only [hA, hB, hS, i2, i3, i4]
    rcases hm with q | q | q
    · first | (rw [(rl_mk s).2.2.1 q, q];done) | (rw [(rl_mk s).2.2.1 q, q];rfl)
    · first | (rw [(rl_mk s).1 q, q];done) | (rw [(rl_mk s).1 q, q];rfl)
    · first | (rw [(rl_mk s).2.1 q, q];done) | (rw [(rl_mk s).2.1 q, q];rfl)
theorem HF_rvh:∀ {x:List HK} {i j:Int}, HF x i j=0->HF (x.map rvh) j i=0 := by
 intro x
 induction x with
 | nil => intro i j _;rfl
 | cons c x ih =>
  intro i j h;rw [HF_cons] at h;rw [List.map_cons, HF_cons];split at h;(·cases h);rename_i h1;split at h;(·cases h);rename_i h2;split at h;(·cases h);rename_i h3;split at h;(·cases h);rename_i h4;have hb:HB c.f2=false := Bool.eq_false_iff.2 (fun e => h2 (.inl e));obtain ⟨b1, b2, b3, b4⟩ := HB_rl hb;have e2:(rvh c).f2=c.f2.map rl := rfl;have e0:(rvh c).f0=c.f1 := rfl;have e1:(rvh c).f1=c.f0 := rfl;rw [e2, e0, e1, List.length_map, b1, b2, b3, b4, if_neg h1, if_neg (fun e => h2 (.inr (e.resolve_left (by simp)))), if_neg (fun e => h3 (fun q => e ⟨q.2, q.1⟩)), if_neg (by omega)];exact ih h
theorem HKF_rvh {x:List HK} (h:HKF x=0):HKF (x.map rvh)=0 := by
 unfold HKF at h ⊢;rw [List.length_map];split at h;(·cases h);rename_i h1;rw [if_neg h1];exact HF_rvh h
theorem APH_undone {a r:List ByteArray} {x:List HK} (h:APH a x=(0, r)):LF a=0/\HKF x=0/\LF r=0/\APH r (x.map rvh)=(0, a) := by
 unfold APH at h;split at h;rotate_left;(·rename_i h1;exact absurd (Prod.mk.inj h).1 h1);rename_i h1;split at h;rotate_left;(·rename_i h2;exact absurd (Prod.mk.inj h).1 h2);rename_i h2;(have h3:HF x 0 0=0 := by unfold HKF at h2;split at h2;(·cases h2);exact h2);obtain ⟨g1, _, g3⟩ := Chn.of h1 x [] 0 0 r h (by omega) h3 rfl;refine ⟨h1, h2, g1, ?_⟩;unfold APH;rw [if_pos g1, if_pos (HKF_rvh h2)];have := g3.back.app (Nat.zero_le _);rw [sg_same] at this;rw [this];unfold RLh;rw [if_pos h1]
end Go.Proofs.Ytelngmkfjpcbgaa.P
end
section
set_option linter.unusedVariables false
namespace Go.Proofs.Ytelngmkfjpcbgaa.P
open Go.RowKit Go.Proofs.YtelngmkfjpcbgaaW.PrintWords Go.Proofs.YtelngmkfjpcbgaaW.PrintLast
theorem rdc_nat {l:List S53} {i:Nat} (h:i < l.length):rd_T53 l (i:Int)=l[i] := by
 unfold rd_T53;rw [Int.toNat_natCast, List.getD_eq_getElem?_getD, List.getElem?_eq_getElem h];rfl
end Go.Proofs.Ytelngmkfjpcbgaa.P
end
section
set_option linter.unusedVariables false
set_option linter.unusedSimpArgs false
namespace Go.Proofs.Ytelngmkfjpcbgaa.P
end Go.Proofs.Ytelngmkfjpcbgaa.P
end
section
set_option linter.unusedVariables false
set_option linter.unusedSimpArgs false
namespace Go.Proofs.Ytelngmkfjpcbgaa.P
open Go.RowKit Go.Proofs.YtelngmkfjpcbgaaW.PrintWords Go.Proofs.YtelngmkfjpcbgaaW.PrintLast
def ChIn (la lb:Int) (c:S53):Prop := 0<=c.f0/\c.f0<=la/\0<=c.f1/\c.f1<=la - c.f0/\0<=c.f2/\c.f2<=lb/\0<=c.f3/\c.f3<=lb - c.f2
instance (la lb:Int) (c:S53):Decidable (ChIn la lb c) := by unfold ChIn;infer_instance
def CF (la lb:Int):List S53->Int->Int->Bool->Int
 | [], _, _, _ => 0
 | c :: l, i, j, fst => if ¬ ChIn la lb c then 3 else if (c.f1=0/\c.f3=0) ∨ c.f0 - i ≠ c.f2 - j ∨ c.f0 < i ∨ (fst=false/\c.f0=i) then 1 else CF la lb l (c.f0 + c.f1) (c.f2 + c.f3) false
theorem CF_cons (la lb:Int) (c:S53) (l:List S53) (i j:Int) (fst:Bool):CF la lb (c :: l) i j fst=if ¬ ChIn la lb c then 3 else if (c.f1=0/\c.f3=0) ∨ c.f0 - i ≠ c.f2 - j ∨ c.f0 < i ∨ (fst=false/\c.f0=i) then 1 else CF la lb l (c.f0 + c.f1) (c.f2 + c.f3) false := rfl
theorem total_app_ (x y:List ByteArray):total (x ++ y)=total x + total y := by
 induction x with
 | nil => simp [total]
 | cons a l ih => rw [List.cons_append, total, total, ih];omega
theorem total_drop (x:List ByteArray) (n:Nat):total (x.drop n)<=total x := by
 (have h:total x=total (x.take n) + total (x.drop n) := by rw [← total_app_, List.take_append_drop]);omega
structure In3 (x:List ByteArray) (n t:Nat):Prop where
 each:∀ s ∈ x, s.size<=9223372036854775807
 many:x.length<=n
 all:total x<=t
theorem In3.app {x y:List ByteArray} {n t m u:Nat} (h:In3 x n t) (g:In3 y m u):In3 (x ++ y) (n + m) (t + u) :=
 ⟨fun s hs => (List.mem_append.1 hs).elim (h.each s) (g.each s), by rw [List.length_append];have := h.many;have := g.many;omega, by rw [total_app_];have := h.all;have := g.all;omega⟩
theorem In3.rest {x:List ByteArray} {n t:Nat} (h:In3 x n t) (j:Nat):In3 (x.drop j) n t :=
 ⟨fun s hs => h.each s (List.mem_of_mem_drop hs), by simp only [List.length_drop];have := h.many;omega, Nat.le_trans (total_drop _ _) h.all⟩
theorem In3.mono {x:List ByteArray} {n t m u:Nat} (h:In3 x n t) (h1:n<=m) (h2:t<=u):In3 x m u := ⟨h.each, Nat.le_trans h.many h1, Nat.le_trans h.all h2⟩
def WV (a b:List ByteArray):List S53->Int->List ByteArray
 | [], i => a.drop i.toNat
 | c :: l, i => (a.take c.f0.toNat).drop i.toNat ++ ((b.take (c.f2 + c.f3).toNat).drop c.f2.toNat ++ WV a b l (c.f0 + c.f1))
theorem WV_cons (a b:List ByteArray) (c:S53) (l:List S53) (i:Int):WV a b (c :: l) i=(a.take c.f0.toNat).drop i.toNat ++ ((b.take (c.f2 + c.f3).toNat).drop c.f2.toNat ++ WV a b l (c.f0 + c.f1)) := rfl
theorem CF_good {la lb:Int} {c:S53} {l:List S53} {i j:Int} {fst:Bool} (h:CF la lb (c :: l) i j fst=0):ChIn la lb c/\i<=c.f0/\CF la lb l (c.f0 + c.f1) (c.f2 + c.f3) false=0 := by
 rw [CF_cons] at h;split at h;(·cases h);rename_i h1;split at h;(·cases h);rename_i h2;refine ⟨Classical.byContradiction h1, ?_, h⟩;exact Classical.byContradiction fun e => h2 (.inr (.inr (.inl (by omega))))
end Go.Proofs.Ytelngmkfjpcbgaa.P
end
section
set_option linter.unusedVariables false
set_option linter.unusedSimpArgs false
namespace Go.Proofs.Ytelngmkfjpcbgaa.P
section
variable {α:Type} [DecidableEq α]
def lcs:List α->List α->Nat
 | [], _ => 0
 | _ :: _, [] => 0
 | x :: a, y :: b => if x=y then lcs a b + 1 else max (lcs a (y :: b)) (lcs (x :: a) b)
termination_by a b => a.length + b.length
theorem lcs_nil (b:List α):lcs [] b=0 := by rw [lcs]
theorem lcs_nil' (a:List α):lcs a []=0 := by cases a <;> rw [lcs]
theorem lcs_cons (x y:α) (a b:List α):lcs (x :: a) (y :: b)=if x=y then lcs a b + 1 else max (lcs a (y :: b)) (lcs (x :: a) b) := by rw [lcs]
theorem lcs_both:∀ (n:Nat) (a b:List α), a.length + b.length=n->(∀ x, lcs a b<=lcs (x :: a) b)/\(∀ y, lcs a (y :: b)<=lcs a b + 1) := by
 intro n
 induction n using Nat.strongRecOn with
 | _ n ih =>
  intro a b hn;constructor
  ·intro x
   cases b with
   | nil => rw [lcs_nil', lcs_nil'];exact Nat.le_refl _
   | cons y b =>
    rw [lcs_cons];split;(·exact (ih (a.length + b.length) (by simp at hn;omega) a b rfl).2 y);exact Nat.le_max_left _ _
  intro y
  cases a with
  | nil => rw [lcs_nil, lcs_nil];omega
  | cons x a =>
   have h := ih (a.length + b.length) (by simp at hn;omega) a b rfl;have h1 := h.1 x;have h2 := h.2 y;rw [lcs_cons];split <;> omega
theorem lcs_step (y:α) (a b:List α):lcs a (y :: b)<=lcs a b + 1 := (lcs_both _ a b rfl).2 y
theorem lcs_comm:∀ (n:Nat) (a b:List α), a.length + b.length=n->lcs a b=lcs b a := by
 intro n
 induction n using Nat.strongRecOn with
 | _ n ih =>
  intro a b hn
  cases a with
  | nil => rw [lcs_nil, lcs_nil']
  | cons x a =>
   cases b with
   | nil => rw [lcs_nil, lcs_nil']
   | cons y b =>
    simp only [List.length_cons] at hn;have h0 := ih (a.length + b.length) (by omega) a b rfl;have h1 := ih (a.length + (b.length + 1)) (by omega) a (y :: b) rfl;have h2 := ih (a.length + 1 + b.length) (by omega) (x :: a) b rfl;rw [lcs_cons, lcs_cons];by_cases h:x=y;(·rw [if_pos h, if_pos h.symm, h0]);rw [if_neg h, if_neg (fun e => h e.symm), h1, h2];exact Nat.max_comm _ _
theorem lcs_symm (a b:List α):lcs a b=lcs b a := lcs_comm _ a b rfl
theorem lcs_step' (x:α) (a b:List α):lcs (x :: a) b<=lcs a b + 1 := by rw [lcs_symm (x :: a) b, lcs_symm a b];exact lcs_step x b a
theorem lcs_le:∀ (a b:List α), lcs a b<=a.length := by
 intro a b
 induction a with
 | nil => rw [lcs_nil];exact Nat.le_refl _
 | cons x a ih =>
  have := lcs_step' x a b;simp only [List.length_cons];omega
theorem lcs_at {a b:List α} {i j:Nat} (hi:i < a.length) (hj:j < b.length) :
    lcs (a.drop i) (b.drop j)=if a[i]=b[j] then lcs (a.drop (i + 1)) (b.drop (j + 1)) + 1 else max (lcs (a.drop (i + 1)) (b.drop j)) (lcs (a.drop i) (b.drop (j + 1))) := by
 rw [drop_at hi, drop_at hj, lcs_cons]
theorem lcs_at3 {a b:List α} {i j:Nat} (hi:i < a.length) (hj:j < b.length) (h:a[i]=b[j]) :
    lcs (a.drop i) (b.drop j)=max (max (lcs (a.drop (i + 1)) (b.drop j)) (lcs (a.drop i) (b.drop (j + 1)))) (lcs (a.drop (i + 1)) (b.drop (j + 1)) + 1) := by
 have e := lcs_at hi hj;rw [if_pos h] at e;(have h1:lcs (a.drop (i + 1)) (b.drop j)<=lcs (a.drop (i + 1)) (b.drop (j + 1)) + 1 := by rw [drop_at hj];exact lcs_step _ _ _);(have h2:lcs (a.drop i) (b.drop (j + 1))<=lcs (a.drop (i + 1)) (b.drop (j + 1)) + 1 := by rw [drop_at hi];exact lcs_step' _ _ _);omega
end
theorem getD_set {β:Type} {l:List β} {i r:Nat} {x d:β} (h:i < l.length):(l.set i x).getD r d=if r=i then x else l.getD r d := by
 rw [List.getD_eq_getElem?_getD, List.getD_eq_getElem?_getD, List.getElem?_set];by_cases e:i=r;rotate_left;(·rw [if_neg e, if_neg (fun z => e z.symm)]);subst e;simp [h]
structure TabInv {α:Type} [DecidableEq α] (a b:List α) (t:List (List Int)) (i j:Nat):Prop where
 len:t.length=a.length + 1
 rows:∀ r, r<=a.length->(t.getD r []).length=b.length + 1
 val:∀ r c, r<=a.length->c<=b.length->(i<=r ∨ (r + 1=i/\j<=c) ∨ c=b.length ∨ r=a.length)->(t.getD r []).getD c 0=(lcs (a.drop r) (b.drop c):Int)
theorem TabInv.start {α:Type} [DecidableEq α] (a b:List α):TabInv a b (List.replicate (a.length + 1) (List.replicate (b.length + 1) 0)) (a.length) (b.length) := by
 (have hg:∀ r, r<=a.length->(List.replicate (a.length + 1) (List.replicate (b.length + 1) (0:Int))).getD r []=List.replicate (b.length + 1) 0 := fun r hr => by rw [List.getD_eq_getElem?_getD, List.getElem?_replicate, if_pos (by omega)];rfl);refine ⟨by simp, fun r hr => by rw [hg r hr];simp, fun r c hr hc h => ?_⟩;rw [hg r hr, List.getD_eq_getElem?_getD, List.getElem?_replicate, if_pos (by omega), Option.getD_some];(have:lcs (a.drop r) (b.drop c)=0 := by (have hcase:c=b.length ∨ r=a.length := by omega);(rcases hcase with e | e);(·rw [List.drop_eq_nil_of_le (show b.length<=c by omega), lcs_nil']);rw [List.drop_eq_nil_of_le (show a.length<=r by omega), lcs_nil]);rw [this];rfl
theorem TabInv.put {α:Type} [DecidableEq α] {a b:List α} {t:List (List Int)} {i j:Nat} (h:TabInv a b t (i + 1) (j + 1)) (hi:i < a.length) (hj:j < b.length) {v:Int} (hv:v=(lcs (a.drop i) (b.drop j):Int)) :
    TabInv a b (t.set i ((t.getD i []).set j v)) (i + 1) j := by
 have hl := h.len;have hr0 := h.rows i (by omega);refine ⟨by rw [List.length_set];exact hl, fun r hr => ?_, fun r c hr hc hcase => ?_⟩;(·rw [getD_set (by omega)];split;(·rw [List.length_set];exact hr0);exact h.rows r hr);rw [getD_set (by omega)];by_cases e:r=i;rotate_left;(·rw [if_neg e];exact h.val r c hr hc (by omega));subst e;rw [if_pos rfl, getD_set (by omega)];by_cases e2:c=j;(·subst e2;rw [if_pos rfl, hv]);rw [if_neg e2];exact h.val r c hr hc (by omega)
theorem TabInv.next {α:Type} [DecidableEq α] {a b:List α} {t:List (List Int)} {i:Nat} (h:TabInv a b t (i + 1) 0):TabInv a b t i b.length :=
 ⟨h.len, h.rows, fun r c hr hc hcase => h.val r c hr hc (by omega)⟩
theorem TabInv.all {α:Type} [DecidableEq α] {a b:List α} {t:List (List Int)} {j:Nat} (h:TabInv a b t 0 j) {r c:Nat} (hr:r<=a.length) (hc:c<=b.length):(t.getD r []).getD c 0=(lcs (a.drop r) (b.drop c):Int) := h.val r c hr hc (.inl (by omega))
end Go.Proofs.Ytelngmkfjpcbgaa.P
end
section
set_option linter.unusedVariables false
set_option linter.unusedSimpArgs false
namespace Go.Proofs.Ytelngmkfjpcbgaa.P
open Go.RowKit Go.Proofs.YtelngmkfjpcbgaaW.PrintWords Go.Proofs.YtelngmkfjpcbgaaW.PrintLast
theorem rdl_nat (t:List (List Int)) (i:Nat):rd_L2 t (i:Int)=t.getD i [] := by
 unfold rd_L2;rw [Int.toNat_natCast]
theorem rd_getD (t:List Int) (i:Nat):rd t (i:Int)=t.getD i 0 := by
 unfold rd;rw [Int.toNat_natCast]
theorem max_tells (x y:Int):spec_l1Max.f x y=some (max x y) := by
 unfold spec_l1Max.f;split;(·rw [Int.max_def, if_neg (by omega)]);rw [Int.max_def, if_pos (by omega)]
theorem mx_max (x y:Int):mx x y=max x y := by
 unfold mx;split;(·rw [Int.max_def, if_pos (by omega)]);rw [Int.max_def];split <;> omega
theorem stab2 (a b:List ByteArray) (ha:a.length<=1000000) (hb:b.length<=1000000) (i:Nat) (hi:i < a.length) (K:List (List Int)->Prop)
    (hK:∀ t, TabInv a b t (i + 1) 0->∃ t', K t'/\Ev (fun k => spec_l2Table.l1 k a b t (wrap64 ((i:Int) - 1))) t'):∀ (j:Nat) (t:List (List Int)), j<=b.length->TabInv a b t (i + 1) j →
    ∃ t', K t'/\Ev (fun k => spec_l2Table.l2 k a b t (i:Int) ((j:Int) - 1)) t' := by
 intro j
 induction j with
 | zero =>
  intro t hj ht;obtain ⟨t', h1, h2⟩ := hK t ht;exact ⟨t', h1, Ev.step (fun k => by rw [spec_l2Table.l2]) (Ev_neg (by omega) h2)⟩
 | succ j ih =>
  intro t hj ht;have hl := ht.len;have hri := ht.rows i (by omega);have hri1 := ht.rows (i + 1) (by omega);have e1 := ht.val (i + 1) j (by omega) (by omega) (.inl (by omega));have e2 := ht.val i (j + 1) (by omega) (by omega) (by omega);have e3 := ht.val (i + 1) (j + 1) (by omega) (by omega) (.inl (by omega));have hat := lcs_at (a := a) (b := b) hi (show j < b.length by omega);have hb1 := lcs_le (a.drop i) (b.drop j);have hb3 := lcs_le (a.drop (i + 1)) (b.drop (j + 1));rw [List.length_drop] at hb1 hb3;obtain ⟨t', h1, h2⟩ := ih (t.set i ((t.getD i []).set j ((lcs (a.drop i) (b.drop j):Nat):Int))) (by omega) (ht.put hi (by omega) rfl);refine ⟨t', h1, Ev.step (fun k => by rw [spec_l2Table.l2]) ?_⟩;rw [wsucc' (i := i) (by omega), rdl_nat, rdl_nat, show ((((j + 1:Nat):Int)) - 1)=(j:Int) by omega, wsucc' (i := j) (by omega), rd_getD, rd_getD, rd_getD, rd_nat _ hi, rd_nat _ (show j < b.length by omega), e1, e2, e3, Int.toNat_natCast, Int.toNat_natCast];refine Ev_pos (by omega) (Ev_pos (by omega) (Ev_pos (by omega) (Ev_pos (by omega) (Ev_pos (by omega) (Ev_pos (by omega) (Ev_pos (by omega) (Ev_pos (by omega) (Ev_pos (by omega) (Ev_const (max_tells _ _) (Ev_pos (by omega) (Ev_pos (by omega) ?_)))))))))));refine Ev_if (fun h => ?_) (fun h => ?_);rotate_left;(·(have hx:¬ a[i]=b[j] := fun e => h (data_eq.2 e));rw [if_neg hx] at hat;refine Ev_pos (by omega) ?_;rw [show max ((lcs (a.drop (i + 1)) (b.drop j):Nat):Int) ((lcs (a.drop i) (b.drop (j + 1)):Nat):Int)=((lcs (a.drop i) (b.drop j):Nat):Int) by omega, wid (by omega) (by omega)];exact h2);have hx := data_eq.1 h;have h3 := lcs_at3 (a := a) (b := b) hi (show j < b.length by omega) hx;rw [wid (by omega) (by omega)];refine Ev_pos (by omega) (Ev_const (max_tells _ _) (Ev_pos (by omega) ?_));rw [show max (max ((lcs (a.drop (i + 1)) (b.drop j):Nat):Int) ((lcs (a.drop i) (b.drop (j + 1)):Nat):Int)) (1 + ((lcs (a.drop (i + 1)) (b.drop (j + 1)):Nat):Int))=((lcs (a.drop i) (b.drop j):Nat):Int) by omega, wid (by omega) (by omega)];exact h2
theorem stab1 (a b:List ByteArray) (ha:a.length<=1000000) (hb:b.length<=1000000):∀ (i:Nat) (t:List (List Int)), i<=a.length->TabInv a b t i b.length->∃ t', TabInv a b t' 0 b.length/\Ev (fun k => spec_l2Table.l1 k a b t ((i:Int) - 1)) t' := by
 intro i
 induction i with
 | zero =>
  intro t hi ht;exact ⟨t, ht, Ev.step (fun k => by rw [spec_l2Table.l1]) (Ev_neg (by omega) (Ev.now _))⟩
 | succ i ih =>
  intro t hi ht
  obtain ⟨t', h1, h2⟩ := stab2 a b ha hb i (by omega) (fun t' => TabInv a b t' 0 b.length) (fun t ht => by
    obtain ⟨t', h1, h2⟩ := ih t (by omega) ht.next
    exact ⟨t', h1, by rw [wid (by omega) (by omega)];exact h2⟩) b.length t (Nat.le_refl _) ht
  refine ⟨t', h1, Ev.step (fun k => by rw [spec_l2Table.l1]) (Ev_pos (by omega) ?_)⟩;rw [wid (x := (b.length:Int) - 1) (by omega) (by omega), show (((i + 1:Nat):Int) - 1)=(i:Int) by omega];exact h2
theorem stab0 (a b:List ByteArray) (ha:a.length<=1000000) (hb:b.length<=1000000) (t':List (List Int)) (h:Ev (fun k => spec_l2Table.l1 k a b (List.replicate (a.length + 1) (List.replicate (b.length + 1) 0)) ((a.length:Int) - 1)) t') :
    ∀ (d i:Nat), a.length + 1 - i=d->i<=a.length + 1->Ev (fun k => spec_l2Table.l0 k a b (List.replicate i (List.replicate (b.length + 1) 0)) (i:Int)) t' := by
 intro d
 induction d with
 | zero =>
  intro i hd hi;(have:i=a.length + 1 := by omega);subst this;refine Ev.step (fun k => by rw [spec_l2Table.l0]) (Ev_neg (by omega) ?_);rw [wid (by omega) (by omega)];exact h
 | succ d ih =>
  intro i hd hi;refine Ev.step (fun k => by rw [spec_l2Table.l0]) (Ev_pos (by omega) ?_);rw [wsucc' (i := b.length) (by omega), wsucc' (i := i) (by omega), Int.toNat_natCast];refine Ev_pos (by omega) (Ev_pos (by omega) (Ev_pos (by rw [List.length_replicate];omega) ?_));rw [← List.replicate_succ'];exact ih (i + 1) (by omega) (by omega)
theorem stab_tells (a b:List ByteArray) (ha:a.length<=1000000) (hb:b.length<=1000000):∃ t, TabInv a b t 0 b.length/\Ev (fun k => spec_l2Table.f k a b) t := by
 obtain ⟨t, h1, h2⟩ := stab1 a b ha hb a.length _ (Nat.le_refl _) (TabInv.start a b);refine ⟨t, h1, ?_⟩;unfold spec_l2Table.f;exact stab0 a b ha hb t h2 _ 0 rfl (by omega)
theorem itab2 (a b:List ByteArray) (ha:a.length<=1000000) (hb:b.length<=1000000) (i:Nat) (hi:i < a.length) (K:List (List Int)->Prop)
    (hK:∀ t, TabInv a b t (i + 1) 0->∃ t', K t'/\Ev (fun k => impl_commons.l1 k a b t (wrap64 ((i:Int) - 1))) t'):∀ (j:Nat) (t:List (List Int)), j<=b.length->TabInv a b t (i + 1) j →
    ∃ t', K t'/\Ev (fun k => impl_commons.l2 k a b t (i:Int) ((j:Int) - 1)) t' := by
 intro j
 induction j with
 | zero =>
  intro t hj ht;obtain ⟨t', h1, h2⟩ := hK t ht;exact ⟨t', h1, Ev.step (fun k => by rw [impl_commons.l2]) (Ev_neg (by omega) h2)⟩
 | succ j ih =>
  intro t hj ht;have hl := ht.len;have hri := ht.rows i (by omega);have hri1 := ht.rows (i + 1) (by omega);have e1 := ht.val (i + 1) j (by omega) (by omega) (.inl (by omega));have e2 := ht.val i (j + 1) (by omega) (by omega) (by omega);have e3 := ht.val (i + 1) (j + 1) (by omega) (by omega) (.inl (by omega));have hat := lcs_at (a := a) (b := b) hi (show j < b.length by omega);have hb1 := lcs_le (a.drop i) (b.drop j);have hb3 := lcs_le (a.drop (i + 1)) (b.drop (j + 1));rw [List.length_drop] at hb1 hb3;obtain ⟨t', h1, h2⟩ := ih (t.set i ((t.getD i []).set j ((lcs (a.drop i) (b.drop j):Nat):Int))) (by omega) (ht.put hi (by omega) rfl);refine ⟨t', h1, Ev.step (fun k => by rw [impl_commons.l2]) ?_⟩;rw [wsucc' (i := i) (by omega), rdl_nat, rdl_nat, show ((((j + 1:Nat):Int)) - 1)=(j:Int) by omega, wsucc' (i := j) (by omega), rd_getD, rd_getD, e1, e2, Int.toNat_natCast, Int.toNat_natCast, mx_max];refine Ev_pos (by omega) (Ev_pos (by omega) (Ev_pos (by omega) (Ev_pos (by omega) (Ev_pos (by omega) (Ev_pos (by omega) (Ev_pos (by omega) (Ev_pos (by omega) (Ev_pos (by omega) (Ev_pos (by omega) ?_)))))))));refine Ev_const rfl ?_;rw [rd_nat _ hi, rd_nat _ (show j < b.length by omega), rdl_nat, rdl_nat, getD_set (by omega), getD_set (by omega), if_neg (by omega), if_pos rfl, rd_getD, e3];refine Ev_pos (by omega) (Ev_pos (by omega) ?_);refine Ev_if (fun h => ?_) (fun h => ?_);rotate_left;(·(have hx:¬ a[i]=b[j] := fun e => h (data_eq.2 e));rw [if_neg hx] at hat;rw [show max ((lcs (a.drop (i + 1)) (b.drop j):Nat):Int) ((lcs (a.drop i) (b.drop (j + 1)):Nat):Int)=((lcs (a.drop i) (b.drop j):Nat):Int) by omega, wid (by omega) (by omega)];exact h2);have hx := data_eq.1 h;rw [if_pos hx] at hat;refine Ev_pos (by omega) (Ev_pos (by rw [List.length_set];omega) ?_);rw [wid (by omega) (by omega), wid (by omega) (by omega), List.set_set, List.set_set, show ((lcs (a.drop (i + 1)) (b.drop (j + 1)):Nat):Int) + 1=((lcs (a.drop i) (b.drop j):Nat):Int) by omega];exact h2
theorem itab1 (a b:List ByteArray) (ha:a.length<=1000000) (hb:b.length<=1000000):∀ (i:Nat) (t:List (List Int)), i<=a.length->TabInv a b t i b.length->∃ t', TabInv a b t' 0 b.length/\Ev (fun k => impl_commons.l1 k a b t ((i:Int) - 1)) t' := by
 intro i
 induction i with
 | zero =>
  intro t hi ht;exact ⟨t, ht, Ev.step (fun k => by rw [impl_commons.l1]) (Ev_neg (by omega) (Ev.now _))⟩
 | succ i ih =>
  intro t hi ht
  obtain ⟨t', h1, h2⟩ := itab2 a b ha hb i (by omega) (fun t' => TabInv a b t' 0 b.length) (fun t ht => by
    obtain ⟨t', h1, h2⟩ := ih t (by omega) ht.next
    exact ⟨t', h1, by rw [wid (by omega) (by omega)];exact h2⟩) b.length t (Nat.le_refl _) ht
  refine ⟨t', h1, Ev.step (fun k => by rw [impl_commons.l1]) (Ev_pos (by omega) ?_)⟩;rw [wid (x := (b.length:Int) - 1) (by omega) (by omega), show (((i + 1:Nat):Int) - 1)=(i:Int) by omega];exact h2
theorem set_rep {β:Type} (z y:β) (i d:Nat):(List.replicate i z ++ List.replicate (d + 1) y).set i z=List.replicate (i + 1) z ++ List.replicate d y := by
 rw [List.set_append_right _ _ (by simp), List.length_replicate, Nat.sub_self, List.replicate_succ (n := d), List.set_cons_zero, List.replicate_succ', List.append_assoc];rfl
theorem itab0 (a b:List ByteArray) (ha:a.length<=1000000) (hb:b.length<=1000000) (t':List (List Int)) (h:Ev (fun k => impl_commons.l1 k a b (List.replicate (a.length + 1) (List.replicate (b.length + 1) 0)) ((a.length:Int) - 1)) t') :
    ∀ (d i:Nat), a.length + 1 - i=d->i<=a.length + 1->Ev (fun k => impl_commons.l0 k a b (List.replicate i (List.replicate (b.length + 1) 0) ++ List.replicate d []) ((a.length + 1:Nat):Int) (i:Int)) t' := by
 intro d
 induction d with
 | zero =>
  intro i hd hi;(have:i=a.length + 1 := by omega);subst this;refine Ev.step (fun k => by rw [impl_commons.l0]) (Ev_neg (by omega) ?_);rw [wid (by omega) (by omega), List.replicate_zero, List.append_nil];exact h
 | succ d ih =>
  intro i hd hi;refine Ev.step (fun k => by rw [impl_commons.l0]) (Ev_pos (by omega) ?_);rw [wsucc' (i := b.length) (by omega), wsucc' (i := i) (by omega), Int.toNat_natCast, Int.toNat_natCast];refine Ev_pos (by omega) (Ev_pos (by omega) (Ev_pos (by omega) (Ev_pos (by simp;omega) ?_)));rw [set_rep];exact ih (i + 1) (by omega) (by omega)
theorem itab_tells (a b:List ByteArray) (ha:a.length<=1000000) (hb:b.length<=1000000):∃ t, TabInv a b t 0 b.length/\Ev (fun k => impl_commons.f k a b) t := by
 obtain ⟨t, h1, h2⟩ := itab1 a b ha hb a.length _ (Nat.le_refl _) (TabInv.start a b);refine ⟨t, h1, ?_⟩;unfold impl_commons.f;rw [wsucc' (i := a.length) (by omega), Int.toNat_natCast];refine Ev_pos (by omega) (Ev_pos (by omega) (Ev_const rfl ?_));rw [List.length_replicate];have h := itab0 a b ha hb t h2 _ 0 rfl (by omega);rw [List.replicate_zero, List.nil_append, Nat.sub_zero] at h;exact h
def mt:List ByteArray->List ByteArray->Nat->Nat->List Int × List Int
 | [], _, _, _ => ([], [])
 | _ :: _, [], _, _ => ([], [])
 | x :: a, y :: b, i, j => if x=y then ((i:Int) :: (mt a b (i + 1) (j + 1)).1, (j:Int) :: (mt a b (i + 1) (j + 1)).2) else if lcs (x :: a) b<=lcs a (y :: b) then mt a (y :: b) (i + 1) j else mt (x :: a) b i (j + 1)
termination_by a b => a.length + b.length
theorem mt_nil (b:List ByteArray) (i j:Nat):mt [] b i j=([], []) := by rw [mt]
theorem mt_nil' (a:List ByteArray) (i j:Nat):mt a [] i j=([], []) := by cases a <;> rw [mt]
theorem mt_eq {a b:List ByteArray} {i j:Nat} (hi:i < a.length) (hj:j < b.length) (h:a[i]=b[j]) (p q:Nat) :
    mt (a.drop i) (b.drop j) p q=((p:Int) :: (mt (a.drop (i + 1)) (b.drop (j + 1)) (p + 1) (q + 1)).1, (q:Int) :: (mt (a.drop (i + 1)) (b.drop (j + 1)) (p + 1) (q + 1)).2) := by
 rw [drop_at hi, drop_at hj, mt, if_pos h]
theorem mt_a {a b:List ByteArray} {i j:Nat} (hi:i < a.length) (hj:j < b.length) (h:¬ a[i]=b[j]) (h2:lcs (a.drop i) (b.drop (j + 1))<=lcs (a.drop (i + 1)) (b.drop j)) (p q:Nat) :
    mt (a.drop i) (b.drop j) p q=mt (a.drop (i + 1)) (b.drop j) (p + 1) q := by
 rw [drop_at hi, drop_at hj] at *;rw [mt, if_neg h, if_pos h2]
theorem mt_b {a b:List ByteArray} {i j:Nat} (hi:i < a.length) (hj:j < b.length) (h:¬ a[i]=b[j]) (h2:¬ lcs (a.drop i) (b.drop (j + 1))<=lcs (a.drop (i + 1)) (b.drop j)) (p q:Nat) :
    mt (a.drop i) (b.drop j) p q=mt (a.drop i) (b.drop (j + 1)) p (q + 1) := by
 rw [drop_at hi, drop_at hj] at *;rw [mt, if_neg h, if_neg h2]
def Inc (A B:Int):List Int->List Int->Int->Int->Prop
 | [], [], i, j => i<=A/\j<=B
 | u :: us, v :: vs, i, j => i<=u/\j<=v/\Inc A B us vs (u + 1) (v + 1)
 | [], _ :: _, _, _ => False
 | _ :: _, [], _, _ => False
theorem mt_inc:∀ (n:Nat) (a b:List ByteArray) (i j:Nat) (i' j':Int), a.length + b.length=n->i'<=i->j'<=j->Inc ((i + a.length:Nat):Int) ((j + b.length:Nat):Int) (mt a b i j).1 (mt a b i j).2 i' j' := by
 intro n
 induction n using Nat.strongRecOn with
 | _ n ih =>
  intro a b i j i' j' hn hi hj
  cases a with
  | nil =>
   rw [mt_nil];exact ⟨by simp only [List.length_nil];omega, by omega⟩
  | cons x a =>
   cases b with
   | nil =>
    rw [mt_nil'];exact ⟨by omega, by simp only [List.length_nil];omega⟩
   | cons y b =>
    simp only [List.length_cons] at hn ⊢;rw [mt];split;(·have := ih _ (by omega) a b (i + 1) (j + 1) ((i:Int) + 1) ((j:Int) + 1) rfl (by omega) (by omega);rw [show i + (a.length + 1)=i + 1 + a.length by omega, show j + (b.length + 1)=j + 1 + b.length by omega];exact ⟨hi, hj, this⟩);split;(·have := ih _ (by simp only [List.length_cons];omega) a (y :: b) (i + 1) j i' j' rfl (by omega) (by omega);rw [show i + (a.length + 1)=i + 1 + a.length by omega];exact this);have := ih _ (by simp only [List.length_cons];omega) (x :: a) b i (j + 1) i' j' rfl (by omega) (by omega);rw [show j + (b.length + 1)=j + 1 + b.length by omega];exact this
theorem mt_len:∀ (n:Nat) (a b:List ByteArray) (i j:Nat), a.length + b.length=n->(mt a b i j).1.length=lcs a b/\(mt a b i j).2.length=lcs a b := by
 intro n
 induction n using Nat.strongRecOn with
 | _ n ih =>
  intro a b i j hn
  cases a with
  | nil => rw [mt_nil, lcs_nil];exact ⟨rfl, rfl⟩
  | cons x a =>
   cases b with
   | nil => rw [mt_nil', lcs_nil'];exact ⟨rfl, rfl⟩
   | cons y b =>
    simp only [List.length_cons] at hn;rw [mt, lcs_cons];split;(·have := ih _ (by omega) a b (i + 1) (j + 1) rfl;exact ⟨by rw [List.length_cons, this.1], by rw [List.length_cons, this.2]⟩);split;(·rename_i h1 h2;have := ih _ (by simp only [List.length_cons];omega) a (y :: b) (i + 1) j rfl;rw [Nat.max_eq_left h2];exact this);rename_i h1 h2;have := ih _ (by simp only [List.length_cons];omega) (x :: a) b i (j + 1) rfl;rw [Nat.max_eq_right (by omega)];exact this
theorem spec_l2Match_loop (a b:List ByteArray) (ha:a.length<=1000000) (hb:b.length<=1000000) (t:List (List Int)) (ht:TabInv a b t 0 b.length):∀ (n i j:Nat) (x y:List Int), (a.length - i) + (b.length - j)=n->i<=a.length->j<=b.length->x.length<=i->y.length<=j →
    Ev (fun k => spec_l2Match.l0 k a b t x y (i:Int) (j:Int)) (x ++ (mt (a.drop i) (b.drop j) i j).1, y ++ (mt (a.drop i) (b.drop j) i j).2) := by
 intro n
 induction n using Nat.strongRecOn with
 | _ n ih =>
  intro i j x y hn hi hj hx hy;by_cases h:i < a.length/\j < b.length;rotate_left;(·(have hm:mt (a.drop i) (b.drop j) i j=([], []) := by by_cases h1:i < a.length;(·rw [List.drop_eq_nil_of_le (show b.length<=j by omega), mt_nil']);rw [List.drop_eq_nil_of_le (show a.length<=i by omega), mt_nil]);rw [hm, List.append_nil, List.append_nil];have e:Ev (fun k => spec_l2Match.j1 k a b t x y (i:Int) (j:Int) false) (x, y) := Ev.step (fun k => by rw [spec_l2Match.j1]) (Ev_neg (by simp) (Ev.now _));refine Ev.step (fun k => by rw [spec_l2Match.l0]) (Ev_if (fun h1 => ?_) (fun h1 => e));rw [show (decide ((j:Int) < (b.length:Int)))=false from decide_eq_false (by omega)];exact e);obtain ⟨h1, h2⟩ := h;have hl := ht.len;have r0 := ht.rows i (by omega);have r1 := ht.rows (i + 1) (by omega);have v1 := ht.all (r := i + 1) (c := j) (by omega) (by omega);have v2 := ht.all (r := i) (c := j + 1) (by omega) (by omega);refine Ev.step (fun k => by rw [spec_l2Match.l0]) (Ev_pos (by omega) ?_);rw [show (decide ((j:Int) < (b.length:Int)))=true from decide_eq_true (by omega)];refine Ev.step (fun k => by rw [spec_l2Match.j1]) (Ev_pos rfl (Ev_pos (by omega) (Ev_pos (by omega) (Ev_pos (by omega) (Ev_pos (by omega) ?_)))));rw [rd_nat _ h1, rd_nat _ h2, wsucc' (i := i) (by omega), wsucc' (i := j) (by omega), rdl_nat, rdl_nat, rd_getD, rd_getD, v1, v2];refine Ev_if (fun h => ?_) (fun h => ?_);(·rw [mt_eq h1 h2 (data_eq.1 h)];refine Ev_pos (by omega) (Ev_pos (by omega) ?_);have e := ih _ (by omega) (i + 1) (j + 1) (x ++ [(i:Int)]) (y ++ [(j:Int)]) rfl (by omega) (by omega) (by simp;omega) (by simp;omega);rw [List.append_assoc, List.append_assoc] at e;exact e);(have hne:¬ a[i]=b[j] := fun e => h (data_eq.2 e));refine Ev_pos (by omega) (Ev_pos (by omega) (Ev_pos (by omega) (Ev_pos (by omega) (Ev_pos (by omega) (Ev_pos (by omega) ?_)))));refine Ev_if (fun h3 => ?_) (fun h3 => ?_);(·rw [mt_a h1 h2 hne (by omega)];exact ih _ (by omega) (i + 1) j x y rfl (by omega) (by omega) (by omega) (by omega));rw [mt_b h1 h2 hne (by omega)];exact ih _ (by omega) i (j + 1) x y rfl (by omega) (by omega) (by omega) (by omega)
theorem spec_l2Match_tells (a b:List ByteArray) (ha:a.length<=1000000) (hb:b.length<=1000000):Ev (fun k => spec_l2Match.f k a b) (mt a b 0 0) := by
 obtain ⟨t, h1, h2⟩ := stab_tells a b ha hb;unfold spec_l2Match.f;refine Ev_call h2 ?_;have e := spec_l2Match_loop a b ha hb t h1 _ 0 0 [] [] rfl (by omega) (by omega) (by simp) (by simp);rw [List.drop_zero, List.drop_zero, List.nil_append, List.nil_append] at e;exact e
theorem impl_match_loop (a b:List ByteArray) (ha:a.length<=1000000) (hb:b.length<=1000000) (t:List (List Int)) (ht:TabInv a b t 0 b.length):∀ (n i j:Nat) (x y:List Int), (a.length - i) + (b.length - j)=n->i<=a.length->j<=b.length->x.length<=i->y.length<=j →
    Ev (fun k => impl_match.l0 k a b t x y (i:Int) (j:Int)) (x ++ (mt (a.drop i) (b.drop j) i j).1, y ++ (mt (a.drop i) (b.drop j) i j).2) := by
 intro n
 induction n using Nat.strongRecOn with
 | _ n ih =>
  intro i j x y hn hi hj hx hy;by_cases h:i < a.length/\j < b.length;rotate_left;(·(have hm:mt (a.drop i) (b.drop j) i j=([], []) := by by_cases h1:i < a.length;(·rw [List.drop_eq_nil_of_le (show b.length<=j by omega), mt_nil']);rw [List.drop_eq_nil_of_le (show a.length<=i by omega), mt_nil]);rw [hm, List.append_nil, List.append_nil];have e:Ev (fun k => impl_match.j1 k a b t x y (i:Int) (j:Int) false) (x, y) := Ev.step (fun k => by rw [impl_match.j1]) (Ev_neg (by simp) (Ev.now _));refine Ev.step (fun k => by rw [impl_match.l0]) (Ev_if (fun h1 => ?_) (fun h1 => e));rw [show (decide ((j:Int) < (b.length:Int)))=false from decide_eq_false (by omega)];exact e);obtain ⟨h1, h2⟩ := h;have hl := ht.len;have r0 := ht.rows i (by omega);have r1 := ht.rows (i + 1) (by omega);have v1 := ht.all (r := i + 1) (c := j) (by omega) (by omega);have v2 := ht.all (r := i) (c := j + 1) (by omega) (by omega);refine Ev.step (fun k => by rw [impl_match.l0]) (Ev_pos (by omega) ?_);rw [show (decide ((j:Int) < (b.length:Int)))=true from decide_eq_true (by omega)];refine Ev.step (fun k => by rw [impl_match.j1]) (Ev_pos rfl (Ev_pos (by omega) (Ev_pos (by omega) (Ev_pos (by omega) (Ev_pos (by omega) ?_)))));rw [rd_nat _ h1, rd_nat _ h2, wsucc' (i := i) (by omega), wsucc' (i := j) (by omega), rdl_nat, rdl_nat, rd_getD, rd_getD, v1, v2];refine Ev_if (fun h => ?_) (fun h => ?_);(·rw [mt_eq h1 h2 (data_eq.1 h)];refine Ev_pos (by omega) (Ev_pos (by omega) ?_);have e := ih _ (by omega) (i + 1) (j + 1) (x ++ [(i:Int)]) (y ++ [(j:Int)]) rfl (by omega) (by omega) (by simp;omega) (by simp;omega);rw [List.append_assoc, List.append_assoc] at e;exact e);(have hne:¬ a[i]=b[j] := fun e => h (data_eq.2 e));refine Ev_pos (by omega) (Ev_pos (by omega) (Ev_pos (by omega) (Ev_pos (by omega) (Ev_pos (by omega) (Ev_pos (by omega) ?_)))));refine Ev_if (fun h3 => ?_) (fun h3 => ?_);(·rw [mt_a h1 h2 hne (by omega)];exact ih _ (by omega) (i + 1) j x y rfl (by omega) (by omega) (by omega) (by omega));rw [mt_b h1 h2 hne (by omega)];exact ih _ (by omega) i (j + 1) x y rfl (by omega) (by omega) (by omega) (by omega)
theorem impl_match_tells (a b:List ByteArray) (ha:a.length<=1000000) (hb:b.length<=1000000):Ev (fun k => impl_match.f k a b) (mt a b 0 0) := by
 obtain ⟨t, h1, h2⟩ := itab_tells a b ha hb;unfold impl_match.f;refine Ev_call h2 ?_;have e := impl_match_loop a b ha hb t h1 _ 0 0 [] [] rfl (by omega) (by omega) (by simp) (by simp);rw [List.drop_zero, List.drop_zero, List.nil_append, List.nil_append] at e;exact e
end Go.Proofs.Ytelngmkfjpcbgaa.P
end
section
set_option linter.unusedVariables false
set_option linter.unusedSimpArgs false
namespace Go.Proofs.Ytelngmkfjpcbgaa.P
end Go.Proofs.Ytelngmkfjpcbgaa.P
end
section
set_option linter.unusedVariables false
set_option linter.unusedSimpArgs false
namespace Go.Proofs.Ytelngmkfjpcbgaa.P
open Go.RowKit Go.Proofs.YtelngmkfjpcbgaaW.PrintWords Go.Proofs.YtelngmkfjpcbgaaW.PrintLast
def Inc2 (M:Int):List Int->List Int->Int->Int->Prop
 | [], [], _, _ => True
 | u :: us, v :: vs, i, j => i<=u/\j<=v/\u<=M/\v<=M/\Inc2 M us vs (u + 1) (v + 1)
 | [], _ :: _, _, _ => False
 | _ :: _, [], _, _ => False
theorem Inc.two {A B M:Int} (hA:A<=M) (hB:B<=M):∀ (p q:List Int) (i j:Int), Inc A B p q i j->i<=A/\j<=B/\Inc2 M (p ++ [A]) (q ++ [B]) i j
 | [], [], i, j, h => ⟨h.1, h.2, h.1, h.2, hA, hB, trivial⟩
 | u :: us, v :: vs, i, j, h => by
  obtain ⟨h1, h2, h3⟩ := h
  obtain ⟨h4, h5, h6⟩ := Inc.two hA hB us vs _ _ h3
  exact ⟨by omega, by omega, h1, h2, by omega, by omega, h6⟩
 | [], _ :: _, _, _, h => h.elim
 | _ :: _, [], _, _, h => h.elim
theorem Inc2.len {M:Int} : ∀ (p q:List Int) (i j:Int), Inc2 M p q i j->p.length=q.length
 | [], [], _, _, _ => rfl
 | _ :: us, _ :: vs, _, _, h => by rw [List.length_cons, List.length_cons, Inc2.len us vs _ _ h.2.2.2.2]
 | [], _ :: _, _, _, h => h.elim
 | _ :: _, [], _, _, h => h.elim
def chs:List Int->List Int->Int->Int->List S53
 | u :: us, v :: vs, i, j => if u > i ∨ v > j then ⟨i, u - i, j, v - j⟩ :: chs us vs (u + 1) (v + 1) else chs us vs (u + 1) (v + 1)
 | _, _, _, _ => []
theorem chs_cons (u v:Int) (us vs:List Int) (i j:Int):chs (u :: us) (v :: vs) i j=if u > i ∨ v > j then ⟨i, u - i, j, v - j⟩ :: chs us vs (u + 1) (v + 1) else chs us vs (u + 1) (v + 1) := rfl
theorem sch_loop (us vs:List Int) (hl:us.length<=2000000) (he:us.length=vs.length):∀ (d n:Nat) (o:List S53) (i j:Int), us.length - n=d->n<=us.length->o.length<=n->0<=i->0<=j->Inc2 1000000 (us.drop n) (vs.drop n) i j →
    Ev (fun k => spec_l2Changes.l0 k us vs o i j (n:Int)) (o ++ chs (us.drop n) (vs.drop n) i j) := by
 intro d
 induction d with
 | zero =>
  intro n o i j hd hn ho hi hj h;refine Ev.step (fun k => by rw [spec_l2Changes.l0]) (Ev_neg (by omega) (Ev_val ?_));rw [List.drop_eq_nil_of_le (show us.length<=n by omega), List.drop_eq_nil_of_le (show vs.length<=n by omega)];exact (List.append_nil _).symm
 | succ d ih =>
  intro n o i j hd hn ho hi hj h;(have h1:n < us.length := by omega);(have h2:n < vs.length := by omega);rw [drop_at h1, drop_at h2] at h ⊢;obtain ⟨g1, g2, g3, g4, g5⟩ := h;rw [chs_cons];refine Ev.step (fun k => by rw [spec_l2Changes.l0]) (Ev_pos (by omega) (Ev_pos (by omega) ?_));rw [rdi_nat h1, rdi_nat h2, wid (x := us[n] - i) (by omega) (by omega), wid (x := vs[n] - j) (by omega) (by omega), wid (x := us[n] + 1) (by omega) (by omega), wid (x := vs[n] + 1) (by omega) (by omega), wsucc' (by omega)];(have go1:Ev (fun k => spec_l2Changes.l0 k us vs (o ++ [⟨i, us[n] - i, j, vs[n] - j⟩]) (us[n] + 1) (vs[n] + 1) ((n + 1:Nat):Int)) (o ++ ⟨i, us[n] - i, j, vs[n] - j⟩ :: chs (us.drop (n + 1)) (vs.drop (n + 1)) (us[n] + 1) (vs[n] + 1)) := by have := ih (n + 1) (o ++ [⟨i, us[n] - i, j, vs[n] - j⟩]) (us[n] + 1) (vs[n] + 1) (by omega) (by omega) (by simp;omega) (by omega) (by omega) g5;rw [List.append_assoc] at this;exact this);refine Ev_if (fun h => ?_) (fun h => ?_);(·rw [if_pos (.inl h)];exact Ev_pos (by omega) (Ev_pos (by omega) go1));refine Ev_pos (by omega) (Ev_if (fun h3 => ?_) (fun h3 => ?_));(·rw [if_pos (.inr h3)];exact Ev_pos (by omega) go1);rw [if_neg (by omega)];exact ih (n + 1) o (us[n] + 1) (vs[n] + 1) (by omega) (by omega) (by omega) (by omega) (by omega) g5
theorem ich_loop (us vs:List Int) (hl:us.length<=2000000) (he:us.length=vs.length):∀ (d n:Nat) (o:List S53) (i j:Int), us.length - n=d->n<=us.length->o.length<=n->0<=i->0<=j->Inc2 1000000 (us.drop n) (vs.drop n) i j →
    Ev (fun k => impl_changesOf.l0 k vs o i j us (us.length:Int) (n:Int)) (o ++ chs (us.drop n) (vs.drop n) i j) := by
 intro d
 induction d with
 | zero =>
  intro n o i j hd hn ho hi hj h;refine Ev.step (fun k => by rw [impl_changesOf.l0]) (Ev_neg (by omega) (Ev_val ?_));rw [List.drop_eq_nil_of_le (show us.length<=n by omega), List.drop_eq_nil_of_le (show vs.length<=n by omega)];exact (List.append_nil _).symm
 | succ d ih =>
  intro n o i j hd hn ho hi hj h;(have h1:n < us.length := by omega);(have h2:n < vs.length := by omega);rw [drop_at h1, drop_at h2] at h ⊢;obtain ⟨g1, g2, g3, g4, g5⟩ := h;rw [chs_cons];refine Ev.step (fun k => by rw [impl_changesOf.l0]) (Ev_pos (by omega) (Ev_pos (by omega) (Ev_pos (by omega) (Ev_pos (by omega) ?_))));rw [rdi_nat h1, rdi_nat h2, wid (x := us[n] - i) (by omega) (by omega), wid (x := vs[n] - j) (by omega) (by omega), wid (x := us[n] + 1) (by omega) (by omega), wid (x := vs[n] + 1) (by omega) (by omega), wsucc' (by omega)];(have go1:Ev (fun k => impl_changesOf.l0 k vs (o ++ [⟨i, us[n] - i, j, vs[n] - j⟩]) (us[n] + 1) (vs[n] + 1) us (us.length:Int) ((n + 1:Nat):Int)) (o ++ ⟨i, us[n] - i, j, vs[n] - j⟩ :: chs (us.drop (n + 1)) (vs.drop (n + 1)) (us[n] + 1) (vs[n] + 1)) := by have := ih (n + 1) (o ++ [⟨i, us[n] - i, j, vs[n] - j⟩]) (us[n] + 1) (vs[n] + 1) (by omega) (by omega) (by simp;omega) (by omega) (by omega) g5;rw [List.append_assoc] at this;exact this);refine Ev_if (fun h => ?_) (fun h => ?_);(·rw [if_pos (.inl h)];exact Ev_pos (by omega) go1);refine Ev_if (fun h3 => ?_) (fun h3 => ?_);(·rw [if_pos (.inr h3)];exact Ev_pos (by omega) go1);rw [if_neg (by omega)];exact ih (n + 1) o (us[n] + 1) (vs[n] + 1) (by omega) (by omega) (by omega) (by omega) (by omega) g5
def CHS (a b:List ByteArray):List S53 := chs ((mt a b 0 0).1 ++ [(a.length:Int)]) ((mt a b 0 0).2 ++ [(b.length:Int)]) 0 0
theorem chs_ready (a b:List ByteArray) (ha:a.length<=1000000) (hb:b.length<=1000000):Inc2 1000000 ((mt a b 0 0).1 ++ [(a.length:Int)]) ((mt a b 0 0).2 ++ [(b.length:Int)]) 0 0/\((mt a b 0 0).1 ++ [(a.length:Int)]).length<=1000001/\((mt a b 0 0).2 ++ [(b.length:Int)]).length<=1000001 := by
 have h := mt_inc _ a b 0 0 0 0 rfl (by omega) (by omega);rw [Nat.zero_add, Nat.zero_add] at h;have h2 := (Inc.two (M := 1000000) (by omega) (by omega) _ _ _ _ h).2.2;have hl := mt_len _ a b 0 0 rfl;have hle := lcs_le a b;refine ⟨h2, ?_, ?_⟩;(·rw [List.length_append, hl.1];simp;omega);rw [List.length_append, hl.2];simp;omega
theorem sch_tells (a b:List ByteArray) (ha:a.length<=1000000) (hb:b.length<=1000000):Ev (fun k => spec_l2Changes.f k a b) (CHS a b) := by
 obtain ⟨h1, h2, h3⟩ := chs_ready a b ha hb;have he := Inc2.len _ _ _ _ h1;unfold spec_l2Changes.f;refine Ev_call (spec_l2Match_tells a b ha hb) (Ev_pos (by rw [List.length_append] at h2;simp at h2;omega) (Ev_pos (by rw [List.length_append] at h3;simp at h3;omega) ?_));have := sch_loop _ _ (by omega) he _ 0 [] 0 0 rfl (by omega) (by simp) (by omega) (by omega) (by rw [List.drop_zero, List.drop_zero];exact h1);rw [List.drop_zero, List.drop_zero, List.nil_append] at this;exact this
theorem ich_tells (a b:List ByteArray) (ha:a.length<=1000000) (hb:b.length<=1000000):Ev (fun k => impl_changesOf.f k a b) (CHS a b) := by
 obtain ⟨h1, h2, h3⟩ := chs_ready a b ha hb;have he := Inc2.len _ _ _ _ h1;unfold impl_changesOf.f;refine Ev_call (impl_match_tells a b ha hb) (Ev_pos (by rw [List.length_append] at h2;simp at h2;omega) ?_);refine Ev_const rfl ?_;refine Ev_pos (by rw [List.length_append] at h3;simp at h3;omega) ?_;have := ich_loop _ _ (by omega) he _ 0 [] 0 0 rfl (by omega) (by simp) (by omega) (by omega) (by rw [List.drop_zero, List.drop_zero];exact h1);rw [List.drop_zero, List.drop_zero, List.nil_append] at this;exact this
def Code (c:List Int):Prop := ∀ x ∈ c, 0<=x/\x<=255
theorem Code.rd {c:List Int} (hc:Code c) {i:Int} (h0:0<=i) (h1:i < (c.length:Int)):0<=rd c i/\rd c i<=255 := by
 obtain ⟨n, rfl⟩ := Int.eq_ofNat_of_zero_le h0;(have hn:n < c.length := by omega);rw [rdi_nat hn];exact hc _ (List.getElem_mem hn)
theorem next_tells {c:List Int} (hc:Code c) {p n:Int} (h0:0<=p) (h1:p<=1000000) (hn:n<=1000000):∃ v, spec_l1Next.f c p n=some (v, p + 1)/\0<=v/\(1<=n->v < n) := by
 unfold spec_l1Next.f;rw [wid (x := p + 1) (by omega) (by omega), show p + 1 - 1=p by omega, wid (x := p) (by omega) (by omega)];by_cases c0:n < 1;(·rw [if_pos c0];exact ⟨0, rfl, by omega, by omega⟩);rw [if_neg c0];by_cases c1:(c.length:Int)=0;(·rw [if_pos c1, if_neg (by omega), wid (x := p * 7) (by omega) (by omega)];exact ⟨_, rfl, Int.tmod_nonneg _ (by omega), fun _ => Int.tmod_lt_of_pos _ (by omega)⟩);rw [if_neg c1];have q0:0<=Int.tmod p (c.length:Int) := Int.tmod_nonneg _ h0;have q1:Int.tmod p (c.length:Int) < (c.length:Int) := Int.tmod_lt_of_pos _ (by omega);have r1 := hc.rd q0 q1;rw [if_pos q0, if_pos q1];have d0:0<=Int.tdiv p (c.length:Int) := Int.tdiv_nonneg h0 (by omega);have d1:Int.tdiv p (c.length:Int)<=p := Int.tdiv_le_self _ h0;rw [wid (x := Int.tdiv p (c.length:Int)) (by omega) (by omega), wid (x := rd c (Int.tmod p (c.length:Int))) (by omega) (by omega), wid (x := Int.tdiv p (c.length:Int) * 37) (by omega) (by omega), wid (x := rd c (Int.tmod p (c.length:Int)) + Int.tdiv p (c.length:Int) * 37) (by omega) (by omega)];by_cases c2:n > 200;rotate_left;(·rw [if_neg c2, if_neg (by omega)];exact ⟨_, rfl, Int.tmod_nonneg _ (by omega), fun _ => Int.tmod_lt_of_pos _ (by omega)⟩);rw [if_pos c2, wid (x := p + 1) (by omega) (by omega)];have q2:0<=Int.tmod (p + 1) (c.length:Int) := Int.tmod_nonneg _ (by omega);have q3:Int.tmod (p + 1) (c.length:Int) < (c.length:Int) := Int.tmod_lt_of_pos _ (by omega);have r2 := hc.rd q2 q3
 rw [if_pos q2, if_pos q3, if_neg (by omega), wid (x := rd c (Int.tmod (p + 1) (c.length:Int))) (by omega) (by omega), wid (x := rd c (Int.tmod (p + 1) (c.length:Int)) * 13) (by omega) (by omega),
   wid (x := (rd c (Int.tmod p (c.length:Int)) + Int.tdiv p (c.length:Int) * 37) * 251) (by omega) (by omega), wid (x := (rd c (Int.tmod p (c.length:Int)) + Int.tdiv p (c.length:Int) * 37) * 251 + rd c (Int.tmod (p + 1) (c.length:Int)) * 13) (by omega) (by omega), wid (by omega) (by omega)]
 exact ⟨_, rfl, Int.tmod_nonneg _ (by omega), fun _ => Int.tmod_lt_of_pos _ (by omega)⟩
theorem chance_tells {c:List Int} (hc:Code c) {p n:Int} (h0:0<=p) (h1:p<=1000000) (hn:n<=1000000):∃ b, spec_l1Chance.f c p n=some (b, p + 1) := by
 obtain ⟨v, e, _⟩ := next_tells hc h0 h1 hn;unfold spec_l1Chance.f;rw [e];exact ⟨_, rfl⟩
def Lin (lo hi:Nat) (l:List ByteArray):Prop := ∀ x ∈ l, lo<=x.size/\x.size<=hi
theorem Lin.mono {lo hi lo' hi':Nat} {l:List ByteArray} (h:Lin lo hi l) (h1:lo'<=lo) (h2:hi<=hi'):Lin lo' hi' l := fun x hx => ⟨Nat.le_trans h1 (h x hx).1, Nat.le_trans (h x hx).2 h2⟩
theorem Lin.app {lo hi:Nat} {l m:List ByteArray} (h:Lin lo hi l) (g:Lin lo hi m):Lin lo hi (l ++ m) := fun x hx => by
 rcases List.mem_append.1 hx with hx | hx
 ·exact h x hx
 ·exact g x hx
theorem Lin.one {lo hi:Nat} {s:ByteArray} (h:lo<=s.size/\s.size<=hi):Lin lo hi [s] := fun x hx => by
 rw [List.mem_singleton.1 hx]
 exact h
theorem Lin.take {lo hi:Nat} {l:List ByteArray} (h:Lin lo hi l) (n:Nat):Lin lo hi (l.take n) := fun x hx => h x (List.mem_of_mem_take hx)
theorem Lin.drop {lo hi:Nat} {l:List ByteArray} (h:Lin lo hi l) (n:Nat):Lin lo hi (l.drop n) := fun x hx => h x (List.mem_of_mem_drop hx)
theorem Lin.set {lo hi:Nat} {l:List ByteArray} (h:Lin lo hi l) (i:Nat) {s:ByteArray} (hs:lo<=s.size/\s.size<=hi):Lin lo hi (l.set i s) := fun x hx => by
 rcases List.mem_or_eq_of_mem_set hx with hx | rfl
 ·exact h x hx
 ·exact hs
theorem Lin.total {lo hi:Nat} : ∀ {l:List ByteArray}, Lin lo hi l->total l<=hi * l.length := by
 intro l
 induction l with
 | nil => intro _;simp [Go.Proofs.Ytelngmkfjpcbgaa.P.total]
 | cons x l ih =>
  intro h;have h1 := (h x (by simp)).2;have h2 := ih (fun y hy => h y (by simp [hy]));simp only [Go.Proofs.Ytelngmkfjpcbgaa.P.total, List.length_cons, Nat.mul_add, Nat.mul_one];omega
theorem Lin.small {lo hi:Nat} {l:List ByteArray} (h:Lin lo hi l) (hh:hi<=1000) (hl:l.length<=1000):Small l := by
 have := h.total;refine ⟨fun x hx => by have := (h x hx).2;omega, by omega, ?_⟩;have:hi * l.length<=1000 * 1000 := Nat.mul_le_mul hh hl;omega
theorem end_size (s:ByteArray):(s ++ (⟨#[10]⟩ : ByteArray)).size=s.size + 1 := by
 rw [ByteArray.size_append];rfl
theorem word_tells {c:List Int} (hc:Code c) {p:Int} (h0:0<=p) (h1:p<=1000000):∃ s, spec_l1Word.f c p=some (s, p + 1)/\s.size<=7 := by
 obtain ⟨v, e, v0, v1⟩ := next_tells hc (n := 9) h0 h1 (by omega);unfold spec_l1Word.f;rw [Option.bind_some, e, Option.bind_some];have v2 := v1 (by omega);obtain ⟨n, rfl⟩ := Int.eq_ofNat_of_zero_le v0;(have hn:n < ([(⟨#[97]⟩ : ByteArray), (⟨#[98]⟩ : ByteArray), (⟨#[99]⟩ : ByteArray), (⟨#[100]⟩ : ByteArray), (⟨#[120, 32, 121]⟩ : ByteArray), (⟨#[]⟩ : ByteArray), (⟨#[60, 60, 60, 60, 60, 60, 60]⟩ : ByteArray), (⟨#[61, 61, 61, 61, 61, 61, 61]⟩ : ByteArray), (⟨#[111, 110, 101]⟩ : ByteArray)]:List ByteArray).length := by show n < 9;omega);rw [if_pos v0, if_pos (by omega), rd_nat _ hn];refine ⟨_, rfl, ?_⟩;(have all:∀ x ∈ ([(⟨#[97]⟩ : ByteArray), (⟨#[98]⟩ : ByteArray), (⟨#[99]⟩ : ByteArray), (⟨#[100]⟩ : ByteArray), (⟨#[120, 32, 121]⟩ : ByteArray), (⟨#[]⟩ : ByteArray), (⟨#[60, 60, 60, 60, 60, 60, 60]⟩ : ByteArray), (⟨#[61, 61, 61, 61, 61, 61, 61]⟩ : ByteArray), (⟨#[111, 110, 101]⟩ : ByteArray)]:List ByteArray), x.size<=7 := by decide);exact all _ (List.getElem_mem hn)
theorem lines_loop {c:List Int} (hc:Code c):∀ (d:Nat) (p:Int) (o:List ByteArray), d<=100->0<=p->p<=900000 + (100 - d)->o.length + d<=1000->Lin 1 8 o →
    ∃ r q, Ev (fun k => spec_l1Lines.l0 k (d:Int) o c p) (r, q)/\Lin 1 8 r/\r.length<=o.length + d/\p<=q/\q<=p + d + 2 := by
 intro d
 induction d with
 | zero =>
  intro p o hd h0 h1 ho hl;by_cases c0:(o.length:Int) > 0;rotate_left;(·exact ⟨o, p, Ev.step (fun k => by rw [spec_l1Lines.l0]) (Ev_neg (by omega) (Ev_neg c0 (Ev.now _))), hl, by omega, by omega, by omega⟩);obtain ⟨b, e⟩ := chance_tells hc (p := p) (n := 5) h0 (by omega) (by omega)
  cases b with
  | false =>
   refine ⟨o, p + 1, Ev.step (fun k => by rw [spec_l1Lines.l0]) ?_, hl, by omega, by omega, by omega⟩;refine Ev_neg (by omega) (Ev_pos c0 (Ev_const e ?_));exact Ev_neg (by simp) (Ev.now _)
  | true =>
   obtain ⟨v, e2, v0, v1⟩ := next_tells hc (p := p + 1) (n := 3) (by omega) (by omega) (by omega);have v2 := v1 (by omega);obtain ⟨n, rfl⟩ := Int.eq_ofNat_of_zero_le v0;(have hn:n < ([(⟨#[122]⟩ : ByteArray), (⟨#[97]⟩ : ByteArray), (⟨#[101, 110, 100]⟩ : ByteArray)]:List ByteArray).length := by show n < 3;omega);(have all:∀ x ∈ ([(⟨#[122]⟩ : ByteArray), (⟨#[97]⟩ : ByteArray), (⟨#[101, 110, 100]⟩ : ByteArray)]:List ByteArray), 1<=x.size/\x.size<=8 := by decide);refine ⟨o.set ((o.length:Int) - 1).toNat ([(⟨#[122]⟩ : ByteArray), (⟨#[97]⟩ : ByteArray), (⟨#[101, 110, 100]⟩ : ByteArray)]:List ByteArray)[n], p + 1 + 1, ?_, hl.set _ (all _ (List.getElem_mem hn)), by rw [List.length_set];omega, by omega, by omega⟩;refine Ev.step (fun k => by rw [spec_l1Lines.l0]) ?_;refine Ev_neg (by omega) (Ev_pos c0 (Ev_const e ?_));refine Ev_pos rfl (Ev_const rfl (Ev_const e2 ?_));refine Ev_pos v0 (Ev_pos (by omega) ?_);rw [wid (by omega) (by omega), rd_nat _ hn];exact Ev_pos (by omega) (Ev_pos (by omega) (Ev.now _))
 | succ d ih =>
  intro p o hd h0 h1 ho hl;obtain ⟨s, e, hs⟩ := word_tells hc (p := p) h0 (by omega);obtain ⟨r, q, hr, g1, g2, g3, g4⟩ := ih (p + 1) (o ++ [s ++ (⟨#[10]⟩ : ByteArray)]) (by omega) (by omega) (by omega) (by rw [List.length_append];simp only [List.length_singleton];omega) (hl.app (Lin.one (by rw [end_size];omega)));rw [List.length_append, List.length_singleton] at g2;refine ⟨r, q, Ev.step (fun k => by rw [spec_l1Lines.l0]) ?_, g1, by omega, by omega, by omega⟩;refine Ev_pos (by omega) (Ev_const e ?_);rw [wpred (by omega)];refine Ev_pos (by show s.size + 1<=9223372036854775807;omega) (Ev_pos (by omega) ?_);exact hr
theorem lines_tells {c:List Int} (hc:Code c) {p n:Int} (h0:0<=p) (h1:p<=900000) (n0:0<=n) (n1:n<=100) :
    ∃ r q, Ev (fun k => spec_l1Lines.f k c p n) (r, q)/\Lin 1 8 r/\r.length<=100/\p<=q/\q<=p + 102 := by
 obtain ⟨m, rfl⟩ := Int.eq_ofNat_of_zero_le n0;obtain ⟨r, q, hr, g1, g2, g3, g4⟩ := lines_loop hc m p [] (by omega) h0 (by omega) (by simp only [List.length_nil];omega) (fun x hx => absurd hx (by simp));simp only [List.length_nil] at g2;exact ⟨r, q, hr, g1, by omega, g3, by omega⟩
theorem near_pass {c:List Int} (p:Int):∀ (y x:List ByteArray), x.length + y.length<=1000->Lin 1 9 x->Lin 1 8 y->∃ r, Ev (fun k => spec_l1Near.l1 k (x ++ y) (x.length:Int) c p) (r, p)/\Lin 1 9 r/\r.length=x.length + y.length := by
 intro y
 induction y with
 | nil =>
  intro x hl hx hy;refine ⟨x, Ev.step (fun k => by rw [spec_l1Near.l1]) ?_, hx, rfl⟩;rw [List.append_nil, wid (by omega) (by omega)];exact Ev_neg (by omega) (Ev.now _)
 | cons s y ih =>
  intro x hl hx hy;rw [List.length_cons] at hl;have hs := hy s (by simp);(have hy':Lin 1 8 y := fun z hz => hy z (by simp [hz]));(have hlen:(x ++ s :: y).length=x.length + y.length + 1 := by rw [List.length_append, List.length_cons];omega);by_cases c0:y=[];(·subst c0;refine ⟨x ++ [s], Ev.step (fun k => by rw [spec_l1Near.l1]) ?_, hx.app (Lin.one (by omega)), by simp⟩;rw [hlen, wid (by omega) (by omega)];exact Ev_neg (by simp only [List.length_nil];first | done | omega) (Ev.now _));have hpos:0 < y.length := List.length_pos_iff.2 c0;(have hat:rdOf ByteArray.empty (x ++ s :: y) (x.length:Int)=s := by rw [rd_nat _ (by omega)];simp);(have go:∀ s':ByteArray, 1<=s'.size/\s'.size<=9->∃ r, Ev (fun k => spec_l1Near.l1 k (x ++ s' :: y) ((x.length + 1:Nat):Int) c p) (r, p)/\Lin 1 9 r/\r.length=x.length + (y.length + 1) := by intro s' hs';obtain ⟨r, h1, h2, h3⟩ := ih (x ++ [s']) (by rw [List.length_append, List.length_singleton];omega) (hx.app (Lin.one hs')) hy';rw [List.append_assoc, List.length_append, List.length_singleton] at h1;rw [List.length_append, List.length_singleton] at h3;exact ⟨r, h1, h2, by omega⟩);(have head:∀ {r:List ByteArray}, Ev (fun k => if (bt s ((s.size:Int) - 1))=10 then (spec_l1Near.l1 k (x ++ s :: y) ((x.length + 1:Nat):Int) c p) else (if s.size + 1<=9223372036854775807 then (spec_l1Near.l1 k ((x ++ s :: y).set x.length (s ++ (⟨#[10]⟩ : ByteArray))) ((x.length + 1:Nat):Int) c p) else (none))) (r, p)->Ev (fun k => spec_l1Near.l1 k (x ++ s :: y) (x.length:Int) c p) (r, p) := by intro r hr;refine Ev.step (fun k => by rw [spec_l1Near.l1]) ?_;rw [hlen, hat, wid (x := ((x.length + y.length + 1:Nat):Int) - 1) (by omega) (by omega), wid (x := (s.size:Int) - 1) (by omega) (by omega), wsucc' (by omega), Int.toNat_natCast];exact Ev_pos (by omega) (Ev_pos (by omega) (Ev_pos (by omega) (Ev_pos (by omega) (Ev_pos (by omega) hr)))));by_cases c1:bt s ((s.size:Int) - 1)=10;(·obtain ⟨r, h1, h2, h3⟩ := go s (by omega);exact ⟨r, head (Ev_pos c1 h1), h2, by rw [List.length_cons];exact h3⟩);obtain ⟨r, h1, h2, h3⟩ := go (s ++ (⟨#[10]⟩ : ByteArray)) (by rw [end_size];omega);refine ⟨r, head (Ev_neg c1 (Ev_pos (by omega) ?_)), h2, by rw [List.length_cons];exact h3⟩;rw [show (x ++ s :: y).set x.length (s ++ (⟨#[10]⟩ : ByteArray))=x ++ (s ++ (⟨#[10]⟩ : ByteArray)) :: y by simp];exact h1
theorem near_loop {c:List Int} (hc:Code c):∀ (d:Nat) (p:Int) (o:List ByteArray), d<=100->0<=p->p<=900000 + 3 * (100 - d)->o.length + d<=900->Lin 1 8 o →
    ∃ r q, Ev (fun k => spec_l1Near.l0 k o (d:Int) c p) (r, q)/\Lin 1 9 r/\r.length<=o.length + d/\p<=q/\q<=p + 3 * d := by
 intro d
 induction d with
 | zero =>
  intro p o hd h0 h1 ho hl;obtain ⟨r, hr, g1, g2⟩ := near_pass (c := c) p o [] (by simp only [List.length_nil];omega) (fun x hx => absurd hx (by simp)) hl;refine ⟨r, p, Ev.step (fun k => by rw [spec_l1Near.l0]) ?_, g1, by simp only [List.length_nil] at g2;omega, by omega, by omega⟩;exact Ev_neg (by omega) hr
 | succ d ih =>
  intro p o hd h0 h1 ho hl;obtain ⟨v, e, v0, v1⟩ := next_tells hc (p := p) (n := (o.length:Int) + 1) h0 (by omega) (by omega);have v2 := v1 (by omega);obtain ⟨i, rfl⟩ := Int.eq_ofNat_of_zero_le v0;obtain ⟨u, e2, u0, u1⟩ := next_tells hc (p := p + 1) (n := 4) (by omega) (by omega) (by omega);have u2 := u1 (by omega);(have nx:∀ (o':List ByteArray) (p':Int), 0<=p'->p'<=p + 3->p + 2<=p'->o'.length<=o.length + 1->Lin 1 8 o'->∃ r q, Ev (fun k => spec_l1Near.l0 k o' (wrap64 (((d + 1:Nat):Int) - 1)) c p') (r, q)/\Lin 1 9 r/\r.length<=o.length + (d + 1)/\p<=q/\q<=p + 3 * (d + 1:Nat) := by intro o' p' a1 a2 a3 a4 a5;obtain ⟨r, q, hr, g1, g2, g3, g4⟩ := ih p' o' (by omega) a1 (by omega) (by omega) a5;rw [wpred (by omega)];exact ⟨r, q, hr, g1, by omega, by omega, by omega⟩)
  have start:∀ {r:List ByteArray} {q:Int}, Ev (fun k => if u=0 then (if (i:Int) < (o.length:Int) then ((some (([]:List ByteArray):List ByteArray)).bind fun y807 => (if 0<=(i:Int) then (if (i:Int)<=(o.length:Int) then ((some (o.take (i:Int).toNat:List ByteArray)).bind fun y810 => (if y807.length + y810.length < 8796093022208 then ((some (y807 ++ y810:List ByteArray)).bind fun y814 => (if 0<=(wrap64 ((i:Int) + 1)) then (if (wrap64 ((i:Int) + 1))<=(o.length:Int) then ((some (o.drop ((wrap64 ((i:Int) + 1)):Int).toNat:List ByteArray)).bind fun y817 => (if y814.length + y817.length < 8796093022208 then (spec_l1Near.l0 k (y814 ++ y817) (wrap64 (((d + 1:Nat):Int) - 1)) c (p + 1 + 1)) else (none))) else (none)) else (none))) else (none))) else (none)) else (none))) else (spec_l1Near.l0 k o (wrap64 (((d + 1:Nat):Int) - 1)) c (p + 1 + 1))) else (if u=1 then (spec_l1Near.j1 k o ((d + 1:Nat):Int) (o.length:Int) (i:Int) u (u == 1) c (p + 1 + 1)) else (spec_l1Near.j1 k o ((d + 1:Nat):Int) (o.length:Int) (i:Int) u (u == 2) c (p + 1 + 1)))) (r, q) →
      Ev (fun k => spec_l1Near.l0 k o ((d + 1:Nat):Int) c p) (r, q) := by
    intro r q h
    refine Ev.step (fun k => by rw [spec_l1Near.l0]) (Ev_pos (by omega) ?_)
    rw [wid (x := (o.length:Int) + 1) (by omega) (by omega)]
    exact Ev_const e (Ev_const e2 h)
  by_cases c0:u=0;(·by_cases c1:(i:Int) < (o.length:Int);rotate_left;(·obtain ⟨r, q, hr, g⟩ := nx o (p + 1 + 1) (by omega) (by omega) (by omega) (by omega) hl;exact ⟨r, q, start (Ev_pos c0 (Ev_neg c1 hr)), g⟩);obtain ⟨r, q, hr, g⟩ := nx (([] ++ o.take i) ++ o.drop (i + 1)) (p + 1 + 1) (by omega) (by omega) (by omega) (by rw [List.length_append, List.nil_append, List.length_take, List.length_drop];omega) (((hl.take i)).app (hl.drop _));refine ⟨r, q, start (Ev_pos c0 (Ev_pos c1 (Ev_const rfl (Ev_pos (by omega) (Ev_pos (by omega) (Ev_const rfl (Ev_pos (by rw [Int.toNat_natCast, List.length_take];simp only [List.length_nil];omega) (Ev_const rfl ?_)))))))), g⟩;rw [wsucc' (by omega), Int.toNat_natCast, Int.toNat_natCast];exact Ev_pos (by omega) (Ev_pos (by omega) (Ev_const rfl (Ev_pos (by rw [List.nil_append, List.length_take, List.length_drop];omega) hr))));(have ins:∀ b:Bool, b=true->∃ r q, Ev (fun k => spec_l1Near.j1 k o ((d + 1:Nat):Int) (o.length:Int) (i:Int) u b c (p + 1 + 1)) (r, q)/\Lin 1 9 r/\r.length<=o.length + (d + 1)/\p<=q/\q<=p + 3 * (d + 1:Nat) := by intro b hb;obtain ⟨s, e3, hs⟩ := word_tells hc (p := p + 1 + 1) (by omega) (by omega);obtain ⟨r, q, hr, g⟩ := nx ((([] ++ o.take i) ++ [s ++ (⟨#[10]⟩ : ByteArray)]) ++ o.drop i) (p + 1 + 1 + 1) (by omega) (by omega) (by omega) (by rw [List.length_append, List.length_append, List.nil_append, List.length_take, List.length_drop];simp only [List.length_singleton];omega) (((hl.take i).app (Lin.one (by rw [end_size];omega))).app (hl.drop _));refine ⟨r, q, Ev.step (fun k => by rw [spec_l1Near.j1]) ?_, g⟩;refine Ev_pos hb (Ev_const rfl ?_);refine Ev_pos (by omega) (Ev_pos (by omega) (Ev_const rfl ?_));refine Ev_pos (by rw [Int.toNat_natCast, List.length_take];simp only [List.length_nil];omega) (Ev_const rfl (Ev_const e3 ?_));rw [Int.toNat_natCast];exact Ev_pos (by show s.size + 1<=9223372036854775807;omega) (Ev_pos (by rw [List.nil_append, List.length_take];omega) (Ev_const rfl (Ev_const rfl (Ev_pos (by rw [List.length_append, List.nil_append, List.length_take, List.length_drop];simp only [List.length_singleton];omega) hr)))));by_cases c1:u=1;(·obtain ⟨r, q, hr, g⟩ := ins (u == 1) (by simp [c1]);exact ⟨r, q, start (Ev_neg c0 (Ev_pos c1 hr)), g⟩);by_cases c2:u=2;(·obtain ⟨r, q, hr, g⟩ := ins (u == 2) (by simp [c2]);exact ⟨r, q, start (Ev_neg c0 (Ev_neg c1 hr)), g⟩);(have c3:u=3 := by omega);by_cases c4:(i:Int) < (o.length:Int);rotate_left;(·obtain ⟨r, q, hr, g⟩ := nx o (p + 1 + 1) (by omega) (by omega) (by omega) (by omega) hl;refine ⟨r, q, start (Ev_neg c0 (Ev_neg c1 (Ev.step (fun k => by rw [spec_l1Near.j1]) ?_))), g⟩;exact Ev_neg (by simp [c2]) (Ev_pos c3 (Ev_neg c4 hr)));obtain ⟨s, e3, hs⟩ := word_tells hc (p := p + 1 + 1) (by omega) (by omega);obtain ⟨r, q, hr, g⟩ := nx (o.set i (s ++ (⟨#[10]⟩ : ByteArray))) (p + 1 + 1 + 1) (by omega) (by omega) (by omega) (by rw [List.length_set];omega) (hl.set _ (by rw [end_size];omega));refine ⟨r, q, start (Ev_neg c0 (Ev_neg c1 (Ev.step (fun k => by rw [spec_l1Near.j1]) ?_))), g⟩;refine Ev_neg (by simp [c2]) (Ev_pos c3 (Ev_pos c4 (Ev_const e3 ?_)));rw [Int.toNat_natCast];exact Ev_pos (by show s.size + 1<=9223372036854775807;omega) (Ev_pos (by omega) (Ev_pos c4 hr))
theorem near_tells {c:List Int} (hc:Code c) {p:Int} (h0:0<=p) (h1:p<=900000) {l:List ByteArray} (hl:l.length<=500) (hi:Lin 1 8 l) :
    ∃ r q, Ev (fun k => spec_l1Near.f k c p l) (r, q)/\Lin 1 9 r/\r.length<=l.length + 3/\p<=q/\q<=p + 10 := by
 obtain ⟨v, e, v0, v1⟩ := next_tells hc (p := p) (n := 4) h0 (by omega) (by omega);have v2 := v1 (by omega);obtain ⟨m, rfl⟩ := Int.eq_ofNat_of_zero_le v0;obtain ⟨r, q, hr, g1, g2, g3, g4⟩ := near_loop hc m (p + 1) ([] ++ l) (by omega) (by omega) (by omega) (by rw [List.nil_append];omega) hi;refine ⟨r, q, ?_, g1, by rw [List.nil_append] at g2;omega, by omega, by omega⟩;unfold spec_l1Near.f;exact Ev_const rfl (Ev_pos (by simp only [List.length_nil];omega) (Ev_const e hr))
theorem bent_loop {c:List Int} (hc:Code c):∀ (d i:Nat) (p:Int) (o:List ByteArray), 101 - i=d->i<=101->o.length=101->0<=p->p<=950000 + (i:Int)->Lin 0 10 o →
    ∃ r q, Ev (fun k => spec_l1Bent.l0 k o (i:Int) c p) (r, q)/\Lin 0 10 r/\r.length=101/\p<=q/\q<=p + 102 - i := by
 intro d
 induction d with
 | zero =>
  intro i p o hd hi ho h0 h1 hl;obtain ⟨v, e, v0, v1⟩ := next_tells hc (p := p) (n := 2) h0 (by omega) (by omega);refine ⟨o, p + 1, Ev.step (fun k => by rw [spec_l1Bent.l0]) ?_, hl, ho, by omega, by omega⟩;refine Ev_const e ?_;have v2 := v1 (by omega);rw [wid (by omega) (by omega)];exact Ev_neg (by omega) (Ev.now _)
 | succ d ih =>
  intro i p o hd hi ho h0 h1 hl;obtain ⟨v, e, v0, v1⟩ := next_tells hc (p := p) (n := 2) h0 (by omega) (by omega);have v2 := v1 (by omega);by_cases c0:(i:Int) < (o.length:Int) - v;rotate_left;(·refine ⟨o, p + 1, Ev.step (fun k => by rw [spec_l1Bent.l0]) ?_, hl, ho, by omega, by omega⟩;refine Ev_const e ?_;rw [wid (by omega) (by omega)];exact Ev_neg c0 (Ev.now _));obtain ⟨r, q, hr, g1, g2, g3, g4⟩ := ih (i + 1) (p + 1) (o.set i (⟨#[10]⟩ : ByteArray)) (by omega) (by omega) (by rw [List.length_set];exact ho) (by omega) (by omega) (hl.set _ (by decide));refine ⟨r, q, Ev.step (fun k => by rw [spec_l1Bent.l0]) ?_, g1, g2, by omega, by omega⟩;refine Ev_const e ?_;rw [wid (x := (o.length:Int) - v) (by omega) (by omega), wsucc' (by omega), Int.toNat_natCast];exact Ev_pos c0 (Ev_pos (by omega) (Ev_pos (by omega) hr))
theorem bent_tells {c:List Int} (hc:Code c) {p:Int} (h0:0<=p) (h1:p<=900000) {l:List ByteArray} (hl:l.length<=900) (hi:Lin 0 10 l) :
    ∃ r q, Ev (fun k => spec_l1Bent.f k c p l) (r, q)/\Lin 0 10 r/\r.length<=900/\p<=q/\q<=p + 110 := by
 by_cases c0:(l.length:Int)=0;(·refine ⟨l, p, ?_, hi, hl, by omega, by omega⟩;unfold spec_l1Bent.f;exact Ev_pos c0 (Ev.now _));obtain ⟨v, e, v0, v1⟩ := next_tells hc (p := p) (n := (([] ++ l:List ByteArray).length:Int)) h0 (by omega) (by rw [List.nil_append];omega);rw [List.nil_append] at v1;have v2 := v1 (by omega);obtain ⟨i, rfl⟩ := Int.eq_ofNat_of_zero_le v0;obtain ⟨u, e2, u0, u1⟩ := next_tells hc (p := p + 1) (n := 24) (by omega) (by omega) (by omega)
 have start:∀ {r:List ByteArray} {q:Int}, Ev (fun k => if u=0 then (if 0<=(i:Int) then (if (i:Int) < (l.length:Int) then (some ((l.set (i:Int).toNat (⟨#[]⟩ : ByteArray)), (p + 1 + 1))) else (none)) else (none)) else (if u=1 then (if 0<=(i:Int) then (if (i:Int) < (l.length:Int) then (some ((l.set (i:Int).toNat (⟨#[97, 10, 98, 10]⟩ : ByteArray)), (p + 1 + 1))) else (none)) else (none)) else (if u=2 then (if 0<=(i:Int) then (if (i:Int) < (l.length:Int) then (some ((l.set (i:Int).toNat (⟨#[113]⟩ : ByteArray)), (p + 1 + 1))) else (none)) else (none)) else (if u=3 then (if 101<=17592186044416 then (spec_l1Bent.l0 k (List.replicate 101 (⟨#[]⟩ : ByteArray)) 0 c (p + 1 + 1)) else (none)) else (some (l, (p + 1 + 1))))))) (r, q) →
     Ev (fun k => spec_l1Bent.f k c p l) (r, q) := by
   intro r q h
   unfold spec_l1Bent.f
   exact Ev_neg c0 (Ev_const rfl (Ev_pos (by simp only [List.length_nil];omega) (Ev_const rfl (Ev_const e (Ev_const e2 h)))))
 by_cases c1:u=0;(·exact ⟨_, _, start (Ev_pos c1 (Ev_pos (by omega) (Ev_pos (by omega) (Ev.now _)))), hi.set _ (by decide), by rw [List.length_set];exact hl, by omega, by omega⟩);by_cases c2:u=1;(·exact ⟨_, _, start (Ev_neg c1 (Ev_pos c2 (Ev_pos (by omega) (Ev_pos (by omega) (Ev.now _))))), hi.set _ (by decide), by rw [List.length_set];exact hl, by omega, by omega⟩);by_cases c3:u=2;(·exact ⟨_, _, start (Ev_neg c1 (Ev_neg c2 (Ev_pos c3 (Ev_pos (by omega) (Ev_pos (by omega) (Ev.now _)))))), hi.set _ (by decide), by rw [List.length_set];exact hl, by omega, by omega⟩);by_cases c4:u=3;rotate_left;(·exact ⟨l, p + 1 + 1, start (Ev_neg c1 (Ev_neg c2 (Ev_neg c3 (Ev_neg c4 (Ev.now _))))), hi, hl, by omega, by omega⟩);obtain ⟨r, q, hr, g1, g2, g3, g4⟩ := bent_loop hc _ 0 (p + 1 + 1) (List.replicate 101 (⟨#[]⟩ : ByteArray)) rfl (by omega) (by simp) (by omega) (by omega) (fun x hx => by rw [List.eq_of_mem_replicate hx];decide);exact ⟨r, q, start (Ev_neg c1 (Ev_neg c2 (Ev_neg c3 (Ev_pos c4 (Ev_pos (by omega) hr))))), g1, by omega, by omega, by omega⟩
end Go.Proofs.Ytelngmkfjpcbgaa.P
end
section
set_option linter.unusedVariables false
set_option linter.unusedSimpArgs false
set_option linter.unusedSectionVars false
namespace Go.Proofs.Ytelngmkfjpcbgaa.P
end Go.Proofs.Ytelngmkfjpcbgaa.P
end
section
set_option linter.unusedVariables false
set_option linter.unusedSimpArgs false
namespace Go.Proofs.Ytelngmkfjpcbgaa.P
open Go.RowKit Go.Proofs.YtelngmkfjpcbgaaW.PrintWords Go.Proofs.YtelngmkfjpcbgaaW.PrintLast
def Mat (a b:List ByteArray):List Int->List Int->Nat->Nat->Prop
 | [], [], i, j => i<=a.length/\j<=b.length
 | u :: us, v :: vs, i, j => ∃ m n:Nat, u=(m:Int)/\v=(n:Int)/\i<=m/\j<=n/\(∃ (hm:m < a.length) (hn:n < b.length), a[m]=b[n])/\Mat a b us vs (m + 1) (n + 1)
 | [], _ :: _, _, _ => False
 | _ :: _, [], _, _ => False
theorem Mat.lower {a b:List ByteArray} : ∀ {p q:List Int} {i j i' j':Nat}, Mat a b p q i j->i'<=i->j'<=j->Mat a b p q i' j'
 | [], [], _, _, _, _, h, h1, h2 => ⟨Nat.le_trans h1 h.1, Nat.le_trans h2 h.2⟩
 | _ :: _, _ :: _, _, _, _, _, ⟨m, n, e1, e2, g1, g2, g3, g4⟩, h1, h2 => ⟨m, n, e1, e2, Nat.le_trans h1 g1, Nat.le_trans h2 g2, g3, g4⟩
 | [], _ :: _, _, _, _, _, h, _, _ => h.elim
 | _ :: _, [], _, _, _, _, h, _, _ => h.elim
theorem mt_mat (a b:List ByteArray):∀ (d i j:Nat), (a.length - i) + (b.length - j)=d->i<=a.length->j<=b.length->Mat a b (mt (a.drop i) (b.drop j) i j).1 (mt (a.drop i) (b.drop j) i j).2 i j := by
 intro d
 induction d using Nat.strongRecOn with
 | _ d ih =>
  intro i j hd hi hj;by_cases c0:i < a.length;rotate_left;(·rw [List.drop_eq_nil_of_le (show a.length<=i by omega), mt_nil];exact ⟨hi, hj⟩);by_cases c1:j < b.length;rotate_left;(·rw [List.drop_eq_nil_of_le (show b.length<=j by omega), mt_nil'];exact ⟨hi, hj⟩);by_cases h:a[i]=b[j];(·rw [mt_eq c0 c1 h];exact ⟨i, j, rfl, rfl, Nat.le_refl _, Nat.le_refl _, ⟨c0, c1, h⟩, ih _ (by omega) (i + 1) (j + 1) rfl (by omega) (by omega)⟩);by_cases h2:lcs (a.drop i) (b.drop (j + 1))<=lcs (a.drop (i + 1)) (b.drop j);(·rw [mt_a c0 c1 h h2];exact (ih _ (by omega) (i + 1) j rfl (by omega) hj).lower (by omega) (Nat.le_refl _));rw [mt_b c0 c1 h h2];exact (ih _ (by omega) i (j + 1) rfl hi (by omega)).lower (Nat.le_refl _) (by omega)
theorem seg_cat (b:List ByteArray) {j0 j:Nat} (h:j0<=j) (hj:j<=b.length):(b.take j).drop j0 ++ b.drop j=b.drop j0 := by
 rw [← List.drop_append_of_le_length (by rw [List.length_take];omega), List.take_append_drop]
theorem seg_cat3 (b:List ByteArray) {j0 j n:Nat} (h:j0<=j) (h2:j<=n) (hn:n<=b.length):(b.take j).drop j0 ++ ((b.take n).drop j ++ b.drop n)=b.drop j0 := by
 rw [seg_cat b h2 hn, seg_cat b h (by omega)]
theorem seg_one (a:List ByteArray) {i0 m:Nat} (h:i0<=m) (hm:m < a.length):(a.take (m + 1)).drop i0=(a.take m).drop i0 ++ [a[m]] := by
 rw [List.take_succ_eq_append_getElem hm, List.drop_append_of_le_length (by rw [List.length_take];omega)]
theorem seg_none (a:List ByteArray) (m:Nat):(a.take m).drop m=[] := by
 rw [List.drop_eq_nil_iff, List.length_take];omega
theorem wv_chs (a b:List ByteArray):∀ (p q:List Int) (i j i0 j0:Nat), Mat a b p q i j->i0<=i->j0<=j->(a.take i).drop i0=(b.take j).drop j0 →
  WV a b (chs (p ++ [(a.length:Int)]) (q ++ [(b.length:Int)]) (i:Int) (j:Int)) (i0:Int)=b.drop j0
 | [], [], i, j, i0, j0, h, h1, h2, hs => by
  obtain ⟨g1, g2⟩ := h
  rw [List.nil_append, List.nil_append, chs_cons]
  split
  ·rw [WV_cons]
   dsimp only
   rw [show (j:Int) + ((b.length:Int) - (j:Int))=((b.length:Nat):Int) by omega, show (i:Int) + ((a.length:Int) - (i:Int))=((a.length:Nat):Int) by omega, Int.toNat_natCast, Int.toNat_natCast, Int.toNat_natCast, Int.toNat_natCast, hs, List.take_length]
   show _ ++ (_ ++ a.drop ((a.length:Nat):Int).toNat)=_
   rw [Int.toNat_natCast, List.drop_length, List.append_nil]
   exact seg_cat b h2 g2
  ·have e1:i=a.length := by omega
   have e2:j=b.length := by omega
   show a.drop ((i0:Nat):Int).toNat=_
   rw [Int.toNat_natCast]
   rw [e1, e2, List.take_length, List.take_length] at hs
   exact hs
 | u :: us, v :: vs, i, j, i0, j0, h, h1, h2, hs => by
  obtain ⟨m, n, rfl, rfl, g1, g2, ⟨hm, hn, g3⟩, g4⟩ := h
  rw [List.cons_append, List.cons_append, chs_cons]
  split
  ·have ih := wv_chs a b us vs (m + 1) (n + 1) m n g4 (by omega) (by omega) (by rw [seg_one a (Nat.le_refl _) hm, seg_one b (Nat.le_refl _) hn, g3, seg_none, seg_none])
   rw [WV_cons]
   dsimp only
   rw [show (j:Int) + ((n:Int) - (j:Int))=((n:Nat):Int) by omega, show (i:Int) + ((m:Int) - (i:Int))=((m:Nat):Int) by omega, Int.toNat_natCast, Int.toNat_natCast, Int.toNat_natCast, Int.toNat_natCast, hs]
   rw [show ((m:Nat):Int) + 1=((m + 1:Nat):Int) from rfl, show ((n:Nat):Int) + 1=((n + 1:Nat):Int) from rfl, ih]
   exact seg_cat3 b h2 g2 (by omega)
  ·have e1:m=i := by omega
   have e2:n=j := by omega
   subst e1 e2
   rw [show ((m:Nat):Int) + 1=((m + 1:Nat):Int) from rfl, show ((n:Nat):Int) + 1=((n + 1:Nat):Int) from rfl]
   exact wv_chs a b us vs (m + 1) (n + 1) i0 j0 g4 (by omega) (by omega) (by rw [seg_one a h1 hm, seg_one b h2 hn, g3, hs])
 | [], _ :: _, _, _, _, _, h, _, _, _ => h.elim
 | _ :: _, [], _, _, _, _, h, _, _, _ => h.elim
theorem CF_ok {la lb:Int} {c:S53} {l:List S53} {i j:Int} {fst:Bool} (h1:ChIn la lb c) (h2:¬ (c.f1=0/\c.f3=0)) (h3:c.f0 - i=c.f2 - j) (h4:i<=c.f0) (h5:fst=false->c.f0 ≠ i) :
    CF la lb (c :: l) i j fst=CF la lb l (c.f0 + c.f1) (c.f2 + c.f3) false := by
 rw [CF_cons, if_neg (fun e => e h1), if_neg];rintro (e | e | e | e);(·exact h2 e);(·exact e h3);(·omega);exact h5 e.1 e.2
theorem cf_chs (a b:List ByteArray):∀ (p q:List Int) (i j i0 j0:Nat) (fst:Bool), Mat a b p q i j->i0<=i->j0<=j->(i:Int) - i0=(j:Int) - j0->(fst=false->i0 < i) →
  CF a.length b.length (chs (p ++ [(a.length:Int)]) (q ++ [(b.length:Int)]) (i:Int) (j:Int)) (i0:Int) (j0:Int) fst=0
 | [], [], i, j, i0, j0, fst, h, h1, h2, hs, hf => by
  obtain ⟨g1, g2⟩ := h
  rw [List.nil_append, List.nil_append, chs_cons]
  split
  ·rw [CF_ok (by unfold ChIn;dsimp only;omega) (by dsimp only;omega) hs (by dsimp only;omega) (fun e => by have := hf e;dsimp only;omega)]
   rfl
  ·rfl
 | u :: us, v :: vs, i, j, i0, j0, fst, h, h1, h2, hs, hf => by
  obtain ⟨m, n, rfl, rfl, g1, g2, ⟨hm, hn, g3⟩, g4⟩ := h
  rw [List.cons_append, List.cons_append, chs_cons]
  split
  ·rw [CF_ok (by unfold ChIn;dsimp only;omega) (by dsimp only;omega) hs (by dsimp only;omega) (fun e => by have := hf e;dsimp only;omega)]
   dsimp only
   have ih := cf_chs a b us vs (m + 1) (n + 1) m n false g4 (by omega) (by omega) (by omega) (fun _ => by omega)
   rw [show (j:Int) + ((n:Int) - (j:Int))=((n:Nat):Int) by omega, show (i:Int) + ((m:Int) - (i:Int))=((m:Nat):Int) by omega]
   exact ih
  ·have e1:m=i := by omega
   have e2:n=j := by omega
   subst e1 e2
   exact cf_chs a b us vs (m + 1) (n + 1) i0 j0 fst g4 (by omega) (by omega) (by omega) (fun e => by have := hf e;omega)
 | [], _ :: _, _, _, _, _, _, h, _, _, _, _ => h.elim
 | _ :: _, [], _, _, _, _, _, h, _, _, _, _ => h.elim
theorem mat_all (a b:List ByteArray):Mat a b (mt a b 0 0).1 (mt a b 0 0).2 0 0 := by
 have := mt_mat a b _ 0 0 rfl (by omega) (by omega);rw [List.drop_zero, List.drop_zero] at this;exact this
theorem CHS_makes (a b:List ByteArray):WV a b (CHS a b) 0=b := wv_chs a b _ _ 0 0 0 0 (mat_all a b) (by omega) (by omega) rfl
theorem CHS_right (a b:List ByteArray):CF a.length b.length (CHS a b) 0 0 true=0 := cf_chs a b _ _ 0 0 0 0 true (mat_all a b) (by omega) (by omega) rfl (fun e => by cases e)
abbrev CH := S53
def mkd (m:UInt8) (l:List ByteArray):List ByteArray := l.map (fun s => (⟨#[m]⟩ : ByteArray) ++ s)
theorem mkd_len (m:UInt8) (l:List ByteArray):(mkd m l).length=l.length := by unfold mkd;rw [List.length_map]
def pie (a b:List ByteArray) (c:CH):List ByteArray := mkd 45 (sg a c.f0.toNat (c.f0 + c.f1).toNat) ++ mkd 43 (sg b c.f2.toNat (c.f2 + c.f3).toNat)
def endc (a:List ByteArray) (ctx e:Int):List ByteArray := mkd 32 (sg a e.toNat (min (e + ctx) (a.length:Int)).toNat)
def ahd (ctx:Int) (c:CH):Int := min ctx c.f0
def opn (a b:List ByteArray) (ctx:Int) (c:CH):HK := ⟨c.f0 - ahd ctx c, c.f2 - ahd ctx c, mkd 32 (sg a (c.f0 - ahd ctx c).toNat c.f0.toNat) ++ pie a b c⟩
def gos (a b:List ByteArray) (ctx:Int):List CH->Int->HK->List HK
 | [], e, h => [⟨h.f0, h.f1, h.f2 ++ endc a ctx e⟩]
 | c :: l, e, h => if c.f0 - e > 2 * ctx then (⟨h.f0, h.f1, h.f2 ++ endc a ctx e⟩ : HK) :: gos a b ctx l (c.f0 + c.f1) (opn a b ctx c) else gos a b ctx l (c.f0 + c.f1) ⟨h.f0, h.f1, h.f2 ++ (mkd 32 (sg a e.toNat c.f0.toNat) ++ pie a b c)⟩
def HUN (a b:List ByteArray) (ctx:Int):List CH->List HK
 | [] => []
 | c :: l => gos a b ctx l (c.f0 + c.f1) (opn a b ctx c)
theorem ld_stay {a b:List ByteArray} : ∀ (n i j:Nat), i + n<=a.length->j + n<=b.length->sg a i (i + n)=sg b j (j + n)->Ld a b (mkd 32 (sg a i (i + n))) i j (i + n) (j + n) := by
 intro n
 induction n with
 | zero => intro i j hi hj _;rw [Nat.add_zero, sg_same];exact .nil
 | succ n ih =>
  intro i j hi hj h;(have e1:i + (n + 1)=i + 1 + n := by omega);(have e2:j + (n + 1)=j + 1 + n := by omega);rw [e1, e2] at h ⊢;rw [e1] at hi;rw [e2] at hj;rw [sg_next (by omega) hi, sg_next (by omega) hj] at h;rw [sg_next (by omega) hi];(injection h with h1 h2);exact .stay (mk_front 32 _) (by omega) (by omega) (tl_front _ _).symm (by rw [tl_front];exact h1.symm) (ih (i + 1) (j + 1) (by omega) (by omega) h2)
theorem ld_goes {a b:List ByteArray} : ∀ (n i j:Nat), i + n<=a.length->Ld a b (mkd 45 (sg a i (i + n))) i j (i + n) j := by
 intro n
 induction n with
 | zero => intro i j hi;rw [Nat.add_zero, sg_same];exact .nil
 | succ n ih =>
  intro i j hi;(have e1:i + (n + 1)=i + 1 + n := by omega);rw [e1] at hi ⊢;rw [sg_next (by omega) hi];exact .goes (mk_front 45 _) (by omega) (tl_front _ _).symm (ih (i + 1) j (by omega))
theorem ld_come {a b:List ByteArray} : ∀ (n i j:Nat), j + n<=b.length->Ld a b (mkd 43 (sg b j (j + n))) i j i (j + n) := by
 intro n
 induction n with
 | zero => intro i j hi;rw [Nat.add_zero, sg_same];exact .nil
 | succ n ih =>
  intro i j hi;(have e1:j + (n + 1)=j + 1 + n := by omega);rw [e1] at hi ⊢;rw [sg_next (by omega) hi];exact .come (mk_front 43 _) (by omega) (tl_front _ _).symm (ih i (j + 1) (by omega))
theorem sg_pre {a b:List ByteArray} {i j n:Nat} (h:sg a i (i + n)=sg b j (j + n)) (hi:i + n<=a.length) (hj:j + n<=b.length) {m:Nat} (hm:m<=n):sg a i (i + m)=sg b j (j + m)/\sg a (i + m) (i + n)=sg b (j + m) (j + n) := by
 rw [← sg_cat (j := i + m) (by omega) (by omega) hi, ← sg_cat (j := j + m) (by omega) (by omega) hj] at h;exact List.append_inj h (by rw [sg_len (by omega), sg_len (by omega)];omega)
theorem cf_step {a b:List ByteArray} {c:CH} {l:List CH} {i j:Nat} {fst:Bool} (hi:i<=a.length) (hj:j<=b.length) (h:CF a.length b.length (c :: l) (i:Int) (j:Int) fst=0) (hw:WV a b (c :: l) (i:Int)=b.drop j) :
    ∃ n x y:Nat, c.f0=((i + n:Nat):Int)/\c.f1=(x:Int)/\c.f2=((j + n:Nat):Int)/\c.f3=(y:Int)/\i + n + x<=a.length/\j + n + y<=b.length/\sg a i (i + n)=sg b j (j + n)/\0 < x + y/\(fst=false->0 < n) ∧
      CF a.length b.length l ((i + n + x:Nat):Int) ((j + n + y:Nat):Int) false=0/\WV a b l ((i + n + x:Nat):Int)=b.drop (j + n + y) := by
 obtain ⟨hin, hle, hn⟩ := CF_good h;(have h5:¬ (c.f1=0/\c.f3=0)/\c.f0 - (i:Int)=c.f2 - (j:Int)/\(fst=false->c.f0 ≠ (i:Int)) := by rw [CF_cons, if_neg (fun e => e hin)] at h;split at h;(·cases h);rename_i h2;exact ⟨fun e => h2 (.inl e), Classical.byContradiction fun e => h2 (.inr (.inl e)), fun e q => h2 (.inr (.inr (.inr ⟨e, q⟩)))⟩);unfold ChIn at hin;obtain ⟨n, hn0⟩ : ∃ n:Nat, c.f0=((i + n:Nat):Int) := ⟨(c.f0 - i).toNat, by omega⟩;obtain ⟨x, hx⟩ : ∃ x:Nat, c.f1=(x:Int) := ⟨c.f1.toNat, by omega⟩;obtain ⟨y, hy⟩ : ∃ y:Nat, c.f3=(y:Int) := ⟨c.f3.toNat, by omega⟩;(have h2:c.f2=((j + n:Nat):Int) := by omega);(have ba:i + n + x<=a.length := by omega);(have bb:j + n + y<=b.length := by omega);rw [WV_cons, hn0, h2, hx, hy, show ((j + n:Nat):Int) + (y:Int)=((j + n + y:Nat):Int) by omega, show ((i + n:Nat):Int) + (x:Int)=((i + n + x:Nat):Int) by omega, Int.toNat_natCast, Int.toNat_natCast, Int.toNat_natCast, Int.toNat_natCast] at hw;(have e:b.drop j=sg b j (j + n) ++ (sg b (j + n) (j + n + y) ++ b.drop (j + n + y)) := by rw [sg_rest (by omega) bb, sg_rest (by omega) (by omega)]);rw [e] at hw;obtain ⟨w1, w2⟩ := List.append_inj hw (by rw [show ((a.take (i + n)).drop i).length=i + n - i from sg_len (by omega), sg_len (by omega)];omega);have w3 := List.append_cancel_left w2;refine ⟨n, x, y, hn0, hx, h2, hy, ba, bb, w1, ?_, fun e => ?_, ?_, w3⟩;(·have := h5.1;omega);(·have := h5.2.2 e;omega);rw [hn0, h2, hx, hy] at hn;exact hn
theorem pie_ld {a b:List ByteArray} {c:CH} {p q x y:Nat} (h0:c.f0=(p:Int)) (h1:c.f1=(x:Int)) (h2:c.f2=(q:Int)) (h3:c.f3=(y:Int)) (ha:p + x<=a.length) (hb:q + y<=b.length):Ld a b (pie a b c) p q (p + x) (q + y) := by
 unfold pie;rw [h0, h1, h2, h3, show (p:Int) + (x:Int)=((p + x:Nat):Int) by omega, show (q:Int) + (y:Int)=((q + y:Nat):Int) by omega, Int.toNat_natCast, Int.toNat_natCast, Int.toNat_natCast, Int.toNat_natCast];exact (ld_goes x p q ha).cat (ld_come y (p + x) q hb)
theorem hS_app (x y:List ByteArray):hS (x ++ y)=hS x + hS y := by
 induction x with
 | nil => simp [hS]
 | cons s x ih => simp only [List.cons_append, hS, ih];omega
theorem hS_mkd {m:UInt8} (h:m ≠ 32) (l:List ByteArray):hS (mkd m l)=0 := by
 induction l with
 | nil => rfl
 | cons s l ih =>
  show hS (((⟨#[m]⟩ : ByteArray) ++ s) :: mkd m l)=0;rw [hS, ih, mk_front, if_neg];intro e;apply h;apply UInt8.toNat_inj.1;show m.toNat=32;omega
theorem pie_busy {a b:List ByteArray} {c:CH} {p q x y:Nat} (h0:c.f0=(p:Int)) (h1:c.f1=(x:Int)) (h2:c.f2=(q:Int)) (h3:c.f3=(y:Int)) (ha:p + x<=a.length) (hb:q + y<=b.length) (hp:0 < x + y):hS (pie a b c) < (pie a b c).length := by
 unfold pie;rw [hS_app, hS_mkd (by decide), hS_mkd (by decide), List.length_append, mkd_len, mkd_len];rw [h0, h1, h2, h3, show (p:Int) + (x:Int)=((p + x:Nat):Int) by omega, show (q:Int) + (y:Int)=((q + y:Nat):Int) by omega, Int.toNat_natCast, Int.toNat_natCast, Int.toNat_natCast, Int.toNat_natCast, sg_len ha, sg_len hb];omega
theorem gos_chn {a b:List ByteArray} {ctx:Nat} : ∀ (l:List CH) (e f i j p q:Nat) (h:HK), CF a.length b.length l (e:Int) (f:Int) false=0->WV a b l (e:Int)=b.drop f->e<=a.length->f<=b.length->h.f0=(p:Int)->h.f1=(q:Int)->i<=p->j<=q->p - i=q - j->sg a i p=sg b j q->Ld a b h.f2 p q e f->hS h.f2 < h.f2.length →
    Chn a b (gos a b (ctx:Int) l (e:Int) h) i j/\∀ c ∈ gos a b (ctx:Int) l (e:Int) h, hS c.f2 < c.f2.length := by
 intro l
 induction l with
 | nil =>
  intro e f i j p q h hc hw he hf h0 h1 hi hj hd hs hl hb;(have hw':a.drop e=b.drop f := by have:WV a b [] (e:Int)=a.drop ((e:Int)).toNat := rfl;rw [this, Int.toNat_natCast] at hw;exact hw);have hle := hl.le;(have hlen:a.length - e=b.length - f := by have := congrArg List.length hw';simpa using this);obtain ⟨n, hn⟩ : ∃ n, n=min ctx (a.length - e) := ⟨_, rfl⟩;(have ez:(min ((e:Int) + (ctx:Int)) (a.length:Int)).toNat=e + n := by omega);(have hfull:sg a e a.length=sg b f b.length := by unfold sg;rw [List.take_length, List.take_length, hw']);(have e1:a.length=e + (a.length - e) := by omega);(have e2:b.length=f + (a.length - e) := by omega);(have hsub:sg a e (e + n)=sg b f (f + n) := by (have h5:sg a e (e + (a.length - e))=sg b f (f + (a.length - e)) := by rw [← e1, ← e2];exact hfull);exact (sg_pre h5 (by omega) (by omega) (m := n) (by omega)).1);(have hE:Ld a b (endc a (ctx:Int) (e:Int)) e f (e + n) (f + n) := by unfold endc;rw [ez, Int.toNat_natCast];exact ld_stay n e f (by omega) (by omega) hsub);refine ⟨.cons h0 h1 hi hj hd (by omega) (by omega) hs (hl.cat hE) (.nil (by omega) (by omega) ?_), fun c hc => ?_⟩;(·have := congrArg (List.drop n) hw';rw [List.drop_drop, List.drop_drop] at this;exact this);rw [gos, List.mem_singleton] at hc;subst hc;show hS (h.f2 ++ _) < (h.f2 ++ _).length;rw [hS_app, List.length_append];have := hS_le (endc a (ctx:Int) (e:Int));omega
 | cons c l ih =>
  intro e f i j p q h hc hw he hf h0 h1 hi hj hd hs hl hb;obtain ⟨n, x, y, c0, c1, c2, c3, ba, bb, hsn, hxy, hn0, hc', hw'⟩ := cf_step he hf hc hw;have hle := hl.le;have hpi := pie_ld (a := a) (b := b) c0 c1 c2 c3 ba bb;have hpb := pie_busy (a := a) (b := b) c0 c1 c2 c3 ba bb hxy;(have ec:c.f0 + c.f1=((e + n + x:Nat):Int) := by omega);rw [gos];by_cases hfar:c.f0 - (e:Int) > 2 * (ctx:Int);rotate_left;(·rw [if_neg hfar, ec];refine ih (e + n + x) (f + n + y) i j p q _ hc' hw' ba bb h0 h1 hi hj hd hs ?_ ?_;(·rw [c0, Int.toNat_natCast, Int.toNat_natCast];exact hl.cat ((ld_stay n e f (by omega) (by omega) hsn).cat hpi));show hS (h.f2 ++ (_ ++ pie a b c)) < (h.f2 ++ (_ ++ pie a b c)).length;rw [hS_app, hS_app, List.length_append, List.length_append];have := hS_le (mkd 32 (sg a ((e:Int)).toNat c.f0.toNat));omega);rw [if_pos hfar, ec];(have hn2:2 * ctx < n := by omega);obtain ⟨s1, s2⟩ := sg_pre hsn (by omega) (by omega) (m := ctx) (by omega);(have hah:ahd (ctx:Int) c=(ctx:Int) := by unfold ahd;omega);have t1 := sg_pre (i := e + ctx) (j := f + ctx) (n := n - ctx) (m := n - ctx - ctx) (by rw [show e + ctx + (n - ctx)=e + n by omega, show f + ctx + (n - ctx)=f + n by omega];exact s2) (by omega) (by omega) (by omega);obtain ⟨t1, t2⟩ := t1;rw [show e + ctx + (n - ctx - ctx)=e + n - ctx by omega, show f + ctx + (n - ctx - ctx)=f + n - ctx by omega] at t1 t2;rw [show e + ctx + (n - ctx)=e + n by omega, show f + ctx + (n - ctx)=f + n by omega] at t2;(have hE:Ld a b (endc a (ctx:Int) (e:Int)) e f (e + ctx) (f + ctx) := by unfold endc;rw [show (min ((e:Int) + (ctx:Int)) (a.length:Int)).toNat=e + ctx by omega, Int.toNat_natCast];exact ld_stay ctx e f (by omega) (by omega) s1);(have hO:Ld a b (opn a b (ctx:Int) c).f2 (e + n - ctx) (f + n - ctx) (e + n + x) (f + n + y) := by show Ld a b (mkd 32 (sg a (c.f0 - ahd (ctx:Int) c).toNat c.f0.toNat) ++ pie a b c) _ _ _ _;rw [hah, c0, show (((e + n:Nat):Int) - (ctx:Int)).toNat=e + n - ctx by omega, Int.toNat_natCast];refine Ld.cat ?_ hpi;have := ld_stay (a := a) (b := b) ctx (e + n - ctx) (f + n - ctx) (by omega) (by omega);rw [show e + n - ctx + ctx=e + n by omega, show f + n - ctx + ctx=f + n by omega] at this;exact this t2);(have hob:hS (opn a b (ctx:Int) c).f2 < (opn a b (ctx:Int) c).f2.length := by show hS (_ ++ pie a b c) < (_ ++ pie a b c).length;rw [hS_app, List.length_append];have := hS_le (mkd 32 (sg a (c.f0 - ahd (ctx:Int) c).toNat c.f0.toNat));omega);obtain ⟨r1, r2⟩ := ih (e + n + x) (f + n + y) (e + ctx) (f + ctx) (e + n - ctx) (f + n - ctx) (opn a b (ctx:Int) c) hc' hw' ba bb (by show c.f0 - ahd (ctx:Int) c=_;rw [hah];omega) (by show c.f2 - ahd (ctx:Int) c=_;rw [hah];omega) (by omega) (by omega) (by omega) t1 hO hob;refine ⟨.cons h0 h1 hi hj hd (by omega) (by omega) hs (hl.cat hE) r1, fun d hd' => ?_⟩;(rcases List.mem_cons.1 hd' with rfl | hd');rotate_left;(·exact r2 d hd');show hS (h.f2 ++ _) < (h.f2 ++ _).length;rw [hS_app, List.length_append];have := hS_le (endc a (ctx:Int) (e:Int));omega
theorem HUN_chn (a b:List ByteArray) (ctx:Nat):Chn a b (HUN a b (ctx:Int) (CHS a b)) 0 0/\∀ c ∈ HUN a b (ctx:Int) (CHS a b), hS c.f2 < c.f2.length := by
 have hc := CHS_right a b;have hw := CHS_makes a b
 cases hl:CHS a b with
 | nil =>
  rw [hl] at hw;(have:a=b := by have e:WV a b [] 0=a.drop (0:Int).toNat := rfl;rw [e] at hw;simpa using hw);refine ⟨.nil (by omega) (by omega) (by rw [this]), fun c hc => absurd hc (by simp [HUN])⟩
 | cons c l =>
  rw [hl] at hc hw;obtain ⟨n, x, y, c0, c1, c2, c3, ba, bb, hsn, hxy, hn0, hc', hw'⟩ := cf_step (i := 0) (j := 0) (by omega) (by omega) hc (by rw [List.drop_zero];exact hw);simp only [Nat.zero_add] at c0 c2 ba bb hsn hc' hw';have hpi := pie_ld (a := a) (b := b) c0 c1 c2 c3 ba bb;have hpb := pie_busy (a := a) (b := b) c0 c1 c2 c3 ba bb hxy;obtain ⟨m, hm⟩ : ∃ m, m=min ctx n := ⟨_, rfl⟩;(have hah:ahd (ctx:Int) c=(m:Int) := by unfold ahd;omega);(have hsn0:sg a 0 (0 + n)=sg b 0 (0 + n) := by rw [Nat.zero_add];exact hsn);obtain ⟨s1, s2⟩ := sg_pre hsn0 (by omega) (by omega) (m := n - m) (by omega);simp only [Nat.zero_add] at s1 s2;(have hO:Ld a b (opn a b (ctx:Int) c).f2 (n - m) (n - m) (n + x) (n + y) := by show Ld a b (mkd 32 (sg a (c.f0 - ahd (ctx:Int) c).toNat c.f0.toNat) ++ pie a b c) _ _ _ _;rw [hah, c0, show ((n:Int) - (m:Int)).toNat=n - m by omega, Int.toNat_natCast];refine Ld.cat ?_ hpi;have := ld_stay (a := a) (b := b) m (n - m) (n - m) (by omega) (by omega);rw [show n - m + m=n by omega] at this;exact this s2);(have hob:hS (opn a b (ctx:Int) c).f2 < (opn a b (ctx:Int) c).f2.length := by show hS (_ ++ pie a b c) < (_ ++ pie a b c).length;rw [hS_app, List.length_append];have := hS_le (mkd 32 (sg a (c.f0 - ahd (ctx:Int) c).toNat c.f0.toNat));omega);(have ec:c.f0 + c.f1=((n + x:Nat):Int) := by omega);rw [HUN, ec];exact gos_chn l (n + x) (n + y) 0 0 (n - m) (n - m) (opn a b (ctx:Int) c) hc' hw' ba bb (by show c.f0 - ahd (ctx:Int) c=_;rw [hah];omega) (by show c.f2 - ahd (ctx:Int) c=_;rw [hah];omega) (by omega) (by omega) (by omega) s1 hO hob
def gln (s:ByteArray):Prop := s.data.toList ≠ []/\¬ 10 ∈ s.data.toList.dropLast
theorem LB_gln:∀ {l:List ByteArray}, linesBad l=false->∀ s ∈ l, gln s := by
 intro l
 induction l with
 | nil => intro _ s hs;exact absurd hs (by simp)
 | cons x l ih =>
  intro h s hs;rw [linesBad, Bool.or_eq_false_iff] at h;(rcases List.mem_cons.1 hs with rfl | hs);rotate_left;(·exact ih h.2 s hs);have := of_decide_eq_false h.1;exact ⟨fun e => this (.inl e), fun e => this (.inr (.inl e))⟩
theorem good_of {s:ByteArray} (hm:mk s=32 ∨ mk s=45 ∨ mk s=43) (h:gln (tlB s)):¬ hbad s := by
 have e:(tlB s).data.toList=tl s := tl_ext s;unfold gln at h;rw [e] at h;have hl := tl_len s;have hp:0 < (tl s).length := List.length_pos_iff.2 h.1;unfold hbad;rintro (q | q | q);(·omega);(·exact q hm);exact h.2 q
theorem Ld.good {a b l:List ByteArray} {i j i' j':Nat} (h:Ld a b l i j i' j') (ha:∀ s ∈ a, gln s) (hb:∀ s ∈ b, gln s):HB l=false/\l.length<=hA l + hB l := by
 induction h with
 | nil => exact ⟨rfl, Nat.zero_le _⟩
 | stay hm hi hj h1 h2 h ih =>
  refine ⟨?_, ?_⟩;(·rw [HB_cons, ih.1, decide_eq_false (good_of (.inl hm) (h1 ▸ ha _ (List.getElem_mem hi)))];rfl);rw [hA, hB, hm, if_neg (by decide), if_neg (by decide), List.length_cons];omega
 | goes hm hi h1 h ih =>
  refine ⟨?_, ?_⟩;(·rw [HB_cons, ih.1, decide_eq_false (good_of (.inr (.inl hm)) (h1 ▸ ha _ (List.getElem_mem hi)))];rfl);rw [hA, hB, hm, if_neg (by decide), if_pos rfl, List.length_cons];omega
 | come hm hj h2 h ih =>
  refine ⟨?_, ?_⟩;(·rw [HB_cons, ih.1, decide_eq_false (good_of (.inr (.inr hm)) (h2 ▸ hb _ (List.getElem_mem hj)))];rfl);rw [hA, hB, hm, if_pos rfl, if_neg (by decide), List.length_cons];omega
theorem Chn.right {a b:List ByteArray} (ha:LF a=0) (hb:LF b=0) {x:List HK} {i j:Nat} (h:Chn a b x i j) (hx:∀ c ∈ x, hS c.f2 < c.f2.length):HF x (i:Int) (j:Int)=0 := by
 have la := LF_zero ha;have lb := LF_zero hb
 induction h with
 | nil hi hj h => rfl
 | @cons h r i j p q i' j' e0 e1 hi hj hd hpa hqb hs hl hr ih =>
  have hle := hl.le;obtain ⟨g1, g2⟩ := hl.good (LB_gln la.2.2) (LB_gln lb.2.2);have hh := hx h (by simp);have hi' := hle.2.2.2.2.1 hpa;have hj' := hle.2.2.2.2.2 hqb;rw [HF_cons, if_neg (by omega), if_neg (by rw [g1];rintro (e | e);exact absurd e (by simp);omega), if_neg (by omega), if_neg (by omega)];have := ih (fun c hc => hx c (by simp [hc]));rw [hle.2.2.1, hle.2.2.2.1] at this;rw [e0, e1];exact this
theorem cf_few {a b:List ByteArray} : ∀ (l:List CH) (i j:Nat), i<=a.length->j<=b.length->CF a.length b.length l (i:Int) (j:Int) false=0->WV a b l (i:Int)=b.drop j->3 * l.length<=(a.length - i) + (b.length - j) := by
 intro l
 induction l with
 | nil => intro i j _ _ _ _;simp
 | cons c l ih =>
  intro i j hi hj h hw;obtain ⟨n, x, y, c0, c1, c2, c3, ba, bb, hsn, hxy, hn0, hc', hw'⟩ := cf_step hi hj h hw;have := ih (i + n + x) (j + n + y) ba bb hc' hw';have := hn0 rfl;rw [List.length_cons];omega
theorem CHS_few (a b:List ByteArray):3 * (CHS a b).length<=a.length + b.length + 2 := by
 have hc := CHS_right a b;have hw := CHS_makes a b
 cases hl:CHS a b with
 | nil => simp
 | cons c l =>
  rw [hl] at hc hw;obtain ⟨n, x, y, c0, c1, c2, c3, ba, bb, hsn, hxy, hn0, hc', hw'⟩ := cf_step (i := 0) (j := 0) (by omega) (by omega) hc (by rw [List.drop_zero];exact hw);have := cf_few l _ _ ba bb hc' hw';rw [List.length_cons];omega
theorem gos_len (a b:List ByteArray) (ctx:Int):∀ (l:List CH) (e:Int) (h:HK), (gos a b ctx l e h).length<=l.length + 1 := by
 intro l
 induction l with
 | nil => intro e h;simp [gos]
 | cons c l ih =>
  intro e h;rw [gos];split;(·have := ih (c.f0 + c.f1) (opn a b ctx c);simp only [List.length_cons];omega);have := ih (c.f0 + c.f1) ⟨h.f0, h.f1, h.f2 ++ (mkd 32 (sg a e.toNat c.f0.toNat) ++ pie a b c)⟩;simp only [List.length_cons];omega
theorem HUN_len (a b:List ByteArray) (ctx:Int) (l:List CH):(HUN a b ctx l).length<=l.length := by
 cases l with
 | nil => simp [HUN]
 | cons c l => have := gos_len a b ctx l (c.f0 + c.f1) (opn a b ctx c);simp only [HUN, List.length_cons];omega
theorem HUN_right {a b:List ByteArray} (ha:LF a=0) (hb:LF b=0) (ctx:Nat):HKF (HUN a b (ctx:Int) (CHS a b))=0 := by
 obtain ⟨h1, h2⟩ := HUN_chn a b ctx;have l1 := HUN_len a b (ctx:Int) (CHS a b);have l2 := CHS_few a b;have la := LF_zero ha;have lb := LF_zero hb;unfold HKF;rw [if_neg (by omega)];exact h1.right ha hb h2
theorem total_sg_next {l:List ByteArray} {i j:Nat} (h:i < j) (hj:j<=l.length):total (sg l i j)=(l[i]'(by omega)).size + total (sg l (i + 1) j) := by
 rw [sg_next h hj, total]
theorem size_tl (s:ByteArray):s.size<=(tlB s).size + 1 := by
 unfold tlB;rw [ext_size];omega
theorem Ld.weigh {a b l:List ByteArray} {i j i' j':Nat} (h:Ld a b l i j i' j') (ha:i<=a.length) (hb:j<=b.length):total l + i + j<=total (sg a i i') + total (sg b j j') + i' + j'/\l.length + i + j<=i' + j' := by
 induction h with
 | nil => simp [total, sg_same]
 | @stay s l i j i' j' hm hi hj h1 h2 h ih =>
  have hle := h.le;have h3 := ih (by omega) (by omega);have hz := size_tl s;rw [total, total_sg_next (show i < i' by omega) (hle.2.2.2.2.1 (by omega)), total_sg_next (show j < j' by omega) (hle.2.2.2.2.2 (by omega)), h1, List.length_cons];omega
 | @goes s l i j i' j' hm hi h1 h ih =>
  have hle := h.le;have h3 := ih (by omega) (by omega);have hz := size_tl s;rw [total, total_sg_next (show i < i' by omega) (hle.2.2.2.2.1 (by omega)), h1, List.length_cons];omega
 | @come s l i j i' j' hm hj h2 h ih =>
  have hle := h.le;have h3 := ih (by omega) (by omega);have hz := size_tl s;rw [total, total_sg_next (show j < j' by omega) (hle.2.2.2.2.2 (by omega)), h2, List.length_cons];omega
theorem total_drop_sg {l:List ByteArray} {i j k:Nat} (h:i<=j) (h2:j<=k) (hk:k<=l.length):total (sg l j k) + total (l.drop k)<=total (l.drop i) := by
 (have e:l.drop i=sg l i j ++ (sg l j k ++ l.drop k) := by rw [sg_rest h2 hk, sg_rest h (by omega)]);rw [e, total_append, total_append];omega
theorem Chn.weigh {a b:List ByteArray} {x:List HK} {i j:Nat} (h:Chn a b x i j) (ha:i<=a.length) (hb:j<=b.length):hw x + 2 * i + 2 * j<=total (a.drop i) + total (b.drop j) + 2 * a.length + 2 * b.length := by
 induction h with
 | nil hi hj h => simp only [hw];omega
 | @cons h r i j p q i' j' e0 e1 hi hj hd hpa hqb hs hl hr ih =>
  have hle := hl.le;obtain ⟨w1, w2⟩ := hl.weigh hpa hqb;have hi' := hle.2.2.2.2.1 hpa;have hj' := hle.2.2.2.2.2 hqb;have h3 := ih hi' hj';have t1 := total_drop_sg hi hle.1 hi';have t2 := total_drop_sg hj hle.2.1 hj';rw [hw];unfold lw;omega
theorem hw_size:∀ {x:List HK} {c:HK}, c ∈ x->∀ s ∈ c.f2, s.size<=hw x := by
 intro x
 induction x with
 | nil => intro c hc;exact absurd hc (by simp)
 | cons d x ih =>
  intro c hc s hs;rw [hw];(rcases List.mem_cons.1 hc with rfl | hc);rotate_left;(·have := ih hc s hs;omega);have := size_le_total _ s hs;unfold lw;omega
theorem HUN_small {a b:List ByteArray} (ha:LF a=0) (hb:LF b=0) (ctx:Nat):SmallH (HUN a b (ctx:Int) (CHS a b)) := by
 have hw1 := (HUN_chn a b ctx).1.weigh (Nat.zero_le _) (Nat.zero_le _);rw [List.drop_zero, List.drop_zero] at hw1;have l1 := HUN_len a b (ctx:Int) (CHS a b);have l2 := CHS_few a b;have la := LF_zero ha;have lb := LF_zero hb;refine ⟨fun c hc s hs => ?_, by omega, by omega⟩;have := hw_size hc s hs;omega
theorem HUN_makes {a b:List ByteArray} (ha:LF a=0) (hb:LF b=0) (ctx:Nat):APH a (HUN a b (ctx:Int) (CHS a b))=(0, b) := by
 have h := (HUN_chn a b ctx).1.app (Nat.zero_le _);unfold APH;rw [if_pos ha, if_pos (HUN_right ha hb ctx)];rw [sg_same] at h;rw [h];unfold RLh;rw [if_pos hb]
end Go.Proofs.Ytelngmkfjpcbgaa.P
end
section
set_option linter.unusedVariables false
set_option linter.unusedSimpArgs false
namespace Go.Proofs.Ytelngmkfjpcbgaa.P
open Go.RowKit Go.Proofs.YtelngmkfjpcbgaaW.PrintWords Go.Proofs.YtelngmkfjpcbgaaW.PrintLast Go.Proofs.YtelngmkfjpcbgaaW.PrintMore
theorem mn_min (x y:Int):mn x y=min x y := by
 unfold mn;split <;> omega
theorem smin_tells (x y:Int):spec_l1Min.f x y=some (min x y) := by
 unfold spec_l1Min.f;split <;> (congr 1;omega)
theorem one_size (m:UInt8) (s:ByteArray) (h:s.size<=1048576):(⟨#[m]⟩ : ByteArray).size + s.size<=9223372036854775807 := by
 have:(⟨#[m]⟩ : ByteArray).size=1 := rfl;omega
theorem mkd_at (m:UInt8) {l:List ByteArray} {i:Nat} (h:i < l.length):mkd m (l.drop i)=((⟨#[m]⟩ : ByteArray) ++ l[i]) :: mkd m (l.drop (i + 1)) := by
 unfold mkd;rw [drop_at h, List.map_cons]
theorem sput_loop (m:UInt8) {l:List ByteArray} (hz:Bd l) (hl:l.length<=1000000):∀ (d i:Nat) (acc:List ByteArray), l.length - i=d->i<=l.length->acc.length + l.length<=1000000 + i->Ev (fun k => spec_l3Put.l0 k acc (⟨#[m]⟩ : ByteArray) l (i:Int)) (acc ++ mkd m (l.drop i)) := by
 intro d
 induction d with
 | zero =>
  intro i acc hd hi ha;refine Ev.step (fun k => by rw [spec_l3Put.l0]) (Ev_neg (by omega) (Ev_val ?_));rw [List.drop_eq_nil_of_le (by omega)];simp [mkd]
 | succ d ih =>
  intro i acc hd hi ha;(have hlt:i < l.length := by omega);refine Ev.step (fun k => by rw [spec_l3Put.l0]) (Ev_pos (by omega) (Ev_pos (by omega) ?_));rw [rd_nat _ hlt, wsucc hlt (by omega), mkd_at m hlt];refine Ev_pos (one_size m _ (hz _ (List.getElem_mem hlt))) (Ev_pos (by omega) ?_);refine Ev_eq (ih (i + 1) _ (by omega) (by omega) (by rw [List.length_append, List.length_singleton];omega)) ?_;rw [List.append_assoc];rfl
theorem sput3 (m:UInt8) {l acc:List ByteArray} (hz:Bd l) (hl:l.length + acc.length<=1000000):Ev (fun k => spec_l3Put.f k acc (⟨#[m]⟩ : ByteArray) l) (acc ++ mkd m l) := by
 have := sput_loop m hz (by omega) _ 0 acc rfl (by omega) (by omega);rw [List.drop_zero] at this;exact this
theorem imark_loop (m:UInt8) {l:List ByteArray} (hz:Bd l) (hl:l.length<=1000000):∀ (d i:Nat) (acc:List ByteArray), l.length - i=d->i<=l.length->acc.length + l.length<=1000000 + i->Ev (fun k => impl_marked.l0 k (⟨#[m]⟩ : ByteArray) acc l (l.length:Int) (i:Int)) (acc ++ mkd m (l.drop i)) := by
 intro d
 induction d with
 | zero =>
  intro i acc hd hi ha;refine Ev.step (fun k => by rw [impl_marked.l0]) (Ev_neg (by omega) (Ev_val ?_));rw [List.drop_eq_nil_of_le (by omega)];simp [mkd]
 | succ d ih =>
  intro i acc hd hi ha;(have hlt:i < l.length := by omega);refine Ev.step (fun k => by rw [impl_marked.l0]) (Ev_pos (by omega) (Ev_pos (by omega) (Ev_pos (by omega) ?_)));rw [rd_nat _ hlt, wsucc hlt (by omega), mkd_at m hlt];refine Ev_pos (one_size m _ (hz _ (List.getElem_mem hlt))) (Ev_pos (by omega) ?_);refine Ev_eq (ih (i + 1) _ (by omega) (by omega) (by rw [List.length_append, List.length_singleton];omega)) ?_;rw [List.append_assoc];rfl
theorem imark3 (m:UInt8) {l:List ByteArray} (hz:Bd l) (hl:l.length<=100000):Ev (fun k => impl_marked.f k (⟨#[m]⟩ : ByteArray) l) (mkd m l) := by
 have := imark_loop m hz (by omega) _ 0 [] rfl (by omega) (by simp only [List.length_nil];omega);rw [List.drop_zero, List.nil_append] at this;exact this
def Okc (la lb:Int):List CH->Int->Prop
 | [], x => 0<=x/\x<=la
 | c :: l, x => 0<=x/\x<=c.f0/\0<=c.f1/\c.f0 + c.f1<=la/\0<=c.f2/\0<=c.f3/\c.f2 + c.f3<=lb/\Okc la lb l (c.f0 + c.f1)
theorem okc_of {la lb:Int} : ∀ (l:List CH) (i j:Int) (fst:Bool), 0<=i->i<=la->CF la lb l i j fst=0->Okc la lb l i := by
 intro l
 induction l with
 | nil => intro i j fst h0 h1 _;exact ⟨h0, h1⟩
 | cons c l ih =>
  intro i j fst h0 h1 h;obtain ⟨g1, g2, g3⟩ := CF_good h;unfold ChIn at g1;exact ⟨h0, g2, by omega, by omega, by omega, by omega, by omega, ih _ _ _ (by omega) (by omega) g3⟩
theorem okc_len {la lb:Int} {l:List CH} {x:Int} (h:Okc la lb l x):0<=x/\x<=la := by
 cases l with
 | nil => exact h
 | cons c l => obtain ⟨a, b, c', d, _⟩ := h;omega
theorem sg_bd {l:List ByteArray} (h:Bd l) (i j:Nat):Bd (sg l i j) := cut_bd h j i
theorem sg_le (l:List ByteArray) (i j:Nat):(sg l i j).length<=l.length := cut_len l j i
def bod (a b:List ByteArray):List CH->Int->List ByteArray
 | [], _ => []
 | c :: l, x => mkd 32 (sg a x.toNat c.f0.toNat) ++ pie a b c ++ bod a b l (c.f0 + c.f1)
def lst:List CH->Int->Int
 | [], e => e
 | c :: l, _ => lst l (c.f0 + c.f1)
theorem bod_app (a b:List ByteArray) (c:CH):∀ (l:List CH) (x:Int), bod a b (l ++ [c]) x=bod a b l x ++ (mkd 32 (sg a (lst l x).toNat c.f0.toNat) ++ pie a b c) := by
 intro l
 induction l with
 | nil => intro x;simp [bod, lst]
 | cons d l ih => intro x;simp only [List.cons_append, bod, lst, ih, List.append_assoc]
theorem lst_app (c:CH):∀ (l:List CH) (x:Int), lst (l ++ [c]) x=c.f0 + c.f1 := by
 intro l
 induction l with
 | nil => intro x;rfl
 | cons d l ih => intro x;simp only [List.cons_append, lst, ih]
theorem okc_app {la lb:Int} (c:CH) (r:List CH):∀ (l:List CH) (x:Int), Okc la lb l x->Okc la lb (c :: r) (lst l x)->Okc la lb (l ++ [c]) x/\Okc la lb r (c.f0 + c.f1) := by
 intro l
 induction l with
 | nil =>
  intro x h g;obtain ⟨g1, g2, g3, g4, g5, g6, g7, g8⟩ := g;exact ⟨⟨g1, g2, g3, g4, g5, g6, g7, okc_len g8⟩, g8⟩
 | cons d l ih =>
  intro x h g;obtain ⟨h1, h2, h3, h4, h5, h6, h7, h8⟩ := h;obtain ⟨i1, i2⟩ := ih _ h8 g;exact ⟨⟨h1, h2, h3, h4, h5, h6, h7, i1⟩, i2⟩
section
variable {a b:List ByteArray} (ha:a.length<=100) (hb:b.length<=100) (za:Bd a) (zb:Bd b) {ctx:Int} (c0:0<=ctx) (c5:ctx<=5)
include ha hb za zb
omit za zb in
theorem pie_len (c:CH):(pie a b c).length<=200 := by
 unfold pie;rw [List.length_append, mkd_len, mkd_len];have h1 := sg_le a c.f0.toNat (c.f0 + c.f1).toNat;have h2 := sg_le b c.f2.toNat (c.f2 + c.f3).toNat;omega
include c0 c5
theorem shk_loop (L:List CH) (hL:L.length<=1000) (e p q:Int) (e0:0<=e) (e1:e<=a.length):∀ (d i:Nat) (x:Int) (acc:List ByteArray), L.length - i=d->i<=L.length->Okc a.length b.length (L.drop i) x->acc.length<=500 * i →
    Ev (fun k => spec_l3Hunk.l0 k a b L ctx e x (i:Int) p q acc) (p, q, acc ++ bod a b (L.drop i) x ++ endc a ctx e) := by
 intro d
 induction d with
 | zero =>
  intro i x acc hd hi hk hacc;refine Ev.step (fun k => by rw [spec_l3Hunk.l0]) (Ev_neg (by omega) (Ev_const (smin_tells _ _) ?_));rw [wid (by omega) (by omega), Int.min_comm];have hz := sg_le a e.toNat (min (e + ctx) (a.length:Int)).toNat;have hz' := hz;unfold sg at hz';refine Ev_pos e0 (Ev_pos (by omega) (Ev_pos (by omega) (Ev_call (sput3 32 (sg_bd za e.toNat (min (e + ctx) (a.length:Int)).toNat) (by omega)) (Ev_val ?_))));have e9:L.drop i=[] := List.drop_eq_nil_of_le (by omega);rw [e9, bod, List.append_nil];rfl
 | succ d ih =>
  intro i x acc hd hi hk hacc;(have hlt:i < L.length := by omega);rw [drop_at hlt] at hk ⊢;obtain ⟨k1, k2, k3, k4, k5, k6, k7, k8⟩ := hk;have z1 := sg_le a x.toNat L[i].f0.toNat;have z1' := z1;unfold sg at z1';have z2 := sg_le a L[i].f0.toNat (L[i].f0 + L[i].f1).toNat;have z2' := z2;unfold sg at z2';have z3 := sg_le b L[i].f2.toNat (L[i].f2 + L[i].f3).toNat;have z3' := z3;unfold sg at z3';have nx := ih (i + 1) (L[i].f0 + L[i].f1) (acc ++ mkd 32 (sg a x.toNat L[i].f0.toNat) ++ mkd 45 (sg a L[i].f0.toNat (L[i].f0 + L[i].f1).toNat) ++ mkd 43 (sg b L[i].f2.toNat (L[i].f2 + L[i].f3).toNat)) (by omega) (by omega) k8 (by simp only [List.length_append, mkd_len];omega);have okl := okc_len k8;refine Ev.step (fun k => by rw [spec_l3Hunk.l0]) (Ev_pos (by omega) (Ev_pos (by omega) ?_));rw [rdc_nat hlt, wsucc hlt (by omega), wid (x := L[i].f0 + L[i].f1) (by omega) (by omega), wid (x := L[i].f2 + L[i].f3) (by omega) (by omega)];refine Ev_pos k1 (Ev_pos k2 (Ev_pos (by omega) (Ev_call (sput3 32 (sg_bd za x.toNat L[i].f0.toNat) (by omega)) ?_)));refine Ev_pos (by omega) (Ev_pos (by omega) (Ev_pos (by omega) (Ev_call (sput3 45 (sg_bd za L[i].f0.toNat (L[i].f0 + L[i].f1).toNat) (by simp only [List.length_append, mkd_len];omega)) ?_)));refine Ev_pos (by omega) (Ev_pos (by omega) (Ev_pos (by omega) (Ev_call (sput3 43 (sg_bd zb L[i].f2.toNat (L[i].f2 + L[i].f3).toNat) (by simp only [List.length_append, mkd_len];omega)) ?_)));refine Ev_eq nx ?_;simp only [bod, pie, List.append_assoc]
theorem shk_tells (c:CH) (L:List CH) (hL:(c :: L).length<=1000) (hok:Okc a.length b.length (c :: L) (c.f0 - ahd ctx c)) (h2 : -1000<=c.f2/\c.f2<=1000):Ev (fun k => spec_l3Hunk.f k a b (c :: L) ctx) (c.f0 - ahd ctx c, c.f2 - ahd ctx c, bod a b (c :: L) (c.f0 - ahd ctx c) ++ endc a ctx (lst (c :: L) 0)) := by
 obtain ⟨n, hn⟩ : ∃ n, (c :: L).length=n + 1 := ⟨L.length, rfl⟩;(have hlt:n < (c :: L).length := by omega);(have ew:wrap64 (((c :: L).length:Int) - 1)=(n:Int) := by rw [wid (by omega) (by omega)];omega);(have el:(c :: L)[n].f0 + (c :: L)[n].f1=lst (c :: L) 0 := by (have e:c :: L=((c :: L).take n) ++ [(c :: L)[n]] := by (conv => lhs;rw [← List.take_length (l := c :: L), hn]);exact List.take_succ_eq_append_getElem hlt);conv => rhs;rw [e, lst_app])
 have hend:0<=lst (c :: L) 0/\lst (c :: L) 0<=(a.length:Int) := by
  have:∀ (l:List CH) (x:Int), Okc a.length b.length l x->0<=lst l x/\lst l x<=(a.length:Int) := by
   intro l
   induction l with
   | nil => intro x h;exact h
   | cons d l ih => intro x h;exact ih _ h.2.2.2.2.2.2.2
  exact this (c :: L) (c.f0 - ahd ctx c) hok
 have h0:rd_T53 (c :: L) 0=c := rdc_nat (l := c :: L) (i := 0) (by simp);obtain ⟨k1, k2, k3, k4, k5, k6, k7, k8⟩ := hok;have e1:min ctx c.f0=ahd ctx c := rfl;(have b0:0<=c.f0/\c.f0<=a.length := by have := okc_len k8;omega);(have b1:0<=ahd ctx c/\ahd ctx c<=5 := by unfold ahd;omega);unfold spec_l3Hunk.f;refine Ev_pos (by omega) ?_;rw [ew];refine Ev_pos (by omega) (Ev_pos (by omega) (Ev_const (smin_tells _ _) ?_));rw [rdc_nat hlt, h0, e1, el, wid (x := c.f0 - ahd ctx c) (by omega) (by omega), wid (x := c.f2 - ahd ctx c) (by omega) (by omega)];rw [wid (by omega) (by omega)];have := shk_loop ha hb za zb c0 c5 (c :: L) hL (lst (c :: L) 0) (c.f0 - ahd ctx c) (c.f2 - ahd ctx c) hend.1 hend.2 _ 0 (c.f0 - ahd ctx c) [] rfl (by omega) ⟨k1, k2, k3, k4, k5, k6, k7, k8⟩ (by simp);rw [List.drop_zero, List.nil_append] at this;exact this
def bld (a b:List ByteArray) (ctx:Int):List CH->HK
 | [] => ⟨0, 0, []⟩
 | c :: L => ⟨c.f0 - ahd ctx c, c.f2 - ahd ctx c, bod a b (c :: L) (c.f0 - ahd ctx c)⟩
omit ha hb za zb c0 c5 in
theorem bld_app (c d:CH) (L:List CH):bld a b ctx (c :: L ++ [d])=⟨(bld a b ctx (c :: L)).f0, (bld a b ctx (c :: L)).f1, (bld a b ctx (c :: L)).f2 ++ (mkd 32 (sg a (lst (c :: L) 0).toNat d.f0.toNat) ++ pie a b d)⟩ := by
 show (⟨_, _, bod a b ((c :: L) ++ [d]) _⟩ : HK)=_;rw [bod_app];rfl
theorem shs_loop (l:List CH) (hl:l.length<=500) (h2:∀ c ∈ l, -1000<=c.f2/\c.f2<=1000):∀ (d k:Nat) (m:Nat) (O:List HK) (c:CH) (L:List CH), l.length - k=d->1<=k->k<=l.length->m < k->(l.take k).drop m=c :: L->Okc a.length b.length (c :: L) (c.f0 - ahd ctx c)->Okc a.length b.length (l.drop k) (lst (c :: L) 0)->O.length<=k →
    Ev (fun n => spec_l3Hunks.l0 n a b ctx l O (m:Int) (k:Int)) (O ++ gos a b ctx (l.drop k) (lst (c :: L) 0) (bld a b ctx (c :: L))) := by
 intro d
 induction d with
 | zero =>
  intro k m O c L hd hk1 hk hm hs hok hokr hO;have hc:c ∈ l := List.mem_of_mem_take (List.mem_of_mem_drop (by rw [hs];simp));(have hLl:(c :: L).length<=1000 := by rw [← hs, List.length_drop, List.length_take];omega);refine Ev.step (fun n => by rw [spec_l3Hunks.l0]) (Ev_pos (by omega) (Ev_neg (by omega) (Ev_pos (by omega) (Ev_pos (by omega) ?_))));rw [Int.toNat_natCast, Int.toNat_natCast, hs];refine Ev_call (shk_tells ha hb za zb c0 c5 c L hLl hok (h2 c hc)) (Ev_pos (by omega) ?_);rw [wsucc' (by omega)];refine Ev.step (fun n => by rw [spec_l3Hunks.l0]) (Ev_neg (by omega) (Ev_val ?_));rw [List.drop_eq_nil_of_le (by omega), gos];rfl
 | succ d ih =>
  intro k m O c L hd hk1 hk hm hs hok hokr hO;(have hlt:k < l.length := by omega);have hc:c ∈ l := List.mem_of_mem_take (List.mem_of_mem_drop (by rw [hs];simp));(have hLl:(c :: L).length<=1000 := by rw [← hs, List.length_drop, List.length_take];omega);obtain ⟨j, rfl⟩ : ∃ j, k=j + 1 := ⟨k - 1, by omega⟩;(have hjl:j < l.length := by omega);(have hseg:(l.take (j + 1 + 1)).drop m=(c :: L) ++ [l[j + 1]] := by rw [List.take_succ_eq_append_getElem hlt, List.drop_append_of_le_length (by rw [List.length_take];omega), hs]);(have hlast:lst (c :: L) 0=l[j].f0 + l[j].f1 := by (have e:(l.take (j + 1)).drop m=(l.take j).drop m ++ [l[j]] := by rw [List.take_succ_eq_append_getElem hjl, List.drop_append_of_le_length (by rw [List.length_take];omega)]);rw [← hs, e, lst_app]);rw [drop_at hlt] at hokr ⊢;have hok2 := okc_app l[j + 1] _ (c :: L) (c.f0 - ahd ctx c) hok hokr;obtain ⟨r1, r2, r3, r4, r5, r6, r7, r8⟩ := hokr;have bnd := okc_len r8;have hj:0<=lst (c :: L) 0 := r1;(have ew:wrap64 (((j + 1:Nat):Int) - 1)=(j:Int) := by rw [wid (by omega) (by omega)];omega)
  have hjf:Ev (fun n => spec_l3Hunks.l0 n a b ctx l O (m:Int) ((j + 1:Nat):Int)) (O ++ gos a b ctx (l[j + 1] :: l.drop (j + 1 + 1)) (lst (c :: L) 0) (bld a b ctx (c :: L))) := by
   refine Ev.step (fun n => by rw [spec_l3Hunks.l0]) (Ev_pos (by omega) (Ev_pos (by omega) (Ev_pos (by omega) ?_)));rw [ew, rdc_nat hlt, rdc_nat hjl, wsucc' (by omega)];have ei:l[j].f0 + l[j].f1<=l[j + 1].f0/\l[j + 1].f0<=a.length := ⟨by omega, by omega⟩
   have hb1 : -1000000<=l[j].f0/\l[j].f0<=1000000 ∧ -1000000<=l[j].f1/\l[j].f1<=1000000 := by
    have:∀ (x:List CH) (y:Int), Okc a.length b.length x y->∀ z ∈ x, 0<=z.f0/\z.f0<=a.length/\0<=z.f1/\z.f1<=a.length := by
     intro x
     induction x with
     | nil => intro y _ z hz;exact absurd hz (by simp)
     | cons u x ihx =>
      intro y hy z hz;obtain ⟨y1, y2, y3, y4, y5, y6, y7, y8⟩ := hy;(rcases List.mem_cons.1 hz with rfl | hz);(·omega);exact ihx _ y8 z hz
    (have hmem:l[j] ∈ c :: L := by rw [← hs];refine List.mem_iff_getElem.2 ⟨j - m, by rw [List.length_drop, List.length_take];omega, ?_⟩;rw [List.getElem_drop, List.getElem_take];congr 1;omega);have := this _ _ hok _ hmem;omega
   rw [wid (x := l[j + 1].f0 - l[j].f0) (by omega) (by omega), wid (x := l[j + 1].f0 - l[j].f0 - l[j].f1) (by omega) (by omega), wid (x := 2 * ctx) (by omega) (by omega)];refine Ev_pos (by omega) (Ev_pos (by omega) ?_);rw [gos];refine Ev_if (fun hcl => ?_) (fun hcl => ?_);(·rw [if_neg (by omega)];have := ih (j + 1 + 1) m O c (L ++ [l[j + 1]]) (by omega) (by omega) (by omega) (by omega) (by rw [hseg];rfl) hok2.1 (by rw [← List.cons_append, lst_app];exact r8) (by omega);rw [← List.cons_append, lst_app, bld_app] at this;exact this);rw [if_pos (by omega)];refine Ev_pos (by omega) (Ev_pos (by omega) ?_);rw [Int.toNat_natCast, Int.toNat_natCast, hs];refine Ev_call (shk_tells ha hb za zb c0 c5 c L hLl hok (h2 c hc)) (Ev_pos (by omega) ?_);(have hone:(l.take (j + 1 + 1)).drop (j + 1)=[l[j + 1]] := by rw [List.take_succ_eq_append_getElem hlt, List.drop_append_of_le_length (by rw [List.length_take];omega), List.drop_eq_nil_of_le (by rw [List.length_take];omega)];rfl);(have hah:0<=ahd ctx l[j + 1]/\ahd ctx l[j + 1]<=l[j + 1].f0 := by unfold ahd;omega);have := ih (j + 1 + 1) (j + 1) (O ++ [(⟨c.f0 - ahd ctx c, c.f2 - ahd ctx c, bod a b (c :: L) (c.f0 - ahd ctx c) ++ endc a ctx (lst (c :: L) 0)⟩ : HK)]) l[j + 1] [] (by omega) (by omega) (by omega) (by omega) hone ⟨by omega, by omega, r3, r4, r5, r6, r7, bnd⟩ r8 (by rw [List.length_append, List.length_singleton];omega);refine Ev_eq this ?_;rw [List.append_assoc];(have eb:bld a b ctx [l[j + 1]]=opn a b ctx l[j + 1] := by show (⟨_, _, _ ++ _ ++ []⟩ : HK)=⟨_, _, _⟩;rw [List.append_nil]);rw [eb];rfl
  exact hjf
omit ha hb za zb c0 c5 in
theorem put_last (O:List HK) (g:HK) (ls:List ByteArray) (h:g.f2.length + ls.length < 8796093022208):impl_putAt.f (O ++ [g]) (O.length:Int) ls=some (O ++ [⟨g.f0, g.f1, g.f2 ++ ls⟩]) := by
 unfold impl_putAt.f;rw [rdh_mid O g [], if_pos h, Int.toNat_natCast, set_mid]
def hnx (a:List ByteArray) (ctx:Int):List CH->Int->HK->HK
 | [], e, h => ⟨h.f0, h.f1, h.f2 ++ endc a ctx e⟩
 | c :: _, e, h => if c.f0 - e > 2 * ctx then ⟨h.f0, h.f1, h.f2 ++ endc a ctx e⟩ else h
theorem ihs_j2 (l:List CH) (hl:l.length<=500) (n:Nat) (hn:n < l.length) (O:List HK) (g:HK) (hO:O.length<=n) (hg:g.f2.length<=1000 * n + 200) {x:Int} (hok:Okc a.length b.length (l[n] :: l.drop (n + 1)) x)
    (nx:∀ h:HK, h.f2.length<=1000 * n + 500->Ev (fun k => impl_HunksOf.l0 k a b ctx (O ++ [hnx a ctx (l.drop (n + 1)) (l[n].f0 + l[n].f1) h]) (l[n].f0 + l[n].f1) l l (l.length:Int) ((n + 1:Nat):Int)) (0, 0, O ++ gos a b ctx (l.drop (n + 1)) (l[n].f0 + l[n].f1) h)) :
    Ev (fun k => impl_HunksOf.j2 k a b ctx (O ++ [g]) l (n:Int) l (l.length:Int) (n:Int) l[n].f0 l[n].f1 l[n].f2 l[n].f3) (0, 0, O ++ gos a b ctx (l.drop (n + 1)) (l[n].f0 + l[n].f1) ⟨g.f0, g.f1, g.f2 ++ pie a b l[n]⟩) := by
 obtain ⟨k1, k2, k3, k4, k5, k6, k7, k8⟩ := hok;have bnd := okc_len k8;(have hlen:∀ z:HK, (O ++ [z]).length=O.length + 1 := fun z => by rw [List.length_append, List.length_singleton]);(have ew:wrap64 (((O ++ [g]).length:Int) - 1)=(O.length:Int) := by rw [hlen, wid (by omega) (by omega)];omega);have z2 := sg_le a l[n].f0.toNat (l[n].f0 + l[n].f1).toNat;have z2' := z2;unfold sg at z2';have z3 := sg_le b l[n].f2.toNat (l[n].f2 + l[n].f3).toNat;have z3' := z3;unfold sg at z3';refine Ev.step (fun k => by rw [impl_HunksOf.j2]) ?_;rw [ew, wid (x := l[n].f0 + l[n].f1) (by omega) (by omega), wid (x := l[n].f2 + l[n].f3) (by omega) (by omega), wsucc' (i := n) (by omega)];refine Ev_pos (by omega) (Ev_pos (by rw [hlen];omega) (Ev_pos (by omega) (Ev_pos (by omega) (Ev_pos (by omega) (Ev_call (imark3 45 (sg_bd za l[n].f0.toNat (l[n].f0 + l[n].f1).toNat) (by omega)) (Ev_const (put_last O g _ (by rw [mkd_len];omega)) ?_))))));refine Ev_pos (by rw [hlen];omega) (Ev_pos (by omega) (Ev_pos (by omega) (Ev_pos (by omega) (Ev_call (imark3 43 (sg_bd zb l[n].f2.toNat (l[n].f2 + l[n].f3).toNat) (by omega)) (Ev_const (put_last O _ _ (by dsimp only;rw [List.length_append, mkd_len, mkd_len];omega)) ?_)))));(have ep:g.f2 ++ mkd 45 (List.drop l[n].f0.toNat (List.take (l[n].f0 + l[n].f1).toNat a)) ++ mkd 43 (List.drop l[n].f2.toNat (List.take (l[n].f2 + l[n].f3).toNat b))=g.f2 ++ pie a b l[n] := by rw [List.append_assoc];rfl);have hpl := pie_len ha hb l[n];dsimp only;rw [ep];have nx' := nx ⟨g.f0, g.f1, g.f2 ++ pie a b l[n]⟩ (by dsimp only;rw [List.length_append];omega);(have hfl:(g.f2 ++ pie a b l[n]).length<=1000 * n + 400 := by rw [List.length_append];omega);generalize hH:(⟨g.f0, g.f1, g.f2 ++ pie a b l[n]⟩ : HK)=H at nx' ⊢;(have hHl:H.f2.length<=1000 * n + 400 := by rw [← hH];exact hfl);clear hH;(have close:∀ {r:Int × Int × List HK}, Ev (fun k => impl_HunksOf.l0 k a b ctx (O ++ [(⟨H.f0, H.f1, H.f2 ++ endc a ctx (l[n].f0 + l[n].f1)⟩ : HK)]) (l[n].f0 + l[n].f1) l l (l.length:Int) ((n + 1:Nat):Int)) r->Ev (fun k => impl_HunksOf.j3 k a b ctx (O ++ [H]) (l[n].f0 + l[n].f1) l (O.length:Int) l (l.length:Int) (n:Int) true) r := by intro r hr;have z4 := sg_le a (l[n].f0 + l[n].f1).toNat (min (l[n].f0 + l[n].f1 + ctx) (a.length:Int)).toNat;have z4' := z4;unfold sg at z4';refine Ev.step (fun k => by rw [impl_HunksOf.j3]) (Ev_pos rfl (Ev_pos (by omega) (Ev_pos (by rw [hlen];omega) ?_)));rw [mn_min, wid (x := l[n].f0 + l[n].f1 + ctx) (by omega) (by omega), wsucc' (i := n) (by omega)];refine Ev_pos (by omega) (Ev_pos (by omega) (Ev_pos (by omega) (Ev_call (imark3 32 (sg_bd za (l[n].f0 + l[n].f1).toNat (min (l[n].f0 + l[n].f1 + ctx) (a.length:Int)).toNat) (by omega)) (Ev_const (put_last O H _ (by rw [mkd_len];omega)) hr)))));have ew2:wrap64 ((l.length:Int) - 1)=(l.length:Int) - 1 := wid (by omega) (by omega);rw [ew2];refine Ev_if (fun hq => ?_) (fun hq => ?_);(·have e:l.drop (n + 1)=[] := List.drop_eq_nil_of_le (by omega);rw [e] at nx' ⊢;exact close nx');(have hlt:n + 1 < l.length := by omega);rw [drop_at hlt] at k8 nx' ⊢;obtain ⟨r1, r2, r3, r4, r5, r6, r7, r8⟩ := k8;have bn2 := okc_len r8;refine Ev_pos (by omega) (Ev_pos (by omega) ?_);rw [rdc_nat hlt, wid (x := l[n + 1].f0 - (l[n].f0 + l[n].f1)) (by omega) (by omega), wid (x := 2 * ctx) (by omega) (by omega)];rw [hnx] at nx';by_cases hfar:l[n + 1].f0 - (l[n].f0 + l[n].f1) > 2 * ctx;(·rw [if_pos hfar] at nx';rw [decide_eq_true hfar];exact close nx');rw [if_neg hfar] at nx';rw [decide_eq_false hfar];refine Ev.step (fun k => by rw [impl_HunksOf.j3]) (Ev_neg (by simp) ?_);rw [wsucc' (i := n) (by omega)];exact nx'
theorem ihs_new (l:List CH) (hl:l.length<=500) (n:Nat) (hn:n < l.length) (O:List HK) (hO:O.length<=n) {x y:Int} (hok:Okc a.length b.length (l[n] :: l.drop (n + 1)) x)
    (nx:∀ h:HK, h.f2.length<=1000 * n + 500->Ev (fun k => impl_HunksOf.l0 k a b ctx (O ++ [hnx a ctx (l.drop (n + 1)) (l[n].f0 + l[n].f1) h]) (l[n].f0 + l[n].f1) l l (l.length:Int) ((n + 1:Nat):Int)) (0, 0, O ++ gos a b ctx (l.drop (n + 1)) (l[n].f0 + l[n].f1) h)) :
    Ev (fun k => impl_HunksOf.j1 k a b ctx O y l (n:Int) l (l.length:Int) (n:Int) true l[n].f0 l[n].f1 l[n].f2 l[n].f3) (0, 0, O ++ gos a b ctx (l.drop (n + 1)) (l[n].f0 + l[n].f1) (opn a b ctx l[n])) := by
 have hok' := hok;obtain ⟨k1, k2, k3, k4, k5, k6, k7, k8⟩ := hok;(have hah:0<=ahd ctx l[n]/\ahd ctx l[n]<=l[n].f0/\ahd ctx l[n]<=5 := by unfold ahd;omega);have z1 := sg_le a (l[n].f0 - ahd ctx l[n]).toNat l[n].f0.toNat;have z1' := z1;unfold sg at z1';have em:mn ctx l[n].f0=ahd ctx l[n] := mn_min _ _;refine Ev.step (fun k => by rw [impl_HunksOf.j1]) (Ev_pos rfl ?_);rw [em, wid (x := l[n].f0 - ahd ctx l[n]) (by omega) (by omega), wid (x := l[n].f2 - ahd ctx l[n]) (by omega) (by omega)];refine Ev_pos (by omega) (Ev_pos (by omega) (Ev_pos (by omega) (Ev_call (imark3 32 (sg_bd za (l[n].f0 - ahd ctx l[n]).toNat l[n].f0.toNat) (by omega)) (Ev_pos (by omega) ?_))));exact ihs_j2 ha hb za zb c0 c5 l hl n hn O _ hO (by dsimp only;rw [mkd_len];omega) hok' nx
theorem ihs_loop (l:List CH) (hl:l.length<=500):∀ (d n:Nat) (O:List HK) (e:Int) (h:HK), l.length - n=d->1<=n->n<=l.length->O.length + 1<=n->h.f2.length<=1000 * n->Okc a.length b.length (l.drop n) e →
    Ev (fun k => impl_HunksOf.l0 k a b ctx (O ++ [hnx a ctx (l.drop n) e h]) e l l (l.length:Int) (n:Int)) (0, 0, O ++ gos a b ctx (l.drop n) e h) := by
 intro d
 induction d with
 | zero =>
  intro n O e h hd hn1 hn hO hh hok;rw [List.drop_eq_nil_of_le (by omega)];refine Ev.step (fun k => by rw [impl_HunksOf.l0]) (Ev_neg (by omega) (Ev_val ?_));rfl
 | succ d ih =>
  intro n O e h hd hn1 hn hO hh hok;(have hlt:n < l.length := by omega);rw [drop_at hlt] at hok ⊢;have hok' := hok;obtain ⟨k1, k2, k3, k4, k5, k6, k7, k8⟩ := hok;have bnd := okc_len k8;refine Ev.step (fun k => by rw [impl_HunksOf.l0]) (Ev_pos (by omega) (Ev_pos (by omega) (Ev_pos (by omega) (Ev_neg (by omega) ?_))));rw [rdc_nat hlt, wid (x := l[n].f0 - e) (by omega) (by omega), wid (x := 2 * ctx) (by omega) (by omega), hnx, gos];by_cases hfar:l[n].f0 - e > 2 * ctx;(·rw [if_pos hfar, if_pos hfar, decide_eq_true hfar];have := ihs_new ha hb za zb c0 c5 (y := e) l hl n hlt (O ++ [(⟨h.f0, h.f1, h.f2 ++ endc a ctx e⟩ : HK)]) (by rw [List.length_append, List.length_singleton];omega) hok' (fun h' hl' => ih (n + 1) _ _ h' (by omega) (by omega) (by omega) (by rw [List.length_append, List.length_singleton];omega) (by omega) k8);refine Ev_eq this ?_;rw [List.append_assoc];rfl);rw [if_neg hfar, if_neg hfar, decide_eq_false hfar];(have hlen:(O ++ [h]).length=O.length + 1 := by rw [List.length_append, List.length_singleton]);(have ew:wrap64 (((O ++ [h]).length:Int) - 1)=(O.length:Int) := by rw [hlen, wid (by omega) (by omega)];omega);have z1 := sg_le a e.toNat l[n].f0.toNat;have z1' := z1;unfold sg at z1';refine Ev.step (fun k => by rw [impl_HunksOf.j1]) (Ev_neg (by simp) ?_);rw [ew];refine Ev_pos (by omega) (Ev_pos (by rw [hlen];omega) (Ev_pos (by omega) (Ev_pos (by omega) (Ev_pos (by omega) (Ev_call (imark3 32 (sg_bd za e.toNat l[n].f0.toNat) (by omega)) (Ev_const (put_last O h _ (by rw [mkd_len];omega)) ?_))))));have := ihs_j2 ha hb za zb c0 c5 l hl n hlt O ⟨h.f0, h.f1, h.f2 ++ mkd 32 (sg a e.toNat l[n].f0.toNat)⟩ (by omega) (by dsimp only;rw [List.length_append, mkd_len];omega) hok' (fun h' hl' => ih (n + 1) _ _ h' (by omega) (by omega) (by omega) (by omega) (by omega) k8);refine Ev_eq this ?_;dsimp only;rw [List.append_assoc]
end
def HKO (a b:List ByteArray) (ctx:Int):Int × Int × List HK := if LF2 a b=0 then (if 0<=ctx/\ctx<=5 then (0, 0, HUN a b ctx (CHS a b)) else (3, 0, [])) else (LF2 a b, 0, [])
theorem hun_hyp {a b:List ByteArray} (sa:Small a) (sb:Small b) (h:LF2 a b=0):a.length<=100/\b.length<=100/\Bd a/\Bd b/\(CHS a b).length<=500/\Okc a.length b.length (CHS a b) 0/\∀ c ∈ CHS a b, -1000<=c.f2/\c.f2<=1000 := by
 have fa := LF_zero (LF2_zero h).1;have fb := LF_zero (LF2_zero h).2;have l2 := CHS_few a b;have hok := okc_of (CHS a b) 0 0 true (by omega) (by omega) (CHS_right a b);refine ⟨fa.1, fb.1, sa.bd, sb.bd, by omega, hok, ?_⟩
 have:∀ (x:List CH) (y:Int), Okc a.length b.length x y->∀ z ∈ x, -1000<=z.f2/\z.f2<=1000 := by
  intro x
  induction x with
  | nil => intro y _ z hz;exact absurd hz (by simp)
  | cons u x ihx =>
   intro y hy z hz;obtain ⟨y1, y2, y3, y4, y5, y6, y7, y8⟩ := hy;(rcases List.mem_cons.1 hz with rfl | hz);(·omega);exact ihx _ y8 z hz
 exact this _ _ hok
theorem shunks_tells {a b:List ByteArray} (sa:Small a) (sb:Small b) (ctx:Int):Ev (fun k => spec_HunksOf.f k a b ctx) (HKO a b ctx) := by
 unfold spec_HunksOf.f HKO;refine Ev_call (asked_tells sa sb) (Ev_if (fun h => ?_) (fun h => by rw [if_neg h];exact Ev.now _));rw [if_pos h];refine Ev_const (in_tells ctx 0 5) (Ev_if (fun hc => ?_) (fun hc => ?_));rotate_left;(·rw [if_neg (fun e => hc (decide_eq_true e))];exact Ev.now _);have hc := of_decide_eq_true hc;rw [if_pos hc];obtain ⟨ha, hb, za, zb, hl, hok, h2⟩ := hun_hyp sa sb h
 have main:Ev (fun k => spec_l3Hunks.f k a b ctx) (HUN a b ctx (CHS a b)) := by
  unfold spec_l3Hunks.f;refine Ev_call (sch_tells a b (by omega) (by omega)) ?_
  cases hL:CHS a b with
  | nil =>
   refine Ev.step (fun n => by rw [spec_l3Hunks.l0]) (Ev_neg (by simp) (Ev_val ?_));rfl
  | cons c l =>
   rw [hL] at hl hok h2;obtain ⟨k1, k2, k3, k4, k5, k6, k7, k8⟩ := hok;(have hah:0<=ahd ctx c/\ahd ctx c<=c.f0 := by unfold ahd;omega);have bn := okc_len k8;have := shs_loop ha hb za zb hc.1 hc.2 (c :: l) hl h2 _ 1 0 [] c [] rfl (by omega) (by simp) (by omega) rfl ⟨by omega, by omega, k3, k4, k5, k6, k7, bn⟩ k8 (by simp);refine Ev_eq this ?_;(have eb:bld a b ctx [c]=opn a b ctx c := by show (⟨_, _, _ ++ _ ++ []⟩ : HK)=⟨_, _, _⟩;rw [List.append_nil]);rw [eb];rfl
 exact Ev_call main (Ev.now _)
theorem ihunks_tells {a b:List ByteArray} (sa:Small a) (sb:Small b) (ctx:Int):Ev (fun k => impl_HunksOf.f k a b ctx) (HKO a b ctx) := by
 unfold impl_HunksOf.f HKO;refine Ev_call (both_tells sa sb) (Ev_const (within_tells ctx 0 5) ?_);(have ecode:∀ q:Bool, impl_codeIf.f q 3=some (if q=true then 3 else 0) := fun q => by cases q <;> rfl);refine Ev_const (ecode _) (Ev_call (first_tells _ (by simp)) ?_);by_cases h:LF2 a b=0;rotate_left;(·rw [if_neg h];(have e:∀ z:Int, firstOf [LF2 a b, z]=LF2 a b := fun z => by simp [firstOf, h]);rw [e];exact Ev_neg h (Ev.now _));rw [if_pos h, h];by_cases hc:0<=ctx/\ctx<=5;rotate_left;(·rw [if_neg hc, decide_eq_false hc];exact Ev_neg (by simp [firstOf]) (Ev_val (by simp [firstOf])));rw [if_pos hc, decide_eq_true hc];refine Ev_pos (by simp [firstOf]) ?_;obtain ⟨ha, hb, za, zb, hl, hok, h2⟩ := hun_hyp sa sb h;refine Ev_call (ich_tells a b (by omega) (by omega)) ?_
 cases hL:CHS a b with
 | nil =>
  refine Ev.step (fun n => by rw [impl_HunksOf.l0]) (Ev_neg (by simp) (Ev_val ?_));rfl
 | cons c l =>
  rw [hL] at hl hok h2;have hok' := hok;obtain ⟨k1, k2, k3, k4, k5, k6, k7, k8⟩ := hok;have := ihs_new ha hb za zb hc.1 hc.2 (y := 0) (c :: l) hl 0 (by simp) [] (by simp) (x := 0) hok' (fun h' hl' => ihs_loop ha hb za zb hc.1 hc.2 (c :: l) hl _ 1 [] (c.f0 + c.f1) h' rfl (by omega) (by simp) (by simp) (by omega) k8);have h0:rd_T53 (c :: l) 0=c := rdc_nat (l := c :: l) (i := 0) (by simp);refine Ev.step (fun k => by rw [impl_HunksOf.l0]) (Ev_pos (by simp) (Ev_pos (by omega) (Ev_pos (by simp) (Ev_pos rfl ?_))));rw [h0];exact this
end Go.Proofs.Ytelngmkfjpcbgaa.P
end
section
set_option linter.unusedVariables false
set_option linter.unusedSimpArgs false
namespace Go.Proofs.Ytelngmkfjpcbgaa.P
open Go.RowKit Go.Proofs.YtelngmkfjpcbgaaW.PrintWords Go.Proofs.YtelngmkfjpcbgaaW.PrintLast
theorem two_j1q {c:List Int} (hc:Code c) {p:Int} (h0:0<=p) (h1:p<=800000) {a b:List ByteArray} (ha:Lin 0 10 a) (hb:Lin 0 10 b) (la:a.length<=900) (lb:b.length<=900) :
    ∃ x y q, Ev (fun k => spec_l2Two.j1 k a b c p) (x, y, q)/\(Lin 0 10 x/\x.length<=900)/\(Lin 0 10 y/\y.length<=900)/\0<=q/\q<=p + 2000 := by
 obtain ⟨t, e⟩ := chance_tells hc (p := p) (n := 10) h0 (by omega) (by omega)
 cases t with
 | false =>
  refine ⟨a, b, p + 1, Ev.step (fun k => by rw [spec_l2Two.j1]) ?_, ⟨ha, la⟩, ⟨hb, lb⟩, by omega, by omega⟩;refine Ev_const e ?_;exact Ev_neg (by simp) (Ev.now _)
 | true =>
  obtain ⟨r, q, hr, g1, g2, g3, g4⟩ := bent_tells hc (p := p + 1) (by omega) (by omega) lb hb;refine ⟨a, r, q, Ev.step (fun k => by rw [spec_l2Two.j1]) ?_, ⟨ha, la⟩, ⟨g1, g2⟩, by omega, by omega⟩;refine Ev_const e ?_;refine Ev_pos rfl (Ev_call hr ?_);exact Ev.now _
theorem two_j0q {c:List Int} (hc:Code c) {p:Int} (h0:0<=p) (h1:p<=700000) {a b:List ByteArray} (ha:Lin 0 10 a) (hb:Lin 0 10 b) (la:a.length<=900) (lb:b.length<=900) :
    ∃ x y q, Ev (fun k => spec_l2Two.j0 k a b c p) (x, y, q)/\(Lin 0 10 x/\x.length<=900)/\(Lin 0 10 y/\y.length<=900)/\0<=q/\q<=p + 4000 := by
 obtain ⟨t, e⟩ := chance_tells hc (p := p) (n := 10) h0 (by omega) (by omega)
 cases t with
 | false =>
  obtain ⟨x, y, q, hr, g⟩ := two_j1q hc (p := p + 1) (by omega) (by omega) ha hb la lb;refine ⟨x, y, q, Ev.step (fun k => by rw [spec_l2Two.j0]) ?_, g.1, g.2.1, g.2.2.1, by have := g.2.2.2;omega⟩;refine Ev_const e ?_;exact Ev_neg (by simp) hr
 | true =>
  obtain ⟨r, q', hr', g1, g2, g3, g4⟩ := bent_tells hc (p := p + 1) (by omega) (by omega) la ha;obtain ⟨x, y, q, hr, g⟩ := two_j1q hc (p := q') (by omega) (by omega) g1 hb g2 lb;refine ⟨x, y, q, Ev.step (fun k => by rw [spec_l2Two.j0]) ?_, g.1, g.2.1, g.2.2.1, by have := g.2.2.2;omega⟩;refine Ev_const e ?_;refine Ev_pos rfl (Ev_call hr' ?_);exact hr
theorem two_tellsq {c:List Int} (hc:Code c):∃ x y q, Ev (fun k => spec_l2Two.f k c 0) (x, y, q)/\Small x/\Small y/\0<=q/\q<=10000 := by
 obtain ⟨v, e, v0, v1⟩ := next_tells hc (p := 0) (n := 9) (by omega) (by omega) (by omega);have v2 := v1 (by omega);obtain ⟨a, p1, ha, a1, a2, a3, a4⟩ := lines_tells hc (p := 0 + 1) (n := v) (by omega) (by omega) v0 (by omega);obtain ⟨b, p2, hb, b1, b2, b3, b4⟩ := near_tells hc (p := p1) (by omega) (by omega) (l := a) (by omega) a1;obtain ⟨t, e2⟩ := chance_tells hc (p := p2) (n := 6) (by omega) (by omega) (by omega);(have wide:∀ {x y:List ByteArray}, (Lin 0 10 x/\x.length<=900)/\(Lin 0 10 y/\y.length<=900)->Small x/\Small y := fun h => ⟨h.1.1.small (by omega) (by omega), h.2.1.small (by omega) (by omega)⟩)
 cases t with
 | false =>
  obtain ⟨x, y, q, hr, g⟩ := two_j0q hc (p := p2 + 1) (by omega) (by omega) (a1.mono (by omega) (by omega)) (b1.mono (by omega) (by omega)) (by omega) (by omega);refine ⟨x, y, q, ?_, (wide ⟨g.1, g.2.1⟩).1, (wide ⟨g.1, g.2.1⟩).2, g.2.2.1, by have := g.2.2.2;omega⟩;unfold spec_l2Two.f;refine Ev_const e (Ev_call ha (Ev_call hb (Ev_const e2 ?_)));exact Ev_neg (by simp) hr
 | true =>
  obtain ⟨w, e3, w0, w1⟩ := next_tells hc (p := p2 + 1) (n := 9) (by omega) (by omega) (by omega);have w2 := w1 (by omega);obtain ⟨d, p3, hd, d1, d2, d3, d4⟩ := lines_tells hc (p := p2 + 1 + 1) (n := w) (by omega) (by omega) w0 (by omega);obtain ⟨x, y, q, hr, g⟩ := two_j0q hc (p := p3) (by omega) (by omega) (a1.mono (by omega) (by omega)) (d1.mono (by omega) (by omega)) (by omega) (by omega);refine ⟨x, y, q, ?_, (wide ⟨g.1, g.2.1⟩).1, (wide ⟨g.1, g.2.1⟩).2, g.2.2.1, by have := g.2.2.2;omega⟩;unfold spec_l2Two.f;refine Ev_const e (Ev_call ha (Ev_call hb (Ev_const e2 ?_)));refine Ev_pos rfl (Ev_const e3 ?_);exact Ev_call hd hr
theorem pick_tells {c:List Int} (hc:Code c) {p:Int} (h0:0<=p) (h1:p<=1000000) {l:List Int} (hl:1<=l.length) (h2:l.length<=1000):∃ v, spec_l1Pick.f c p l=some (v, p + 1) := by
 obtain ⟨v, e, v0, v1⟩ := next_tells hc (p := p) (n := (l.length:Int)) h0 h1 (by omega);have v2 := v1 (by omega);refine ⟨rd l v, ?_⟩;unfold spec_l1Pick.f;rw [e];show (if 0<=v then (if v < (l.length:Int) then some (rd l v, p + 1) else none) else none)=_;rw [if_pos v0, if_pos v2]
end Go.Proofs.Ytelngmkfjpcbgaa.P
end
section
set_option linter.unusedVariables false
set_option linter.unusedSimpArgs false
namespace Go.Proofs.Ytelngmkfjpcbgaa.P.VFnPatches
open Go.RowKit Go.Proofs.YtelngmkfjpcbgaaW.PrintWords Go.Proofs.YtelngmkfjpcbgaaW.PrintLast
theorem same (a:List ByteArray) (hl:a.length<=1048576):Ev (fun k => impl_SameLines.f k a a) true := by
 unfold impl_SameLines.f;exact Ev_call (isame_tells a a (by omega)) (Ev_val (by simp))
theorem proof:UFnPatches.Pure := by
 intro l0 g0;apply Ev.rounds;unfold laws_FnPatches.f;(have hc:Code l0 := fun x hx => by have := g0.2 x hx;simp [Lit.wf, IntKind.min, IntKind.max, IntKind.signed, IntKind.bits] at this;omega);refine Ev_const (by unfold laws_lwBig.f;rfl) ?_;by_cases hb:(l0.length:Int) > 1048576;(·exact Ev_pos (by simpa using hb) (Ev.now _));refine Ev_neg (by simpa using hb) ?_;obtain ⟨x, y, q, h, sx, sy, q0, q1⟩ := two_tellsq hc;obtain ⟨v, hv⟩ := pick_tells hc (p := q) q0 (by omega) (l := [1, 2, 0, 3, 5, 6, (-1)]) (by simp) (by simp);(have hd:Ev (fun k => spec_DrawHunksOf.f k l0) (x, y, v) := by unfold spec_DrawHunksOf.f;exact Ev_const (a := (l0, 0)) (by unfold spec_l1Source.f;rfl) (Ev_call h (Ev_const hv (Ev.now _))));refine Ev_call hd (Ev_call (ihunks_tells sx sy v) ?_);by_cases e:(HKO x y v).1=0;rotate_left;(·refine Ev_neg e (Ev_call (shunks_tells sx sy v) (Ev_val ?_));simp);(have e2:LF2 x y=0/\(0<=v/\v<=5) := by unfold HKO at e;by_cases h1:LF2 x y=0;rotate_left;(·rw [if_neg h1] at e;exact absurd e h1);rw [if_pos h1] at e;by_cases h2:0<=v/\v<=5;(·exact ⟨h1, h2⟩);rw [if_neg h2] at e;exact absurd e (by decide));obtain ⟨fa, fb⟩ := LF2_zero e2.1;obtain ⟨n, rfl⟩ : ∃ n:Nat, v=(n:Int) := ⟨v.toNat, by omega⟩;(have hk:HKO x y (n:Int)=(0, 0, HUN x y (n:Int) (CHS x y)) := by unfold HKO;rw [if_pos e2.1, if_pos e2.2]);have sm := HUN_small fa fb n;have hr := HUN_right fa fb n;have hm := HUN_makes fa fb n;obtain ⟨_, _, _, hu⟩ := APH_undone hm;have rv := irev_tells sm;(have erv:RVH (HUN x y (n:Int) (CHS x y))=(0, 0, (HUN x y (n:Int) (CHS x y)).map rvh) := by unfold RVH;rw [if_pos hr]);rw [erv] at rv;have sm2 := rvh_small sm hr;have a1 := iap_tells sx sm;rw [hm] at a1;have a2 := iap_tells sy sm2;rw [hu] at a2;have hf := ihf_tells sm;rw [hr] at hf;rw [hk];refine Ev_pos rfl (Ev_call rv (Ev_call a1 (Ev_call a2 (Ev_call hf (Ev_pos rfl (Ev_pos rfl ?_))))));exact Ev_call (same y sy.2.1) (Ev_pos rfl (Ev_pos rfl (Ev_pos rfl (Ev_call (same x sx.2.1) (Ev.now _)))))
end Go.Proofs.Ytelngmkfjpcbgaa.P.VFnPatches
end
section
set_option linter.unusedVariables false
set_option linter.unusedSimpArgs false
namespace Go.Proofs.Ytelngmkfjpcbgaa.O
open Go.RowKit Go.ChangeShapes Go.WideShapes Go.Proofs.YtelngmkfjpcbgaaW.PrintWords
def Opens {α:Type} (P:Program) (t:TypeId) (d:Kd α) (G:α->Prop):Prop :=
  P.cellsOf t=d.sz/\∀ {H:Type} {enc:TypeId × Value->H} {w:World} {base:Nat} {spare:Nat->Bool} {held:Bool} {fuel:Nat} {cs:List Value} {x:DataW H × List MemPlace},
    DataW.trod enc P w base spare held fuel t cs=some x->∃ a, d.K w a cs/\G a
theorem list_of {α:Type} {Q:Nat->α->Prop} : ∀ n:Nat, (∀ j, j < n->∃ p, Q j p)->∃ xs:List α, xs.length=n/\∀ j p, xs[j]? = some p->Q j p
  | 0, _ => ⟨[], rfl, fun j p h => by simp at h⟩
  | n + 1, h => by
    obtain ⟨xs, hl, hx⟩ := list_of n (fun j hj => h j (Nat.lt_succ_of_lt hj))
    obtain ⟨p, hp⟩ := h n (Nat.lt_succ_self n)
    refine ⟨xs ++ [p], by simp [hl], fun j q hq => ?_⟩
    rcases Nat.lt_or_ge j xs.length with hj | hj
    · rw [List.getElem?_append_left hj] at hq
      exact hx j q hq
    · have hj':j=xs.length := by
        have := (List.getElem?_eq_some_iff.1 hq).1
        rw [List.length_append, List.length_singleton] at this
        omega
      subst hj'
      have e:p=q := by simpa using hq
      subst e
      rw [hl]
      exact hp
theorem cells_get {w:World} {base:Nat} {a:Addr} {n:Nat} {cs:List Value} (h:w.cells? base a n=some cs):cs.length=n/\∀ i u, cs[i]? = some u->w.cell? (a.add i)=some u := by
 unfold World.cells? at h;split at h;rotate_left;(·simp at h);have hl := mapM_some_length h;rw [List.length_range] at hl;refine ⟨hl, fun i u hu => ?_⟩;(have hi:i < n := by have := (List.getElem?_eq_some_iff.1 hu).1;omega);have := mapM_some_get h i i (by simp [hi]);rw [this, hu]
theorem opens_int {P:Program} {t:TypeId} {k:IntKind} (ht:P.underlying t=some (.int k)) (hc:P.cellsOf t=1):Opens P t (Kd.int k) (fun x => (Lit.int k x).wf=true) :=
  ⟨hc, fun h => by
    obtain ⟨n, rfl, _, hw⟩ := DataW.trod_int ht h
    exact ⟨n, rfl, hw⟩⟩
theorem opens_slice {α:Type} {P:Program} {t e:TypeId} {d:Kd α} {G:α->Prop} (ht:P.underlying t=some (.slice e)) (hc:P.cellsOf t=1) (he:Opens P e d G) :
    Opens P t (Kd.slice e d) (fun l => l.length<=9223372036854775807/\∀ x ∈ l, G x) := by
 refine ⟨hc, fun {H enc w base spare held fuel cs x} h => ?_⟩;(rcases DataW.trod_slice ht h with ⟨rfl, _⟩ | ⟨a, len, cap, elems, rest, n, _, rfl, _, hb, hl, hm, hlen, hel, _, _⟩);(·exact ⟨[], ⟨none, 0, rfl, Nat.le_refl _, rfl, by simp, fun hp => absurd hp (by simp)⟩, by simp, by simp⟩);have hcap:cap<=9223372036854775807 := hm
 obtain ⟨xs, hxl, hx⟩ := list_of (Q := fun j p => (∃ c:List Value, c.length=d.sz/\d.K w p c/\∀ i u, c[i]? = some u->w.cell? (a.add (j * d.sz + i))=some u)/\G p) len (fun j hj => by
   have h1 := hel j hj
   rw [List.getElem?_eq_getElem (by omega), Option.bind_eq_some_iff] at h1
   obtain ⟨cs', hcs, hy⟩ := h1
   obtain ⟨p, hK, hG⟩ := he.2 hy
   obtain ⟨hcl, hcell⟩ := cells_get hcs
   refine ⟨p, ⟨cs', by rw [hcl, he.1], hK, fun i u hu => ?_⟩, hG⟩
   have := hcell i u hu
   rw [he.1] at this
   rw [← Addr.add_add]
   exact this)
 (have hlen2:xs.length<=cap := by omega);refine ⟨xs, ⟨some a, cap, ?_, hlen2, rfl, by omega, fun _ => ⟨a, rfl, fun j p hj => (hx j p hj).1⟩⟩, by omega, fun y hy => ?_⟩;(·rw [hxl]);obtain ⟨j, hj⟩ := List.getElem?_of_mem hy;exact (hx j y hj).2
end Go.Proofs.Ytelngmkfjpcbgaa.O
end
namespace Go.Proofs.Ytelngmkfjpcbgaa.fnPatches
open Go.ChangeShapes Go.WideShapes Go.ChangeAt Go.RowKit
open Go.ChangeMaps (open_string shut_string)
open Go.Proofs.Ytelngmkfjpcbgaa.P Go.Proofs.Ytelngmkfjpcbgaa.P.UFnPatches Go.Proofs.YtelngmkfjpcbgaaW.PrintWords
set_option linter.unusedVariables false
theorem own:ownKnob Try.prog.godebug=none := by kernel_rfl
theorem laidOut:laidOutB Try.prog=true := by kernel_rfl
set_option maxRecDepth 100000 in
theorem lifted (os:Os) (started:os.Started) (H:Type) (enc:TypeId × Value->H) :
    ReturnsInHanded {} Try.checked os 5 .any (Rows.fnPatchesSpec.pre6 enc Try.prog Try.f5 Rows.fnPatchesRow.domain false) (Rows.fnPatchesSpec.post enc Try.prog Try.f5 false true false false) := by
 refine returnsInHanded_of_change_sized (C := Try.checked) own started (by kernel_rfl) Try.func5
   (ChangeSpec.witness6 (enc := enc) (C := Try.checked) false ⟨#[], #[.slice none 0 0], []⟩ 8 (by kernel_rfl) (by kernel_rfl) (by kernel_rfl) (by kernel_rfl)) ?_
 intro W base args ds gs before hval0 hW hcnd hsz0 _;have hval:∀ (j:Nat) t v, Try.f5.params[j]? = some t->args[j]? = some v->Value.okWide Try.prog W .any base t v := hval0;have hW' := hW;obtain ⟨p, q, hA0, hV, rfl, hfz, hnd⟩ := hW;have hA:DataW.TrodAll enc Try.prog W 0 (fun _ => true) true Try.f5.params.toList args.toList ds p := hA0;rw [Try.params5] at hA hval;obtain ⟨v0, vs0, d0, ds0, p0, q0, hargs, rfl, rfl, h0, r0⟩ := trodAll_cons hA;obtain ⟨rfl, rfl, rfl⟩ := trodAll_nil r0;(obtain rfl:args = #[v0] := by cases args;simp_all);obtain ⟨rfl, rfl⟩ := trodVars_none hV;have k0_ := h0;(have lt0:∀ x ∈ p0, x.block < W.heap.size := by obtain ⟨m, hm⟩ := k0_;exact DataW.trod_lt m _ _ _ hm);obtain ⟨b0, len0, cap0, rfl⟩ := okWide_slice Try.underlying33 (hval 0 33 v0 rfl rfl);obtain ⟨fuel0, hf0⟩ := h0;obtain ⟨l0, ⟨A0, c0, hcs0, hc0, hr0⟩, g0⟩ := (O.opens_slice Try.underlying33 (by kernel_rfl) (O.opens_int Try.underlying5 (by kernel_rfl))).2 hf0;simp [Value.cells] at hcs0;obtain ⟨rfl, rfl, rfl⟩ := hcs0;clear hA0 hval0 hsz0;obtain ⟨k, h⟩ := VFnPatches.proof l0 g0;(refine (laws_FnPatches.calls k _ _ l0 true W hr0 hc0 h rfl).mono fun e W' hend => ?_);obtain ⟨rfl, hbel⟩ := hend;have bel:Below W.heap.size W W' := hbel;exact ⟨_, rfl, _, _, _, [], _, [], hW', trodAll_mk1 (shut_bool Try.underlying4 _), (trodAll_cons_mk (Below.trod laidOut (by kernel_rfl) (of_decide_eq_true (by kernel_rfl)) k0_ bel lt0) trodAll_mk0), rfl, bel.frame _, fun h => by cases h⟩
theorem over:Rows.fnPatchesRow.holds Try.pinned (OpenSpec.ofChange Rows.fnPatchesSpec) :=
  OpenClaim.holds_of_wide 5 Try.f5 rfl rfl rfl rfl rfl rfl rfl ⟨rfl, rfl, rfl, rfl, rfl⟩ rfl rfl rfl rfl rfl (by kernel_rfl) Try.func5 (by kernel_rfl)
    (of_decide_eq_true (by kernel_rfl)) (by unfold Func.isWrapper;first | (rw [if_pos (by decide +kernel)];kernel_rfl) | (rw [if_neg (by decide +kernel)];exact ⟨rfl, rfl⟩))
    (fun os started H enc _ => lifted os started H enc)
theorem proved:Rows.FnPatchesSaid := over
#print axioms proved
end Go.Proofs.Ytelngmkfjpcbgaa.fnPatches
namespace Go.Proofs.Ytelngmkfjpcbgaa
theorem fnPatches_holds:Rows.FnPatchesSaid := fnPatches.proved
end Go.Proofs.Ytelngmkfjpcbgaa
