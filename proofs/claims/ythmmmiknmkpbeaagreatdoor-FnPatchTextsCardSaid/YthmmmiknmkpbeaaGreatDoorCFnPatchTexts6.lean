/- FnPatchTexts: the law of the program holds at every input: the Go function returns true, and its arguments read afterwards as before.
Conditions: none beyond the given statement's own (what can be read as data, of a size that memory bears). -/
import Derived.Lib.Split
import Derived.Lib.SplitLaws
import Derived.Lib.ItoaNum
import Derived.Laws.BytesArg
import Derived.Lib.IndexMore
import Derived.SliceStrings
import Derived.DataReads
import Derived.DataElems
import Derived.Test.YthmmmiknmkpbeaaGreatDoorCards
import Derived.Test.YthmmmiknmkpbeaaGreatDoorTie
import Derived.Lay
import Derived.LaidOnce
import Derived.SevenTiedAt
import Derived.Lib.LaidTab
import Derived.Stop.LaidErr
import Derived.Test.YthmmmiknmkpbeaaGreatDoorRows
import Derived.WalkKit
import Derived.ProofKit
import Derived.OpenShut
import Derived.ShutString
import Derived.ChangeOld
import Derived.Below
import Derived.SizedLaws
import Derived.Carry
import Derived.Test.YthmmmiknmkpbeaaGreatDoorCFnPatchTexts1
import Derived.Test.YthmmmiknmkpbeaaGreatDoorCFnPatchTexts2
import Derived.Test.YthmmmiknmkpbeaaGreatDoorCFnPatchTexts3
import Derived.Test.YthmmmiknmkpbeaaGreatDoorCFnPatchTexts4
import Derived.Test.YthmmmiknmkpbeaaGreatDoorCFnPatchTexts5
section
set_option linter.unusedVariables false
set_option linter.unusedSimpArgs false
namespace Go.Proofs.YthmmmiknmkpbeaaGreatDoor.P
open Go.RowKit Go.Proofs.YthmmmiknmkpbeaaGreatDoorW.PrintWords Go.Proofs.YthmmmiknmkpbeaaGreatDoorW.PrintLast
abbrev HK:=S35
def sg(l:List ByteArray)(i j:Nat):List ByteArray:=(l.take j).drop i
theorem sg_len{l:List ByteArray}{i j:Nat}(h:j≤l.length):(sg l i j).length=j-i:=by
 unfold sg;rw[List.length_drop,List.length_take];omega
theorem sg_same(l:List ByteArray)(i:Nat):sg l i i=[]:=by
 unfold sg;rw[List.drop_eq_nil_iff,List.length_take];omega
theorem sg_next{l:List ByteArray}{i j:Nat}(h:i<j)(hj:j≤l.length):sg l i j=l[i]'(by omega)::sg l (i+1) j:=by
 unfold sg;(have hlt:i<(l.take j).length:=by rw[List.length_take];omega);rw[List.drop_eq_getElem_cons hlt,List.getElem_take]
theorem sg_cat{l:List ByteArray}{i j k:Nat}(h:i≤j)(h2:j≤k)(hk:k≤l.length):sg l i j++sg l j k=sg l i k:=by
 unfold sg;(have e:l.take k=l.take j++(l.take k).drop j:=by(conv=>lhs;rw[←List.take_append_drop j (l.take k)]);rw[List.take_take,Nat.min_eq_left h2]);(conv=>rhs;rw[e]);rw[List.drop_append_of_le_length (by rw[List.length_take];omega)]
theorem sg_rest{l:List ByteArray}{i j:Nat}(h:i≤j)(hj:j≤l.length):sg l i j++l.drop j=l.drop i:=by
 unfold sg;rw[←List.drop_append_of_le_length (by rw[List.length_take];omega),List.take_append_drop]
inductive Ld(a b:List ByteArray):List ByteArray→Nat→Nat→Nat→Nat→Prop
  |nil {i j:Nat}:Ld a b [] i j i j
  |stay {s:ByteArray} {l:List ByteArray} {i j i' j':Nat} (hm:mk s=32) (hi:i<a.length) (hj:j<b.length) (h1:a[i]=tlB s) (h2:b[j]=tlB s) (h:Ld a b l (i+1) (j+1) i' j'):Ld a b (s::l) i j i' j'
  |goes {s:ByteArray} {l:List ByteArray} {i j i' j':Nat} (hm:mk s=45) (hi:i<a.length) (h1:a[i]=tlB s) (h:Ld a b l (i+1) j i' j'):Ld a b (s::l) i j i' j'
  |come {s:ByteArray} {l:List ByteArray} {i j i' j':Nat} (hm:mk s=43) (hj:j<b.length) (h2:b[j]=tlB s) (h:Ld a b l i (j+1) i' j'):Ld a b (s::l) i j i' j'
theorem Ld.le{a b l:List ByteArray}{i j i' j':Nat}(h:Ld a b l i j i' j'):i≤i'∧j≤j'∧i'=i+hA l∧j'=j+hB l∧(i≤a.length→i'≤a.length)∧(j≤b.length→j'≤b.length):=by
 induction h with
 |nil=>simp[hA,hB]
 |stay hm hi hj h1 h2 h ih=>rw[hA,hB,hm,if_neg (by decide),if_neg (by decide)];omega
 |goes hm hi h1 h ih=>rw[hA,hB,hm,if_neg (by decide),if_pos rfl];omega
 |come hm hj h2 h ih=>rw[hA,hB,hm,if_pos rfl,if_neg (by decide)];omega
theorem Ld.cat{a b l m:List ByteArray}{i j i' j' i2 j2:Nat}(h:Ld a b l i j i' j')(g:Ld a b m i' j' i2 j2):Ld a b (l++m) i j i2 j2:=by
 induction h with
 |nil=>exact g
 |stay hm hi hj h1 h2 h ih=>exact .stay hm hi hj h1 h2 (ih g)
 |goes hm hi h1 h ih=>exact .goes hm hi h1 (ih g)
 |come hm hj h2 h ih=>exact .come hm hj h2 (ih g)
theorem Ld.app{a b l:List ByteArray}{i j i' j':Nat}(h:Ld a b l i j i' j')(o:List ByteArray):apL a l o i=some (o++sg b j j',i'):=by
 induction h generalizing o with
 |nil=>rw[apL,sg_same,List.append_nil]
 | @stay s l i j i' j' hm hi hj h1 h2 h ih=>
  have hle:=h.le;rw[apL,if_neg (by omega),dif_pos hi,if_pos h1,if_neg (by omega),ih,List.append_assoc,←h2];congr 3;exact(sg_next (by omega) (hle.2.2.2.2.2 (by omega))).symm
 |goes hm hi h1 h ih=>rw[apL,if_neg (by omega),dif_pos hi,if_pos h1,if_pos hm,ih]
 | @come s l i j i' j' hm hj h2 h ih=>
  have hle:=h.le;rw[apL,if_pos hm,ih,List.append_assoc,←h2];congr 3;exact(sg_next (by omega) (hle.2.2.2.2.2 (by omega))).symm
theorem mk_front(x:UInt8)(t:ByteArray):mk ((⟨#[x]⟩:ByteArray)++t)=(x.toNat:Int):=by
 unfold mk;(have hlt:0<((⟨#[x]⟩:ByteArray)++t).data.toList.length:=by rw[ByteArray.data_append,Array.toList_append];simp);have:=bt_nat hlt;rw[show(((0:Nat)):Int)=0 from rfl]at this;rw[this];congr 2
theorem tl_front(x:UInt8)(t:ByteArray):tlB ((⟨#[x]⟩:ByteArray)++t)=t:=by
 unfold tlB;apply data_eq.1;rw[ByteArray.toList_eq,tl_ext];unfold tl;rw[ByteArray.toList_eq,ByteArray.data_append,Array.toList_append];rfl
inductive Chn(a b:List ByteArray):List HK→Nat→Nat→Prop
  |nil {i j:Nat} (hi:i≤a.length) (hj:j≤b.length) (h:a.drop i=b.drop j):Chn a b [] i j
  |cons {h:HK} {r:List HK} {i j p q i' j':Nat} (e0:h.f0=(p:Int)) (e1:h.f1=(q:Int)) (hi:i≤p) (hj:j≤q) (hd:p-i=q-j) (ha:p≤a.length) (hb:q≤b.length) (hs:sg a i p=sg b j q) (hl:Ld a b h.f2 p q i' j') (hr:Chn a b r i' j'):Chn a b (h::r) i j
theorem Chn.app{a b:List ByteArray}{x:List HK}{i j:Nat}(h:Chn a b x i j)(hj:j≤b.length):apH a x (sg b 0 j) i=RLh b:=by
 induction h with
 |nil hi hj h=>
  rw[apH,h,sg_rest (Nat.zero_le _) hj];rfl
 | @cons h r i j p q i' j' e0 e1 hi hj' hd ha hb hs hl hr ih=>
  rw[apH,e0,if_neg (by omega),Int.toNat_natCast];rw[show(a.take p).drop i=sg a i p from rfl,hs,sg_cat (Nat.zero_le _) hj' hb,hl.app];have hle:=hl.le;rw[sg_cat (Nat.zero_le _) hle.2.1 (hle.2.2.2.2.2 hb)];exact ih (hle.2.2.2.2.2 hb)
end Go.Proofs.YthmmmiknmkpbeaaGreatDoor.P
end
section
set_option linter.unusedVariables false
namespace Go.Proofs.YthmmmiknmkpbeaaGreatDoor.P
open Go.RowKit Go.Proofs.YthmmmiknmkpbeaaGreatDoorW.PrintWords Go.Proofs.YthmmmiknmkpbeaaGreatDoorW.PrintLast
theorem rdc_nat{l:List S95}{i:Nat}(h:i<l.length):rd_T95 l (i:Int)=l[i]:=by
 unfold rd_T95;rw[Int.toNat_natCast,List.getD_eq_getElem?_getD,List.getElem?_eq_getElem h];rfl
end Go.Proofs.YthmmmiknmkpbeaaGreatDoor.P
end
section
set_option linter.unusedVariables false
set_option linter.unusedSimpArgs false
namespace Go.Proofs.YthmmmiknmkpbeaaGreatDoor.P
end Go.Proofs.YthmmmiknmkpbeaaGreatDoor.P
end
section
set_option linter.unusedVariables false
set_option linter.unusedSimpArgs false
namespace Go.Proofs.YthmmmiknmkpbeaaGreatDoor.P
open Go.RowKit Go.Proofs.YthmmmiknmkpbeaaGreatDoorW.PrintWords Go.Proofs.YthmmmiknmkpbeaaGreatDoorW.PrintLast
def ChIn(la lb:Int)(c:S95):Prop:=0≤c.f0∧c.f0≤la∧0≤c.f1∧c.f1≤la-c.f0∧0≤c.f2∧c.f2≤lb∧0≤c.f3∧c.f3≤lb-c.f2
instance (la lb:Int) (c:S95):Decidable (ChIn la lb c):=by unfold ChIn;infer_instance
def CF(la lb:Int):List S95→Int→Int→Bool→Int
  |[],_,_,_=>0
  |c::l,i,j,fst=>if¬ChIn la lb c then 3 else if(c.f1=0∧c.f3=0)∨c.f0-i≠c.f2-j∨c.f0<i∨(fst=false∧c.f0=i)then 1 else CF la lb l (c.f0+c.f1) (c.f2+c.f3) false
theorem CF_cons(la lb:Int)(c:S95)(l:List S95)(i j:Int)(fst:Bool):CF la lb (c::l) i j fst=if¬ChIn la lb c then 3 else if(c.f1=0∧c.f3=0)∨c.f0-i≠c.f2-j∨c.f0<i∨(fst=false∧c.f0=i)then 1 else CF la lb l (c.f0+c.f1) (c.f2+c.f3) false:=rfl
theorem total_app_(x y:List ByteArray):total (x++y)=total x+total y:=by
 induction x with
 |nil=>simp[total]
 |cons a l ih=>rw[List.cons_append,total,total,ih];omega
theorem total_drop(x:List ByteArray)(n:Nat):total (x.drop n)≤total x:=by
 (have h:total x=total (x.take n)+total (x.drop n):=by rw[←total_app_,List.take_append_drop]);omega
theorem total_take(x:List ByteArray)(n:Nat):total (x.take n)≤total x:=by
 (have h:total x=total (x.take n)+total (x.drop n):=by rw[←total_app_,List.take_append_drop]);omega
structure In3(x:List ByteArray)(n t:Nat):Prop where
  each:∀s∈x,s.size≤9223372036854775807
  many:x.length≤n
  all:total x≤t
theorem In3.app{x y:List ByteArray}{n t m u:Nat}(h:In3 x n t)(g:In3 y m u):In3 (x++y) (n+m) (t+u):=
  ⟨fun s hs=>(List.mem_append.1 hs).elim (h.each s) (g.each s),by rw[List.length_append];have:=h.many;have:=g.many;omega,by rw[total_app_];have:=h.all;have:=g.all;omega⟩
theorem In3.cut{x:List ByteArray}{n t:Nat}(h:In3 x n t)(i j:Nat):In3 ((x.take i).drop j) n t:=
  ⟨fun s hs=>h.each s (List.mem_of_mem_take (List.mem_of_mem_drop hs)),by simp only[List.length_drop,List.length_take];have:=h.many;omega,Nat.le_trans (total_drop _ _) (Nat.le_trans (total_take _ _) h.all)⟩
theorem In3.rest{x:List ByteArray}{n t:Nat}(h:In3 x n t)(j:Nat):In3 (x.drop j) n t:=
  ⟨fun s hs=>h.each s (List.mem_of_mem_drop hs),by simp only[List.length_drop];have:=h.many;omega,Nat.le_trans (total_drop _ _) h.all⟩
theorem In3.mono{x:List ByteArray}{n t m u:Nat}(h:In3 x n t)(h1:n≤m)(h2:t≤u):In3 x m u:=⟨h.each,Nat.le_trans h.many h1,Nat.le_trans h.all h2⟩
def WV(a b:List ByteArray):List S95→Int→List ByteArray
  |[],i=>a.drop i.toNat
  |c::l,i=>(a.take c.f0.toNat).drop i.toNat++((b.take (c.f2+c.f3).toNat).drop c.f2.toNat++WV a b l (c.f0+c.f1))
theorem WV_cons(a b:List ByteArray)(c:S95)(l:List S95)(i:Int):WV a b (c::l) i=(a.take c.f0.toNat).drop i.toNat++((b.take (c.f2+c.f3).toNat).drop c.f2.toNat++WV a b l (c.f0+c.f1)):=rfl
theorem CF_good{la lb:Int}{c:S95}{l:List S95}{i j:Int}{fst:Bool}(h:CF la lb (c::l) i j fst=0):ChIn la lb c∧i≤c.f0∧CF la lb l (c.f0+c.f1) (c.f2+c.f3) false=0:=by
 rw[CF_cons]at h;split at h;(·cases h);rename_i h1;split at h;(·cases h);rename_i h2;refine⟨Classical.byContradiction h1,?_,h⟩;exact Classical.byContradiction fun e=>h2 (.inr (.inr (.inl (by omega))))
end Go.Proofs.YthmmmiknmkpbeaaGreatDoor.P
end
section
set_option linter.unusedVariables false
set_option linter.unusedSimpArgs false
namespace Go.Proofs.YthmmmiknmkpbeaaGreatDoor.P
section
variable {α:Type} [DecidableEq α]
def lcs:List α→List α→Nat
  |[],_=>0
  |_::_,[]=>0
  |x::a,y::b=>if x=y then lcs a b+1 else max (lcs a (y::b)) (lcs (x::a) b)
termination_by a b=>a.length+b.length
theorem lcs_nil(b:List α):lcs [] b=0:=by rw[lcs]
theorem lcs_nil'(a:List α):lcs a []=0:=by cases a<;>rw[lcs]
theorem lcs_cons(x y:α)(a b:List α):lcs (x::a) (y::b)=if x=y then lcs a b+1 else max (lcs a (y::b)) (lcs (x::a) b):=by rw[lcs]
theorem lcs_both:∀(n:Nat) (a b:List α),a.length+b.length=n→(∀x,lcs a b≤lcs (x::a) b)∧(∀y,lcs a (y::b)≤lcs a b+1):=by
 intro n
 induction n using Nat.strongRecOn with
 |_ n ih=>
  intro a b hn;constructor
  ·intro x
   cases b with
   |nil=>rw[lcs_nil',lcs_nil'];exact Nat.le_refl _
   |cons y b=>
    rw[lcs_cons];split;(·exact(ih (a.length+b.length) (by simp at hn;omega) a b rfl).2 y);exact Nat.le_max_left _ _
  intro y
  cases a with
  |nil=>rw[lcs_nil,lcs_nil];omega
  |cons x a=>
   have h:=ih (a.length+b.length) (by simp at hn;omega) a b rfl;have h1:=h.1 x;have h2:=h.2 y;rw[lcs_cons];split<;>omega
theorem lcs_step(y:α)(a b:List α):lcs a (y::b)≤lcs a b+1:=(lcs_both _ a b rfl).2 y
theorem lcs_comm:∀(n:Nat) (a b:List α),a.length+b.length=n→lcs a b=lcs b a:=by
 intro n
 induction n using Nat.strongRecOn with
 |_ n ih=>
  intro a b hn
  cases a with
  |nil=>rw[lcs_nil,lcs_nil']
  |cons x a=>
   cases b with
   |nil=>rw[lcs_nil,lcs_nil']
   |cons y b=>
    simp only[List.length_cons]at hn;have h0:=ih (a.length+b.length) (by omega) a b rfl;have h1:=ih (a.length+(b.length+1)) (by omega) a (y::b) rfl;have h2:=ih (a.length+1+b.length) (by omega) (x::a) b rfl;rw[lcs_cons,lcs_cons];by_cases h:x=y;(·rw[if_pos h,if_pos h.symm,h0]);rw[if_neg h,if_neg (fun e=>h e.symm),h1,h2];exact Nat.max_comm _ _
theorem lcs_symm(a b:List α):lcs a b=lcs b a:=lcs_comm _ a b rfl
theorem lcs_step'(x:α)(a b:List α):lcs (x::a) b≤lcs a b+1:=by rw[lcs_symm (x::a) b,lcs_symm a b];exact lcs_step x b a
theorem lcs_le:∀(a b:List α),lcs a b≤a.length:=by
 intro a b
 induction a with
 |nil=>rw[lcs_nil];exact Nat.le_refl _
 |cons x a ih=>
  have:=lcs_step' x a b;simp only[List.length_cons];omega
theorem lcs_at{a b:List α}{i j:Nat}(hi:i<a.length)(hj:j<b.length):
    lcs (a.drop i) (b.drop j)=if a[i]=b[j]then lcs (a.drop (i+1)) (b.drop (j+1))+1 else max (lcs (a.drop (i+1)) (b.drop j)) (lcs (a.drop i) (b.drop (j+1))):=by
 rw[drop_at hi,drop_at hj,lcs_cons]
theorem lcs_at3{a b:List α}{i j:Nat}(hi:i<a.length)(hj:j<b.length)(h:a[i]=b[j]):
    lcs (a.drop i) (b.drop j)=max (max (lcs (a.drop (i+1)) (b.drop j)) (lcs (a.drop i) (b.drop (j+1)))) (lcs (a.drop (i+1)) (b.drop (j+1))+1):=by
 have e:=lcs_at hi hj;rw[if_pos h]at e;(have h1:lcs (a.drop (i+1)) (b.drop j)≤lcs (a.drop (i+1)) (b.drop (j+1))+1:=by rw[drop_at hj];exact lcs_step _ _ _);(have h2:lcs (a.drop i) (b.drop (j+1))≤lcs (a.drop (i+1)) (b.drop (j+1))+1:=by rw[drop_at hi];exact lcs_step' _ _ _);omega
end
theorem getD_set{β:Type}{l:List β}{i r:Nat}{x d:β}(h:i<l.length):(l.set i x).getD r d=if r=i then x else l.getD r d:=by
 rw[List.getD_eq_getElem?_getD,List.getD_eq_getElem?_getD,List.getElem?_set];by_cases e:i=r;rotate_left;(·rw[if_neg e,if_neg (fun z=>e z.symm)]);subst e;simp[h]
structure TabInv{α:Type}[DecidableEq α](a b:List α)(t:List (List Int))(i j:Nat):Prop where
  len:t.length=a.length+1
  rows:∀r,r≤a.length→(t.getD r []).length=b.length+1
  val:∀r c,r≤a.length→c≤b.length→(i≤r∨(r+1=i∧j≤c)∨c=b.length∨r=a.length)→(t.getD r []).getD c 0=(lcs (a.drop r) (b.drop c):Int)
theorem TabInv.start{α:Type}[DecidableEq α](a b:List α):TabInv a b (List.replicate (a.length+1) (List.replicate (b.length+1) 0)) (a.length) (b.length):=by
 (have hg:∀r,r≤a.length→(List.replicate (a.length+1) (List.replicate (b.length+1) (0:Int))).getD r []=List.replicate (b.length+1) 0:=fun r hr=>by rw[List.getD_eq_getElem?_getD,List.getElem?_replicate,if_pos (by omega)];rfl);refine⟨by simp,fun r hr=>by rw[hg r hr];simp,fun r c hr hc h=>?_⟩;rw[hg r hr,List.getD_eq_getElem?_getD,List.getElem?_replicate,if_pos (by omega),Option.getD_some];(have:lcs (a.drop r) (b.drop c)=0:=by(have hcase:c=b.length∨r=a.length:=by omega);(rcases hcase with e|e);(·rw[List.drop_eq_nil_of_le (show b.length≤c by omega),lcs_nil']);rw[List.drop_eq_nil_of_le (show a.length≤r by omega),lcs_nil]);rw[this];rfl
theorem TabInv.put{α:Type}[DecidableEq α]{a b:List α}{t:List (List Int)}{i j:Nat}(h:TabInv a b t (i+1) (j+1))(hi:i<a.length)(hj:j<b.length){v:Int}(hv:v=(lcs (a.drop i) (b.drop j):Int)):
    TabInv a b (t.set i ((t.getD i []).set j v)) (i+1) j:=by
 have hl:=h.len;have hr0:=h.rows i (by omega);refine⟨by rw[List.length_set];exact hl,fun r hr=>?_,fun r c hr hc hcase=>?_⟩;(·rw[getD_set (by omega)];split;(·rw[List.length_set];exact hr0);exact h.rows r hr);rw[getD_set (by omega)];by_cases e:r=i;rotate_left;(·rw[if_neg e];exact h.val r c hr hc (by omega));subst e;rw[if_pos rfl,getD_set (by omega)];by_cases e2:c=j;(·subst e2;rw[if_pos rfl,hv]);rw[if_neg e2];exact h.val r c hr hc (by omega)
theorem TabInv.next{α:Type}[DecidableEq α]{a b:List α}{t:List (List Int)}{i:Nat}(h:TabInv a b t (i+1) 0):TabInv a b t i b.length:=
  ⟨h.len,h.rows,fun r c hr hc hcase=>h.val r c hr hc (by omega)⟩
theorem TabInv.all{α:Type}[DecidableEq α]{a b:List α}{t:List (List Int)}{j:Nat}(h:TabInv a b t 0 j){r c:Nat}(hr:r≤a.length)(hc:c≤b.length):(t.getD r []).getD c 0=(lcs (a.drop r) (b.drop c):Int):=h.val r c hr hc (.inl (by omega))
end Go.Proofs.YthmmmiknmkpbeaaGreatDoor.P
end
section
set_option linter.unusedVariables false
set_option linter.unusedSimpArgs false
namespace Go.Proofs.YthmmmiknmkpbeaaGreatDoor.P
open Go.RowKit Go.Proofs.YthmmmiknmkpbeaaGreatDoorW.PrintWords Go.Proofs.YthmmmiknmkpbeaaGreatDoorW.PrintLast
theorem rdl_nat(t:List (List Int))(i:Nat):rd_L5 t (i:Int)=t.getD i []:=by
 unfold rd_L5;rw[Int.toNat_natCast]
theorem rd_getD(t:List Int)(i:Nat):rd t (i:Int)=t.getD i 0:=by
 unfold rd;rw[Int.toNat_natCast]
theorem max_tells(x y:Int):spec_l1Max.f x y=some (max x y):=by
 unfold spec_l1Max.f;split;(·rw[Int.max_def,if_neg (by omega)]);rw[Int.max_def,if_pos (by omega)]
theorem stab2(a b:List ByteArray)(ha:a.length≤1000000)(hb:b.length≤1000000)(i:Nat)(hi:i<a.length)(K:List (List Int)→Prop)
    (hK:∀t,TabInv a b t (i+1) 0→∃t',K t'∧Ev (fun k=>spec_l2Table.l1 k a b t (wrap64 ((i:Int)-1))) t'):∀(j:Nat) (t:List (List Int)),j≤b.length→TabInv a b t (i+1) j →
    ∃t',K t'∧Ev (fun k=>spec_l2Table.l2 k a b t (i:Int) ((j:Int)-1)) t':=by
 intro j
 induction j with
 |zero=>
  intro t hj ht;obtain⟨t',h1,h2⟩:=hK t ht;exact⟨t',h1,Ev.step (fun k=>by rw[spec_l2Table.l2]) (Ev_neg (by omega) h2)⟩
 |succ j ih=>
  intro t hj ht;have hl:=ht.len;have hri:=ht.rows i (by omega);have hri1:=ht.rows (i+1) (by omega);have e1:=ht.val (i+1) j (by omega) (by omega) (.inl (by omega));have e2:=ht.val i (j+1) (by omega) (by omega) (by omega);have e3:=ht.val (i+1) (j+1) (by omega) (by omega) (.inl (by omega));have hat:=lcs_at (a:=a) (b:=b) hi (show j<b.length by omega);have hb1:=lcs_le (a.drop i) (b.drop j);have hb3:=lcs_le (a.drop (i+1)) (b.drop (j+1));rw[List.length_drop]at hb1 hb3;obtain⟨t',h1,h2⟩:=ih (t.set i ((t.getD i []).set j ((lcs (a.drop i) (b.drop j):Nat):Int))) (by omega) (ht.put hi (by omega) rfl);refine⟨t',h1,Ev.step (fun k=>by rw[spec_l2Table.l2]) ?_⟩;rw[wsucc' (i:=i) (by omega),rdl_nat,rdl_nat,show((((j+1:Nat):Int))-1)=(j:Int)by omega,wsucc' (i:=j) (by omega),rd_getD,rd_getD,rd_getD,rd_nat _ hi,rd_nat _ (show j<b.length by omega),e1,e2,e3,Int.toNat_natCast,Int.toNat_natCast];refine Ev_pos (by omega) (Ev_pos (by omega) (Ev_pos (by omega) (Ev_pos (by omega) (Ev_pos (by omega) (Ev_pos (by omega) (Ev_pos (by omega) (Ev_pos (by omega) (Ev_pos (by omega) (Ev_const (max_tells _ _) (Ev_pos (by omega) (Ev_pos (by omega) ?_)))))))))));refine Ev_if (fun h=>?_) (fun h=>?_);rotate_left;(·(have hx:¬a[i]=b[j]:=fun e=>h (data_eq.2 e));rw[if_neg hx]at hat;refine Ev_pos (by omega) ?_;rw[show max ((lcs (a.drop (i+1)) (b.drop j):Nat):Int) ((lcs (a.drop i) (b.drop (j+1)):Nat):Int)=((lcs (a.drop i) (b.drop j):Nat):Int)by omega,wid (by omega) (by omega)];exact h2);have hx:=data_eq.1 h;have h3:=lcs_at3 (a:=a) (b:=b) hi (show j<b.length by omega) hx;rw[wid (by omega) (by omega)];refine Ev_pos (by omega) (Ev_const (max_tells _ _) (Ev_pos (by omega) ?_));rw[show max (max ((lcs (a.drop (i+1)) (b.drop j):Nat):Int) ((lcs (a.drop i) (b.drop (j+1)):Nat):Int)) (1+((lcs (a.drop (i+1)) (b.drop (j+1)):Nat):Int))=((lcs (a.drop i) (b.drop j):Nat):Int)by omega,wid (by omega) (by omega)];exact h2
theorem stab1(a b:List ByteArray)(ha:a.length≤1000000)(hb:b.length≤1000000):∀(i:Nat) (t:List (List Int)),i≤a.length→TabInv a b t i b.length→∃t',TabInv a b t' 0 b.length∧Ev (fun k=>spec_l2Table.l1 k a b t ((i:Int)-1)) t':=by
 intro i
 induction i with
 |zero=>
  intro t hi ht;exact⟨t,ht,Ev.step (fun k=>by rw[spec_l2Table.l1]) (Ev_neg (by omega) (Ev.now _))⟩
 |succ i ih=>
  intro t hi ht
  obtain⟨t',h1,h2⟩:=stab2 a b ha hb i (by omega) (fun t'=>TabInv a b t' 0 b.length) (fun t ht=>by
    obtain⟨t',h1,h2⟩:=ih t (by omega) ht.next
    exact⟨t',h1,by rw[wid (by omega) (by omega)];exact h2⟩) b.length t (Nat.le_refl _) ht
  refine⟨t',h1,Ev.step (fun k=>by rw[spec_l2Table.l1]) (Ev_pos (by omega) ?_)⟩;rw[wid (x:=(b.length:Int)-1) (by omega) (by omega),show(((i+1:Nat):Int)-1)=(i:Int)by omega];exact h2
theorem stab0(a b:List ByteArray)(ha:a.length≤1000000)(hb:b.length≤1000000)(t':List (List Int))(h:Ev (fun k=>spec_l2Table.l1 k a b (List.replicate (a.length+1) (List.replicate (b.length+1) 0)) ((a.length:Int)-1)) t'):
    ∀(d i:Nat),a.length+1-i=d→i≤a.length+1→Ev (fun k=>spec_l2Table.l0 k a b (List.replicate i (List.replicate (b.length+1) 0)) (i:Int)) t':=by
 intro d
 induction d with
 |zero=>
  intro i hd hi;(have:i=a.length+1:=by omega);subst this;refine Ev.step (fun k=>by rw[spec_l2Table.l0]) (Ev_neg (by omega) ?_);rw[wid (by omega) (by omega)];exact h
 |succ d ih=>
  intro i hd hi;refine Ev.step (fun k=>by rw[spec_l2Table.l0]) (Ev_pos (by omega) ?_);rw[wsucc' (i:=b.length) (by omega),wsucc' (i:=i) (by omega),Int.toNat_natCast];refine Ev_pos (by omega) (Ev_pos (by omega) (Ev_pos (by rw[List.length_replicate];omega) ?_));rw[←List.replicate_succ'];exact ih (i+1) (by omega) (by omega)
theorem stab_tells(a b:List ByteArray)(ha:a.length≤1000000)(hb:b.length≤1000000):∃t,TabInv a b t 0 b.length∧Ev (fun k=>spec_l2Table.f k a b) t:=by
 obtain⟨t,h1,h2⟩:=stab1 a b ha hb a.length _ (Nat.le_refl _) (TabInv.start a b);refine⟨t,h1,?_⟩;unfold spec_l2Table.f;exact stab0 a b ha hb t h2 _ 0 rfl (by omega)
def mt:List ByteArray→List ByteArray→Nat→Nat→List Int × List Int
  |[],_,_,_=>([],[])
  |_::_,[],_,_=>([],[])
  |x::a,y::b,i,j=>if x=y then((i:Int)::(mt a b (i+1) (j+1)).1,(j:Int)::(mt a b (i+1) (j+1)).2)else if lcs (x::a) b≤lcs a (y::b)then mt a (y::b) (i+1) j else mt (x::a) b i (j+1)
termination_by a b=>a.length+b.length
theorem mt_nil(b:List ByteArray)(i j:Nat):mt [] b i j=([],[]):=by rw[mt]
theorem mt_nil'(a:List ByteArray)(i j:Nat):mt a [] i j=([],[]):=by cases a<;>rw[mt]
theorem mt_eq{a b:List ByteArray}{i j:Nat}(hi:i<a.length)(hj:j<b.length)(h:a[i]=b[j])(p q:Nat):
    mt (a.drop i) (b.drop j) p q=((p:Int)::(mt (a.drop (i+1)) (b.drop (j+1)) (p+1) (q+1)).1,(q:Int)::(mt (a.drop (i+1)) (b.drop (j+1)) (p+1) (q+1)).2):=by
 rw[drop_at hi,drop_at hj,mt,if_pos h]
theorem mt_a{a b:List ByteArray}{i j:Nat}(hi:i<a.length)(hj:j<b.length)(h:¬a[i]=b[j])(h2:lcs (a.drop i) (b.drop (j+1))≤lcs (a.drop (i+1)) (b.drop j))(p q:Nat):
    mt (a.drop i) (b.drop j) p q=mt (a.drop (i+1)) (b.drop j) (p+1) q:=by
 rw[drop_at hi,drop_at hj]at *;rw[mt,if_neg h,if_pos h2]
theorem mt_b{a b:List ByteArray}{i j:Nat}(hi:i<a.length)(hj:j<b.length)(h:¬a[i]=b[j])(h2:¬lcs (a.drop i) (b.drop (j+1))≤lcs (a.drop (i+1)) (b.drop j))(p q:Nat):
    mt (a.drop i) (b.drop j) p q=mt (a.drop i) (b.drop (j+1)) p (q+1):=by
 rw[drop_at hi,drop_at hj]at *;rw[mt,if_neg h,if_neg h2]
def Inc(A B:Int):List Int→List Int→Int→Int→Prop
  |[],[],i,j=>i≤A∧j≤B
  |u::us,v::vs,i,j=>i≤u∧j≤v∧Inc A B us vs (u+1) (v+1)
  |[],_::_,_,_=>False
  |_::_,[],_,_=>False
theorem mt_inc:∀(n:Nat) (a b:List ByteArray) (i j:Nat) (i' j':Int),a.length+b.length=n→i'≤i→j'≤j→Inc ((i+a.length:Nat):Int) ((j+b.length:Nat):Int) (mt a b i j).1 (mt a b i j).2 i' j':=by
 intro n
 induction n using Nat.strongRecOn with
 |_ n ih=>
  intro a b i j i' j' hn hi hj
  cases a with
  |nil=>
   rw[mt_nil];exact⟨by simp only[List.length_nil];omega,by omega⟩
  |cons x a=>
   cases b with
   |nil=>
    rw[mt_nil'];exact⟨by omega,by simp only[List.length_nil];omega⟩
   |cons y b=>
    simp only[List.length_cons]at hn ⊢;rw[mt];split;(·have:=ih _ (by omega) a b (i+1) (j+1) ((i:Int)+1) ((j:Int)+1) rfl (by omega) (by omega);rw[show i+(a.length+1)=i+1+a.length by omega,show j+(b.length+1)=j+1+b.length by omega];exact⟨hi,hj,this⟩);split;(·have:=ih _ (by simp only[List.length_cons];omega) a (y::b) (i+1) j i' j' rfl (by omega) (by omega);rw[show i+(a.length+1)=i+1+a.length by omega];exact this);have:=ih _ (by simp only[List.length_cons];omega) (x::a) b i (j+1) i' j' rfl (by omega) (by omega);rw[show j+(b.length+1)=j+1+b.length by omega];exact this
theorem mt_len:∀(n:Nat) (a b:List ByteArray) (i j:Nat),a.length+b.length=n→(mt a b i j).1.length=lcs a b∧(mt a b i j).2.length=lcs a b:=by
 intro n
 induction n using Nat.strongRecOn with
 |_ n ih=>
  intro a b i j hn
  cases a with
  |nil=>rw[mt_nil,lcs_nil];exact⟨rfl,rfl⟩
  |cons x a=>
   cases b with
   |nil=>rw[mt_nil',lcs_nil'];exact⟨rfl,rfl⟩
   |cons y b=>
    simp only[List.length_cons]at hn;rw[mt,lcs_cons];split;(·have:=ih _ (by omega) a b (i+1) (j+1) rfl;exact⟨by rw[List.length_cons,this.1],by rw[List.length_cons,this.2]⟩);split;(·rename_i h1 h2;have:=ih _ (by simp only[List.length_cons];omega) a (y::b) (i+1) j rfl;rw[Nat.max_eq_left h2];exact this);rename_i h1 h2;have:=ih _ (by simp only[List.length_cons];omega) (x::a) b i (j+1) rfl;rw[Nat.max_eq_right (by omega)];exact this
theorem spec_l2Match_loop(a b:List ByteArray)(ha:a.length≤1000000)(hb:b.length≤1000000)(t:List (List Int))(ht:TabInv a b t 0 b.length):∀(n i j:Nat) (x y:List Int),(a.length-i)+(b.length-j)=n→i≤a.length→j≤b.length→x.length≤i→y.length≤j →
    Ev (fun k=>spec_l2Match.l0 k a b t x y (i:Int) (j:Int)) (x++(mt (a.drop i) (b.drop j) i j).1,y++(mt (a.drop i) (b.drop j) i j).2):=by
 intro n
 induction n using Nat.strongRecOn with
 |_ n ih=>
  intro i j x y hn hi hj hx hy;by_cases h:i<a.length∧j<b.length;rotate_left;(·(have hm:mt (a.drop i) (b.drop j) i j=([],[]):=by by_cases h1:i<a.length;(·rw[List.drop_eq_nil_of_le (show b.length≤j by omega),mt_nil']);rw[List.drop_eq_nil_of_le (show a.length≤i by omega),mt_nil]);rw[hm,List.append_nil,List.append_nil];have e:Ev (fun k=>spec_l2Match.j1 k a b t x y (i:Int) (j:Int) false) (x,y):=Ev.step (fun k=>by rw[spec_l2Match.j1]) (Ev_neg (by simp) (Ev.now _));refine Ev.step (fun k=>by rw[spec_l2Match.l0]) (Ev_if (fun h1=>?_) (fun h1=>e));rw[show(decide ((j:Int)<(b.length:Int)))=false from decide_eq_false (by omega)];exact e);obtain⟨h1,h2⟩:=h;have hl:=ht.len;have r0:=ht.rows i (by omega);have r1:=ht.rows (i+1) (by omega);have v1:=ht.all (r:=i+1) (c:=j) (by omega) (by omega);have v2:=ht.all (r:=i) (c:=j+1) (by omega) (by omega);refine Ev.step (fun k=>by rw[spec_l2Match.l0]) (Ev_pos (by omega) ?_);rw[show(decide ((j:Int)<(b.length:Int)))=true from decide_eq_true (by omega)];refine Ev.step (fun k=>by rw[spec_l2Match.j1]) (Ev_pos rfl (Ev_pos (by omega) (Ev_pos (by omega) (Ev_pos (by omega) (Ev_pos (by omega) ?_)))));rw[rd_nat _ h1,rd_nat _ h2,wsucc' (i:=i) (by omega),wsucc' (i:=j) (by omega),rdl_nat,rdl_nat,rd_getD,rd_getD,v1,v2];refine Ev_if (fun h=>?_) (fun h=>?_);(·rw[mt_eq h1 h2 (data_eq.1 h)];refine Ev_pos (by omega) (Ev_pos (by omega) ?_);have e:=ih _ (by omega) (i+1) (j+1) (x++[(i:Int)]) (y++[(j:Int)]) rfl (by omega) (by omega) (by simp;omega) (by simp;omega);rw[List.append_assoc,List.append_assoc]at e;exact e);(have hne:¬a[i]=b[j]:=fun e=>h (data_eq.2 e));refine Ev_pos (by omega) (Ev_pos (by omega) (Ev_pos (by omega) (Ev_pos (by omega) (Ev_pos (by omega) (Ev_pos (by omega) ?_)))));refine Ev_if (fun h3=>?_) (fun h3=>?_);(·rw[mt_a h1 h2 hne (by omega)];exact ih _ (by omega) (i+1) j x y rfl (by omega) (by omega) (by omega) (by omega));rw[mt_b h1 h2 hne (by omega)];exact ih _ (by omega) i (j+1) x y rfl (by omega) (by omega) (by omega) (by omega)
theorem spec_l2Match_tells(a b:List ByteArray)(ha:a.length≤1000000)(hb:b.length≤1000000):Ev (fun k=>spec_l2Match.f k a b) (mt a b 0 0):=by
 obtain⟨t,h1,h2⟩:=stab_tells a b ha hb;unfold spec_l2Match.f;refine Ev_call h2 ?_;have e:=spec_l2Match_loop a b ha hb t h1 _ 0 0 [] [] rfl (by omega) (by omega) (by simp) (by simp);rw[List.drop_zero,List.drop_zero,List.nil_append,List.nil_append]at e;exact e
end Go.Proofs.YthmmmiknmkpbeaaGreatDoor.P
end
section
set_option linter.unusedVariables false
set_option linter.unusedSimpArgs false
namespace Go.Proofs.YthmmmiknmkpbeaaGreatDoor.P
end Go.Proofs.YthmmmiknmkpbeaaGreatDoor.P
end
section
set_option linter.unusedVariables false
set_option linter.unusedSimpArgs false
namespace Go.Proofs.YthmmmiknmkpbeaaGreatDoor.P
open Go.RowKit Go.Proofs.YthmmmiknmkpbeaaGreatDoorW.PrintWords Go.Proofs.YthmmmiknmkpbeaaGreatDoorW.PrintLast
def Inc2(M:Int):List Int→List Int→Int→Int→Prop
  |[],[],_,_=>True
  |u::us,v::vs,i,j=>i≤u∧j≤v∧u≤M∧v≤M∧Inc2 M us vs (u+1) (v+1)
  |[],_::_,_,_=>False
  |_::_,[],_,_=>False
theorem Inc.two{A B M:Int}(hA:A≤M)(hB:B≤M):∀(p q:List Int) (i j:Int),Inc A B p q i j→i≤A∧j≤B∧Inc2 M (p++[A]) (q++[B]) i j
  |[],[],i,j,h=>⟨h.1,h.2,h.1,h.2,hA,hB,trivial⟩
  |u::us,v::vs,i,j,h=>by
    obtain⟨h1,h2,h3⟩:=h
    obtain⟨h4,h5,h6⟩:=Inc.two hA hB us vs _ _ h3
    exact⟨by omega,by omega,h1,h2,by omega,by omega,h6⟩
  |[],_::_,_,_,h=>h.elim
  |_::_,[],_,_,h=>h.elim
theorem Inc2.len{M:Int}:∀(p q:List Int) (i j:Int),Inc2 M p q i j→p.length=q.length
  |[],[],_,_,_=>rfl
  |_::us,_::vs,_,_,h=>by rw[List.length_cons,List.length_cons,Inc2.len us vs _ _ h.2.2.2.2]
  |[],_::_,_,_,h=>h.elim
  |_::_,[],_,_,h=>h.elim
def chs:List Int→List Int→Int→Int→List S95
  |u::us,v::vs,i,j=>if u>i∨v>j then⟨i,u-i,j,v-j⟩::chs us vs (u+1) (v+1)else chs us vs (u+1) (v+1)
  |_,_,_,_=>[]
theorem chs_cons(u v:Int)(us vs:List Int)(i j:Int):chs (u::us) (v::vs) i j=if u>i∨v>j then⟨i,u-i,j,v-j⟩::chs us vs (u+1) (v+1)else chs us vs (u+1) (v+1):=rfl
theorem sch_loop(us vs:List Int)(hl:us.length≤2000000)(he:us.length=vs.length):∀(d n:Nat) (o:List S95) (i j:Int),us.length-n=d→n≤us.length→o.length≤n→0≤i→0≤j→Inc2 1000000 (us.drop n) (vs.drop n) i j →
    Ev (fun k=>spec_l2Changes.l0 k us vs o i j (n:Int)) (o++chs (us.drop n) (vs.drop n) i j):=by
 intro d
 induction d with
 |zero=>
  intro n o i j hd hn ho hi hj h;refine Ev.step (fun k=>by rw[spec_l2Changes.l0]) (Ev_neg (by omega) (Ev_val ?_));rw[List.drop_eq_nil_of_le (show us.length≤n by omega),List.drop_eq_nil_of_le (show vs.length≤n by omega)];exact(List.append_nil _).symm
 |succ d ih=>
  intro n o i j hd hn ho hi hj h;(have h1:n<us.length:=by omega);(have h2:n<vs.length:=by omega);rw[drop_at h1,drop_at h2]at h ⊢;obtain⟨g1,g2,g3,g4,g5⟩:=h;rw[chs_cons];refine Ev.step (fun k=>by rw[spec_l2Changes.l0]) (Ev_pos (by omega) (Ev_pos (by omega) ?_));rw[rdi_nat h1,rdi_nat h2,wid (x:=us[n]-i) (by omega) (by omega),wid (x:=vs[n]-j) (by omega) (by omega),wid (x:=us[n]+1) (by omega) (by omega),wid (x:=vs[n]+1) (by omega) (by omega),wsucc' (by omega)];(have go1:Ev (fun k=>spec_l2Changes.l0 k us vs (o++[⟨i,us[n]-i,j,vs[n]-j⟩]) (us[n]+1) (vs[n]+1) ((n+1:Nat):Int)) (o++⟨i,us[n]-i,j,vs[n]-j⟩::chs (us.drop (n+1)) (vs.drop (n+1)) (us[n]+1) (vs[n]+1)):=by have:=ih (n+1) (o++[⟨i,us[n]-i,j,vs[n]-j⟩]) (us[n]+1) (vs[n]+1) (by omega) (by omega) (by simp;omega) (by omega) (by omega) g5;rw[List.append_assoc]at this;exact this);refine Ev_if (fun h=>?_) (fun h=>?_);(·rw[if_pos (.inl h)];exact Ev_pos (by omega) (Ev_pos (by omega) go1));refine Ev_pos (by omega) (Ev_if (fun h3=>?_) (fun h3=>?_));(·rw[if_pos (.inr h3)];exact Ev_pos (by omega) go1);rw[if_neg (by omega)];exact ih (n+1) o (us[n]+1) (vs[n]+1) (by omega) (by omega) (by omega) (by omega) (by omega) g5
def CHS(a b:List ByteArray):List S95:=chs ((mt a b 0 0).1++[(a.length:Int)]) ((mt a b 0 0).2++[(b.length:Int)]) 0 0
theorem chs_ready(a b:List ByteArray)(ha:a.length≤1000000)(hb:b.length≤1000000):Inc2 1000000 ((mt a b 0 0).1++[(a.length:Int)]) ((mt a b 0 0).2++[(b.length:Int)]) 0 0∧((mt a b 0 0).1++[(a.length:Int)]).length≤1000001∧((mt a b 0 0).2++[(b.length:Int)]).length≤1000001:=by
 have h:=mt_inc _ a b 0 0 0 0 rfl (by omega) (by omega);rw[Nat.zero_add,Nat.zero_add]at h;have h2:=(Inc.two (M:=1000000) (by omega) (by omega) _ _ _ _ h).2.2;have hl:=mt_len _ a b 0 0 rfl;have hle:=lcs_le a b;refine⟨h2,?_,?_⟩;(·rw[List.length_append,hl.1];simp;omega);rw[List.length_append,hl.2];simp;omega
theorem sch_tells(a b:List ByteArray)(ha:a.length≤1000000)(hb:b.length≤1000000):Ev (fun k=>spec_l2Changes.f k a b) (CHS a b):=by
 obtain⟨h1,h2,h3⟩:=chs_ready a b ha hb;have he:=Inc2.len _ _ _ _ h1;unfold spec_l2Changes.f;refine Ev_call (spec_l2Match_tells a b ha hb) (Ev_pos (by rw[List.length_append]at h2;simp at h2;omega) (Ev_pos (by rw[List.length_append]at h3;simp at h3;omega) ?_));have:=sch_loop _ _ (by omega) he _ 0 [] 0 0 rfl (by omega) (by simp) (by omega) (by omega) (by rw[List.drop_zero,List.drop_zero];exact h1);rw[List.drop_zero,List.drop_zero,List.nil_append]at this;exact this
def Code(c:List Int):Prop:=∀x∈c,0≤x∧x≤255
theorem Code.rd{c:List Int}(hc:Code c){i:Int}(h0:0≤i)(h1:i<(c.length:Int)):0≤rd c i∧rd c i≤255:=by
 obtain⟨n,rfl⟩:=Int.eq_ofNat_of_zero_le h0;(have hn:n<c.length:=by omega);rw[rdi_nat hn];exact hc _ (List.getElem_mem hn)
theorem next_tells{c:List Int}(hc:Code c){p n:Int}(h0:0≤p)(h1:p≤1000000)(hn:n≤1000000):∃v,spec_l1Next.f c p n=some (v,p+1)∧0≤v∧(1≤n→v<n):=by
 unfold spec_l1Next.f;rw[wid (x:=p+1) (by omega) (by omega),show p+1-1=p by omega,wid (x:=p) (by omega) (by omega)];by_cases c0:n<1;(·rw[if_pos c0];exact⟨0,rfl,by omega,by omega⟩);rw[if_neg c0];by_cases c1:(c.length:Int)=0;(·rw[if_pos c1,if_neg (by omega),wid (x:=p*7) (by omega) (by omega)];exact⟨_,rfl,Int.tmod_nonneg _ (by omega),fun _=>Int.tmod_lt_of_pos _ (by omega)⟩);rw[if_neg c1];have q0:0≤Int.tmod p (c.length:Int):=Int.tmod_nonneg _ h0;have q1:Int.tmod p (c.length:Int)<(c.length:Int):=Int.tmod_lt_of_pos _ (by omega);have r1:=hc.rd q0 q1;rw[if_pos q0,if_pos q1];have d0:0≤Int.tdiv p (c.length:Int):=Int.tdiv_nonneg h0 (by omega);have d1:Int.tdiv p (c.length:Int)≤p:=Int.tdiv_le_self _ h0;rw[wid (x:=Int.tdiv p (c.length:Int)) (by omega) (by omega),wid (x:=rd c (Int.tmod p (c.length:Int))) (by omega) (by omega),wid (x:=Int.tdiv p (c.length:Int)*37) (by omega) (by omega),wid (x:=rd c (Int.tmod p (c.length:Int))+Int.tdiv p (c.length:Int)*37) (by omega) (by omega)];by_cases c2:n>200;rotate_left;(·rw[if_neg c2,if_neg (by omega)];exact⟨_,rfl,Int.tmod_nonneg _ (by omega),fun _=>Int.tmod_lt_of_pos _ (by omega)⟩);rw[if_pos c2,wid (x:=p+1) (by omega) (by omega)];have q2:0≤Int.tmod (p+1) (c.length:Int):=Int.tmod_nonneg _ (by omega);have q3:Int.tmod (p+1) (c.length:Int)<(c.length:Int):=Int.tmod_lt_of_pos _ (by omega);have r2:=hc.rd q2 q3
 rw[if_pos q2,if_pos q3,if_neg (by omega),wid (x:=rd c (Int.tmod (p+1) (c.length:Int))) (by omega) (by omega),wid (x:=rd c (Int.tmod (p+1) (c.length:Int))*13) (by omega) (by omega),
   wid (x:=(rd c (Int.tmod p (c.length:Int))+Int.tdiv p (c.length:Int)*37)*251) (by omega) (by omega),wid (x:=(rd c (Int.tmod p (c.length:Int))+Int.tdiv p (c.length:Int)*37)*251+rd c (Int.tmod (p+1) (c.length:Int))*13) (by omega) (by omega),wid (by omega) (by omega)]
 exact⟨_,rfl,Int.tmod_nonneg _ (by omega),fun _=>Int.tmod_lt_of_pos _ (by omega)⟩
theorem chance_tells{c:List Int}(hc:Code c){p n:Int}(h0:0≤p)(h1:p≤1000000)(hn:n≤1000000):∃b,spec_l1Chance.f c p n=some (b,p+1):=by
 obtain⟨v,e,_⟩:=next_tells hc h0 h1 hn;unfold spec_l1Chance.f;rw[e];exact⟨_,rfl⟩
def Lin(lo hi:Nat)(l:List ByteArray):Prop:=∀x∈l,lo≤x.size∧x.size≤hi
theorem Lin.mono{lo hi lo' hi':Nat}{l:List ByteArray}(h:Lin lo hi l)(h1:lo'≤lo)(h2:hi≤hi'):Lin lo' hi' l:=fun x hx=>⟨Nat.le_trans h1 (h x hx).1,Nat.le_trans (h x hx).2 h2⟩
theorem Lin.app{lo hi:Nat}{l m:List ByteArray}(h:Lin lo hi l)(g:Lin lo hi m):Lin lo hi (l++m):=fun x hx=>by
  rcases List.mem_append.1 hx with hx|hx
  · exact h x hx
  · exact g x hx
theorem Lin.one{lo hi:Nat}{s:ByteArray}(h:lo≤s.size∧s.size≤hi):Lin lo hi [s]:=fun x hx=>by
  rw[List.mem_singleton.1 hx]
  exact h
theorem Lin.take{lo hi:Nat}{l:List ByteArray}(h:Lin lo hi l)(n:Nat):Lin lo hi (l.take n):=fun x hx=>h x (List.mem_of_mem_take hx)
theorem Lin.drop{lo hi:Nat}{l:List ByteArray}(h:Lin lo hi l)(n:Nat):Lin lo hi (l.drop n):=fun x hx=>h x (List.mem_of_mem_drop hx)
theorem Lin.set{lo hi:Nat}{l:List ByteArray}(h:Lin lo hi l)(i:Nat){s:ByteArray}(hs:lo≤s.size∧s.size≤hi):Lin lo hi (l.set i s):=fun x hx=>by
  rcases List.mem_or_eq_of_mem_set hx with hx|rfl
  · exact h x hx
  · exact hs
theorem Lin.total{lo hi:Nat}:∀{l:List ByteArray},Lin lo hi l→total l≤hi*l.length:=by
 intro l
 induction l with
 |nil=>intro _;simp[Go.Proofs.YthmmmiknmkpbeaaGreatDoor.P.total]
 |cons x l ih=>
  intro h;have h1:=(h x (by simp)).2;have h2:=ih (fun y hy=>h y (by simp[hy]));simp only[Go.Proofs.YthmmmiknmkpbeaaGreatDoor.P.total,List.length_cons,Nat.mul_add,Nat.mul_one];omega
theorem Lin.small{lo hi:Nat}{l:List ByteArray}(h:Lin lo hi l)(hh:hi≤1000)(hl:l.length≤1000):Small l:=by
 have:=h.total;refine⟨fun x hx=>by have:=(h x hx).2;omega,by omega,?_⟩;have:hi*l.length≤1000*1000:=Nat.mul_le_mul hh hl;omega
theorem end_size(s:ByteArray):(s++(⟨#[10]⟩:ByteArray)).size=s.size+1:=by
 rw[ByteArray.size_append];rfl
theorem word_tells{c:List Int}(hc:Code c){p:Int}(h0:0≤p)(h1:p≤1000000):∃s,spec_l1Word.f c p=some (s,p+1)∧s.size≤7:=by
 obtain⟨v,e,v0,v1⟩:=next_tells hc (n:=9) h0 h1 (by omega);unfold spec_l1Word.f;rw[Option.bind_some,e,Option.bind_some];have v2:=v1 (by omega);obtain⟨n,rfl⟩:=Int.eq_ofNat_of_zero_le v0;(have hn:n<([(⟨#[97]⟩:ByteArray),(⟨#[98]⟩:ByteArray),(⟨#[99]⟩:ByteArray),(⟨#[100]⟩:ByteArray),(⟨#[120,32,121]⟩:ByteArray),(⟨#[]⟩:ByteArray),(⟨#[60,60,60,60,60,60,60]⟩:ByteArray),(⟨#[61,61,61,61,61,61,61]⟩:ByteArray),(⟨#[111,110,101]⟩:ByteArray)]:List ByteArray).length:=by show n<9;omega);rw[if_pos v0,if_pos (by omega),rd_nat _ hn];refine⟨_,rfl,?_⟩;(have all:∀x∈([(⟨#[97]⟩:ByteArray),(⟨#[98]⟩:ByteArray),(⟨#[99]⟩:ByteArray),(⟨#[100]⟩:ByteArray),(⟨#[120,32,121]⟩:ByteArray),(⟨#[]⟩:ByteArray),(⟨#[60,60,60,60,60,60,60]⟩:ByteArray),(⟨#[61,61,61,61,61,61,61]⟩:ByteArray),(⟨#[111,110,101]⟩:ByteArray)]:List ByteArray),x.size≤7:=by decide);exact all _ (List.getElem_mem hn)
theorem lines_loop{c:List Int}(hc:Code c):∀(d:Nat) (p:Int) (o:List ByteArray),d≤100→0≤p→p≤900000+(100-d)→o.length+d≤1000→Lin 1 8 o →
    ∃r q,Ev (fun k=>spec_l1Lines.l0 k (d:Int) o c p) (r,q)∧Lin 1 8 r∧r.length≤o.length+d∧p≤q∧q≤p+d+2:=by
 intro d
 induction d with
 |zero=>
  intro p o hd h0 h1 ho hl;by_cases c0:(o.length:Int)>0;rotate_left;(·exact⟨o,p,Ev.step (fun k=>by rw[spec_l1Lines.l0]) (Ev_neg (by omega) (Ev_neg c0 (Ev.now _))),hl,by omega,by omega,by omega⟩);obtain⟨b,e⟩:=chance_tells hc (p:=p) (n:=5) h0 (by omega) (by omega)
  cases b with
  |false=>
   refine⟨o,p+1,Ev.step (fun k=>by rw[spec_l1Lines.l0]) ?_,hl,by omega,by omega,by omega⟩;refine Ev_neg (by omega) (Ev_pos c0 (Ev_const e ?_));exact Ev_neg (by simp) (Ev.now _)
  |true=>
   obtain⟨v,e2,v0,v1⟩:=next_tells hc (p:=p+1) (n:=3) (by omega) (by omega) (by omega);have v2:=v1 (by omega);obtain⟨n,rfl⟩:=Int.eq_ofNat_of_zero_le v0;(have hn:n<([(⟨#[122]⟩:ByteArray),(⟨#[97]⟩:ByteArray),(⟨#[101,110,100]⟩:ByteArray)]:List ByteArray).length:=by show n<3;omega);(have all:∀x∈([(⟨#[122]⟩:ByteArray),(⟨#[97]⟩:ByteArray),(⟨#[101,110,100]⟩:ByteArray)]:List ByteArray),1≤x.size∧x.size≤8:=by decide);refine⟨o.set ((o.length:Int)-1).toNat ([(⟨#[122]⟩:ByteArray),(⟨#[97]⟩:ByteArray),(⟨#[101,110,100]⟩:ByteArray)]:List ByteArray)[n],p+1+1,?_,hl.set _ (all _ (List.getElem_mem hn)),by rw[List.length_set];omega,by omega,by omega⟩;refine Ev.step (fun k=>by rw[spec_l1Lines.l0]) ?_;refine Ev_neg (by omega) (Ev_pos c0 (Ev_const e ?_));refine Ev_pos rfl (Ev_const rfl (Ev_const e2 ?_));refine Ev_pos v0 (Ev_pos (by omega) ?_);rw[wid (by omega) (by omega),rd_nat _ hn];exact Ev_pos (by omega) (Ev_pos (by omega) (Ev.now _))
 |succ d ih=>
  intro p o hd h0 h1 ho hl;obtain⟨s,e,hs⟩:=word_tells hc (p:=p) h0 (by omega);obtain⟨r,q,hr,g1,g2,g3,g4⟩:=ih (p+1) (o++[s++(⟨#[10]⟩:ByteArray)]) (by omega) (by omega) (by omega) (by rw[List.length_append];simp only[List.length_singleton];omega) (hl.app (Lin.one (by rw[end_size];omega)));rw[List.length_append,List.length_singleton]at g2;refine⟨r,q,Ev.step (fun k=>by rw[spec_l1Lines.l0]) ?_,g1,by omega,by omega,by omega⟩;refine Ev_pos (by omega) (Ev_const e ?_);rw[wpred (by omega)];refine Ev_pos (by show s.size+1≤9223372036854775807;omega) (Ev_pos (by omega) ?_);exact hr
theorem near_pass{c:List Int}(p:Int):∀(y x:List ByteArray),x.length+y.length≤1000→Lin 1 9 x→Lin 1 8 y→∃r,Ev (fun k=>spec_l1Near.l1 k (x++y) (x.length:Int) c p) (r,p)∧Lin 1 9 r∧r.length=x.length+y.length:=by
 intro y
 induction y with
 |nil=>
  intro x hl hx hy;refine⟨x,Ev.step (fun k=>by rw[spec_l1Near.l1]) ?_,hx,rfl⟩;rw[List.append_nil,wid (by omega) (by omega)];exact Ev_neg (by omega) (Ev.now _)
 |cons s y ih=>
  intro x hl hx hy;rw[List.length_cons]at hl;have hs:=hy s (by simp);(have hy':Lin 1 8 y:=fun z hz=>hy z (by simp[hz]));(have hlen:(x++s::y).length=x.length+y.length+1:=by rw[List.length_append,List.length_cons];omega);by_cases c0:y=[];(·subst c0;refine⟨x++[s],Ev.step (fun k=>by rw[spec_l1Near.l1]) ?_,hx.app (Lin.one (by omega)),by simp⟩;rw[hlen,wid (by omega) (by omega)];exact Ev_neg (by simp only[List.length_nil];first|done|omega) (Ev.now _));have hpos:0<y.length:=List.length_pos_iff.2 c0;(have hat:rdOf ByteArray.empty (x++s::y) (x.length:Int)=s:=by rw[rd_nat _ (by omega)];simp);(have go:∀s':ByteArray,1≤s'.size∧s'.size≤9→∃r,Ev (fun k=>spec_l1Near.l1 k (x++s'::y) ((x.length+1:Nat):Int) c p) (r,p)∧Lin 1 9 r∧r.length=x.length+(y.length+1):=by intro s' hs';obtain⟨r,h1,h2,h3⟩:=ih (x++[s']) (by rw[List.length_append,List.length_singleton];omega) (hx.app (Lin.one hs')) hy';rw[List.append_assoc,List.length_append,List.length_singleton]at h1;rw[List.length_append,List.length_singleton]at h3;exact⟨r,h1,h2,by omega⟩);(have head:∀{r:List ByteArray},Ev (fun k=>if(bt s ((s.size:Int)-1))=10 then(spec_l1Near.l1 k (x++s::y) ((x.length+1:Nat):Int) c p)else(if s.size+1≤9223372036854775807 then(spec_l1Near.l1 k ((x++s::y).set x.length (s++(⟨#[10]⟩:ByteArray))) ((x.length+1:Nat):Int) c p)else(none))) (r,p)→Ev (fun k=>spec_l1Near.l1 k (x++s::y) (x.length:Int) c p) (r,p):=by intro r hr;refine Ev.step (fun k=>by rw[spec_l1Near.l1]) ?_;rw[hlen,hat,wid (x:=((x.length+y.length+1:Nat):Int)-1) (by omega) (by omega),wid (x:=(s.size:Int)-1) (by omega) (by omega),wsucc' (by omega),Int.toNat_natCast];exact Ev_pos (by omega) (Ev_pos (by omega) (Ev_pos (by omega) (Ev_pos (by omega) (Ev_pos (by omega) hr)))));by_cases c1:bt s ((s.size:Int)-1)=10;(·obtain⟨r,h1,h2,h3⟩:=go s (by omega);exact⟨r,head (Ev_pos c1 h1),h2,by rw[List.length_cons];exact h3⟩);obtain⟨r,h1,h2,h3⟩:=go (s++(⟨#[10]⟩:ByteArray)) (by rw[end_size];omega);refine⟨r,head (Ev_neg c1 (Ev_pos (by omega) ?_)),h2,by rw[List.length_cons];exact h3⟩;rw[show(x++s::y).set x.length (s++(⟨#[10]⟩:ByteArray))=x++(s++(⟨#[10]⟩:ByteArray))::y by simp];exact h1
theorem near_loop{c:List Int}(hc:Code c):∀(d:Nat) (p:Int) (o:List ByteArray),d≤100→0≤p→p≤900000+3*(100-d)→o.length+d≤900→Lin 1 8 o →
    ∃r q,Ev (fun k=>spec_l1Near.l0 k o (d:Int) c p) (r,q)∧Lin 1 9 r∧r.length≤o.length+d∧p≤q∧q≤p+3*d:=by
 intro d
 induction d with
 |zero=>
  intro p o hd h0 h1 ho hl;obtain⟨r,hr,g1,g2⟩:=near_pass (c:=c) p o [] (by simp only[List.length_nil];omega) (fun x hx=>absurd hx (by simp)) hl;refine⟨r,p,Ev.step (fun k=>by rw[spec_l1Near.l0]) ?_,g1,by simp only[List.length_nil]at g2;omega,by omega,by omega⟩;exact Ev_neg (by omega) hr
 |succ d ih=>
  intro p o hd h0 h1 ho hl;obtain⟨v,e,v0,v1⟩:=next_tells hc (p:=p) (n:=(o.length:Int)+1) h0 (by omega) (by omega);have v2:=v1 (by omega);obtain⟨i,rfl⟩:=Int.eq_ofNat_of_zero_le v0;obtain⟨u,e2,u0,u1⟩:=next_tells hc (p:=p+1) (n:=4) (by omega) (by omega) (by omega);have u2:=u1 (by omega);(have nx:∀(o':List ByteArray) (p':Int),0≤p'→p'≤p+3→p+2≤p'→o'.length≤o.length+1→Lin 1 8 o'→∃r q,Ev (fun k=>spec_l1Near.l0 k o' (wrap64 (((d+1:Nat):Int)-1)) c p') (r,q)∧Lin 1 9 r∧r.length≤o.length+(d+1)∧p≤q∧q≤p+3*(d+1:Nat):=by intro o' p' a1 a2 a3 a4 a5;obtain⟨r,q,hr,g1,g2,g3,g4⟩:=ih p' o' (by omega) a1 (by omega) (by omega) a5;rw[wpred (by omega)];exact⟨r,q,hr,g1,by omega,by omega,by omega⟩)
  have start:∀{r:List ByteArray} {q:Int},Ev (fun k=>if u=0 then(if(i:Int)<(o.length:Int)then((some (([]:List ByteArray):List ByteArray)).bind fun y807=>(if 0≤(i:Int)then(if(i:Int)≤(o.length:Int)then((some (o.take (i:Int).toNat:List ByteArray)).bind fun y810=>(if y807.length+y810.length<8796093022208 then((some (y807++y810:List ByteArray)).bind fun y814=>(if 0≤(wrap64 ((i:Int)+1))then(if(wrap64 ((i:Int)+1))≤(o.length:Int)then((some (o.drop ((wrap64 ((i:Int)+1)):Int).toNat:List ByteArray)).bind fun y817=>(if y814.length+y817.length<8796093022208 then(spec_l1Near.l0 k (y814++y817) (wrap64 (((d+1:Nat):Int)-1)) c (p+1+1))else(none)))else(none))else(none)))else(none)))else(none))else(none)))else(spec_l1Near.l0 k o (wrap64 (((d+1:Nat):Int)-1)) c (p+1+1)))else(if u=1 then(spec_l1Near.j1 k o ((d+1:Nat):Int) (o.length:Int) (i:Int) u (u==1) c (p+1+1))else(spec_l1Near.j1 k o ((d+1:Nat):Int) (o.length:Int) (i:Int) u (u==2) c (p+1+1)))) (r,q) →
      Ev (fun k=>spec_l1Near.l0 k o ((d+1:Nat):Int) c p) (r,q):=by
    intro r q h
    refine Ev.step (fun k=>by rw[spec_l1Near.l0]) (Ev_pos (by omega) ?_)
    rw[wid (x:=(o.length:Int)+1) (by omega) (by omega)]
    exact Ev_const e (Ev_const e2 h)
  by_cases c0:u=0;(·by_cases c1:(i:Int)<(o.length:Int);rotate_left;(·obtain⟨r,q,hr,g⟩:=nx o (p+1+1) (by omega) (by omega) (by omega) (by omega) hl;exact⟨r,q,start (Ev_pos c0 (Ev_neg c1 hr)),g⟩);obtain⟨r,q,hr,g⟩:=nx (([]++o.take i)++o.drop (i+1)) (p+1+1) (by omega) (by omega) (by omega) (by rw[List.length_append,List.nil_append,List.length_take,List.length_drop];omega) (((hl.take i)).app (hl.drop _));refine⟨r,q,start (Ev_pos c0 (Ev_pos c1 (Ev_const rfl (Ev_pos (by omega) (Ev_pos (by omega) (Ev_const rfl (Ev_pos (by rw[Int.toNat_natCast,List.length_take];simp only[List.length_nil];omega) (Ev_const rfl ?_)))))))),g⟩;rw[wsucc' (by omega),Int.toNat_natCast,Int.toNat_natCast];exact Ev_pos (by omega) (Ev_pos (by omega) (Ev_const rfl (Ev_pos (by rw[List.nil_append,List.length_take,List.length_drop];omega) hr))));(have ins:∀b:Bool,b=true→∃r q,Ev (fun k=>spec_l1Near.j1 k o ((d+1:Nat):Int) (o.length:Int) (i:Int) u b c (p+1+1)) (r,q)∧Lin 1 9 r∧r.length≤o.length+(d+1)∧p≤q∧q≤p+3*(d+1:Nat):=by intro b hb;obtain⟨s,e3,hs⟩:=word_tells hc (p:=p+1+1) (by omega) (by omega);obtain⟨r,q,hr,g⟩:=nx ((([]++o.take i)++[s++(⟨#[10]⟩:ByteArray)])++o.drop i) (p+1+1+1) (by omega) (by omega) (by omega) (by rw[List.length_append,List.length_append,List.nil_append,List.length_take,List.length_drop];simp only[List.length_singleton];omega) (((hl.take i).app (Lin.one (by rw[end_size];omega))).app (hl.drop _));refine⟨r,q,Ev.step (fun k=>by rw[spec_l1Near.j1]) ?_,g⟩;refine Ev_pos hb (Ev_const rfl ?_);refine Ev_pos (by omega) (Ev_pos (by omega) (Ev_const rfl ?_));refine Ev_pos (by rw[Int.toNat_natCast,List.length_take];simp only[List.length_nil];omega) (Ev_const rfl (Ev_const e3 ?_));rw[Int.toNat_natCast];exact Ev_pos (by show s.size+1≤9223372036854775807;omega) (Ev_pos (by rw[List.nil_append,List.length_take];omega) (Ev_const rfl (Ev_const rfl (Ev_pos (by rw[List.length_append,List.nil_append,List.length_take,List.length_drop];simp only[List.length_singleton];omega) hr)))));by_cases c1:u=1;(·obtain⟨r,q,hr,g⟩:=ins (u==1) (by simp[c1]);exact⟨r,q,start (Ev_neg c0 (Ev_pos c1 hr)),g⟩);by_cases c2:u=2;(·obtain⟨r,q,hr,g⟩:=ins (u==2) (by simp[c2]);exact⟨r,q,start (Ev_neg c0 (Ev_neg c1 hr)),g⟩);(have c3:u=3:=by omega);by_cases c4:(i:Int)<(o.length:Int);rotate_left;(·obtain⟨r,q,hr,g⟩:=nx o (p+1+1) (by omega) (by omega) (by omega) (by omega) hl;refine⟨r,q,start (Ev_neg c0 (Ev_neg c1 (Ev.step (fun k=>by rw[spec_l1Near.j1]) ?_))),g⟩;exact Ev_neg (by simp[c2]) (Ev_pos c3 (Ev_neg c4 hr)));obtain⟨s,e3,hs⟩:=word_tells hc (p:=p+1+1) (by omega) (by omega);obtain⟨r,q,hr,g⟩:=nx (o.set i (s++(⟨#[10]⟩:ByteArray))) (p+1+1+1) (by omega) (by omega) (by omega) (by rw[List.length_set];omega) (hl.set _ (by rw[end_size];omega));refine⟨r,q,start (Ev_neg c0 (Ev_neg c1 (Ev.step (fun k=>by rw[spec_l1Near.j1]) ?_))),g⟩;refine Ev_neg (by simp[c2]) (Ev_pos c3 (Ev_pos c4 (Ev_const e3 ?_)));rw[Int.toNat_natCast];exact Ev_pos (by show s.size+1≤9223372036854775807;omega) (Ev_pos (by omega) (Ev_pos c4 hr))
theorem near_tells{c:List Int}(hc:Code c){p:Int}(h0:0≤p)(h1:p≤900000){l:List ByteArray}(hl:l.length≤500)(hi:Lin 1 8 l):
    ∃r q,Ev (fun k=>spec_l1Near.f k c p l) (r,q)∧Lin 1 9 r∧r.length≤l.length+3∧p≤q∧q≤p+10:=by
 obtain⟨v,e,v0,v1⟩:=next_tells hc (p:=p) (n:=4) h0 (by omega) (by omega);have v2:=v1 (by omega);obtain⟨m,rfl⟩:=Int.eq_ofNat_of_zero_le v0;obtain⟨r,q,hr,g1,g2,g3,g4⟩:=near_loop hc m (p+1) ([]++l) (by omega) (by omega) (by omega) (by rw[List.nil_append];omega) hi;refine⟨r,q,?_,g1,by rw[List.nil_append]at g2;omega,by omega,by omega⟩;unfold spec_l1Near.f;exact Ev_const rfl (Ev_pos (by simp only[List.length_nil];omega) (Ev_const e hr))
end Go.Proofs.YthmmmiknmkpbeaaGreatDoor.P
end
section
set_option linter.unusedVariables false
set_option linter.unusedSimpArgs false
set_option linter.unusedSectionVars false
namespace Go.Proofs.YthmmmiknmkpbeaaGreatDoor.P
end Go.Proofs.YthmmmiknmkpbeaaGreatDoor.P
end
section
set_option linter.unusedVariables false
set_option linter.unusedSimpArgs false
namespace Go.Proofs.YthmmmiknmkpbeaaGreatDoor.P
open Go.RowKit Go.Proofs.YthmmmiknmkpbeaaGreatDoorW.PrintWords Go.Proofs.YthmmmiknmkpbeaaGreatDoorW.PrintLast
def Mat(a b:List ByteArray):List Int→List Int→Nat→Nat→Prop
  |[],[],i,j=>i≤a.length∧j≤b.length
  |u::us,v::vs,i,j=>∃m n:Nat,u=(m:Int)∧v=(n:Int)∧i≤m∧j≤n∧(∃(hm:m<a.length) (hn:n<b.length),a[m]=b[n])∧Mat a b us vs (m+1) (n+1)
  |[],_::_,_,_=>False
  |_::_,[],_,_=>False
theorem Mat.lower{a b:List ByteArray}:∀{p q:List Int} {i j i' j':Nat},Mat a b p q i j→i'≤i→j'≤j→Mat a b p q i' j'
  |[],[],_,_,_,_,h,h1,h2=>⟨Nat.le_trans h1 h.1,Nat.le_trans h2 h.2⟩
  |_::_,_::_,_,_,_,_,⟨m,n,e1,e2,g1,g2,g3,g4⟩,h1,h2=>⟨m,n,e1,e2,Nat.le_trans h1 g1,Nat.le_trans h2 g2,g3,g4⟩
  |[],_::_,_,_,_,_,h,_,_=>h.elim
  |_::_,[],_,_,_,_,h,_,_=>h.elim
theorem mt_mat(a b:List ByteArray):∀(d i j:Nat),(a.length-i)+(b.length-j)=d→i≤a.length→j≤b.length→Mat a b (mt (a.drop i) (b.drop j) i j).1 (mt (a.drop i) (b.drop j) i j).2 i j:=by
 intro d
 induction d using Nat.strongRecOn with
 |_ d ih=>
  intro i j hd hi hj;by_cases c0:i<a.length;rotate_left;(·rw[List.drop_eq_nil_of_le (show a.length≤i by omega),mt_nil];exact⟨hi,hj⟩);by_cases c1:j<b.length;rotate_left;(·rw[List.drop_eq_nil_of_le (show b.length≤j by omega),mt_nil'];exact⟨hi,hj⟩);by_cases h:a[i]=b[j];(·rw[mt_eq c0 c1 h];exact⟨i,j,rfl,rfl,Nat.le_refl _,Nat.le_refl _,⟨c0,c1,h⟩,ih _ (by omega) (i+1) (j+1) rfl (by omega) (by omega)⟩);by_cases h2:lcs (a.drop i) (b.drop (j+1))≤lcs (a.drop (i+1)) (b.drop j);(·rw[mt_a c0 c1 h h2];exact(ih _ (by omega) (i+1) j rfl (by omega) hj).lower (by omega) (Nat.le_refl _));rw[mt_b c0 c1 h h2];exact(ih _ (by omega) i (j+1) rfl hi (by omega)).lower (Nat.le_refl _) (by omega)
theorem seg_cat(b:List ByteArray){j0 j:Nat}(h:j0≤j)(hj:j≤b.length):(b.take j).drop j0++b.drop j=b.drop j0:=by
 rw[←List.drop_append_of_le_length (by rw[List.length_take];omega),List.take_append_drop]
theorem seg_cat3(b:List ByteArray){j0 j n:Nat}(h:j0≤j)(h2:j≤n)(hn:n≤b.length):(b.take j).drop j0++((b.take n).drop j++b.drop n)=b.drop j0:=by
 rw[seg_cat b h2 hn,seg_cat b h (by omega)]
theorem seg_one(a:List ByteArray){i0 m:Nat}(h:i0≤m)(hm:m<a.length):(a.take (m+1)).drop i0=(a.take m).drop i0++[a[m]]:=by
 rw[List.take_succ_eq_append_getElem hm,List.drop_append_of_le_length (by rw[List.length_take];omega)]
theorem seg_none(a:List ByteArray)(m:Nat):(a.take m).drop m=[]:=by
 rw[List.drop_eq_nil_iff,List.length_take];omega
theorem wv_chs(a b:List ByteArray):∀(p q:List Int) (i j i0 j0:Nat),Mat a b p q i j→i0≤i→j0≤j→(a.take i).drop i0=(b.take j).drop j0 →
    WV a b (chs (p++[(a.length:Int)]) (q++[(b.length:Int)]) (i:Int) (j:Int)) (i0:Int)=b.drop j0
  |[],[],i,j,i0,j0,h,h1,h2,hs=>by
    obtain⟨g1,g2⟩:=h
    rw[List.nil_append,List.nil_append,chs_cons]
    split
    · rw[WV_cons]
      dsimp only
      rw[show(j:Int)+((b.length:Int)-(j:Int))=((b.length:Nat):Int)by omega,show(i:Int)+((a.length:Int)-(i:Int))=((a.length:Nat):Int)by omega,Int.toNat_natCast,Int.toNat_natCast,Int.toNat_natCast,Int.toNat_natCast,hs,List.take_length]
      show _++(_++a.drop ((a.length:Nat):Int).toNat)=_
      rw[Int.toNat_natCast,List.drop_length,List.append_nil]
      exact seg_cat b h2 g2
    · have e1:i=a.length:=by omega
      have e2:j=b.length:=by omega
      show a.drop ((i0:Nat):Int).toNat=_
      rw[Int.toNat_natCast]
      rw[e1,e2,List.take_length,List.take_length]at hs
      exact hs
  |u::us,v::vs,i,j,i0,j0,h,h1,h2,hs=>by
    obtain⟨m,n,rfl,rfl,g1,g2,⟨hm,hn,g3⟩,g4⟩:=h
    rw[List.cons_append,List.cons_append,chs_cons]
    split
    · have ih:=wv_chs a b us vs (m+1) (n+1) m n g4 (by omega) (by omega) (by rw[seg_one a (Nat.le_refl _) hm,seg_one b (Nat.le_refl _) hn,g3,seg_none,seg_none])
      rw[WV_cons]
      dsimp only
      rw[show(j:Int)+((n:Int)-(j:Int))=((n:Nat):Int)by omega,show(i:Int)+((m:Int)-(i:Int))=((m:Nat):Int)by omega,Int.toNat_natCast,Int.toNat_natCast,Int.toNat_natCast,Int.toNat_natCast,hs]
      rw[show((m:Nat):Int)+1=((m+1:Nat):Int)from rfl,show((n:Nat):Int)+1=((n+1:Nat):Int)from rfl,ih]
      exact seg_cat3 b h2 g2 (by omega)
    · have e1:m=i:=by omega
      have e2:n=j:=by omega
      subst e1 e2
      rw[show((m:Nat):Int)+1=((m+1:Nat):Int)from rfl,show((n:Nat):Int)+1=((n+1:Nat):Int)from rfl]
      exact wv_chs a b us vs (m+1) (n+1) i0 j0 g4 (by omega) (by omega) (by rw[seg_one a h1 hm,seg_one b h2 hn,g3,hs])
  |[],_::_,_,_,_,_,h,_,_,_=>h.elim
  |_::_,[],_,_,_,_,h,_,_,_=>h.elim
theorem CF_ok{la lb:Int}{c:S95}{l:List S95}{i j:Int}{fst:Bool}(h1:ChIn la lb c)(h2:¬(c.f1=0∧c.f3=0))(h3:c.f0-i=c.f2-j)(h4:i≤c.f0)(h5:fst=false→c.f0≠i):
    CF la lb (c::l) i j fst=CF la lb l (c.f0+c.f1) (c.f2+c.f3) false:=by
 rw[CF_cons,if_neg (fun e=>e h1),if_neg];rintro(e|e|e|e);(·exact h2 e);(·exact e h3);(·omega);exact h5 e.1 e.2
theorem cf_chs(a b:List ByteArray):∀(p q:List Int) (i j i0 j0:Nat) (fst:Bool),Mat a b p q i j→i0≤i→j0≤j→(i:Int)-i0=(j:Int)-j0→(fst=false→i0<i) →
    CF a.length b.length (chs (p++[(a.length:Int)]) (q++[(b.length:Int)]) (i:Int) (j:Int)) (i0:Int) (j0:Int) fst=0
  |[],[],i,j,i0,j0,fst,h,h1,h2,hs,hf=>by
    obtain⟨g1,g2⟩:=h
    rw[List.nil_append,List.nil_append,chs_cons]
    split
    · rw[CF_ok (by unfold ChIn;dsimp only;omega) (by dsimp only;omega) hs (by dsimp only;omega) (fun e=>by have:=hf e;dsimp only;omega)]
      rfl
    · rfl
  |u::us,v::vs,i,j,i0,j0,fst,h,h1,h2,hs,hf=>by
    obtain⟨m,n,rfl,rfl,g1,g2,⟨hm,hn,g3⟩,g4⟩:=h
    rw[List.cons_append,List.cons_append,chs_cons]
    split
    · rw[CF_ok (by unfold ChIn;dsimp only;omega) (by dsimp only;omega) hs (by dsimp only;omega) (fun e=>by have:=hf e;dsimp only;omega)]
      dsimp only
      have ih:=cf_chs a b us vs (m+1) (n+1) m n false g4 (by omega) (by omega) (by omega) (fun _=>by omega)
      rw[show(j:Int)+((n:Int)-(j:Int))=((n:Nat):Int)by omega,show(i:Int)+((m:Int)-(i:Int))=((m:Nat):Int)by omega]
      exact ih
    · have e1:m=i:=by omega
      have e2:n=j:=by omega
      subst e1 e2
      exact cf_chs a b us vs (m+1) (n+1) i0 j0 fst g4 (by omega) (by omega) (by omega) (fun e=>by have:=hf e;omega)
  |[],_::_,_,_,_,_,_,h,_,_,_,_=>h.elim
  |_::_,[],_,_,_,_,_,h,_,_,_,_=>h.elim
theorem mat_all(a b:List ByteArray):Mat a b (mt a b 0 0).1 (mt a b 0 0).2 0 0:=by
 have:=mt_mat a b _ 0 0 rfl (by omega) (by omega);rw[List.drop_zero,List.drop_zero]at this;exact this
theorem CHS_makes(a b:List ByteArray):WV a b (CHS a b) 0=b:=wv_chs a b _ _ 0 0 0 0 (mat_all a b) (by omega) (by omega) rfl
theorem CHS_right(a b:List ByteArray):CF a.length b.length (CHS a b) 0 0 true=0:=cf_chs a b _ _ 0 0 0 0 true (mat_all a b) (by omega) (by omega) rfl (fun e=>by cases e)
abbrev CH:=S95
def mkd(m:UInt8)(l:List ByteArray):List ByteArray:=l.map (fun s=>(⟨#[m]⟩:ByteArray)++s)
theorem mkd_len(m:UInt8)(l:List ByteArray):(mkd m l).length=l.length:=by unfold mkd;rw[List.length_map]
def pie(a b:List ByteArray)(c:CH):List ByteArray:=mkd 45 (sg a c.f0.toNat (c.f0+c.f1).toNat)++mkd 43 (sg b c.f2.toNat (c.f2+c.f3).toNat)
def endc(a:List ByteArray)(ctx e:Int):List ByteArray:=mkd 32 (sg a e.toNat (min (e+ctx) (a.length:Int)).toNat)
def ahd(ctx:Int)(c:CH):Int:=min ctx c.f0
def opn(a b:List ByteArray)(ctx:Int)(c:CH):HK:=⟨c.f0-ahd ctx c,c.f2-ahd ctx c,mkd 32 (sg a (c.f0-ahd ctx c).toNat c.f0.toNat)++pie a b c⟩
def gos(a b:List ByteArray)(ctx:Int):List CH→Int→HK→List HK
  |[],e,h=>[⟨h.f0,h.f1,h.f2++endc a ctx e⟩]
  |c::l,e,h=>if c.f0-e>2*ctx then(⟨h.f0,h.f1,h.f2++endc a ctx e⟩:HK)::gos a b ctx l (c.f0+c.f1) (opn a b ctx c)else gos a b ctx l (c.f0+c.f1) ⟨h.f0,h.f1,h.f2++(mkd 32 (sg a e.toNat c.f0.toNat)++pie a b c)⟩
def HUN(a b:List ByteArray)(ctx:Int):List CH→List HK
  |[]=>[]
  |c::l=>gos a b ctx l (c.f0+c.f1) (opn a b ctx c)
theorem ld_stay{a b:List ByteArray}:∀(n i j:Nat),i+n≤a.length→j+n≤b.length→sg a i (i+n)=sg b j (j+n)→Ld a b (mkd 32 (sg a i (i+n))) i j (i+n) (j+n):=by
 intro n
 induction n with
 |zero=>intro i j hi hj _;rw[Nat.add_zero,sg_same];exact .nil
 |succ n ih=>
  intro i j hi hj h;(have e1:i+(n+1)=i+1+n:=by omega);(have e2:j+(n+1)=j+1+n:=by omega);rw[e1,e2]at h ⊢;rw[e1]at hi;rw[e2]at hj;rw[sg_next (by omega) hi,sg_next (by omega) hj]at h;rw[sg_next (by omega) hi];(injection h with h1 h2);exact .stay (mk_front 32 _) (by omega) (by omega) (tl_front _ _).symm (by rw[tl_front];exact h1.symm) (ih (i+1) (j+1) (by omega) (by omega) h2)
theorem ld_goes{a b:List ByteArray}:∀(n i j:Nat),i+n≤a.length→Ld a b (mkd 45 (sg a i (i+n))) i j (i+n) j:=by
 intro n
 induction n with
 |zero=>intro i j hi;rw[Nat.add_zero,sg_same];exact .nil
 |succ n ih=>
  intro i j hi;(have e1:i+(n+1)=i+1+n:=by omega);rw[e1]at hi ⊢;rw[sg_next (by omega) hi];exact .goes (mk_front 45 _) (by omega) (tl_front _ _).symm (ih (i+1) j (by omega))
theorem ld_come{a b:List ByteArray}:∀(n i j:Nat),j+n≤b.length→Ld a b (mkd 43 (sg b j (j+n))) i j i (j+n):=by
 intro n
 induction n with
 |zero=>intro i j hi;rw[Nat.add_zero,sg_same];exact .nil
 |succ n ih=>
  intro i j hi;(have e1:j+(n+1)=j+1+n:=by omega);rw[e1]at hi ⊢;rw[sg_next (by omega) hi];exact .come (mk_front 43 _) (by omega) (tl_front _ _).symm (ih i (j+1) (by omega))
theorem sg_pre{a b:List ByteArray}{i j n:Nat}(h:sg a i (i+n)=sg b j (j+n))(hi:i+n≤a.length)(hj:j+n≤b.length){m:Nat}(hm:m≤n):sg a i (i+m)=sg b j (j+m)∧sg a (i+m) (i+n)=sg b (j+m) (j+n):=by
 rw[←sg_cat (j:=i+m) (by omega) (by omega) hi,←sg_cat (j:=j+m) (by omega) (by omega) hj]at h;exact List.append_inj h (by rw[sg_len (by omega),sg_len (by omega)];omega)
theorem cf_step{a b:List ByteArray}{c:CH}{l:List CH}{i j:Nat}{fst:Bool}(hi:i≤a.length)(hj:j≤b.length)(h:CF a.length b.length (c::l) (i:Int) (j:Int) fst=0)(hw:WV a b (c::l) (i:Int)=b.drop j):
    ∃n x y:Nat,c.f0=((i+n:Nat):Int)∧c.f1=(x:Int)∧c.f2=((j+n:Nat):Int)∧c.f3=(y:Int)∧i+n+x≤a.length∧j+n+y≤b.length∧sg a i (i+n)=sg b j (j+n)∧0<x+y∧(fst=false→0<n) ∧
      CF a.length b.length l ((i+n+x:Nat):Int) ((j+n+y:Nat):Int) false=0∧WV a b l ((i+n+x:Nat):Int)=b.drop (j+n+y):=by
 obtain⟨hin,hle,hn⟩:=CF_good h;(have h5:¬(c.f1=0∧c.f3=0)∧c.f0-(i:Int)=c.f2-(j:Int)∧(fst=false→c.f0≠(i:Int)):=by rw[CF_cons,if_neg (fun e=>e hin)]at h;split at h;(·cases h);rename_i h2;exact⟨fun e=>h2 (.inl e),Classical.byContradiction fun e=>h2 (.inr (.inl e)),fun e q=>h2 (.inr (.inr (.inr ⟨e,q⟩)))⟩);unfold ChIn at hin;obtain⟨n,hn0⟩:∃n:Nat,c.f0=((i+n:Nat):Int):=⟨(c.f0-i).toNat,by omega⟩;obtain⟨x,hx⟩:∃x:Nat,c.f1=(x:Int):=⟨c.f1.toNat,by omega⟩;obtain⟨y,hy⟩:∃y:Nat,c.f3=(y:Int):=⟨c.f3.toNat,by omega⟩;(have h2:c.f2=((j+n:Nat):Int):=by omega);(have ba:i+n+x≤a.length:=by omega);(have bb:j+n+y≤b.length:=by omega);rw[WV_cons,hn0,h2,hx,hy,show((j+n:Nat):Int)+(y:Int)=((j+n+y:Nat):Int)by omega,show((i+n:Nat):Int)+(x:Int)=((i+n+x:Nat):Int)by omega,Int.toNat_natCast,Int.toNat_natCast,Int.toNat_natCast,Int.toNat_natCast]at hw;(have e:b.drop j=sg b j (j+n)++(sg b (j+n) (j+n+y)++b.drop (j+n+y)):=by rw[sg_rest (by omega) bb,sg_rest (by omega) (by omega)]);rw[e]at hw;obtain⟨w1,w2⟩:=List.append_inj hw (by rw[show((a.take (i+n)).drop i).length=i+n-i from sg_len (by omega),sg_len (by omega)];omega);have w3:=List.append_cancel_left w2;refine⟨n,x,y,hn0,hx,h2,hy,ba,bb,w1,?_,fun e=>?_,?_,w3⟩;(·have:=h5.1;omega);(·have:=h5.2.2 e;omega);rw[hn0,h2,hx,hy]at hn;exact hn
theorem pie_ld{a b:List ByteArray}{c:CH}{p q x y:Nat}(h0:c.f0=(p:Int))(h1:c.f1=(x:Int))(h2:c.f2=(q:Int))(h3:c.f3=(y:Int))(ha:p+x≤a.length)(hb:q+y≤b.length):Ld a b (pie a b c) p q (p+x) (q+y):=by
 unfold pie;rw[h0,h1,h2,h3,show(p:Int)+(x:Int)=((p+x:Nat):Int)by omega,show(q:Int)+(y:Int)=((q+y:Nat):Int)by omega,Int.toNat_natCast,Int.toNat_natCast,Int.toNat_natCast,Int.toNat_natCast];exact(ld_goes x p q ha).cat (ld_come y (p+x) q hb)
theorem hS_app(x y:List ByteArray):hS (x++y)=hS x+hS y:=by
 induction x with
 |nil=>simp[hS]
 |cons s x ih=>simp only[List.cons_append,hS,ih];omega
theorem hS_mkd{m:UInt8}(h:m≠32)(l:List ByteArray):hS (mkd m l)=0:=by
 induction l with
 |nil=>rfl
 |cons s l ih=>
  show hS (((⟨#[m]⟩:ByteArray)++s)::mkd m l)=0;rw[hS,ih,mk_front,if_neg];intro e;apply h;apply UInt8.toNat_inj.1;show m.toNat=32;omega
theorem pie_busy{a b:List ByteArray}{c:CH}{p q x y:Nat}(h0:c.f0=(p:Int))(h1:c.f1=(x:Int))(h2:c.f2=(q:Int))(h3:c.f3=(y:Int))(ha:p+x≤a.length)(hb:q+y≤b.length)(hp:0<x+y):hS (pie a b c)<(pie a b c).length:=by
 unfold pie;rw[hS_app,hS_mkd (by decide),hS_mkd (by decide),List.length_append,mkd_len,mkd_len];rw[h0,h1,h2,h3,show(p:Int)+(x:Int)=((p+x:Nat):Int)by omega,show(q:Int)+(y:Int)=((q+y:Nat):Int)by omega,Int.toNat_natCast,Int.toNat_natCast,Int.toNat_natCast,Int.toNat_natCast,sg_len ha,sg_len hb];omega
theorem gos_chn{a b:List ByteArray}{ctx:Nat}:∀(l:List CH) (e f i j p q:Nat) (h:HK),CF a.length b.length l (e:Int) (f:Int) false=0→WV a b l (e:Int)=b.drop f→e≤a.length→f≤b.length→h.f0=(p:Int)→h.f1=(q:Int)→i≤p→j≤q→p-i=q-j→sg a i p=sg b j q→Ld a b h.f2 p q e f→hS h.f2<h.f2.length →
    Chn a b (gos a b (ctx:Int) l (e:Int) h) i j∧∀c∈gos a b (ctx:Int) l (e:Int) h,hS c.f2<c.f2.length:=by
 intro l
 induction l with
 |nil=>
  intro e f i j p q h hc hw he hf h0 h1 hi hj hd hs hl hb;(have hw':a.drop e=b.drop f:=by have:WV a b [] (e:Int)=a.drop ((e:Int)).toNat:=rfl;rw[this,Int.toNat_natCast]at hw;exact hw);have hle:=hl.le;(have hlen:a.length-e=b.length-f:=by have:=congrArg List.length hw';simpa using this);obtain⟨n,hn⟩:∃n,n=min ctx (a.length-e):=⟨_,rfl⟩;(have ez:(min ((e:Int)+(ctx:Int)) (a.length:Int)).toNat=e+n:=by omega);(have hfull:sg a e a.length=sg b f b.length:=by unfold sg;rw[List.take_length,List.take_length,hw']);(have e1:a.length=e+(a.length-e):=by omega);(have e2:b.length=f+(a.length-e):=by omega);(have hsub:sg a e (e+n)=sg b f (f+n):=by(have h5:sg a e (e+(a.length-e))=sg b f (f+(a.length-e)):=by rw[←e1,←e2];exact hfull);exact(sg_pre h5 (by omega) (by omega) (m:=n) (by omega)).1);(have hE:Ld a b (endc a (ctx:Int) (e:Int)) e f (e+n) (f+n):=by unfold endc;rw[ez,Int.toNat_natCast];exact ld_stay n e f (by omega) (by omega) hsub);refine⟨.cons h0 h1 hi hj hd (by omega) (by omega) hs (hl.cat hE) (.nil (by omega) (by omega) ?_),fun c hc=>?_⟩;(·have:=congrArg (List.drop n) hw';rw[List.drop_drop,List.drop_drop]at this;exact this);rw[gos,List.mem_singleton]at hc;subst hc;show hS (h.f2++_)<(h.f2++_).length;rw[hS_app,List.length_append];have:=hS_le (endc a (ctx:Int) (e:Int));omega
 |cons c l ih=>
  intro e f i j p q h hc hw he hf h0 h1 hi hj hd hs hl hb;obtain⟨n,x,y,c0,c1,c2,c3,ba,bb,hsn,hxy,hn0,hc',hw'⟩:=cf_step he hf hc hw;have hle:=hl.le;have hpi:=pie_ld (a:=a) (b:=b) c0 c1 c2 c3 ba bb;have hpb:=pie_busy (a:=a) (b:=b) c0 c1 c2 c3 ba bb hxy;(have ec:c.f0+c.f1=((e+n+x:Nat):Int):=by omega);rw[gos];by_cases hfar:c.f0-(e:Int)>2*(ctx:Int);rotate_left;(·rw[if_neg hfar,ec];refine ih (e+n+x) (f+n+y) i j p q _ hc' hw' ba bb h0 h1 hi hj hd hs ?_ ?_;(·rw[c0,Int.toNat_natCast,Int.toNat_natCast];exact hl.cat ((ld_stay n e f (by omega) (by omega) hsn).cat hpi));show hS (h.f2++(_++pie a b c))<(h.f2++(_++pie a b c)).length;rw[hS_app,hS_app,List.length_append,List.length_append];have:=hS_le (mkd 32 (sg a ((e:Int)).toNat c.f0.toNat));omega);rw[if_pos hfar,ec];(have hn2:2*ctx<n:=by omega);obtain⟨s1,s2⟩:=sg_pre hsn (by omega) (by omega) (m:=ctx) (by omega);(have hah:ahd (ctx:Int) c=(ctx:Int):=by unfold ahd;omega);have t1:=sg_pre (i:=e+ctx) (j:=f+ctx) (n:=n-ctx) (m:=n-ctx-ctx) (by rw[show e+ctx+(n-ctx)=e+n by omega,show f+ctx+(n-ctx)=f+n by omega];exact s2) (by omega) (by omega) (by omega);obtain⟨t1,t2⟩:=t1;rw[show e+ctx+(n-ctx-ctx)=e+n-ctx by omega,show f+ctx+(n-ctx-ctx)=f+n-ctx by omega]at t1 t2;rw[show e+ctx+(n-ctx)=e+n by omega,show f+ctx+(n-ctx)=f+n by omega]at t2;(have hE:Ld a b (endc a (ctx:Int) (e:Int)) e f (e+ctx) (f+ctx):=by unfold endc;rw[show(min ((e:Int)+(ctx:Int)) (a.length:Int)).toNat=e+ctx by omega,Int.toNat_natCast];exact ld_stay ctx e f (by omega) (by omega) s1);(have hO:Ld a b (opn a b (ctx:Int) c).f2 (e+n-ctx) (f+n-ctx) (e+n+x) (f+n+y):=by show Ld a b (mkd 32 (sg a (c.f0-ahd (ctx:Int) c).toNat c.f0.toNat)++pie a b c) _ _ _ _;rw[hah,c0,show(((e+n:Nat):Int)-(ctx:Int)).toNat=e+n-ctx by omega,Int.toNat_natCast];refine Ld.cat ?_ hpi;have:=ld_stay (a:=a) (b:=b) ctx (e+n-ctx) (f+n-ctx) (by omega) (by omega);rw[show e+n-ctx+ctx=e+n by omega,show f+n-ctx+ctx=f+n by omega]at this;exact this t2);(have hob:hS (opn a b (ctx:Int) c).f2<(opn a b (ctx:Int) c).f2.length:=by show hS (_++pie a b c)<(_++pie a b c).length;rw[hS_app,List.length_append];have:=hS_le (mkd 32 (sg a (c.f0-ahd (ctx:Int) c).toNat c.f0.toNat));omega);obtain⟨r1,r2⟩:=ih (e+n+x) (f+n+y) (e+ctx) (f+ctx) (e+n-ctx) (f+n-ctx) (opn a b (ctx:Int) c) hc' hw' ba bb (by show c.f0-ahd (ctx:Int) c=_;rw[hah];omega) (by show c.f2-ahd (ctx:Int) c=_;rw[hah];omega) (by omega) (by omega) (by omega) t1 hO hob;refine⟨.cons h0 h1 hi hj hd (by omega) (by omega) hs (hl.cat hE) r1,fun d hd'=>?_⟩;(rcases List.mem_cons.1 hd' with rfl|hd');rotate_left;(·exact r2 d hd');show hS (h.f2++_)<(h.f2++_).length;rw[hS_app,List.length_append];have:=hS_le (endc a (ctx:Int) (e:Int));omega
theorem HUN_chn(a b:List ByteArray)(ctx:Nat):Chn a b (HUN a b (ctx:Int) (CHS a b)) 0 0∧∀c∈HUN a b (ctx:Int) (CHS a b),hS c.f2<c.f2.length:=by
 have hc:=CHS_right a b;have hw:=CHS_makes a b
 cases hl:CHS a b with
 |nil=>
  rw[hl]at hw;(have:a=b:=by have e:WV a b [] 0=a.drop (0:Int).toNat:=rfl;rw[e]at hw;simpa using hw);refine⟨.nil (by omega) (by omega) (by rw[this]),fun c hc=>absurd hc (by simp[HUN])⟩
 |cons c l=>
  rw[hl]at hc hw;obtain⟨n,x,y,c0,c1,c2,c3,ba,bb,hsn,hxy,hn0,hc',hw'⟩:=cf_step (i:=0) (j:=0) (by omega) (by omega) hc (by rw[List.drop_zero];exact hw);simp only[Nat.zero_add]at c0 c2 ba bb hsn hc' hw';have hpi:=pie_ld (a:=a) (b:=b) c0 c1 c2 c3 ba bb;have hpb:=pie_busy (a:=a) (b:=b) c0 c1 c2 c3 ba bb hxy;obtain⟨m,hm⟩:∃m,m=min ctx n:=⟨_,rfl⟩;(have hah:ahd (ctx:Int) c=(m:Int):=by unfold ahd;omega);(have hsn0:sg a 0 (0+n)=sg b 0 (0+n):=by rw[Nat.zero_add];exact hsn);obtain⟨s1,s2⟩:=sg_pre hsn0 (by omega) (by omega) (m:=n-m) (by omega);simp only[Nat.zero_add]at s1 s2;(have hO:Ld a b (opn a b (ctx:Int) c).f2 (n-m) (n-m) (n+x) (n+y):=by show Ld a b (mkd 32 (sg a (c.f0-ahd (ctx:Int) c).toNat c.f0.toNat)++pie a b c) _ _ _ _;rw[hah,c0,show((n:Int)-(m:Int)).toNat=n-m by omega,Int.toNat_natCast];refine Ld.cat ?_ hpi;have:=ld_stay (a:=a) (b:=b) m (n-m) (n-m) (by omega) (by omega);rw[show n-m+m=n by omega]at this;exact this s2);(have hob:hS (opn a b (ctx:Int) c).f2<(opn a b (ctx:Int) c).f2.length:=by show hS (_++pie a b c)<(_++pie a b c).length;rw[hS_app,List.length_append];have:=hS_le (mkd 32 (sg a (c.f0-ahd (ctx:Int) c).toNat c.f0.toNat));omega);(have ec:c.f0+c.f1=((n+x:Nat):Int):=by omega);rw[HUN,ec];exact gos_chn l (n+x) (n+y) 0 0 (n-m) (n-m) (opn a b (ctx:Int) c) hc' hw' ba bb (by show c.f0-ahd (ctx:Int) c=_;rw[hah];omega) (by show c.f2-ahd (ctx:Int) c=_;rw[hah];omega) (by omega) (by omega) (by omega) s1 hO hob
def gln(s:ByteArray):Prop:=s.data.toList≠[]∧¬10∈s.data.toList.dropLast
theorem LB_gln:∀{l:List ByteArray},linesBad l=false→∀s∈l,gln s:=by
 intro l
 induction l with
 |nil=>intro _ s hs;exact absurd hs (by simp)
 |cons x l ih=>
  intro h s hs;rw[linesBad,Bool.or_eq_false_iff]at h;(rcases List.mem_cons.1 hs with rfl|hs);rotate_left;(·exact ih h.2 s hs);have:=of_decide_eq_false h.1;exact⟨fun e=>this (.inl e),fun e=>this (.inr (.inl e))⟩
theorem good_of{s:ByteArray}(hm:mk s=32∨mk s=45∨mk s=43)(h:gln (tlB s)):¬hbad s:=by
 have e:(tlB s).data.toList=tl s:=tl_ext s;unfold gln at h;rw[e]at h;have hl:=tl_len s;have hp:0<(tl s).length:=List.length_pos_iff.2 h.1;unfold hbad;rintro(q|q|q);(·omega);(·exact q hm);exact h.2 q
theorem Ld.good{a b l:List ByteArray}{i j i' j':Nat}(h:Ld a b l i j i' j')(ha:∀s∈a,gln s)(hb:∀s∈b,gln s):HB l=false∧l.length≤hA l+hB l:=by
 induction h with
 |nil=>exact⟨rfl,Nat.zero_le _⟩
 |stay hm hi hj h1 h2 h ih=>
  refine⟨?_,?_⟩;(·rw[HB_cons,ih.1,decide_eq_false (good_of (.inl hm) (h1▸ha _ (List.getElem_mem hi)))];rfl);rw[hA,hB,hm,if_neg (by decide),if_neg (by decide),List.length_cons];omega
 |goes hm hi h1 h ih=>
  refine⟨?_,?_⟩;(·rw[HB_cons,ih.1,decide_eq_false (good_of (.inr (.inl hm)) (h1▸ha _ (List.getElem_mem hi)))];rfl);rw[hA,hB,hm,if_neg (by decide),if_pos rfl,List.length_cons];omega
 |come hm hj h2 h ih=>
  refine⟨?_,?_⟩;(·rw[HB_cons,ih.1,decide_eq_false (good_of (.inr (.inr hm)) (h2▸hb _ (List.getElem_mem hj)))];rfl);rw[hA,hB,hm,if_pos rfl,if_neg (by decide),List.length_cons];omega
theorem Chn.right{a b:List ByteArray}(ha:LF a=0)(hb:LF b=0){x:List HK}{i j:Nat}(h:Chn a b x i j)(hx:∀c∈x,hS c.f2<c.f2.length):HF x (i:Int) (j:Int)=0:=by
 have la:=LF_zero ha;have lb:=LF_zero hb
 induction h with
 |nil hi hj h=>rfl
 | @cons h r i j p q i' j' e0 e1 hi hj hd hpa hqb hs hl hr ih=>
  have hle:=hl.le;obtain⟨g1,g2⟩:=hl.good (LB_gln la.2.2) (LB_gln lb.2.2);have hh:=hx h (by simp);have hi':=hle.2.2.2.2.1 hpa;have hj':=hle.2.2.2.2.2 hqb;rw[HF_cons,if_neg (by omega),if_neg (by rw[g1];rintro(e|e);exact absurd e (by simp);omega),if_neg (by omega),if_neg (by omega)];have:=ih (fun c hc=>hx c (by simp[hc]));rw[hle.2.2.1,hle.2.2.2.1]at this;rw[e0,e1];exact this
theorem cf_few{a b:List ByteArray}:∀(l:List CH) (i j:Nat),i≤a.length→j≤b.length→CF a.length b.length l (i:Int) (j:Int) false=0→WV a b l (i:Int)=b.drop j→3*l.length≤(a.length-i)+(b.length-j):=by
 intro l
 induction l with
 |nil=>intro i j _ _ _ _;simp
 |cons c l ih=>
  intro i j hi hj h hw;obtain⟨n,x,y,c0,c1,c2,c3,ba,bb,hsn,hxy,hn0,hc',hw'⟩:=cf_step hi hj h hw;have:=ih (i+n+x) (j+n+y) ba bb hc' hw';have:=hn0 rfl;rw[List.length_cons];omega
theorem CHS_few(a b:List ByteArray):3*(CHS a b).length≤a.length+b.length+2:=by
 have hc:=CHS_right a b;have hw:=CHS_makes a b
 cases hl:CHS a b with
 |nil=>simp
 |cons c l=>
  rw[hl]at hc hw;obtain⟨n,x,y,c0,c1,c2,c3,ba,bb,hsn,hxy,hn0,hc',hw'⟩:=cf_step (i:=0) (j:=0) (by omega) (by omega) hc (by rw[List.drop_zero];exact hw);have:=cf_few l _ _ ba bb hc' hw';rw[List.length_cons];omega
theorem gos_len(a b:List ByteArray)(ctx:Int):∀(l:List CH) (e:Int) (h:HK),(gos a b ctx l e h).length≤l.length+1:=by
 intro l
 induction l with
 |nil=>intro e h;simp[gos]
 |cons c l ih=>
  intro e h;rw[gos];split;(·have:=ih (c.f0+c.f1) (opn a b ctx c);simp only[List.length_cons];omega);have:=ih (c.f0+c.f1) ⟨h.f0,h.f1,h.f2++(mkd 32 (sg a e.toNat c.f0.toNat)++pie a b c)⟩;simp only[List.length_cons];omega
theorem HUN_len(a b:List ByteArray)(ctx:Int)(l:List CH):(HUN a b ctx l).length≤l.length:=by
 cases l with
 |nil=>simp[HUN]
 |cons c l=>have:=gos_len a b ctx l (c.f0+c.f1) (opn a b ctx c);simp only[HUN,List.length_cons];omega
theorem total_sg_next{l:List ByteArray}{i j:Nat}(h:i<j)(hj:j≤l.length):total (sg l i j)=(l[i]'(by omega)).size+total (sg l (i+1) j):=by
 rw[sg_next h hj,total]
theorem size_tl(s:ByteArray):s.size≤(tlB s).size+1:=by
 unfold tlB;rw[ext_size];omega
theorem Ld.weigh{a b l:List ByteArray}{i j i' j':Nat}(h:Ld a b l i j i' j')(ha:i≤a.length)(hb:j≤b.length):total l+i+j≤total (sg a i i')+total (sg b j j')+i'+j'∧l.length+i+j≤i'+j':=by
 induction h with
 |nil=>simp[total,sg_same]
 | @stay s l i j i' j' hm hi hj h1 h2 h ih=>
  have hle:=h.le;have h3:=ih (by omega) (by omega);have hz:=size_tl s;rw[total,total_sg_next (show i<i' by omega) (hle.2.2.2.2.1 (by omega)),total_sg_next (show j<j' by omega) (hle.2.2.2.2.2 (by omega)),h1,List.length_cons];omega
 | @goes s l i j i' j' hm hi h1 h ih=>
  have hle:=h.le;have h3:=ih (by omega) (by omega);have hz:=size_tl s;rw[total,total_sg_next (show i<i' by omega) (hle.2.2.2.2.1 (by omega)),h1,List.length_cons];omega
 | @come s l i j i' j' hm hj h2 h ih=>
  have hle:=h.le;have h3:=ih (by omega) (by omega);have hz:=size_tl s;rw[total,total_sg_next (show j<j' by omega) (hle.2.2.2.2.2 (by omega)),h2,List.length_cons];omega
theorem total_drop_sg{l:List ByteArray}{i j k:Nat}(h:i≤j)(h2:j≤k)(hk:k≤l.length):total (sg l j k)+total (l.drop k)≤total (l.drop i):=by
 (have e:l.drop i=sg l i j++(sg l j k++l.drop k):=by rw[sg_rest h2 hk,sg_rest h (by omega)]);rw[e,total_append,total_append];omega
theorem Chn.weigh{a b:List ByteArray}{x:List HK}{i j:Nat}(h:Chn a b x i j)(ha:i≤a.length)(hb:j≤b.length):hw x+2*i+2*j≤total (a.drop i)+total (b.drop j)+2*a.length+2*b.length:=by
 induction h with
 |nil hi hj h=>simp only[hw];omega
 | @cons h r i j p q i' j' e0 e1 hi hj hd hpa hqb hs hl hr ih=>
  have hle:=hl.le;obtain⟨w1,w2⟩:=hl.weigh hpa hqb;have hi':=hle.2.2.2.2.1 hpa;have hj':=hle.2.2.2.2.2 hqb;have h3:=ih hi' hj';have t1:=total_drop_sg hi hle.1 hi';have t2:=total_drop_sg hj hle.2.1 hj';rw[hw];unfold lw;omega
theorem hw_size:∀{x:List HK} {c:HK},c∈x→∀s∈c.f2,s.size≤hw x:=by
 intro x
 induction x with
 |nil=>intro c hc;exact absurd hc (by simp)
 |cons d x ih=>
  intro c hc s hs;rw[hw];(rcases List.mem_cons.1 hc with rfl|hc);rotate_left;(·have:=ih hc s hs;omega);have:=size_le_total _ s hs;unfold lw;omega
theorem HUN_weigh{a b:List ByteArray}(la:a.length≤200)(lb:b.length≤200)(ta:total a≤100000)(tb:total b≤100000)(ctx:Nat):SmallH (HUN a b (ctx:Int) (CHS a b))∧hw (HUN a b (ctx:Int) (CHS a b))≤300000∧(HUN a b (ctx:Int) (CHS a b)).length≤200∧∀c∈HUN a b (ctx:Int) (CHS a b),0<c.f2.length:=by
 obtain⟨hch,hbz⟩:=HUN_chn a b ctx;have hw1:=hch.weigh (Nat.zero_le _) (Nat.zero_le _);rw[List.drop_zero,List.drop_zero]at hw1;have l1:=HUN_len a b (ctx:Int) (CHS a b);have l2:=CHS_few a b;refine⟨⟨fun c hc s hs=>?_,by omega,by omega⟩,by omega,by omega,fun c hc=>?_⟩;(·have:=hw_size hc s hs;omega);have:=hbz c hc;omega
theorem hw_app(x y:List HK):hw (x++y)=hw x+hw y:=by
 induction x with
 |nil=>simp[hw]
 |cons c x ih=>simp only[List.cons_append,hw,ih];omega
theorem hw_set:∀(x:List HK) (i:Nat) (c:HK),i<x.length→hw (x.set i c)≤hw x+lw c.f2:=by
 intro x
 induction x with
 |nil=>intro i c h;exact absurd h (by simp)
 |cons d x ih=>
  intro i c h
  cases i with
  |zero=>simp only[List.set_cons_zero,hw];omega
  |succ i=>simp only[List.set_cons_succ,hw];have:=ih i c (by simpa using h);omega
theorem small_of_hw{x:List HK}(h1:x.length≤1048576)(h2:hw x≤1048576):SmallH x:=⟨fun c hc s hs=>by have:=hw_size hc s hs;omega,h1,h2⟩
end Go.Proofs.YthmmmiknmkpbeaaGreatDoor.P
end
section
set_option linter.unusedVariables false
set_option linter.unusedSimpArgs false
namespace Go.Proofs.YthmmmiknmkpbeaaGreatDoor.P
open Go.RowKit Go.Proofs.YthmmmiknmkpbeaaGreatDoorW.PrintWords Go.Proofs.YthmmmiknmkpbeaaGreatDoorW.PrintLast Go.Proofs.YthmmmiknmkpbeaaGreatDoorW.PrintMore
theorem smin_tells(x y:Int):spec_l1Min.f x y=some (min x y):=by
 unfold spec_l1Min.f;split<;>(congr 1;omega)
theorem one_size(m:UInt8)(s:ByteArray)(h:s.size≤1048576):(⟨#[m]⟩:ByteArray).size+s.size≤9223372036854775807:=by
 have:(⟨#[m]⟩:ByteArray).size=1:=rfl;omega
theorem mkd_at(m:UInt8){l:List ByteArray}{i:Nat}(h:i<l.length):mkd m (l.drop i)=((⟨#[m]⟩:ByteArray)++l[i])::mkd m (l.drop (i+1)):=by
 unfold mkd;rw[drop_at h,List.map_cons]
theorem sput_loop(m:UInt8){l:List ByteArray}(hz:Bd l)(hl:l.length≤1000000):∀(d i:Nat) (acc:List ByteArray),l.length-i=d→i≤l.length→acc.length+l.length≤1000000+i→Ev (fun k=>spec_l3Put.l0 k acc (⟨#[m]⟩:ByteArray) l (i:Int)) (acc++mkd m (l.drop i)):=by
 intro d
 induction d with
 |zero=>
  intro i acc hd hi ha;refine Ev.step (fun k=>by rw[spec_l3Put.l0]) (Ev_neg (by omega) (Ev_val ?_));rw[List.drop_eq_nil_of_le (by omega)];simp[mkd]
 |succ d ih=>
  intro i acc hd hi ha;(have hlt:i<l.length:=by omega);refine Ev.step (fun k=>by rw[spec_l3Put.l0]) (Ev_pos (by omega) (Ev_pos (by omega) ?_));rw[rd_nat _ hlt,wsucc hlt (by omega),mkd_at m hlt];refine Ev_pos (one_size m _ (hz _ (List.getElem_mem hlt))) (Ev_pos (by omega) ?_);refine Ev_eq (ih (i+1) _ (by omega) (by omega) (by rw[List.length_append,List.length_singleton];omega)) ?_;rw[List.append_assoc];rfl
theorem sput3(m:UInt8){l acc:List ByteArray}(hz:Bd l)(hl:l.length+acc.length≤1000000):Ev (fun k=>spec_l3Put.f k acc (⟨#[m]⟩:ByteArray) l) (acc++mkd m l):=by
 have:=sput_loop m hz (by omega) _ 0 acc rfl (by omega) (by omega);rw[List.drop_zero]at this;exact this
def Okc(la lb:Int):List CH→Int→Prop
  |[],x=>0≤x∧x≤la
  |c::l,x=>0≤x∧x≤c.f0∧0≤c.f1∧c.f0+c.f1≤la∧0≤c.f2∧0≤c.f3∧c.f2+c.f3≤lb∧Okc la lb l (c.f0+c.f1)
theorem okc_of{la lb:Int}:∀(l:List CH) (i j:Int) (fst:Bool),0≤i→i≤la→CF la lb l i j fst=0→Okc la lb l i:=by
 intro l
 induction l with
 |nil=>intro i j fst h0 h1 _;exact⟨h0,h1⟩
 |cons c l ih=>
  intro i j fst h0 h1 h;obtain⟨g1,g2,g3⟩:=CF_good h;unfold ChIn at g1;exact⟨h0,g2,by omega,by omega,by omega,by omega,by omega,ih _ _ _ (by omega) (by omega) g3⟩
theorem okc_len{la lb:Int}{l:List CH}{x:Int}(h:Okc la lb l x):0≤x∧x≤la:=by
 cases l with
 |nil=>exact h
 |cons c l=>obtain⟨a,b,c',d,_⟩:=h;omega
theorem sg_bd{l:List ByteArray}(h:Bd l)(i j:Nat):Bd (sg l i j):=cut_bd h j i
theorem sg_le(l:List ByteArray)(i j:Nat):(sg l i j).length≤l.length:=cut_len l j i
def bod(a b:List ByteArray):List CH→Int→List ByteArray
  |[],_=>[]
  |c::l,x=>mkd 32 (sg a x.toNat c.f0.toNat)++pie a b c++bod a b l (c.f0+c.f1)
def lst:List CH→Int→Int
  |[],e=>e
  |c::l,_=>lst l (c.f0+c.f1)
theorem bod_app(a b:List ByteArray)(c:CH):∀(l:List CH) (x:Int),bod a b (l++[c]) x=bod a b l x++(mkd 32 (sg a (lst l x).toNat c.f0.toNat)++pie a b c):=by
 intro l
 induction l with
 |nil=>intro x;simp[bod,lst]
 |cons d l ih=>intro x;simp only[List.cons_append,bod,lst,ih,List.append_assoc]
theorem lst_app(c:CH):∀(l:List CH) (x:Int),lst (l++[c]) x=c.f0+c.f1:=by
 intro l
 induction l with
 |nil=>intro x;rfl
 |cons d l ih=>intro x;simp only[List.cons_append,lst,ih]
theorem okc_app{la lb:Int}(c:CH)(r:List CH):∀(l:List CH) (x:Int),Okc la lb l x→Okc la lb (c::r) (lst l x)→Okc la lb (l++[c]) x∧Okc la lb r (c.f0+c.f1):=by
 intro l
 induction l with
 |nil=>
  intro x h g;obtain⟨g1,g2,g3,g4,g5,g6,g7,g8⟩:=g;exact⟨⟨g1,g2,g3,g4,g5,g6,g7,okc_len g8⟩,g8⟩
 |cons d l ih=>
  intro x h g;obtain⟨h1,h2,h3,h4,h5,h6,h7,h8⟩:=h;obtain⟨i1,i2⟩:=ih _ h8 g;exact⟨⟨h1,h2,h3,h4,h5,h6,h7,i1⟩,i2⟩
section
variable {a b:List ByteArray} (ha:a.length≤100) (hb:b.length≤100) (za:Bd a) (zb:Bd b) {ctx:Int} (c0:0≤ctx) (c5:ctx≤5)
include ha hb za zb
include c0 c5
theorem shk_loop(L:List CH)(hL:L.length≤1000)(e p q:Int)(e0:0≤e)(e1:e≤a.length):∀(d i:Nat) (x:Int) (acc:List ByteArray),L.length-i=d→i≤L.length→Okc a.length b.length (L.drop i) x→acc.length≤500*i →
    Ev (fun k=>spec_l3Hunk.l0 k a b L ctx e x (i:Int) p q acc) (p,q,acc++bod a b (L.drop i) x++endc a ctx e):=by
 intro d
 induction d with
 |zero=>
  intro i x acc hd hi hk hacc;refine Ev.step (fun k=>by rw[spec_l3Hunk.l0]) (Ev_neg (by omega) (Ev_const (smin_tells _ _) ?_));rw[wid (by omega) (by omega),Int.min_comm];have hz:=sg_le a e.toNat (min (e+ctx) (a.length:Int)).toNat;have hz':=hz;unfold sg at hz';refine Ev_pos e0 (Ev_pos (by omega) (Ev_pos (by omega) (Ev_call (sput3 32 (sg_bd za e.toNat (min (e+ctx) (a.length:Int)).toNat) (by omega)) (Ev_val ?_))));have e9:L.drop i=[]:=List.drop_eq_nil_of_le (by omega);rw[e9,bod,List.append_nil];rfl
 |succ d ih=>
  intro i x acc hd hi hk hacc;(have hlt:i<L.length:=by omega);rw[drop_at hlt]at hk ⊢;obtain⟨k1,k2,k3,k4,k5,k6,k7,k8⟩:=hk;have z1:=sg_le a x.toNat L[i].f0.toNat;have z1':=z1;unfold sg at z1';have z2:=sg_le a L[i].f0.toNat (L[i].f0+L[i].f1).toNat;have z2':=z2;unfold sg at z2';have z3:=sg_le b L[i].f2.toNat (L[i].f2+L[i].f3).toNat;have z3':=z3;unfold sg at z3';have nx:=ih (i+1) (L[i].f0+L[i].f1) (acc++mkd 32 (sg a x.toNat L[i].f0.toNat)++mkd 45 (sg a L[i].f0.toNat (L[i].f0+L[i].f1).toNat)++mkd 43 (sg b L[i].f2.toNat (L[i].f2+L[i].f3).toNat)) (by omega) (by omega) k8 (by simp only[List.length_append,mkd_len];omega);have okl:=okc_len k8;refine Ev.step (fun k=>by rw[spec_l3Hunk.l0]) (Ev_pos (by omega) (Ev_pos (by omega) ?_));rw[rdc_nat hlt,wsucc hlt (by omega),wid (x:=L[i].f0+L[i].f1) (by omega) (by omega),wid (x:=L[i].f2+L[i].f3) (by omega) (by omega)];refine Ev_pos k1 (Ev_pos k2 (Ev_pos (by omega) (Ev_call (sput3 32 (sg_bd za x.toNat L[i].f0.toNat) (by omega)) ?_)));refine Ev_pos (by omega) (Ev_pos (by omega) (Ev_pos (by omega) (Ev_call (sput3 45 (sg_bd za L[i].f0.toNat (L[i].f0+L[i].f1).toNat) (by simp only[List.length_append,mkd_len];omega)) ?_)));refine Ev_pos (by omega) (Ev_pos (by omega) (Ev_pos (by omega) (Ev_call (sput3 43 (sg_bd zb L[i].f2.toNat (L[i].f2+L[i].f3).toNat) (by simp only[List.length_append,mkd_len];omega)) ?_)));refine Ev_eq nx ?_;simp only[bod,pie,List.append_assoc]
theorem shk_tells(c:CH)(L:List CH)(hL:(c::L).length≤1000)(hok:Okc a.length b.length (c::L) (c.f0-ahd ctx c))(h2: -1000≤c.f2∧c.f2≤1000):Ev (fun k=>spec_l3Hunk.f k a b (c::L) ctx) (c.f0-ahd ctx c,c.f2-ahd ctx c,bod a b (c::L) (c.f0-ahd ctx c)++endc a ctx (lst (c::L) 0)):=by
 obtain⟨n,hn⟩:∃n,(c::L).length=n+1:=⟨L.length,rfl⟩;(have hlt:n<(c::L).length:=by omega);(have ew:wrap64 (((c::L).length:Int)-1)=(n:Int):=by rw[wid (by omega) (by omega)];omega);(have el:(c::L)[n].f0+(c::L)[n].f1=lst (c::L) 0:=by(have e:c::L=((c::L).take n)++[(c::L)[n]]:=by(conv=>lhs;rw[←List.take_length (l:=c::L),hn]);exact List.take_succ_eq_append_getElem hlt);conv=>rhs;rw[e,lst_app])
 have hend:0≤lst (c::L) 0∧lst (c::L) 0≤(a.length:Int):=by
  have:∀(l:List CH) (x:Int),Okc a.length b.length l x→0≤lst l x∧lst l x≤(a.length:Int):=by
   intro l
   induction l with
   |nil=>intro x h;exact h
   |cons d l ih=>intro x h;exact ih _ h.2.2.2.2.2.2.2
  exact this (c::L) (c.f0-ahd ctx c) hok
 have h0:rd_T95 (c::L) 0=c:=rdc_nat (l:=c::L) (i:=0) (by simp);obtain⟨k1,k2,k3,k4,k5,k6,k7,k8⟩:=hok;have e1:min ctx c.f0=ahd ctx c:=rfl;(have b0:0≤c.f0∧c.f0≤a.length:=by have:=okc_len k8;omega);(have b1:0≤ahd ctx c∧ahd ctx c≤5:=by unfold ahd;omega);unfold spec_l3Hunk.f;refine Ev_pos (by omega) ?_;rw[ew];refine Ev_pos (by omega) (Ev_pos (by omega) (Ev_const (smin_tells _ _) ?_));rw[rdc_nat hlt,h0,e1,el,wid (x:=c.f0-ahd ctx c) (by omega) (by omega),wid (x:=c.f2-ahd ctx c) (by omega) (by omega)];rw[wid (by omega) (by omega)];have:=shk_loop ha hb za zb c0 c5 (c::L) hL (lst (c::L) 0) (c.f0-ahd ctx c) (c.f2-ahd ctx c) hend.1 hend.2 _ 0 (c.f0-ahd ctx c) [] rfl (by omega) ⟨k1,k2,k3,k4,k5,k6,k7,k8⟩ (by simp);rw[List.drop_zero,List.nil_append]at this;exact this
def bld(a b:List ByteArray)(ctx:Int):List CH→HK
  |[]=>⟨0,0,[]⟩
  |c::L=>⟨c.f0-ahd ctx c,c.f2-ahd ctx c,bod a b (c::L) (c.f0-ahd ctx c)⟩
omit ha hb za zb c0 c5 in
theorem bld_app(c d:CH)(L:List CH):bld a b ctx (c::L++[d])=⟨(bld a b ctx (c::L)).f0,(bld a b ctx (c::L)).f1,(bld a b ctx (c::L)).f2++(mkd 32 (sg a (lst (c::L) 0).toNat d.f0.toNat)++pie a b d)⟩:=by
 show(⟨_,_,bod a b ((c::L)++[d]) _⟩:HK)=_;rw[bod_app];rfl
theorem shs_loop(l:List CH)(hl:l.length≤500)(h2:∀c∈l,-1000≤c.f2∧c.f2≤1000):∀(d k:Nat) (m:Nat) (O:List HK) (c:CH) (L:List CH),l.length-k=d→1≤k→k≤l.length→m<k→(l.take k).drop m=c::L→Okc a.length b.length (c::L) (c.f0-ahd ctx c)→Okc a.length b.length (l.drop k) (lst (c::L) 0)→O.length≤k →
    Ev (fun n=>spec_l3Hunks.l0 n a b ctx l O (m:Int) (k:Int)) (O++gos a b ctx (l.drop k) (lst (c::L) 0) (bld a b ctx (c::L))):=by
 intro d
 induction d with
 |zero=>
  intro k m O c L hd hk1 hk hm hs hok hokr hO;have hc:c∈l:=List.mem_of_mem_take (List.mem_of_mem_drop (by rw[hs];simp));(have hLl:(c::L).length≤1000:=by rw[←hs,List.length_drop,List.length_take];omega);refine Ev.step (fun n=>by rw[spec_l3Hunks.l0]) (Ev_pos (by omega) (Ev_neg (by omega) (Ev_pos (by omega) (Ev_pos (by omega) ?_))));rw[Int.toNat_natCast,Int.toNat_natCast,hs];refine Ev_call (shk_tells ha hb za zb c0 c5 c L hLl hok (h2 c hc)) (Ev_pos (by omega) ?_);rw[wsucc' (by omega)];refine Ev.step (fun n=>by rw[spec_l3Hunks.l0]) (Ev_neg (by omega) (Ev_val ?_));rw[List.drop_eq_nil_of_le (by omega),gos];rfl
 |succ d ih=>
  intro k m O c L hd hk1 hk hm hs hok hokr hO;(have hlt:k<l.length:=by omega);have hc:c∈l:=List.mem_of_mem_take (List.mem_of_mem_drop (by rw[hs];simp));(have hLl:(c::L).length≤1000:=by rw[←hs,List.length_drop,List.length_take];omega);obtain⟨j,rfl⟩:∃j,k=j+1:=⟨k-1,by omega⟩;(have hjl:j<l.length:=by omega);(have hseg:(l.take (j+1+1)).drop m=(c::L)++[l[j+1]]:=by rw[List.take_succ_eq_append_getElem hlt,List.drop_append_of_le_length (by rw[List.length_take];omega),hs]);(have hlast:lst (c::L) 0=l[j].f0+l[j].f1:=by(have e:(l.take (j+1)).drop m=(l.take j).drop m++[l[j]]:=by rw[List.take_succ_eq_append_getElem hjl,List.drop_append_of_le_length (by rw[List.length_take];omega)]);rw[←hs,e,lst_app]);rw[drop_at hlt]at hokr ⊢;have hok2:=okc_app l[j+1] _ (c::L) (c.f0-ahd ctx c) hok hokr;obtain⟨r1,r2,r3,r4,r5,r6,r7,r8⟩:=hokr;have bnd:=okc_len r8;have hj:0≤lst (c::L) 0:=r1;(have ew:wrap64 (((j+1:Nat):Int)-1)=(j:Int):=by rw[wid (by omega) (by omega)];omega)
  have hjf:Ev (fun n=>spec_l3Hunks.l0 n a b ctx l O (m:Int) ((j+1:Nat):Int)) (O++gos a b ctx (l[j+1]::l.drop (j+1+1)) (lst (c::L) 0) (bld a b ctx (c::L))):=by
   refine Ev.step (fun n=>by rw[spec_l3Hunks.l0]) (Ev_pos (by omega) (Ev_pos (by omega) (Ev_pos (by omega) ?_)));rw[ew,rdc_nat hlt,rdc_nat hjl,wsucc' (by omega)];have ei:l[j].f0+l[j].f1≤l[j+1].f0∧l[j+1].f0≤a.length:=⟨by omega,by omega⟩
   have hb1: -1000000≤l[j].f0∧l[j].f0≤1000000∧ -1000000≤l[j].f1∧l[j].f1≤1000000:=by
    have:∀(x:List CH) (y:Int),Okc a.length b.length x y→∀z∈x,0≤z.f0∧z.f0≤a.length∧0≤z.f1∧z.f1≤a.length:=by
     intro x
     induction x with
     |nil=>intro y _ z hz;exact absurd hz (by simp)
     |cons u x ihx=>
      intro y hy z hz;obtain⟨y1,y2,y3,y4,y5,y6,y7,y8⟩:=hy;(rcases List.mem_cons.1 hz with rfl|hz);(·omega);exact ihx _ y8 z hz
    (have hmem:l[j]∈c::L:=by rw[←hs];refine List.mem_iff_getElem.2 ⟨j-m,by rw[List.length_drop,List.length_take];omega,?_⟩;rw[List.getElem_drop,List.getElem_take];congr 1;omega);have:=this _ _ hok _ hmem;omega
   rw[wid (x:=l[j+1].f0-l[j].f0) (by omega) (by omega),wid (x:=l[j+1].f0-l[j].f0-l[j].f1) (by omega) (by omega),wid (x:=2*ctx) (by omega) (by omega)];refine Ev_pos (by omega) (Ev_pos (by omega) ?_);rw[gos];refine Ev_if (fun hcl=>?_) (fun hcl=>?_);(·rw[if_neg (by omega)];have:=ih (j+1+1) m O c (L++[l[j+1]]) (by omega) (by omega) (by omega) (by omega) (by rw[hseg];rfl) hok2.1 (by rw[←List.cons_append,lst_app];exact r8) (by omega);rw[←List.cons_append,lst_app,bld_app]at this;exact this);rw[if_pos (by omega)];refine Ev_pos (by omega) (Ev_pos (by omega) ?_);rw[Int.toNat_natCast,Int.toNat_natCast,hs];refine Ev_call (shk_tells ha hb za zb c0 c5 c L hLl hok (h2 c hc)) (Ev_pos (by omega) ?_);(have hone:(l.take (j+1+1)).drop (j+1)=[l[j+1]]:=by rw[List.take_succ_eq_append_getElem hlt,List.drop_append_of_le_length (by rw[List.length_take];omega),List.drop_eq_nil_of_le (by rw[List.length_take];omega)];rfl);(have hah:0≤ahd ctx l[j+1]∧ahd ctx l[j+1]≤l[j+1].f0:=by unfold ahd;omega);have:=ih (j+1+1) (j+1) (O++[(⟨c.f0-ahd ctx c,c.f2-ahd ctx c,bod a b (c::L) (c.f0-ahd ctx c)++endc a ctx (lst (c::L) 0)⟩:HK)]) l[j+1] [] (by omega) (by omega) (by omega) (by omega) hone ⟨by omega,by omega,r3,r4,r5,r6,r7,bnd⟩ r8 (by rw[List.length_append,List.length_singleton];omega);refine Ev_eq this ?_;rw[List.append_assoc];(have eb:bld a b ctx [l[j+1]]=opn a b ctx l[j+1]:=by show(⟨_,_,_++_++[]⟩:HK)=⟨_,_,_⟩;rw[List.append_nil]);rw[eb];rfl
  exact hjf
end
theorem okc_f2{la lb:Int}(hb:0≤lb∧lb≤1000):∀(x:List CH) (y:Int),Okc la lb x y→∀z∈x,-1000≤z.f2∧z.f2≤1000:=by
 intro x
 induction x with
 |nil=>intro y _ z hz;exact absurd hz (by simp)
 |cons u x ihx=>
  intro y hy z hz;obtain⟨y1,y2,y3,y4,y5,y6,y7,y8⟩:=hy;(rcases List.mem_cons.1 hz with rfl|hz);(·omega);exact ihx _ y8 z hz
theorem shun_tells{a b:List ByteArray}(ha:a.length≤100)(hb:b.length≤100)(za:Bd a)(zb:Bd b){ctx:Int}(c0:0≤ctx)(c5:ctx≤5):Ev (fun k=>spec_l3Hunks.f k a b ctx) (HUN a b ctx (CHS a b)):=by
 have l2:=CHS_few a b;(have hl:(CHS a b).length≤500:=by omega);have hok:=okc_of (CHS a b) 0 0 true (by omega) (by omega) (CHS_right a b);have h2:=okc_f2 (lb:=b.length) (by omega) (CHS a b) 0 hok;unfold spec_l3Hunks.f;refine Ev_call (sch_tells a b (by omega) (by omega)) ?_
 cases hL:CHS a b with
 |nil=>
  refine Ev.step (fun n=>by rw[spec_l3Hunks.l0]) (Ev_neg (by simp) (Ev_val ?_));rfl
 |cons c l=>
  rw[hL]at hl hok h2;obtain⟨k1,k2,k3,k4,k5,k6,k7,k8⟩:=hok;(have hah:0≤ahd ctx c∧ahd ctx c≤c.f0:=by unfold ahd;omega);have bn:=okc_len k8;have:=shs_loop ha hb za zb c0 c5 (c::l) hl h2 _ 1 0 [] c [] rfl (by omega) (by simp) (by omega) rfl ⟨by omega,by omega,k3,k4,k5,k6,k7,bn⟩ k8 (by simp);refine Ev_eq this ?_;(have eb:bld a b ctx [c]=opn a b ctx c:=by show(⟨_,_,_++_++[]⟩:HK)=⟨_,_,_⟩;rw[List.append_nil]);rw[eb];rfl
end Go.Proofs.YthmmmiknmkpbeaaGreatDoor.P
end
section
set_option linter.unusedVariables false
set_option linter.unusedSimpArgs false
namespace Go.Proofs.YthmmmiknmkpbeaaGreatDoor.P
open Go.RowKit Go.Proofs.YthmmmiknmkpbeaaGreatDoorW.PrintWords Go.Proofs.YthmmmiknmkpbeaaGreatDoorW.PrintLast
theorem pick_tells{c:List Int}(hc:Code c){p:Int}(h0:0≤p)(h1:p≤1000000){l:List Int}(hl:1≤l.length)(h2:l.length≤1000):∃v,spec_l1Pick.f c p l=some (v,p+1):=by
 obtain⟨v,e,v0,v1⟩:=next_tells hc (p:=p) (n:=(l.length:Int)) h0 h1 (by omega);have v2:=v1 (by omega);refine⟨rd l v,?_⟩;unfold spec_l1Pick.f;rw[e];show(if 0≤v then(if v<(l.length:Int)then some (rd l v,p+1)else none)else none)=_;rw[if_pos v0,if_pos v2]
theorem lines_few{c:List Int}(hc:Code c){p n:Int}(h0:0≤p)(h1:p≤900000)(n0:0≤n)(n1:n≤100):
    ∃r q,Ev (fun k=>spec_l1Lines.f k c p n) (r,q)∧Lin 1 8 r∧(r.length:Int)≤n∧p≤q∧q≤p+102:=by
 obtain⟨m,rfl⟩:=Int.eq_ofNat_of_zero_le n0;obtain⟨r,q,hr,g1,g2,g3,g4⟩:=lines_loop hc m p [] (by omega) h0 (by omega) (by simp only[List.length_nil];omega) (fun x hx=>absurd hx (by simp));simp only[List.length_nil]at g2;exact⟨r,q,hr,g1,by omega,g3,by omega⟩
theorem Lin.bd{lo hi:Nat}{l:List ByteArray}(h:Lin lo hi l)(hh:hi≤1000):Bd l:=fun x hx=>by have:=(h x hx).2;omega
def Lt(x:List HK)(n m:Nat):Prop:=x.length≤n∧hw x≤m
theorem Lt.small{x:List HK}{n m:Nat}(h:Lt x n m)(hn:n≤1048576)(hm:m≤1048576):SmallH x:=small_of_hw (by have:=h.1;omega) (by have:=h.2;omega)
theorem lw_set0(l:List ByteArray)(s:ByteArray):lw (l.set 0 s)≤lw l+s.size:=by
 cases l with
 |nil=>simp[lw,total]
 |cons x l=>simp only[List.set_cons_zero,lw,total,List.length_cons];omega
theorem lw_drop1(l:List ByteArray):lw (l.drop 1)≤lw l:=by
 cases l with
 |nil=>simp
 |cons x l=>simp only[List.drop_succ_cons,List.drop_zero,lw,total,List.length_cons];omega
theorem hw_zero(n:Nat):hw (List.replicate n z35)=0:=by
 induction n with
 |zero=>rfl
 |succ n ih=>
  rw[List.replicate_succ,hw,ih];rfl
theorem drawh{c:List Int}(hc:Code c):∃a x q,Ev (fun k=>spec_l3Draw.f k c 0) (a,x,q)∧Small a∧SmallH x∧0≤q∧q≤100000:=by
 obtain⟨v,e,v0,v1⟩:=next_tells hc (p:=0) (n:=9) (by omega) (by omega) (by omega);have v2:=v1 (by omega);obtain⟨a,p1,ha,a1,a2,a3,a4⟩:=lines_few hc (p:=0+1) (n:=v) (by omega) (by omega) v0 (by omega);obtain⟨b,p2,hb,b1,b2,b3,b4⟩:=near_tells hc (p:=p1) (by omega) (by omega) (l:=a) (by omega) a1;obtain⟨u,e2,u0,u1⟩:=next_tells hc (p:=p2) (n:=3) (by omega) (by omega) (by omega);have u2:=u1 (by omega);obtain⟨n,rfl⟩:∃n:Nat,u=(n:Int):=⟨u.toNat,by omega⟩;have at1:=a1.total;have bt1:=b1.total;have hh:=shun_tells (a:=a) (b:=b) (by omega) (by omega) (a1.bd (by omega)) (b1.bd (by omega)) (ctx:=(n:Int)) (by omega) (by omega);obtain⟨s1,s2,s3,s4⟩:=HUN_weigh (a:=a) (b:=b) (by omega) (by omega) (by omega) (by omega) n;generalize HUN a b (n:Int) (CHS a b)=H at hh s1 s2 s3 s4;have sa:Small a:=a1.small (by omega) (by omega);obtain⟨w,e3,w0,w1⟩:=next_tells hc (p:=p2+1) (n:=(H.length:Int)) (by omega) (by omega) (by omega);obtain⟨z,e4,z0,z1⟩:=next_tells hc (p:=p2+1+1) (n:=16) (by omega) (by omega) (by omega);by_cases hl:(H.length:Int)=0;(·refine⟨a,H,p2+1,?_,sa,s1,by omega,by omega⟩;unfold spec_l3Draw.f;exact Ev_const e (Ev_call ha (Ev_call hb (Ev_const e2 (Ev_call hh (Ev_pos hl (Ev.now _)))))));have w2:=w1 (by omega);obtain⟨i,rfl⟩:∃i:Nat,w=(i:Int):=⟨w.toNat,by omega⟩;(have hi:i<H.length:=by omega);have hHi:=s4 H[i] (List.getElem_mem hi);have hwi:=hw_at H i hi;(have start:∀{r:List ByteArray × List HK × Int},Ev (fun k=>if z=0 then(if 0≤(i:Int)then(if(i:Int)<(H.length:Int)then((spec_l1Pick.f c (p2+1+1+1) (([(-1),wrap64 (((rd_T35 H (i:Int)).f0)+1),100,101]:List Int))).bind fun bt358=>(some (a,(H.set ((i:Int):Int).toNat (⟨bt358.1,(rd_T35 H (i:Int)).f1,(rd_T35 H (i:Int)).f2⟩:HK)),bt358.2)))else(none))else(none))else(if z=1 then(if 0≤(i:Int)then(if(i:Int)<(H.length:Int)then((spec_l1Pick.f c (p2+1+1+1) (([(-1),wrap64 (((rd_T35 H (i:Int)).f1)+1),101]:List Int))).bind fun bt365=>(some (a,(H.set ((i:Int):Int).toNat (⟨(rd_T35 H (i:Int)).f0,bt365.1,(rd_T35 H (i:Int)).f2⟩:HK)),bt365.2)))else(none))else(none))else(if z=2 then(if 0≤(i:Int)then(if(i:Int)<(H.length:Int)then((some (([(⟨#[]⟩:ByteArray),(⟨#[120]⟩:ByteArray),(⟨#[32]⟩:ByteArray),(⟨#[42,113,10]⟩:ByteArray),(⟨#[45,97,10,98,10]⟩:ByteArray),(⟨#[32,122,122,10]⟩:ByteArray),(⟨#[43,110,10]⟩:ByteArray)]:List ByteArray):List ByteArray)).bind fun y369=>((spec_l1Next.f c (p2+1+1+1) 7).bind fun bt372=>(if 0≤bt372.1 then(if bt372.1<(y369.length:Int)then((spec_putLine.f H (i:Int) (rdOf ByteArray.empty y369 bt372.1)).bind fun t375=>(some (a,t375,bt372.2)))else(none))else(none))))else(none))else(none))else(if z=3 then(if 0≤(i:Int)then(if(i:Int)<(H.length:Int)then(if 1≤(((rd_T35 H (i:Int)).f2).length:Int)then(some (a,(H.set ((i:Int):Int).toNat (⟨(rd_T35 H (i:Int)).f0,(rd_T35 H (i:Int)).f1,((rd_T35 H (i:Int)).f2).drop 1⟩:HK)),p2+1+1+1))else(none))else(none))else(none))else(if z=4 then(if 0≤(i:Int)then(if(i:Int)<(H.length:Int)then(if H.length<3518437208883 then(some (a,(H++[rd_T35 H (i:Int)]),p2+1+1+1))else(none))else(none))else(none))else(if z=5 then((spec_l1Near.f k c (p2+1+1+1) a).bind fun bt386=>(some (bt386.1,H,bt386.2)))else(if z=6 then((spec_l1Chance.f c (p2+1+1+1) 4).bind fun bt390=>(if bt390.1=true then(if 101≤7036874417766 then(some (a,(List.replicate 101 z35),bt390.2))else(none))else(some (a,H,bt390.2))))else(some (a,H,p2+1+1+1))))))))) r→Ev (fun k=>spec_l3Draw.f k c 0) r:=by intro r h;unfold spec_l3Draw.f;exact Ev_const e (Ev_call ha (Ev_call hb (Ev_const e2 (Ev_call hh (Ev_neg hl (Ev_const e3 (Ev_const e4 h))))))));(have one:∀y:HK,lw y.f2≤hw H+10→SmallH (H.set i y):=fun y hy=>by have:=hw_set H i y hi;exact small_of_hw (by rw[List.length_set];omega) (by omega));have er:rd_T35 H (i:Int)=H[i]:=rdh_nat hi;by_cases c0:z=0;(·obtain⟨v',hv⟩:=pick_tells hc (p:=p2+1+1+1) (by omega) (by omega) (l:=[(-1),wrap64 (((rd_T35 H (i:Int)).f0)+1),100,101]) (by simp) (by simp);refine⟨_,_,_,start (Ev_pos c0 (Ev_pos (by omega) (Ev_pos (by omega) (Ev_const hv (Ev.now _))))),sa,?_,by omega,by omega⟩;rw[er];exact one _ (by show lw H[i].f2≤_;omega));by_cases c1:z=1;(·obtain⟨v',hv⟩:=pick_tells hc (p:=p2+1+1+1) (by omega) (by omega) (l:=[(-1),wrap64 (((rd_T35 H (i:Int)).f1)+1),101]) (by simp) (by simp);refine⟨_,_,_,start (Ev_neg c0 (Ev_pos c1 (Ev_pos (by omega) (Ev_pos (by omega) (Ev_const hv (Ev.now _)))))),sa,?_,by omega,by omega⟩;rw[er];exact one _ (by show lw H[i].f2≤_;omega));by_cases c2:z=2;(·obtain⟨y,e5,y0,y1⟩:=next_tells hc (p:=p2+1+1+1) (n:=7) (by omega) (by omega) (by omega);have y2:=y1 (by omega);generalize hY:([(⟨#[]⟩:ByteArray),(⟨#[120]⟩:ByteArray),(⟨#[32]⟩:ByteArray),(⟨#[42,113,10]⟩:ByteArray),(⟨#[45,97,10,98,10]⟩:ByteArray),(⟨#[32,122,122,10]⟩:ByteArray),(⟨#[43,110,10]⟩:ByteArray)]:List ByteArray)=Y at start;(have hYl:Y.length=7:=by rw[←hY];rfl);(have hYs:∀s∈Y,s.size≤6:=by rw[←hY];intro s hs;simp only[List.mem_cons,List.not_mem_nil,or_false]at hs;rcases hs with rfl|rfl|rfl|rfl|rfl|rfl|rfl<;>decide);obtain⟨m,rfl⟩:∃m:Nat,y=(m:Int):=⟨y.toNat,by omega⟩;(have hm:m<Y.length:=by omega);have hs:=hYs Y[m] (List.getElem_mem hm);(have hp:spec_putLine.f H (i:Int) (rdOf ByteArray.empty Y (m:Int))=some (H.set i (⟨H[i].f0,H[i].f1,H[i].f2.set 0 Y[m]⟩:HK)):=by unfold spec_putLine.f;rw[er,if_pos hHi,rd_nat _ hm,Int.toNat_natCast]);refine⟨_,_,_,start (Ev_neg c0 (Ev_neg c1 (Ev_pos c2 (Ev_pos (by omega) (Ev_pos (by omega) (Ev_const rfl (Ev_const e5 (Ev_pos (by omega) (Ev_pos (by omega) (Ev_const hp (Ev.now _))))))))))),sa,?_,by omega,by omega⟩;exact one _ (by have:=lw_set0 H[i].f2 Y[m];show lw (H[i].f2.set 0 Y[m])≤_;omega));by_cases c3:z=3;(·refine⟨_,_,_,start (Ev_neg c0 (Ev_neg c1 (Ev_neg c2 (Ev_pos c3 (Ev_pos (by omega) (Ev_pos (by omega) (Ev_pos (by rw[er];omega) (Ev.now _)))))))),sa,?_,by omega,by omega⟩;rw[er];exact one _ (by have:=lw_drop1 H[i].f2;show lw (H[i].f2.drop 1)≤_;omega));by_cases c4:z=4;(·refine⟨_,_,_,start (Ev_neg c0 (Ev_neg c1 (Ev_neg c2 (Ev_neg c3 (Ev_pos c4 (Ev_pos (by omega) (Ev_pos (by omega) (Ev_pos (by omega) (Ev.now _))))))))),sa,?_,by omega,by omega⟩;rw[er];exact small_of_hw (by rw[List.length_append,List.length_singleton];omega) (by rw[hw_app];simp only[hw];omega));by_cases c5:z=5;(·obtain⟨r,q,hr,g1,g2,g3,g4⟩:=near_tells hc (p:=p2+1+1+1) (by omega) (by omega) (l:=a) (by omega) a1;exact⟨_,_,_,start (Ev_neg c0 (Ev_neg c1 (Ev_neg c2 (Ev_neg c3 (Ev_neg c4 (Ev_pos c5 (Ev_call hr (Ev.now _)))))))),g1.small (by omega) (by omega),s1,by omega,by omega⟩);by_cases c6:z=6;rotate_left;(·exact⟨_,_,_,start (Ev_neg c0 (Ev_neg c1 (Ev_neg c2 (Ev_neg c3 (Ev_neg c4 (Ev_neg c5 (Ev_neg c6 (Ev.now _)))))))),sa,s1,by omega,by omega⟩);obtain⟨t,e5⟩:=chance_tells hc (p:=p2+1+1+1) (n:=4) (by omega) (by omega) (by omega)
 cases t with
 |false=>exact⟨_,_,_,start (Ev_neg c0 (Ev_neg c1 (Ev_neg c2 (Ev_neg c3 (Ev_neg c4 (Ev_neg c5 (Ev_pos c6 (Ev_const e5 (Ev_neg (by simp) (Ev.now _)))))))))),sa,s1,by omega,by omega⟩
 |true=>
  refine⟨_,_,_,start (Ev_neg c0 (Ev_neg c1 (Ev_neg c2 (Ev_neg c3 (Ev_neg c4 (Ev_neg c5 (Ev_pos c6 (Ev_const e5 (Ev_pos rfl (Ev_pos (by omega) (Ev.now _))))))))))),sa,?_,by omega,by omega⟩;exact small_of_hw (by rw[List.length_replicate];omega) (by rw[hw_zero];omega)
def pieces:List UInt8→List UInt8→List (List UInt8)
  |cur,[]=>[cur]
  |cur,b::l=>if b=10 then(cur++[b])::pieces [] l else pieces (cur++[b]) l
def linesL:List UInt8→List UInt8→List (List UInt8)
  |cur,[]=>if cur=[]then[]else[cur]
  |cur,b::l=>if b=10 then(cur++[b])::linesL [] l else linesL (cur++[b]) l
def toB(l:List UInt8):ByteArray:=⟨l.toArray⟩
theorem toB_data(s:ByteArray):toB s.data.toList=s:=by cases s;simp[toB]
theorem data_toB(l:List UInt8):(toB l).data.toList=l:=by simp[toB]
def LNB(s:ByteArray):List ByteArray:=(linesL [] s.data.toList).map toB
theorem extract_data(s:ByteArray)(a b:Nat):(s.extract a b).data.toList=(s.data.toList.drop a).take (b-a):=by
 rw[ByteArray.data_extract,Array.toList_extract,List.extract_eq_take_drop]
theorem extract_toB(s:ByteArray)(a b:Nat):s.extract a b=toB ((s.data.toList.drop a).take (b-a)):=by
 rw[←extract_data,toB_data]
def ahead(cur:List UInt8):List (List UInt8)→List (List UInt8)
  |[]=>[cur]
  |x::r=>(cur++x)::r
theorem pieces_ne(cur l:List UInt8):pieces cur l≠[]:=by
 induction l generalizing cur with
 |nil=>simp[pieces]
 |cons b l ih=>
  rw[pieces];split;(·simp);exact ih _
theorem ahead_ahead(a b:List UInt8){xs:List (List UInt8)}(h:xs≠[]):ahead a (ahead b xs)=ahead (a++b) xs:=by
 cases xs with
 |nil=>exact absurd rfl h
 |cons x r=>simp[ahead]
theorem pieces_cur(cur l:List UInt8):pieces cur l=ahead cur (pieces [] l):=by
 induction l generalizing cur with
 |nil=>simp[pieces,ahead]
 |cons b l ih=>
  rw[pieces,pieces];by_cases h:b=10;(·rw[if_pos h,if_pos h];simp[ahead]);rw[if_neg h,if_neg h,ih (cur++[b]),ih ([]++[b]),ahead_ahead _ _ (pieces_ne _ _)];rfl
theorem splitK_cons(b:UInt8)(l:List UInt8)(h:b≠10)(k:Nat):Lib.splitK [10] 1 k (b::l)=ahead [b] (Lib.splitK [10] 1 k l):=by
 cases k with
 |zero=>rfl
 |succ k=>
  have hge:=index_low l 10;(have e:Lib.indexByte (b::l) 10=if Lib.indexByte l 10<0 then -1 else Lib.indexByte l 10+1:=by rw[Lib.indexByte];simp only[beq_iff_eq,h,if_false];by_cases q:Lib.indexByte l 10= -1;(·rw[if_pos q,if_pos (by omega)]);rw[if_neg q,if_neg (by omega)]);rw[Lib.splitK,Lib.splitK,Lib.index_one,Lib.index_one,e];by_cases hn:Lib.indexByte l 10<0;(·(have e2:Lib.indexByte l 10= -1:=by omega);rw[if_pos hn,e2,if_pos (beq_self_eq_true _),if_pos (beq_self_eq_true _)];rfl);rw[if_neg hn,if_neg (fun q=>by have:=beq_iff_eq.1 q;omega),if_neg (fun q=>by have:=beq_iff_eq.1 q;omega)];obtain⟨o,ho⟩:∃o:Nat,Lib.indexByte l 10=(o:Int):=⟨(Lib.indexByte l 10).toNat,by omega⟩;rw[ho];(have e3:((o:Int)+1).toNat=o+1:=by omega);(have e4:((o:Int)).toNat=o:=by omega);rw[e3,e4];rfl
theorem splitK_pieces(l:List UInt8):Lib.splitK [10] 1 (l.count 10) l=pieces [] l:=by
 induction l with
 |nil=>rfl
 |cons b l ih=>
  rw[pieces];by_cases h:b=10;rotate_left;(·rw[if_neg h,List.count_cons_of_ne (fun e=>h e),splitK_cons b l h,ih];exact(pieces_cur [b] l).symm);subst h;rw[if_pos rfl,List.count_cons_self,Lib.splitK,Lib.index_one];(have e:Lib.indexByte (10::l) 10=0:=by rw[Lib.indexByte];simp);rw[e,if_neg (by decide)];show _::Lib.splitK [10] 1 (l.count 10) l=_;rw[ih];rfl
theorem pieces_lines(cur l:List UInt8):∃p ps,pieces cur l=ps++[p]∧linesL cur l=if p=[]then ps else ps++[p]:=by
 induction l generalizing cur with
 |nil=>
  refine⟨cur,[],rfl,?_⟩;simp[linesL]
 |cons b l ih=>
  rw[pieces,linesL];by_cases h:b=10;rotate_left;(·rw[if_neg h,if_neg h];exact ih _);rw[if_pos h,if_pos h];obtain⟨p,ps,e1,e2⟩:=ih [];refine⟨p,(cur++[b])::ps,by rw[e1];rfl,?_⟩;rw[e2];split<;>rfl
theorem linesOf_tells(s:ByteArray)(hs:s.size≤1048576):impl_linesOf.f s=some (LNB s):=by
 (have e1:strings_SplitAfter.f s (⟨#[10]⟩:ByteArray)=some ((pieces [] s.data.toList).map toB):=by unfold strings_SplitAfter.f;(have:strings_genSplit.f s (⟨#[10]⟩:ByteArray) (((⟨#[10]⟩:ByteArray).size:Nat):Int) (-1)=some ((pieces [] s.data.toList).map toB):=by unfold strings_genSplit.f;show(if s.size<4294967281∧(1:Int)=1∧(-1:Int)= -1 then some (Lib.splitB ⟨⟨[10]⟩⟩ 1 (Lib.countB s ⟨⟨[10]⟩⟩) s)else none)=_;rw[if_pos ⟨by omega,rfl,rfl⟩];congr 1;have h:=Lib.splitB_data ⟨⟨[10]⟩⟩ 1 (Lib.countB s ⟨⟨[10]⟩⟩) s;have e0:Lib.countB s ⟨⟨[10]⟩⟩=s.data.toList.count 10:=Lib.count_one 10 s.data.toList;rw[e0]at h ⊢;have h2:=h.trans (splitK_pieces s.data.toList);rw[←h2,List.map_map];have:(toB ∘ fun x:ByteArray=>x.data.toList)=id:=funext toB_data;rw[this,List.map_id]);rw[this];rfl);unfold impl_linesOf.f;rw[e1];obtain⟨p,ps,e2,e3⟩:=pieces_lines [] s.data.toList;show(if 0≤wrap64 ((((pieces [] s.data.toList).map toB).length:Int)-1)then _ else none)=_;(have hl:((pieces [] s.data.toList).map toB).length=ps.length+1:=by rw[e2];simp)
 have hle:ps.length≤s.size:=by
  have h1:∀(cur l:List UInt8),(pieces cur l).length≤l.length+1:=by
   intro cur l
   induction l generalizing cur with
   |nil=>simp[pieces]
   |cons b l ih=>
    rw[pieces];split;(·have:=ih [];simp only[List.length_cons];omega);have:=ih (cur++[b]);simp only[List.length_cons];omega
  have:=h1 [] s.data.toList;rw[List.length_map]at hl;rw[hl,size_data]at this;omega
 rw[hl];(have ew:wrap64 (((ps.length+1:Nat):Int)-1)=(ps.length:Int):=by rw[wid (by omega) (by omega)];omega);rw[ew,if_pos (by omega),if_pos (by omega)];(have hlt:ps.length<((pieces [] s.data.toList).map toB).length:=by omega);rw[rd_nat _ hlt];(have hget:((pieces [] s.data.toList).map toB)[ps.length]=toB p:=by simp[e2]);rw[hget];(have hq:(toB p).toList=([]:List UInt8)↔p=[]:=by rw[toList_nil,data_toB]);unfold LNB;rw[e3];by_cases hp:p=[];rotate_left;(·rw[if_neg (fun e=>hp (hq.1 e)),if_neg hp,e2]);rw[if_pos (hq.2 hp),if_pos (by omega),if_pos hp,e2];(have:((ps.length:Int)).toNat=ps.length:=by omega);rw[this];simp
theorem lines_len(cur l:List UInt8):(linesL cur l).length≤l.length+1:=by
 induction l generalizing cur with
 |nil=>rw[linesL];split<;>simp
 |cons b l ih=>
  rw[linesL];split;(·have:=ih [];simp only[List.length_cons];omega);have:=ih (cur++[b]);simp only[List.length_cons];omega
end Go.Proofs.YthmmmiknmkpbeaaGreatDoor.P
end
section
set_option linter.unusedVariables false
set_option linter.unusedSimpArgs false
namespace Go.Proofs.YthmmmiknmkpbeaaGreatDoor.P
open Go.RowKit Go.Proofs.YthmmmiknmkpbeaaGreatDoorW.PrintWords Go.Proofs.YthmmmiknmkpbeaaGreatDoorW.PrintLast
abbrev Hk:=S35
abbrev dg(n:Nat):List UInt8:=Lib.decDigits n
theorem dg_small{n:Nat}(h:n<10):dg n=[UInt8.ofNat (48+n)]:=Lib.decDigits_one h
theorem dg_big{n:Nat}(h:¬n<10):dg n=dg (n / 10)++[UInt8.ofNat (48+n%10)]:=by
 show Lib.decDigits n=_;rw[Lib.decDigits,dif_neg h]
theorem u8_nat{n:Nat}(h:n<256):(UInt8.ofNat n).toNat=n:=by
 rw[UInt8.toNat_ofNat'];omega
theorem dg_dig(n:Nat):∀x∈dg n,48≤x.toNat∧x.toNat≤57:=by
 induction n using Nat.strongRecOn with
 |_ n ih=>
  intro x hx;by_cases h:n<10;(·rw[dg_small h,List.mem_singleton]at hx;rw[hx,u8_nat (by omega)];omega);rw[dg_big h,List.mem_append,List.mem_singleton]at hx;(rcases hx with hx|hx);(·exact ih (n / 10) (by omega) x hx);rw[hx,u8_nat (by omega)];omega
theorem dg_ne(n:Nat):dg n≠[]:=by
 by_cases h:n<10;(·rw[dg_small h];simp);rw[dg_big h];simp
def nv(l:List UInt8):Nat:=l.foldl (fun a x=>a*10+(x.toNat-48)) 0
theorem nv_snoc(m:List UInt8)(x:UInt8):nv (m++[x])=nv m*10+(x.toNat-48):=by
 unfold nv;rw[List.foldl_append];rfl
theorem nv_dg(n:Nat):nv (dg n)=n:=by
 induction n using Nat.strongRecOn with
 |_ n ih=>
  by_cases h:n<10;rotate_left;(·rw[dg_big h,nv_snoc,ih (n / 10) (by omega),u8_nat (by omega)];omega);rw[dg_small h,show[UInt8.ofNat (48+n)]=[]++[UInt8.ofNat (48+n)]from rfl,nv_snoc,u8_nat (by omega)];show 0*10+_=_;omega
theorem dg_inj{m n:Nat}(h:dg m=dg n):m=n:=by rw[←nv_dg m,h,nv_dg]
def Num(l:List UInt8):Prop:=(∀x∈l,48≤x.toNat∧x.toNat≤57)∧l≠[]∧(l.length=1∨l.head?≠some 48)
theorem snoc_cases{α:Type}(l:List α):l=[]∨∃m x,l=m++[x]:=by
 (rcases List.eq_nil_or_concat l with h|⟨m,x,h⟩);(·exact .inl h);exact .inr ⟨m,x,by rw[h];simp⟩
theorem nv_pos:∀(k:Nat) (l:List UInt8),l.length=k→(∀x∈l,48≤x.toNat∧x.toNat≤57)→l≠[]→l.head?≠some 48→1≤nv l:=by
 intro k
 induction k with
 |zero=>intro l h _ h2 _;exact absurd (List.length_eq_zero_iff.1 h) h2
 |succ k ih=>
  intro l hk hd hne hh;(rcases snoc_cases l with h|⟨m,x,rfl⟩);(·exact absurd h hne);rw[nv_snoc];by_cases hm:m=[];rotate_left
  ·have:=ih m (by simpa using hk) (fun y hy=>hd y (by simp[hy])) hm (by
     cases m with
     |nil=>exact absurd rfl hm
     |cons y m=>simpa using hh)
   omega
  subst hm;have h1:=hd x (by simp)
  have h2:x.toNat≠48:=fun e=>hh (by
    rw[List.nil_append,List.head?_cons]
    congr 1
    exact UInt8.toNat_inj.1 e)
  omega
theorem dg_nv:∀(k:Nat) (l:List UInt8),l.length=k→Num l→dg (nv l)=l:=by
 intro k
 induction k with
 |zero=>intro l h g;exact absurd (List.length_eq_zero_iff.1 h) g.2.1
 |succ k ih=>
  intro l hk ⟨hd,hne,hh⟩;(rcases snoc_cases l with h|⟨m,x,rfl⟩);(·exact absurd h hne);have h1:=hd x (by simp);have ex:UInt8.ofNat (48+(x.toNat-48))=x:=UInt8.toNat_inj.1 (by rw[u8_nat (by omega)];omega);rw[nv_snoc];by_cases hm:m=[];(·subst hm;rw[show nv ([]:List UInt8)*10+(x.toNat-48)=x.toNat-48 from by show 0*10+_=_;omega,dg_small (by omega),ex];rfl);(have hl:m.length=k:=by simpa using hk);(have hd2:∀y∈m,48≤y.toNat∧y.toNat≤57:=fun y hy=>hd y (by simp[hy]))
  have hh2:m.head?≠some 48:=by
   cases m with
   |nil=>exact absurd rfl hm
   |cons y m=>
    (rcases hh with h|h);(·simp at h);simpa using h
  have hp:=nv_pos _ m rfl hd2 hm hh2;rw[dg_big (by omega),show(nv m*10+(x.toNat-48)) / 10=nv m by omega,show(nv m*10+(x.toNat-48))%10=x.toNat-48 by omega,ih m hl ⟨hd2,hm,.inr hh2⟩,ex]
theorem dg_head(n:Nat):(dg n).length=1∨(dg n).head?≠some 48:=by
 induction n using Nat.strongRecOn with
 |_ n ih=>
  by_cases h:n<10;(·rw[dg_small h];simp);right;rw[dg_big h]
  have e:(dg (n / 10)++[UInt8.ofNat (48+n%10)]).head?=(dg (n / 10)).head?:=by
   cases h2:dg (n / 10)with
   |nil=>exact absurd h2 (dg_ne _)
   |cons y m=>rfl
  rw[e];(rcases ih (n / 10) (by omega)with h1|h1);rotate_left;(·exact h1);by_cases h3:n / 10<10;rotate_left;(·(have e9:(dg (n / 10)).length=(dg (n / 10 / 10)).length+1:=by rw[dg_big h3,List.length_append,List.length_singleton]);have:=List.length_pos_iff.2 (dg_ne (n / 10 / 10));omega);rw[dg_small h3,List.head?_cons];intro e;(injection e with e);have:=congrArg UInt8.toNat e;rw[u8_nat (by omega)]at this;simp at this;omega
theorem dg_num(n:Nat):Num (dg n):=⟨dg_dig n,dg_ne n,dg_head n⟩
theorem nv_lt:∀(k:Nat) (l:List UInt8),l.length=k→(∀x∈l,48≤x.toNat∧x.toNat≤57)→nv l<10 ^ k:=by
 intro k
 induction k with
 |zero=>intro l h _;rw[List.length_eq_zero_iff.1 h];decide
 |succ k ih=>
  intro l hk hd;(rcases snoc_cases l with h|⟨m,x,rfl⟩);(·rw[h]at hk;simp at hk);have:=ih m (by simpa using hk) (fun y hy=>hd y (by simp[hy]));have h1:=hd x (by simp);rw[nv_snoc,Nat.pow_succ];omega
theorem dg_len{n:Nat}(h:n≤9999):(dg n).length≤4:=by
 by_cases h1:n<10;(·rw[dg_small h1];simp);rw[dg_big h1,List.length_append];by_cases h2:n / 10<10;(·rw[dg_small h2];simp);rw[dg_big h2,List.length_append];by_cases h3:n / 10 / 10<10;(·rw[dg_small h3];simp);rw[dg_big h3,dg_small (by omega)];simp
theorem Num_le{l:List UInt8}(h:Num l)(hl:l.length≤4):nv l≤9999:=by
 have:=nv_lt _ l rfl h.1;have:10 ^ l.length≤10 ^ 4:=Nat.pow_le_pow_right (by omega) hl;omega
def hdT(p a q b:Nat):List UInt8:=[64,64,32,45]++(dg p++44::(dg a++32::43::(dg q++44::(dg b++[32,64,64,10]))))
def lnT(s:ByteArray):List UInt8:=if s.data.toList.getLast?=some 10 then s.data.toList else s.data.toList++[10,92,10]
def lsT:List ByteArray→List UInt8
  |[]=>[]
  |s::l=>lnT s++lsT l
def FT:List Hk→List UInt8
  |[]=>[]
  |h::r=>hdT h.f0.toNat (hA h.f2) h.f1.toNat (hB h.f2)++(lsT h.f2++FT r)
theorem cut_uniq{c:UInt8}{x y:List UInt8}:∀{u v:List UInt8},c∉u→c∉v→u++c::x=v++c::y→u=v∧x=y:=by
 intro u
 induction u with
 |nil=>
  intro v _ hv h
  cases v with
  |nil=>exact⟨rfl,(List.cons.inj h).2⟩
  |cons z v=>exact absurd (List.cons.inj h).1 (fun e=>hv (by rw[e];simp))
 |cons w u ih=>
  intro v hu hv h
  cases v with
  |nil=>exact absurd (List.cons.inj h).1 (fun e=>hu (by rw[e];simp))
  |cons z v=>
   obtain⟨e1,e2⟩:=List.cons.inj h;obtain⟨e3,e4⟩:=ih (fun e=>hu (by simp[e])) (fun e=>hv (by simp[e])) e2;exact⟨by rw[e1,e3],e4⟩
theorem dg_no{n:Nat}{c:UInt8}(h:c.toNat<48∨57<c.toNat):c∉dg n:=fun e=>by have:=dg_dig n c e;omega
theorem hdT_app(p a q b:Nat)(r:List UInt8):hdT p a q b++r=64::64::32::45::(dg p++44::(dg a++32::43::(dg q++44::(dg b++32::64::64::10::r)))):=by
 unfold hdT;simp
theorem hdT_inj{p a q b p' a' q' b':Nat}{r r':List UInt8}(h:hdT p a q b++r=hdT p' a' q' b'++r'):p=p'∧a=a'∧q=q'∧b=b'∧r=r':=by
 rw[hdT_app,hdT_app]at h;(injection h with _ h);(injection h with _ h);(injection h with _ h);(injection h with _ h);obtain⟨e1,h⟩:=cut_uniq (dg_no (by decide)) (dg_no (by decide)) h;obtain⟨e2,h⟩:=cut_uniq (dg_no (by decide)) (dg_no (by decide)) h;(injection h with _ h);obtain⟨e3,h⟩:=cut_uniq (dg_no (by decide)) (dg_no (by decide)) h;obtain⟨e4,h⟩:=cut_uniq (dg_no (by decide)) (dg_no (by decide)) h;(injection h with _ h);(injection h with _ h);(injection h with _ h);exact⟨dg_inj e1,dg_inj e2,dg_inj e3,dg_inj e4,h⟩
theorem hdT_len(p a q b:Nat):12≤(hdT p a q b).length:=by
 have h1:=List.length_pos_iff.2 (dg_ne p);have h2:=List.length_pos_iff.2 (dg_ne a);have h3:=List.length_pos_iff.2 (dg_ne q);have h4:=List.length_pos_iff.2 (dg_ne b);have e:=congrArg List.length (hdT_app p a q b []);simp only[List.append_nil,List.length_cons,List.length_append,List.length_nil]at e;omega
def HdIs(l:List UInt8)(p a q b:Nat)(r:List UInt8):Prop:=p≤9999∧a≤9999∧q≤9999∧b≤9999∧l=hdT p a q b++r
def nl:List UInt8→Option (List UInt8 × List UInt8)
  |[]=>none
  |x::l=>if x=10 then some ([10],l)else(nl l).map fun p=>(x::p.1,p.2)
theorem nl_some:∀{l x r:List UInt8},nl l=some (x,r)→l=x++r∧∃y,x=y++[10]∧10∉y:=by
 intro l
 induction l with
 |nil=>intro x r h;cases h
 |cons c l ih=>
  intro x r h;rw[nl]at h;split at h;(·rename_i hc;(injection h with h);(injection h with h1 h2);subst h1 h2 hc;exact⟨rfl,[],rfl,by simp⟩);rename_i hc;obtain⟨⟨x',r'⟩,h1,h2⟩:=Option.map_eq_some_iff.1 h;(injection h2 with h2 h3);subst h2 h3;obtain⟨e,y,ey,hy⟩:=ih h1;exact⟨by rw[e];rfl,c::y,by rw[ey];rfl,by simp[hy];exact fun e=>hc e.symm⟩
theorem nl_of(y r:List UInt8)(h:10∉y):nl (y++10::r)=some (y++[10],r):=by
 induction y with
 |nil=>rfl
 |cons c y ih=>
  (have hc:¬c=10:=fun e=>h (by simp[e]));rw[List.cons_append,nl,if_neg hc,ih (fun e=>h (by simp[e]))];rfl
theorem nl_none:∀{l:List UInt8},nl l=none→10∉l:=by
 intro l
 induction l with
 |nil=>intro _;simp
 |cons c l ih=>
  intro h;rw[nl]at h;split at h;(·cases h);rename_i hc;have:=ih (Option.map_eq_none_iff.1 h);simp[this];exact fun e=>hc e.symm
theorem linesL_nl:∀(l cur:List UInt8),linesL cur l=match nl l with
    |none=>if cur++l=[]then[]else[cur++l]
    |some (x,r)=>(cur++x)::linesL [] r:=by
 intro l
 induction l with
 |nil=>intro cur;rw[linesL,nl];simp
 |cons c l ih=>
  intro cur;rw[linesL,nl];by_cases hc:c=10;(·subst hc;rw[if_pos rfl,if_pos rfl]);rw[if_neg hc,if_neg hc,ih]
  cases nl l with
  |none=>simp
  |some p=>simp
def tk(l:List UInt8):Option (ByteArray × List UInt8):=
  match nl l with
  |none=>none
  |some (x,r)=>if r.take 2=[92,10]then(if hbad (toB x.dropLast)then none else some (toB x.dropLast,r.drop 2))else(if hbad (toB x)then none else some (toB x,r))
theorem tk_some{l:List UInt8}{y:ByteArray}{r:List UInt8}(h:tk l=some (y,r)):l=lnT y++r∧¬hbad y:=by
 unfold tk at h;split at h;(·cases h);rename_i x r' e;obtain⟨e1,z,ez,hz⟩:=nl_some e;split at h;rotate_left;(·split at h;(·cases h);rename_i hb;(injection h with h);(injection h with h1 h2);subst h1 h2;refine⟨?_,hb⟩;unfold lnT;rw[if_pos (by rw[data_toB,ez];simp),data_toB,e1]);rename_i ht;split at h;(·cases h);rename_i hb;(injection h with h);(injection h with h1 h2);subst h1 h2;refine⟨?_,hb⟩;(have hx:x.dropLast=z:=by rw[ez];simp);rw[hx];(have:¬(toB z).data.toList.getLast?=some 10:=by rw[data_toB];intro e;exact hz (List.mem_of_getLast? e));unfold lnT;rw[if_neg this,data_toB,e1,ez];(conv=>lhs;rw[←List.take_append_drop 2 r',ht]);simp
theorem mk_cons{s:ByteArray}{a:UInt8}{d:List UInt8}(h:s.data.toList=a::d):mk s=(a.toNat:Int):=by
 (have hlt:0<s.data.toList.length:=by rw[h];simp);have:=bt_nat hlt;rw[show(((0:Nat)):Int)=0 from rfl]at this;unfold mk;rw[this];congr 2;simp[h]
theorem good_inner{s:ByteArray}(h:¬hbad s):10∉s.data.toList.dropLast:=by
 unfold hbad at h;intro e;(have hs:2≤s.size:=Classical.byContradiction fun q=>h (.inl (by omega)));(have hm:mk s=32∨mk s=45∨mk s=43:=Classical.byContradiction fun q=>h (.inr (.inl q)));refine h (.inr (.inr ?_));(have hl:2≤s.data.toList.length:=by rw[size_data];omega);unfold tl;have hk:=@mk_cons s;generalize s.data.toList=d at *
 match d,hl with
 |x::y::d,_=>
  have hx:=hk rfl;simp only[List.dropLast_cons_cons,List.mem_cons,List.drop_succ_cons,List.drop_zero]at e ⊢;(rcases e with e|e);rotate_left;(·exact e);subst e;rw[hx]at hm;exact absurd hm (by decide)
theorem tk_of{s:ByteArray}(h:¬hbad s){r:List UInt8}(hr:r.take 2≠[92,10]):tk (lnT s++r)=some (s,r):=by
 have hi:=good_inner h;(have hs:2≤s.size:=Classical.byContradiction fun q=>h (.inl (by omega)));(have hne:s.data.toList≠[]:=fun e=>by have:=size_data s;rw[e]at this;simp at this;omega);by_cases he:s.data.toList.getLast?=some 10;(·(have e2:s.data.toList=s.data.toList.dropLast++[10]:=by have:=List.dropLast_concat_getLast hne;rw[List.getLast?_eq_some_getLast hne]at he;(injection he with he);rw[he]at this;exact this.symm);unfold lnT tk;rw[if_pos he];(have e3:s.data.toList++r=s.data.toList.dropLast++10::r:=by rw[e2];simp);rw[e3,nl_of _ _ hi,←e2];dsimp only;rw[if_neg hr,toB_data,if_neg h]);(have hn:10∉s.data.toList:=fun e=>by have:=List.dropLast_concat_getLast hne;rw[←this,List.mem_append]at e;(rcases e with e|e);(·exact hi e);rw[List.mem_singleton]at e;exact he (by rw[List.getLast?_eq_some_getLast hne,←e]));unfold lnT tk;rw[if_neg he];(have e3:s.data.toList++[10,92,10]++r=s.data.toList++10::(92::10::r):=by simp);rw[e3,nl_of _ _ hn];dsimp only;rw[if_pos (by simp),List.dropLast_concat,toB_data,if_neg h];simp
def rb:Nat→Int→Int→List UInt8→Option (List ByteArray × List UInt8)
  |0,_,_,_=>none
  | f + 1, o, n, l => if o > 0 ∨ n > 0 then (match tk l with
      |none=>none
      |some (y,r)=>(rb f (if mk y=43 then o else o-1) (if mk y=45 then n else n-1) r).map fun p=>(y::p.1,p.2))
    else if o<0∨n<0 then none else some ([],l)
theorem rb_some:∀{f:Nat} {o n:Int} {l r:List UInt8} {x:List ByteArray},rb f o n l=some (x,r)→l=lsT x++r∧o=hA x∧n=hB x∧HB x=false:=by
 intro f
 induction f with
 |zero=>intro o n l r x h;cases h
 |succ f ih=>
  intro o n l r x h;rw[rb]at h;split at h;rotate_left;(·split at h;(·cases h);(injection h with h);(injection h with h1 h2);subst h1 h2;refine⟨rfl,?_,?_,rfl⟩;(·simp only[hA];omega);simp only[hB];omega);split at h;(·cases h);rename_i y r' e;obtain⟨⟨x',r2⟩,h1,h2⟩:=Option.map_eq_some_iff.1 h;(injection h2 with h2 h3);subst h2 h3;obtain⟨e1,hb⟩:=tk_some e;obtain⟨i1,i2,i3,i4⟩:=ih h1;refine⟨by rw[e1,i1,lsT];simp,?_,?_,?_⟩;(·rw[hA];split at i2<;>simp_all<;>omega);(·rw[hB];split at i3<;>simp_all<;>omega);rw[HB_cons,decide_eq_false hb,i4];rfl
theorem lsT_two{x:List ByteArray}{r:List UInt8}(hx:HB x=false)(hr:r.take 2≠[92,10]):(lsT x++r).take 2≠[92,10]:=by
 cases x with
 |nil=>exact hr
 |cons s x=>
  rw[HB_cons,Bool.or_eq_false_iff]at hx;have h:¬hbad s:=of_decide_eq_false hx.1;unfold hbad at h;(have hs:2≤s.size:=Classical.byContradiction fun q=>h (.inl (by omega)));(have hm:mk s=32∨mk s=45∨mk s=43:=Classical.byContradiction fun q=>h (.inr (.inl q)));(have hl:2≤s.data.toList.length:=by rw[size_data];omega);rw[lsT];have hk:=@mk_cons s;unfold lnT;generalize s.data.toList=d at *
  match d,hl with
  |a::b::d,_=>
   have hx:=hk rfl;intro e;(have e2:a=92:=by split at e<;>simp at e<;>exact e.1);subst e2;rw[hx]at hm;exact absurd hm (by decide)
theorem rb_of:∀(x:List ByteArray) (f:Nat) (r:List UInt8),HB x=false→r.take 2≠[92,10]→x.length<f→rb f (hA x) (hB x) (lsT x++r)=some (x,r):=by
 intro x
 induction x with
 |nil=>
  intro f r _ _ hf;obtain⟨f,rfl⟩:∃g,f=g+1:=⟨f-1,by simp at hf;omega⟩;rw[rb,if_neg (by simp[hA,hB]),if_neg (by simp[hA,hB])];rfl
 |cons s x ih=>
  intro f r hx hr hf;obtain⟨f,rfl⟩:∃g,f=g+1:=⟨f-1,by simp at hf;omega⟩;have hx':=hx;rw[HB_cons,Bool.or_eq_false_iff]at hx;have h:¬hbad s:=of_decide_eq_false hx.1;(have hm:mk s=32∨mk s=45∨mk s=43:=by unfold hbad at h;exact Classical.byContradiction fun q=>h (.inr (.inl q)));rw[rb,if_pos (by simp only[hA,hB];rcases hm with q|q|q<;>rw[q]<;>simp<;>omega),lsT,List.append_assoc,tk_of h (lsT_two hx.2 hr)];dsimp only;(have e1:(if mk s=43 then((hA (s::x):Nat):Int)else((hA (s::x):Nat):Int)-1)=((hA x:Nat):Int):=by simp only[hA];split<;>simp_all<;>omega);(have e2:(if mk s=45 then((hB (s::x):Nat):Int)else((hB (s::x):Nat):Int)-1)=((hB x:Nat):Int):=by simp only[hB];split<;>simp_all<;>omega);rw[e1,e2,ih f r hx.2 hr (by simp at hf;omega)];rfl
open Classical in
noncomputable def rh(l:List UInt8):Option (Hk × List UInt8):=
  if h:∃z:Nat × Nat × Nat × Nat × List UInt8,HdIs l z.1 z.2.1 z.2.2.1 z.2.2.2.1 z.2.2.2.2 then
    (rb (l.length+1) (h.choose.2.1:Nat) (h.choose.2.2.2.1:Nat) h.choose.2.2.2.2).map fun y=>(⟨(h.choose.1:Nat),(h.choose.2.2.1:Nat),y.1⟩,y.2)
  else none
theorem rh_none{l:List UInt8}(h:∀p a q b r,¬HdIs l p a q b r):rh l=none:=by
 unfold rh;rw[dif_neg (fun⟨z,hz⟩=>h _ _ _ _ _ hz)]
theorem rh_is{l:List UInt8}{p a q b:Nat}{r:List UInt8}(h:HdIs l p a q b r):rh l=(rb (l.length+1) (a:Nat) (b:Nat) r).map fun y=>(⟨(p:Nat),(q:Nat),y.1⟩,y.2):=by
 have he:∃z:Nat × Nat × Nat × Nat × List UInt8,HdIs l z.1 z.2.1 z.2.2.1 z.2.2.2.1 z.2.2.2.2:=⟨(p,a,q,b,r),h⟩;have hc:=he.choose_spec;unfold rh;rw[dif_pos he];obtain⟨e1,e2,e3,e4,e5⟩:=hdT_inj (hc.2.2.2.2.symm.trans h.2.2.2.2);rw[e1,e2,e3,e4,e5]
theorem rh_cases(l:List UInt8):(∃p a q b r,HdIs l p a q b r)∨∀p a q b r,¬HdIs l p a q b r:=by
 by_cases h:∃p a q b r,HdIs l p a q b r;(·exact .inl h);exact .inr fun p a q b r e=>h ⟨p,a,q,b,r,e⟩
theorem rh_some{l:List UInt8}{h:Hk}{r:List UInt8}(e:rh l=some (h,r)):l=hdT h.f0.toNat (hA h.f2) h.f1.toNat (hB h.f2)++(lsT h.f2++r)∧HB h.f2=false∧0≤h.f0∧0≤h.f1:=by
 (rcases rh_cases l with⟨p,a,q,b,r',hd⟩|hn);rotate_left;(·rw[rh_none hn]at e;cases e);rw[rh_is hd]at e;obtain⟨⟨x,r2⟩,h1,h2⟩:=Option.map_eq_some_iff.1 e;(injection h2 with h2 h3);subst h2 h3;obtain⟨i1,i2,i3,i4⟩:=rb_some h1;(have ea:a=hA x:=by omega);(have eb:b=hB x:=by omega);refine⟨?_,i4,by simp,by simp⟩;rw[hd.2.2.2.2,i1,ea,eb];simp
theorem lsT_len:∀x:List ByteArray,HB x=false→2*x.length≤(lsT x).length∧total x≤(lsT x).length:=by
 intro x
 induction x with
 |nil=>intro _;simp[lsT,total]
 |cons s x ih=>
  intro hx;rw[HB_cons,Bool.or_eq_false_iff]at hx;have h:¬hbad s:=of_decide_eq_false hx.1;(have hs:2≤s.size:=Classical.byContradiction fun q=>h (.inl (by omega)));have:=ih hx.2;(have h2:s.size≤(lnT s).length:=by have:=size_data s;unfold lnT;split;(·omega);rw[List.length_append];omega);rw[lsT,total,List.length_append,List.length_cons];omega
theorem rh_of{h:Hk}{r:List UInt8}(hg:HB h.f2=false)(h0:0≤h.f0∧h.f0≤9999)(h1:0≤h.f1∧h.f1≤9999)(hl:h.f2.length≤9999)(hr:r.take 2≠[92,10]):
    rh (hdT h.f0.toNat (hA h.f2) h.f1.toNat (hB h.f2)++(lsT h.f2++r))=some (h,r):=by
 have a1:=hA_le h.f2;have b1:=hB_le h.f2;have hd:HdIs (hdT h.f0.toNat (hA h.f2) h.f1.toNat (hB h.f2)++(lsT h.f2++r)) h.f0.toNat (hA h.f2) h.f1.toNat (hB h.f2) (lsT h.f2++r):=⟨by omega,by omega,by omega,by omega,rfl⟩;have hll:=lsT_len h.f2 hg;rw[rh_is hd,rb_of _ _ _ hg hr (by simp only[List.length_append];omega)];(have e0:((h.f0.toNat:Nat):Int)=h.f0:=by omega);(have e1:((h.f1.toNat:Nat):Int)=h.f1:=by omega);simp only[Option.map_some,e0,e1]
noncomputable def pr:Nat→List Hk→List UInt8→Bool × List Hk
  |0,acc,_=>(false,acc)
  |f+1,acc,l=>if l=[]then(true,acc)else match rh l with
    |none=>(false,acc)
    |some (h,r)=>pr f (acc++[h]) r
theorem FT_app(x y:List Hk):FT (x++y)=FT x++FT y:=by
 induction x with
 |nil=>rfl
 |cons h x ih=>rw[List.cons_append,FT,FT,ih];simp
theorem pr_some:∀{f:Nat} {acc x:List Hk} {l:List UInt8},pr f acc l=(true,x)→FT x=FT acc++l:=by
 intro f
 induction f with
 |zero=>intro acc x l h;cases h
 |succ f ih=>
  intro acc x l h;rw[pr]at h;split at h;(·rename_i e;(injection h with _ h);subst h e;simp);split at h;(·cases h);rename_i h' r e;rw[ih h,FT_app,(rh_some e).1];simp[FT]
theorem FT_two{x:List Hk}:(FT x).take 2≠[92,10]:=by
 cases x with
 |nil=>decide
 |cons h x=>rw[FT,hdT_app];simp
theorem FT_ne{h:Hk}{x:List Hk}:FT (h::x)≠[]:=by rw[FT,hdT_app];simp
theorem FT_len{h:Hk}{x:List Hk}:(FT x).length+12≤(FT (h::x)).length:=by
 rw[FT,List.length_append,List.length_append];have:=hdT_len h.f0.toNat (hA h.f2) h.f1.toNat (hB h.f2);omega
def Wr(h:Hk):Prop:=HB h.f2=false∧(0≤h.f0∧h.f0≤9999)∧(0≤h.f1∧h.f1≤9999)∧h.f2.length≤9999
theorem pr_of:∀(x:List Hk) (f:Nat) (acc:List Hk),(∀h∈x,Wr h)→(FT x).length<f→pr f acc (FT x)=(true,acc++x):=by
 intro x
 induction x with
 |nil=>
  intro f acc _ hf;obtain⟨f,rfl⟩:∃g,f=g+1:=⟨f-1,by omega⟩;rw[pr,if_pos (show FT []=[]from rfl),List.append_nil]
 |cons h x ih=>
  intro f acc hx hf;obtain⟨f,rfl⟩:∃g,f=g+1:=⟨f-1,by omega⟩;obtain⟨w1,w2,w3,w4⟩:=hx h (by simp);have hl:=@FT_len h x;rw[pr,if_neg FT_ne,FT,rh_of w1 w2 w3 w4 FT_two];dsimp only;rw[ih f (acc++[h]) (fun y hy=>hx y (by simp[hy])) (by omega)];simp
def FPT(x:List Hk):Int × ByteArray:=if HKF x=0 then(if(FT x).length>8000 then(2,ByteArray.empty)else(0,toB (FT x)))else(HKF x,ByteArray.empty)
noncomputable def PPT(s:ByteArray):Int × Int × List Hk:=if s.size>8000 then(2,0,[])else
  if(pr (s.size+1) [] s.data.toList).1=true then(if HKF (pr (s.size+1) [] s.data.toList).2=0 then(0,0,(pr (s.size+1) [] s.data.toList).2)else(HKF (pr (s.size+1) [] s.data.toList).2,0,[]))
  else(5,((pr (s.size+1) [] s.data.toList).2.length:Nat),[])
theorem HKF_Wr{x:List Hk}(h:HKF x=0):∀c∈x,Wr c:=by
 (have h3:HF x 0 0=0:=by unfold HKF at h;split at h;(·cases h);exact h)
 have all:∀(x:List Hk) (i j:Int),HF x i j=0→∀c∈x,Wr c:=by
  intro x
  induction x with
  |nil=>intro i j _ c hc;exact absurd hc (by simp)
  |cons d x ih=>
   intro i j e c hc;rw[HF_cons]at e;split at e;(·cases e);split at e;(·cases e);rename_i h1 h2;split at e;(·cases e);rename_i h3;split at e;(·cases e);(rcases List.mem_cons.1 hc with rfl|hc);(·exact⟨Bool.eq_false_iff.2 (fun q=>h2 (.inl q)),by omega,by omega,by omega⟩);exact ih _ _ e c hc
 exact all x 0 0 h3
theorem PPT_FPT{x:List Hk}{t:ByteArray}(h:FPT x=(0,t)):PPT t=(0,0,x):=by
 unfold FPT at h;split at h;rotate_left;(·rename_i h0;exact absurd (Prod.mk.inj h).1 h0);rename_i h0;split at h;(·exact absurd (Prod.mk.inj h).1 (by decide));rename_i h1;have e:toB (FT x)=t:=(Prod.mk.inj h).2;subst e;(have hs:(toB (FT x)).size=(FT x).length:=by rw[←size_data,data_toB]);have hp:=pr_of x ((FT x).length+1) [] (HKF_Wr h0) (by omega);rw[List.nil_append]at hp;unfold PPT;rw[hs,data_toB,if_neg h1,hp,if_pos rfl];dsimp only;rw[if_pos h0]
theorem FPT_PPT{s:ByteArray}{x:List Hk}{i:Int}(h:PPT s=(0,i,x)):FPT x=(0,s):=by
 unfold PPT at h;split at h;(·exact absurd (Prod.mk.inj h).1 (by decide));rename_i h1;split at h;rotate_left;(·exact absurd (Prod.mk.inj h).1 (by decide));rename_i h2;split at h;rotate_left;(·rename_i h3;exact absurd (Prod.mk.inj h).1 h3);rename_i h3;have e:(pr (s.size+1) [] s.data.toList).2=x:=(Prod.mk.inj (Prod.mk.inj h).2).2;have hp:pr (s.size+1) [] s.data.toList=(true,x):=Prod.ext h2 e;have hf:=pr_some hp;rw[FT,List.nil_append]at hf;rw[e]at h3;unfold FPT;rw[if_pos h3,hf,size_data,if_neg h1,toB_data]
end Go.Proofs.YthmmmiknmkpbeaaGreatDoor.P
end
section
set_option linter.unusedVariables false
set_option linter.unusedSimpArgs false
namespace Go.Proofs.YthmmmiknmkpbeaaGreatDoor.P
open Go.RowKit Go.Proofs.YthmmmiknmkpbeaaGreatDoorW.PrintWords Go.Proofs.YthmmmiknmkpbeaaGreatDoorW.PrintLast
theorem toB_app(p:List UInt8)(s:ByteArray):toB p++s=toB (p++s.data.toList):=by
 apply data_eq.1;rw[ByteArray.toList_eq,ByteArray.toList_eq,data_toB,ByteArray.data_append,Array.toList_append,data_toB]
theorem toB_two(p q:List UInt8):toB p++toB q=toB (p++q):=by rw[toB_app,data_toB]
theorem toB_size(p:List UInt8):(toB p).size=p.length:=by rw[←size_data,data_toB]
theorem sdig(n:Nat):n≤4611686018427387904→Ev (fun k=>spec_l3Digits.f k (n:Int)) (toB (dg n)):=by
 induction n using Nat.strongRecOn with
 |_ n ih=>
  intro hn;(have one:∀d:Nat,d<10→strOfNums [(wrap64 (48+(d:Int)))%256]=toB [UInt8.ofNat (48+d)]:=fun d hd=>by rw[wid (by omega) (by omega)];show toB [UInt8.ofNat ((48+(d:Int))%256).toNat]=_;rw[show((48+(d:Int))%256).toNat=48+d by omega]);refine Ev.step (fun k=>by rw[spec_l3Digits.f]) ?_;by_cases h:n<10;(·refine Ev_pos (by omega) (Ev_val ?_);rw[one n h,dg_small h]);(have hq:Int.tdiv (n:Int) 10=((n / 10:Nat):Int):=by rw[Int.tdiv_eq_ediv_of_nonneg (by omega)];omega);(have hm:Int.tmod (n:Int) 10=((n%10:Nat):Int):=by rw[Int.tmod_eq_emod_of_nonneg (by omega)];omega);refine Ev_neg (by omega) ?_;rw[hq,hm,wid (x:=((n / 10:Nat):Int)) (by omega) (by omega)]
  have hl:(dg (n / 10)).length≤4611686018427387904:=by
   have:∀m:Nat,(dg m).length≤m+1:=by
    intro m
    induction m using Nat.strongRecOn with
    |_ m im=>
     by_cases hm:m<10;(·rw[dg_small hm];simp);rw[dg_big hm,List.length_append,List.length_singleton];have:=im (m / 10) (by omega);omega
   have:=this (n / 10);omega
  refine Ev_call (ih (n / 10) (by omega) (by omega)) (Ev_const rfl (Ev_pos ?_ (Ev_val ?_)));rotate_left;(·rw[one _ (by omega),toB_two,dg_big h]);rw[one _ (by omega),toB_size,toB_size];simp only[List.length_singleton];omega
theorem idec(n:Nat)(hn:n≤9223372036854775807):impl_decimal.f (n:Int)=some (toB (dg n)):=by
 unfold impl_decimal.f;rw[if_pos (by omega)];unfold Lib.itoa;rw[if_neg (by omega),Int.toNat_natCast];rfl
theorem head_eq(p a q b:Nat):(((((((((⟨#[64,64,32,45]⟩:ByteArray)++toB (dg p))++(⟨#[44]⟩:ByteArray))++toB (dg a))++(⟨#[32,43]⟩:ByteArray))++toB (dg q))++(⟨#[44]⟩:ByteArray))++toB (dg b))++(⟨#[32,64,64,10]⟩:ByteArray))=toB (hdT p a q b):=by
 rw[show(⟨#[64,64,32,45]⟩:ByteArray)=toB [64,64,32,45]from rfl,show(⟨#[44]⟩:ByteArray)=toB [44]from rfl,show(⟨#[32,43]⟩:ByteArray)=toB [32,43]from rfl,show(⟨#[32,64,64,10]⟩:ByteArray)=toB [32,64,64,10]from rfl];rw[toB_two,toB_two,toB_two,toB_two,toB_two,toB_two,toB_two,toB_two];unfold hdT;simp
theorem hdT_max{p a q b:Nat}(hp:p≤9999)(ha:a≤9999)(hq:q≤9999)(hb:b≤9999):(hdT p a q b).length≤28:=by
 have e:=congrArg List.length (hdT_app p a q b []);simp only[List.append_nil,List.length_cons,List.length_append,List.length_nil]at e;have:=dg_len hp;have:=dg_len ha;have:=dg_len hq;have:=dg_len hb;omega
theorem shead{p a q b:Nat}(hp:p≤9999)(ha:a≤9999)(hq:q≤9999)(hb:b≤9999)(l:List ByteArray):Ev (fun k=>spec_l3Head.f k (p:Int) (q:Int) l (a:Int) (b:Int)) (toB (hdT p a q b)):=by
 have l1:=dg_len hp;have l2:=dg_len ha;have l3:=dg_len hq;have l4:=dg_len hb;have z1:((⟨#[44]⟩:ByteArray)).size=1:=rfl;have z2:((⟨#[32,43]⟩:ByteArray)).size=2:=rfl;have z3:((⟨#[64,64,32,45]⟩:ByteArray)).size=4:=rfl;unfold spec_l3Head.f;refine Ev_call (sdig p (by omega)) (Ev_pos (by rw[toB_size];omega) (Ev_pos (by simp only[ByteArray.size_append,toB_size];omega) ?_));refine Ev_call (sdig a (by omega)) (Ev_pos (by simp only[ByteArray.size_append,toB_size];omega) (Ev_pos (by simp only[ByteArray.size_append,toB_size];omega) ?_));refine Ev_call (sdig q (by omega)) (Ev_pos (by simp only[ByteArray.size_append,toB_size];omega) (Ev_pos (by simp only[ByteArray.size_append,toB_size];omega) ?_));refine Ev_call (sdig b (by omega)) (Ev_pos (by simp only[ByteArray.size_append,toB_size];omega) (Ev_pos (by simp only[ByteArray.size_append,toB_size];omega) (Ev_val (head_eq p a q b))))
theorem last5{x:ByteArray}(h:x.size≠0)(hm:x.size≤9223372036854775807):bt x (wrap64 ((x.size:Int)-1))=10↔x.data.toList.getLast?=some 10:=by
 have e0:x.data.toList.length=x.size:=size_data x;rw[wid (by omega) (by omega),show(x.size:Int)-1=((x.size-1:Nat):Int)by omega,bt_nat (by omega)];(have hne:x.data.toList≠[]:=fun e=>h (by rw[←e0,e];rfl));(have hg:x.data.toList[x.size-1]'(by omega)=x.data.toList.getLast hne:=by rw[List.getLast_eq_getElem];congr 1);rw[hg,List.getLast?_eq_some_getLast hne];constructor;(·intro h2;have h3:x.data.toList.getLast hne=10:=UInt8.toNat_inj.1 (by show _=10;omega);rw[h3]);intro h2;(injection h2 with h3);rw[h3];rfl
theorem suf5(l:List UInt8):Lib.hasSuffix l [10]=true↔l.getLast?=some 10:=by
 rw[suffix_last,List.getLast?_eq_some_iff]
theorem lnT_len(s:ByteArray):(lnT s).length≤s.size+3∧s.size≤(lnT s).length:=by
 have:=size_data s;unfold lnT;split;(·omega);rw[List.length_append];simp only[List.length_cons,List.length_nil];omega
theorem stext_line{x:List Hk}(hxl:x.length≤1000){i:Nat}(hi:i<x.length){l:List ByteArray}(el:x[i].f2=l)(hg:HB l=false)(hl:l.length≤1000){R:ByteArray}:
    ∀(d j:Nat) (p:List UInt8),l.length-j=d→j≤l.length→p.length+(lsT (l.drop j)).length≤140737488355328 →
    Ev (fun k=>spec_l3Text.l0 k x (toB (p++lsT (l.drop j))) ((i+1:Nat):Int)) R→Ev (fun k=>spec_l3Text.l1 k x (toB p) (i:Int) (j:Int)) R:=by
 have er:rd_T35 x (i:Int)=x[i]:=rdh_nat hi;intro d
 induction d with
 |zero=>
  intro j p hd hj hp h;(have hj':j=l.length:=by omega);subst hj';rw[List.drop_length,lsT,List.append_nil]at h;refine Ev.step (fun k=>by rw[spec_l3Text.l1]) ?_;rw[er,el];refine Ev_pos (by omega) (Ev_pos (by omega) (Ev_neg (by omega) ?_));rw[wsucc hi (by omega)];exact h
 |succ d ih=>
  intro j p hd hj hp h;(have hlt:j<l.length:=by omega);have hbad:¬hbad l[j]:=HB_at hg hlt;have hpos:=good_pos hbad;have hll:=lnT_len l[j];rw[List.drop_eq_getElem_cons hlt,lsT]at h hp;rw[List.length_append]at hp;have hb:=last5 (x:=l[j]) (by omega) (by omega);refine Ev.step (fun k=>by rw[spec_l3Text.l1]) ?_;rw[er,el,rd_nat _ hlt];refine Ev_pos (by omega) (Ev_pos (by omega) (Ev_pos (by omega) (Ev_pos (by omega) (Ev_pos (by rw[toB_size];omega) (Ev_pos (by rw[wid (by omega) (by omega)];omega) (Ev_pos (by rw[wid (by omega) (by omega)];omega) ?_))))));rw[toB_app];by_cases hc:l[j].data.toList.getLast?=some 10;(·refine Ev_pos (hb.2 hc) ?_;rw[wsucc hlt (by omega)];(have e:lnT l[j]=l[j].data.toList:=by unfold lnT;rw[if_pos hc]);rw[e]at h hp;refine ih (j+1) _ (by omega) (by omega) (by rw[List.length_append];omega) ?_;rw[List.append_assoc];exact h);refine Ev_neg (fun q=>hc (hb.1 q)) (Ev_pos ?_ ?_);(·rw[toB_size,List.length_append,size_data];(have e:(lnT l[j]).length=l[j].size+3:=by unfold lnT;rw[if_neg hc,List.length_append,size_data];rfl);omega);(have e:lnT l[j]=l[j].data.toList++[10,92,10]:=by unfold lnT;rw[if_neg hc]);rw[e]at h hp;rw[wsucc hlt (by omega),toB_app];refine ih (j+1) _ (by omega) (by omega) ?_ ?_;(·rw[List.length_append,List.length_append];rw[List.length_append]at hp;show _+[10,92,10].length+_≤_;omega);(have e3:p++l[j].data.toList++(⟨#[10,92,10]⟩:ByteArray).data.toList++lsT (l.drop (j+1))=p++(l[j].data.toList++[10,92,10]++lsT (l.drop (j+1))):=by show p++l[j].data.toList++[10,92,10]++lsT (l.drop (j+1))=_;simp);rw[e3];exact h
theorem itext_line{x:List Hk}{i:Nat}{l:List ByteArray}(hg:HB l=false)(hl:l.length≤1000)(hn:i<x.length)(hxl:x.length≤1000){R:Int × ByteArray}:
    ∀(d j:Nat) (p:List UInt8),l.length-j=d→j≤l.length→p.length+(lsT (l.drop j)).length≤140737488355328 →
    Ev (fun k=>impl_FormatPatch.l0 k (toB (p++lsT (l.drop j))) x (x.length:Int) ((i+1:Nat):Int)) R→Ev (fun k=>impl_FormatPatch.l1 k (toB p) x (x.length:Int) (i:Int) l (l.length:Int) (j:Int)) R:=by
 intro d
 induction d with
 |zero=>
  intro j p hd hj hp h;(have hj':j=l.length:=by omega);subst hj';rw[List.drop_length,lsT,List.append_nil]at h;refine Ev.step (fun k=>by rw[impl_FormatPatch.l1]) ?_;refine Ev_neg (by omega) ?_;rw[wsucc hn (by omega)];exact h
 |succ d ih=>
  intro j p hd hj hp h;(have hlt:j<l.length:=by omega);have hbad:¬hbad l[j]:=HB_at hg hlt;have hpos:=good_pos hbad;have hll:=lnT_len l[j];rw[List.drop_eq_getElem_cons hlt,lsT]at h hp;rw[List.length_append]at hp;have hw:impl_isWhole.f l[j]=some (Lib.hasSuffix l[j].data.toList [10]):=isWhole_tells _ (by omega);refine Ev.step (fun k=>by rw[impl_FormatPatch.l1]) ?_;rw[rd_nat _ hlt];refine Ev_pos (by omega) (Ev_pos (by omega) (Ev_pos (by omega) ?_));by_cases hc:l[j].data.toList.getLast?=some 10;(·have hs:Lib.hasSuffix l[j].data.toList [10]=true:=(suf5 _).2 hc;(have e:lnT l[j]=l[j].data.toList:=by unfold lnT;rw[if_pos hc]);(have hh:impl_whole.f l[j]=some l[j]:=by unfold impl_whole.f;rw[hw,hs];rfl);rw[e]at h hp;rw[size_data]at hp;refine Ev_const hh (Ev_pos (by rw[toB_size];omega) (Ev_const hw (Ev_pos hs ?_)));rw[toB_app,wsucc hlt (by omega)];refine ih (j+1) _ (by omega) (by omega) (by rw[List.length_append,size_data];omega) ?_;rw[List.append_assoc];exact h);(have hs:¬Lib.hasSuffix l[j].data.toList [10]=true:=fun q=>hc ((suf5 _).1 q));(have e:lnT l[j]=l[j].data.toList++[10,92,10]:=by unfold lnT;rw[if_neg hc]);(have e4:(lnT l[j]).length=l[j].size+3:=by rw[e,List.length_append,size_data];rfl);have z1:((⟨#[10]⟩:ByteArray)).size=1:=rfl;(have hh:impl_whole.f l[j]=some (l[j]++(⟨#[10]⟩:ByteArray)):=by unfold impl_whole.f;rw[hw];show(if Lib.hasSuffix l[j].data.toList [10]=true then _ else _)=_;rw[if_neg hs,if_pos (by omega)]);refine Ev_const hh (Ev_pos (by rw[toB_size,ByteArray.size_append];omega) (Ev_const hw (Ev_neg hs (Ev_pos (by rw[ByteArray.size_append,ByteArray.size_append,toB_size];omega) ?_))));rw[toB_app,toB_app,wsucc hlt (by omega)];(have e5:(l[j]++(⟨#[10]⟩:ByteArray)).data.toList=l[j].data.toList++[10]:=by rw[ByteArray.data_append,Array.toList_append]);(have e6:p++(l[j]++(⟨#[10]⟩:ByteArray)).data.toList++(⟨#[92,10]⟩:ByteArray).data.toList=p++lnT l[j]:=by rw[e5,e];show p++(l[j].data.toList++[10])++[92,10]=_;simp);rw[e6];refine ih (j+1) _ (by omega) (by omega) (by rw[List.length_append];omega) ?_;rw[List.append_assoc];exact h
theorem FT_drop{x:List Hk}{i:Nat}(hi:i<x.length):FT (x.drop i)=hdT x[i].f0.toNat (hA x[i].f2) x[i].f1.toNat (hB x[i].f2)++(lsT x[i].f2++FT (x.drop (i+1))):=by
 rw[List.drop_eq_getElem_cons hi,FT]
theorem stext_loop{x:List Hk}(hxl:x.length≤1000)(hx:∀h∈x,Wr h∧h.f2.length≤1000):∀(d i:Nat) (p:List UInt8),x.length-i=d→i≤x.length→p.length+(FT (x.drop i)).length≤140737488355328 →
    Ev (fun k=>spec_l3Text.l0 k x (toB p) (i:Int)) (toB (p++FT (x.drop i))):=by
 intro d
 induction d with
 |zero=>
  intro i p hd hi hp;(have hi':i=x.length:=by omega);subst hi';refine Ev.step (fun k=>by rw[spec_l3Text.l0]) (Ev_neg (by omega) (Ev_val ?_));rw[List.drop_length,FT,List.append_nil]
 |succ d ih=>
  intro i p hd hi hp;(have hlt:i<x.length:=by omega);obtain⟨⟨w1,w2,w3,w4⟩,w5⟩:=hx x[i] (List.getElem_mem hlt);have er:rd_T35 x (i:Int)=x[i]:=rdh_nat hlt;have a1:=hA_le x[i].f2;have b1:=hB_le x[i].f2;rw[FT_drop hlt]at hp ⊢;rw[List.length_append,List.length_append]at hp;have hh:=shead (p:=x[i].f0.toNat) (a:=hA x[i].f2) (q:=x[i].f1.toNat) (b:=hB x[i].f2) (by omega) (by omega) (by omega) (by omega) x[i].f2;rw[show((x[i].f0.toNat:Nat):Int)=x[i].f0 by omega,show((x[i].f1.toNat:Nat):Int)=x[i].f1 by omega]at hh;refine Ev.step (fun k=>by rw[spec_l3Text.l0]) ?_;rw[er];refine Ev_pos (by omega) (Ev_pos (by omega) (Ev_call (ssizes_tells _ _ (by omega) w1) (Ev_call hh (Ev_pos (by rw[toB_size,toB_size];omega) ?_))));rw[toB_two];refine stext_line hxl hlt rfl w1 w5 _ 0 _ rfl (by omega) (by rw[List.length_append,List.drop_zero];omega) ?_;rw[List.drop_zero];have:=ih (i+1) (p++hdT x[i].f0.toNat (hA x[i].f2) x[i].f1.toNat (hB x[i].f2)++lsT x[i].f2) (by omega) (by omega) (by rw[List.length_append,List.length_append];omega);simp only[List.append_assoc]at this ⊢;exact this
theorem itext_loop{x:List Hk}(hxl:x.length≤1000)(hx:∀h∈x,Wr h∧h.f2.length≤1000∧∀s∈h.f2,s.size≤9223372036854775807):∀(d i:Nat) (p:List UInt8),x.length-i=d→i≤x.length→p.length+(FT (x.drop i)).length≤140737488355328 →
    Ev (fun k=>impl_FormatPatch.l0 k (toB p) x (x.length:Int) (i:Int)) (if((p++FT (x.drop i)).length:Int)>8000 then(2,ByteArray.empty)else(0,toB (p++FT (x.drop i)))):=by
 intro d
 induction d with
 |zero=>
  intro i p hd hi hp;(have hi':i=x.length:=by omega);subst hi';refine Ev.step (fun k=>by rw[impl_FormatPatch.l0]) (Ev_neg (by omega) ?_);rw[List.drop_length,FT,List.append_nil,toB_size];exact Ev_if (fun h=>Ev_val (by rw[if_pos h];rfl)) (fun h=>Ev_val (by rw[if_neg h]))
 |succ d ih=>
  intro i p hd hi hp;(have hlt:i<x.length:=by omega);obtain⟨⟨w1,w2,w3,w4⟩,w5,w6⟩:=hx x[i] (List.getElem_mem hlt);have er:rd_T35 x (i:Int)=x[i]:=rdh_nat hlt;have a1:=hA_le x[i].f2;have b1:=hB_le x[i].f2;rw[FT_drop hlt]at hp ⊢;rw[List.length_append,List.length_append]at hp;have d1:=idec x[i].f0.toNat (by omega);have d2:=idec (hA x[i].f2) (by omega);have d3:=idec x[i].f1.toNat (by omega);have d4:=idec (hB x[i].f2) (by omega);rw[show((x[i].f0.toNat:Nat):Int)=x[i].f0 by omega]at d1;rw[show((x[i].f1.toNat:Nat):Int)=x[i].f1 by omega]at d3;have l1:=dg_len (n:=x[i].f0.toNat) (by omega);have l2:=dg_len (n:=hA x[i].f2) (by omega);have l3:=dg_len (n:=x[i].f1.toNat) (by omega);have l4:=dg_len (n:=hB x[i].f2) (by omega);have z1:((⟨#[44]⟩:ByteArray)).size=1:=rfl;have z2:((⟨#[32,43]⟩:ByteArray)).size=2:=rfl;have z3:((⟨#[64,64,32,45]⟩:ByteArray)).size=4:=rfl;have hz:=isizes_tells x[i].f0 x[i].f1 (l:=x[i].f2) (by omega) w6;rw[if_neg (by rw[w1];simp)]at hz;refine Ev.step (fun k=>by rw[impl_FormatPatch.l0]) ?_;rw[er];refine Ev_pos (by omega) (Ev_pos (by omega) (Ev_pos (by omega) (Ev_call hz ?_)));refine Ev_const d1 (Ev_pos (by rw[toB_size];omega) (Ev_pos (by simp only[ByteArray.size_append,toB_size];omega) ?_));refine Ev_const d2 (Ev_pos (by simp only[ByteArray.size_append,toB_size];omega) (Ev_pos (by simp only[ByteArray.size_append,toB_size];omega) ?_));refine Ev_const d3 (Ev_pos (by simp only[ByteArray.size_append,toB_size];omega) (Ev_pos (by simp only[ByteArray.size_append,toB_size];omega) ?_));refine Ev_const d4 (Ev_pos (by simp only[ByteArray.size_append,toB_size];omega) (Ev_pos (by simp only[ByteArray.size_append,toB_size];omega) ?_));rw[head_eq];refine Ev_pos (by rw[toB_size,toB_size];omega) ?_;rw[toB_two];refine itext_line w1 w5 hlt hxl _ 0 _ rfl (by omega) (by rw[List.length_append,List.drop_zero];omega) ?_;rw[List.drop_zero];have:=ih (i+1) (p++hdT x[i].f0.toNat (hA x[i].f2) x[i].f1.toNat (hB x[i].f2)++lsT x[i].f2) (by omega) (by omega) (by rw[List.length_append,List.length_append];omega);simp only[List.append_assoc]at this ⊢;exact this
theorem lsT_max:∀x:List ByteArray,(lsT x).length≤3*lw x:=by
 intro x
 induction x with
 |nil=>simp[lsT]
 |cons s x ih=>
  have:=(lnT_len s).1;rw[lsT,List.length_append];simp only[lw,total,List.length_cons]at ih ⊢;omega
theorem FT_max:∀x:List Hk,(∀h∈x,Wr h)→(FT x).length≤3*hw x+28*x.length:=by
 intro x
 induction x with
 |nil=>intro _;simp[FT]
 |cons h x ih=>
  intro hx;have i1:=ih (fun c hc=>hx c (by simp[hc]));obtain⟨w1,w2,w3,w4⟩:=hx h (by simp);have a1:=hA_le h.f2;have b1:=hB_le h.f2;have h1:=hdT_max (p:=h.f0.toNat) (a:=hA h.f2) (q:=h.f1.toNat) (b:=hB h.f2) (by omega) (by omega) (by omega) (by omega);have h2:=lsT_max h.f2;rw[FT,List.length_append,List.length_append,hw,List.length_cons];omega
theorem fp_hyp{x:List Hk}(hs:SmallH x)(h:HKF x=0):x.length≤1000∧(∀c∈x,Wr c∧c.f2.length≤1000∧∀s∈c.f2,s.size≤9223372036854775807)∧(FT x).length≤1000000000:=by
 have hw1:=HKF_Wr h;(have h100:x.length≤100:=by unfold HKF at h;split at h<;>omega);have hm:=FT_max x hw1;(have h3:HF x 0 0=0:=by unfold HKF at h;rwa[if_neg (by omega)]at h);have:=hs.2.2;exact⟨by omega,fun c hc=>⟨hw1 c hc,by have:=(HF_good _ _ _ h3 c hc).1;omega,hs.1 c hc⟩,by omega⟩
theorem sfp_tells{x:List Hk}(hs:SmallH x):Ev (fun k=>spec_FormatPatch.f k x) (FPT x):=by
 unfold spec_FormatPatch.f FPT;refine Ev_call (shf_tells hs) ?_;by_cases h:HKF x=0;rotate_left;(·rw[if_neg h];exact Ev_neg h (Ev.now _));obtain⟨h1,h2,h3⟩:=fp_hyp hs h;rw[if_pos h];refine Ev_pos h ?_;have ht:=stext_loop h1 (fun c hc=>⟨(h2 c hc).1,(h2 c hc).2.1⟩) _ 0 [] rfl (by omega) (by simp;omega);rw[List.drop_zero,List.nil_append]at ht;refine Ev_call (a:=toB (FT x)) ?_ ?_;(·unfold spec_l3Text.f;exact ht);by_cases h4:(FT x).length>8000;(·rw[if_pos h4];exact Ev_pos (by rw[toB_size];omega) (Ev.now _));rw[if_neg h4];exact Ev_neg (by rw[toB_size];omega) (Ev.now _)
theorem ifp_tells{x:List Hk}(hs:SmallH x):Ev (fun k=>impl_FormatPatch.f k x) (FPT x):=by
 unfold impl_FormatPatch.f FPT;refine Ev_call (ihf_tells hs) ?_;by_cases h:HKF x=0;rotate_left;(·rw[if_neg h];exact Ev_neg h (Ev.now _));obtain⟨h1,h2,h3⟩:=fp_hyp hs h;rw[if_pos h];refine Ev_pos h ?_;have ht:=itext_loop h1 h2 _ 0 [] rfl (by omega) (by simp;omega);rw[List.drop_zero,List.nil_append]at ht;refine Ev_eq ht ?_;by_cases h4:(FT x).length>8000;(·rw[if_pos h4,if_pos (by omega)]);rw[if_neg h4,if_neg (by omega)]
theorem ext_le(s:ByteArray)(a b:Nat):(s.extract a b).size≤s.size:=by
 rw[ByteArray.size_extract];omega
theorem cut3_tells{c:List Int}(hc:Code c){p:Int}(h0:0≤p)(h1:p≤900000)(t:ByteArray)(ht:t.size≤100000):∃r,Ev (fun k=>spec_l3Cut.f c p t) r∧r.1.size≤1000000:=by
 unfold spec_l3Cut.f;by_cases h:t.toList=([]:List UInt8);(·obtain⟨v,e,v0,v1⟩:=next_tells hc (p:=p) (n:=4) h0 (by omega) (by omega);have v2:=v1 (by omega);obtain⟨n,rfl⟩:∃n:Nat,v=(n:Int):=⟨v.toNat,by omega⟩;generalize hY:([(⟨#[]⟩:ByteArray),(⟨#[32]⟩:ByteArray),(⟨#[64,64]⟩:ByteArray),(⟨#[10]⟩:ByteArray)]:List ByteArray)=Y;(have hYl:Y.length=4:=by rw[←hY];rfl);(have hYs:∀s∈Y,s.size≤6:=by rw[←hY];intro s hs;simp only[List.mem_cons,List.not_mem_nil,or_false]at hs;rcases hs with rfl|rfl|rfl|rfl<;>decide);(have hn:n<Y.length:=by omega);refine⟨(Y[n],p+1),Ev_pos h (Ev_const rfl (Ev_const e (Ev_pos (by omega) (Ev_pos (by omega) (Ev_val ?_))))),?_⟩;(·rw[rd_nat _ hn]);have:=hYs Y[n] (List.getElem_mem hn);show Y[n].size≤_;omega);(have hp:1≤t.size:=by(have h2:t.data.toList≠[]:=fun q=>h (by rw[ByteArray.toList_eq];exact q));have:=List.length_pos_iff.2 h2;rw[size_data]at this;omega);obtain⟨i,e,i0,i1⟩:=next_tells hc (p:=p) (n:=(t.size:Int)) h0 (by omega) (by omega);have i2:=i1 (by omega);obtain⟨n,rfl⟩:∃n:Nat,i=(n:Int):=⟨i.toNat,by omega⟩;obtain⟨z,e2,z0,z1⟩:=next_tells hc (p:=p+1) (n:=4) (by omega) (by omega) (by omega);have w1:wrap64 ((n:Int)+1)=((n+1:Nat):Int):=wsucc (n:=t.size) (by omega) (by omega);(have s0:∀a b:Nat,(t.extract a b).size≤100000:=fun a b=>Nat.le_trans (ext_le t a b) ht);by_cases c0:z=0;(·refine⟨_,Ev_neg h (Ev_const e (Ev_const e2 (Ev_pos c0 (Ev_pos (by omega) (Ev_pos (by omega) (Ev_pos (by rw[w1];omega) (Ev_pos (by rw[w1];omega) (Ev_pos (Nat.le_trans (Nat.add_le_add (s0 _ _) (s0 _ _)) (by decide)) (Ev.now _))))))))),?_⟩;show(_++_:ByteArray).size≤_;rw[ByteArray.size_append];exact Nat.le_trans (Nat.add_le_add (s0 _ _) (s0 _ _)) (by decide));by_cases c1:z=1;(·obtain⟨v,e3,v0,v1⟩:=next_tells hc (p:=p+1+1) (n:=10) (by omega) (by omega) (by omega);have v2:=v1 (by omega);obtain⟨m,rfl⟩:∃n:Nat,v=(n:Int):=⟨v.toNat,by omega⟩;generalize hY:([(⟨#[32]⟩:ByteArray),(⟨#[10]⟩:ByteArray),(⟨#[48]⟩:ByteArray),(⟨#[44]⟩:ByteArray),(⟨#[92,10]⟩:ByteArray),(⟨#[45]⟩:ByteArray),(⟨#[43]⟩:ByteArray),(⟨#[64]⟩:ByteArray),(⟨#[58]⟩:ByteArray),(⟨#[97]⟩:ByteArray)]:List ByteArray)=Y;(have hYl:Y.length=10:=by rw[←hY];rfl);(have hYs:∀s∈Y,s.size≤6:=by rw[←hY];intro s hs;simp only[List.mem_cons,List.not_mem_nil,or_false]at hs;rcases hs with rfl|rfl|rfl|rfl|rfl|rfl|rfl|rfl|rfl|rfl<;>decide);(have hm:m<Y.length:=by omega);have hs:=hYs Y[m] (List.getElem_mem hm);have er:rdOf ByteArray.empty Y (m:Int)=Y[m]:=rd_nat _ hm;refine⟨_,Ev_neg h (Ev_const e (Ev_const e2 (Ev_neg c0 (Ev_pos c1 (Ev_pos (by omega) (Ev_pos (by omega) (Ev_const rfl (Ev_const e3 (Ev_pos (by omega) (Ev_pos (by omega) (Ev_pos (by rw[er];exact Nat.le_trans (Nat.add_le_add (s0 _ _) hs) (by decide)) (Ev_pos (by rw[er,ByteArray.size_append];exact Nat.le_trans (Nat.add_le_add (Nat.add_le_add (s0 _ _) hs) (s0 _ _)) (by decide)) (Ev.now _))))))))))))),?_⟩;rw[er];show((_++_:ByteArray)++_:ByteArray).size≤_;rw[ByteArray.size_append,ByteArray.size_append];exact Nat.le_trans (Nat.add_le_add (Nat.add_le_add (s0 _ _) hs) (s0 _ _)) (by decide));by_cases c2:z=2;rotate_left;(·refine⟨_,Ev_neg h (Ev_const e (Ev_const e2 (Ev_neg c0 (Ev_neg c1 (Ev_neg c2 (Ev_pos (by omega) (Ev_pos (by omega) (Ev.now _)))))))),?_⟩;exact Nat.le_trans (s0 _ _) (by decide));obtain⟨v,e3,v0,v1⟩:=next_tells hc (p:=p+1+1) (n:=256) (by omega) (by omega) (by omega);(have z9:(strOfNums [v%256]).size=1:=by rw[strOfNums_size];rfl);refine⟨_,Ev_neg h (Ev_const e (Ev_const e2 (Ev_neg c0 (Ev_neg c1 (Ev_pos c2 (Ev_pos (by omega) (Ev_pos (by omega) (Ev_const e3 (Ev_const rfl (Ev_pos (by rw[z9];exact Nat.le_trans (Nat.add_le_add (s0 _ _) (Nat.le_refl 1)) (by decide)) (Ev_pos (by rw[w1];omega) (Ev_pos (by rw[w1];omega) (Ev_pos (by rw[ByteArray.size_append,z9];exact Nat.le_trans (Nat.add_le_add (Nat.add_le_add (s0 _ _) (Nat.le_refl 1)) (s0 _ _)) (by decide)) (Ev.now _)))))))))))))),?_⟩;show((_++_:ByteArray)++_:ByteArray).size≤_;rw[ByteArray.size_append,ByteArray.size_append,z9];exact Nat.le_trans (Nat.add_le_add (Nat.add_le_add (s0 _ _) (Nat.le_refl 1)) (s0 _ _)) (by decide)
theorem FPT_size(x:List Hk):(FPT x).2.size≤8000:=by
 unfold FPT;split;rotate_left;(·exact Nat.zero_le _);split;(·exact Nat.zero_le _);show(toB (FT x)).size≤8000;rw[toB_size];omega
theorem drawp{c:List Int}(hc:Code c):∃t,Ev (fun k=>spec_DrawParsePatch.f k c) t∧t.size≤1000000:=by
 obtain⟨a,x,q,h,sa,sx,q0,q1⟩:=drawh hc;have hs:=FPT_size x;obtain⟨b,e⟩:=chance_tells hc (p:=q) (n:=3) q0 (by omega) (by omega);(have start:∀{R:ByteArray},Ev (fun k=>if b=true then((spec_l3Cut.f c (q+1) (FPT x).2).bind fun bt=>(some bt.1))else(some (FPT x).2)) R→Ev (fun k=>spec_DrawParsePatch.f k c) R:=fun hR=>by unfold spec_DrawParsePatch.f;exact Ev_const (a:=(c,0)) (by unfold spec_l1Source.f;rfl) (Ev_call h (Ev_call (sfp_tells sx) (Ev_const e hR))))
 cases b with
 |true=>
  obtain⟨r,hr,hz⟩:=cut3_tells hc (p:=q+1) (by omega) (by omega) (FPT x).2 (by omega);exact⟨r.1,start (Ev_pos rfl (Ev_call hr (Ev.now _))),hz⟩
 |false=>exact⟨(FPT x).2,start (Ev_neg (by simp) (Ev.now _)),by omega⟩
theorem drawf{c:List Int}(hc:Code c):∃x,Ev (fun k=>spec_DrawFormatPatch.f k c) x∧SmallH x:=by
 obtain⟨a,x,q,h,sa,sx,q0,q1⟩:=drawh hc;refine⟨x,?_,sx⟩;unfold spec_DrawFormatPatch.f spec_DrawHunksFault.f;exact Ev_call (Ev_const (a:=(c,0)) (by unfold spec_l1Source.f;rfl) (Ev_call h (Ev.now _))) (Ev.now _)
def Dig(x:UInt8):Prop:=48≤x.toNat∧x.toNat≤57
def NoDig(l:List UInt8):Prop:=∀c r,l=c::r→¬Dig c
theorem dig_uniq{x y:List UInt8}(hx:NoDig x)(hy:NoDig y):∀{u v:List UInt8},(∀c∈u,Dig c)→(∀c∈v,Dig c)→u++x=v++y→u=v∧x=y:=by
 intro u
 induction u with
 |nil=>
  intro v _ hv h
  cases v with
  |nil=>exact⟨rfl,h⟩
  |cons z v=>exact absurd (hv z (by simp)) (hx z (v++y) h)
 |cons w u ih=>
  intro v hu hv h
  cases v with
  |nil=>exact absurd (hu w (by simp)) (hy w (u++x) h.symm)
  |cons z v=>
   obtain⟨e1,e2⟩:=List.cons.inj h;obtain⟨e3,e4⟩:=ih (fun c hc=>hu c (by simp[hc])) (fun c hc=>hv c (by simp[hc])) e2;exact⟨by rw[e1,e3],e4⟩
theorem noDig_cons{c:UInt8}{r:List UInt8}(h:c.toNat<48∨57<c.toNat):NoDig (c::r):=fun d s e=>by
  have:c=d:=(List.cons.inj e).1
  subst this
  unfold Dig
  omega
theorem word3_tells(s:ByteArray)(hs:s.size≤1048576)(e:Nat)(he:e≤s.size)(w:ByteArray)(hw:w.size≤1000):
    spec_l3Word.f s (e:Int) w=some (if(s.data.toList.drop e).take w.size=w.data.toList then((e+w.size:Nat):Int)else -1):=by
 have el:=size_data s;have ew:=size_data w;unfold spec_l3Word.f;rw[if_neg (by omega),wid (x:=(e:Int)+(w.size:Int)) (by omega) (by omega)];by_cases h:(e:Int)+(w.size:Int)>(s.size:Int);(·rw[if_pos h,if_neg];intro q;have:=congrArg List.length q;rw[List.length_take,List.length_drop,el,ew]at this;omega);rw[if_neg h,if_pos (by omega),if_pos (by omega),if_pos (by omega)];(have e1:(s.extract ((e:Int)).toNat (((e:Int)+(w.size:Int))).toNat)=toB ((s.data.toList.drop e).take w.size):=by rw[extract_toB];congr 2;omega);rw[e1];(have e2:((toB ((s.data.toList.drop e).take w.size)).toList=w.toList)↔(s.data.toList.drop e).take w.size=w.data.toList:=by rw[ByteArray.toList_eq,ByteArray.toList_eq,data_toB]);by_cases h2:(s.data.toList.drop e).take w.size=w.data.toList;rotate_left;(·rw[if_neg (fun q=>h2 (e2.1 q)),if_neg h2]);rw[if_pos (e2.2 h2),if_pos h2];rfl
def nres(l:List UInt8)(e m:Nat):Int × Int:=if m=0 then(0,-1)else if m>4 then(0,-1)else if m>1∧l.head?=some 48 then(0,-1)else((nv (l.take m):Nat),((e+m:Nat):Int))
theorem nv_take{l:List UInt8}{m:Nat}(h:m<l.length):nv (l.take (m+1))=nv (l.take m)*10+(l[m].toNat-48):=by
 rw[List.take_succ_eq_append_getElem h,nv_snoc]
theorem num_loop(s:ByteArray)(hs:s.size≤1048576)(e:Nat)(he:e≤s.size):∀(d m:Nat),5-m=d→m≤5→m≤(s.data.toList.drop e).length→(∀c∈(s.data.toList.drop e).take m,Dig c) →
    ∃m',m'≤5∧m'≤(s.data.toList.drop e).length∧(∀c∈(s.data.toList.drop e).take m',Dig c)∧(m'=5∨NoDig ((s.data.toList.drop e).drop m'))∧Ev (fun k=>spec_l3Number.l0 k s ((e+m:Nat):Int) ((nv ((s.data.toList.drop e).take m):Nat):Int) (e:Int)) (nres (s.data.toList.drop e) e m'):=by
 have el:=size_data s;generalize hl:s.data.toList.drop e=l;(have ll:l.length=s.size-e:=by rw[←hl,List.length_drop,el]);(have at_:∀i (h:i<l.length),bt s ((e+i:Nat):Int)=(l[i].toNat:Int):=fun i h=>by rw[bt_nat (by omega)];congr 2;simp only[←hl,List.getElem_drop]);(have stop:∀m,m≤5→m≤l.length→Ev (fun k=>if((e+m:Nat):Int)=(e:Int)then(some ((0:Int),(-1:Int)))else(if(wrap64 (((e+m:Nat):Int)-(e:Int)))>4 then(some (0,(-1)))else(if(wrap64 (((e+m:Nat):Int)-(e:Int)))>1 then(if 0≤(e:Int)then(if(e:Int)<(s.size:Int)then(if(bt s (e:Int))=48 then(some (0,(-1)))else(some (((nv (l.take m):Nat):Int),((e+m:Nat):Int))))else(none))else(none))else(some (((nv (l.take m):Nat):Int),((e+m:Nat):Int)))))) (nres l e m):=fun m hm hml=>by rw[wid (by omega) (by omega)];by_cases h0:m=0;(·exact Ev_eq (Ev_pos (by omega) (Ev.now _)) (by unfold nres;rw[if_pos h0]));refine Ev_neg (by omega) ?_;by_cases h4:m>4;(·exact Ev_eq (Ev_pos (by omega) (Ev.now _)) (by unfold nres;rw[if_neg h0,if_pos h4]));refine Ev_neg (by omega) ?_;by_cases h1:m>1;rotate_left;(·exact Ev_eq (Ev_neg (by omega) (Ev.now _)) (by unfold nres;rw[if_neg h0,if_neg h4,if_neg (fun q=>h1 q.1)]));have hb:=at_ 0 (by omega);rw[Nat.add_zero]at hb;(have hh:l.head?=some l[0]:=by rw[List.head?_eq_getElem?,List.getElem?_eq_getElem (by omega)]);refine Ev_pos (by omega) (Ev_pos (by omega) (Ev_pos (by omega) ?_));rw[hb];by_cases h8:l[0]=48;(·exact Ev_eq (Ev_pos (by rw[h8];rfl) (Ev.now _)) (by unfold nres;rw[if_neg h0,if_neg h4,if_pos ⟨h1,by rw[hh,h8]⟩]));exact Ev_eq (Ev_neg (fun q=>h8 (UInt8.toNat_inj.1 (by show _=48;omega))) (Ev.now _)) (by unfold nres;rw[if_neg h0,if_neg h4,if_neg (fun q=>h8 (Option.some.inj (hh.symm.trans q.2)))]));intro d
 induction d with
 |zero=>
  intro m hd hm hml hdg;(have h5:m=5:=by omega);refine⟨m,hm,hml,hdg,.inl h5,Ev.step (fun k=>by rw[spec_l3Number.l0]) ?_⟩;have hst:=stop m hm hml;by_cases h1:((e+m:Nat):Int)<(s.size:Int);(·refine Ev_pos h1 (Ev_pos (by omega) (Ev_if (fun _=>Ev_if (fun _=>Ev_neg (by rw[wid (by omega) (by omega)];omega) hst) (fun _=>hst)) (fun _=>hst))));exact Ev_neg h1 hst
 |succ d ih=>
  intro m hd hm hml hdg;have hst:=stop m hm hml;by_cases h1:((e+m:Nat):Int)<(s.size:Int);rotate_left;(·refine⟨m,hm,hml,hdg,.inr ?_,Ev.step (fun k=>by rw[spec_l3Number.l0]) (Ev_neg h1 hst)⟩;have:l.drop m=[]:=List.drop_eq_nil_of_le (by omega);rw[this];intro c r q;cases q);(have hlt:m<l.length:=by omega);have hb:=at_ m hlt;by_cases hD:Dig l[m];rotate_left;(·refine⟨m,hm,hml,hdg,.inr ?_,Ev.step (fun k=>by rw[spec_l3Number.l0]) ?_⟩;rotate_left;(·unfold Dig at hD;rw[hb];refine Ev_pos h1 (Ev_pos (by omega) (Ev_if (fun _=>Ev_if (fun _=>absurd (by omega) hD) (fun _=>hst)) (fun _=>hst))));rw[List.drop_eq_getElem_cons hlt];intro c r q;rw[←(List.cons.inj q).1];exact hD)
  obtain⟨m',i1,i2,i3,i4,i5⟩:=ih (m+1) (by omega) (by omega) (by omega) (fun c hc=>by
    rw[List.take_succ_eq_append_getElem hlt,List.mem_append,List.mem_singleton]at hc
    rcases hc with hc|hc
    · exact hdg c hc
    · rw[hc];exact hD)
  refine⟨m',i1,i2,i3,i4,Ev.step (fun k=>by rw[spec_l3Number.l0]) ?_⟩;unfold Dig at hD;have hv:nv (l.take m)<10 ^ m:=nv_lt m _ (by rw[List.length_take];omega) hdg;have hp:10 ^ m≤10 ^ 5:=Nat.pow_le_pow_right (by omega) (by omega);rw[hb];refine Ev_pos h1 (Ev_pos (by omega) (Ev_pos (by omega) (Ev_pos (by omega) (Ev_pos (by rw[wid (by omega) (by omega)];omega) ?_))));(have e1:wrap64 ((wrap64 (((nv (l.take m):Nat):Int)*10))+(((l[m].toNat:Int)-48)%256))=((nv (l.take (m+1)):Nat):Int):=by rw[nv_take hlt,wid (x:=((nv (l.take m):Nat):Int)*10) (by omega) (by omega),wid (by omega) (by omega)];omega);rw[e1,wid (x:=((e+m:Nat):Int)+1) (by omega) (by omega)];exact i5
theorem num_tells(s:ByteArray)(hs:s.size≤1048576)(e:Nat)(he:e≤s.size):
    (∃v r,v≤9999∧s.data.toList.drop e=dg v++r∧NoDig r∧Ev (fun k=>spec_l3Number.f k s (e:Int)) ((v:Nat),((s.size-r.length:Nat):Int))) ∨
    (Ev (fun k=>spec_l3Number.f k s (e:Int)) (0,-1)∧∀v r,v≤9999→NoDig r→s.data.toList.drop e≠dg v++r):=by
 obtain⟨m,h1,h2,h3,h4,h5⟩:=num_loop s hs e he 5 0 rfl (by omega) (by omega) (fun c hc=>by simp at hc);have el:=size_data s;(have ll:(s.data.toList.drop e).length=s.size-e:=by rw[List.length_drop,el]);generalize s.data.toList.drop e=l at *;(have hf:∀R,Ev (fun k=>spec_l3Number.l0 k s ((e+0:Nat):Int) ((nv (l.take 0):Nat):Int) (e:Int)) R→Ev (fun k=>spec_l3Number.f k s (e:Int)) R:=fun R h=>h);have h6:=hf _ h5;(have full:∀v r,v≤9999→NoDig r→l=dg v++r→m=(dg v).length∧l.take m=dg v:=fun v r hv hr e1=>by have hlen:=dg_len hv;have hd:=dg_dig v;(rcases h4 with h4|h4);rotate_left;(·have e2:=dig_uniq h4 hr h3 hd (by rw[List.take_append_drop];exact e1);refine⟨?_,e2.1⟩;have:=congrArg List.length e2.1;rw[List.length_take]at this;omega);exfalso;(have h7:∀c∈l.take 5,Dig c:=by rw[←h4];exact h3);(have h8:(dg v).length<l.length:=by omega);(have h9:l[(dg v).length]∈l.take 5:=by rw[List.mem_iff_getElem];exact⟨(dg v).length,by rw[List.length_take];omega,by rw[List.getElem_take]⟩);have h10:=h7 _ h9;(have h11:l.drop (dg v).length=r:=by rw[e1,List.drop_left]);rw[List.drop_eq_getElem_cons h8]at h11;exact hr _ _ h11.symm h10);by_cases hn:m=0∨m>4∨(m>1∧l.head?=some 48)
 ·right;refine⟨?_,?_⟩;(·(have:nres l e m=(0,-1):=by unfold nres;(rcases hn with h|h|h);(·rw[if_pos h]);(·rw[if_neg (by omega),if_pos h]);rw[if_neg (by omega)];split;(·rfl);first|rfl|rw[if_pos h]);rw[this]at h6;exact h6);intro v r hv hr e1;obtain⟨f1,f2⟩:=full v r hv hr e1;have g1:=dg_len hv;have g2:=List.length_pos_iff.2 (dg_ne v);(rcases hn with h|h|⟨h,h'⟩);(·omega);(·omega);(rcases dg_head v with q|q);(·omega);refine q ?_;rw[←f2]
  cases l with
  |nil=>cases h'
  |cons c l=>
   obtain⟨m',rfl⟩:∃z,m=z+1:=⟨m-1,by omega⟩;simpa using h'
 left
 have hN:Num (l.take m):=by
  refine⟨h3,fun q=>?_,?_⟩;(·have:=congrArg List.length q;rw[List.length_take,List.length_nil]at this;omega);by_cases h1':m>1;rotate_left;(·left;rw[List.length_take];omega);right;intro q;refine hn (.inr (.inr ⟨h1',?_⟩))
  cases l with
  |nil=>simp at q
  |cons c l=>
   obtain⟨m',rfl⟩:∃z,m=z+1:=⟨m-1,by omega⟩;simpa using q
 (have hlen:(l.take m).length=m:=by rw[List.length_take];omega);have hv:=Num_le hN (by omega);have hdg:=dg_nv _ _ rfl hN;(have hr:NoDig (l.drop m):=by(rcases h4 with h4|h4);(·omega);exact h4);refine⟨nv (l.take m),l.drop m,hv,?_,hr,?_⟩;(·rw[hdg,List.take_append_drop]);(have e9:nres l e m=(((nv (l.take m):Nat):Int),((s.size-(l.drop m).length:Nat):Int)):=by unfold nres;rw[if_neg (by omega),if_neg (by omega),if_neg (fun q=>hn (.inr (.inr q))),List.length_drop];congr 2;omega);rw[e9]at h6;exact h6
theorem pos_drop{s:ByteArray}{e:Nat}(he:e≤s.size){u r:List UInt8}(h:s.data.toList.drop e=u++r):s.data.toList.drop (s.size-r.length)=r∧e+u.length=s.size-r.length∧r.length≤s.size:=by
 have el:=size_data s;have hl:=congrArg List.length h;rw[List.length_drop,List.length_append,el]at hl;(have e1:s.size-r.length=e+u.length:=by omega);refine⟨?_,by omega,by omega⟩;rw[e1,←List.drop_drop,h,List.drop_left]
theorem word3_l(s:ByteArray)(hs:s.size≤1048576)(e:Nat)(he:e≤s.size)(w:ByteArray)(hw:w.size≤1000):
    (∃r,s.data.toList.drop e=w.data.toList++r∧spec_l3Word.f s (e:Int) w=some ((s.size-r.length:Nat):Int))∨((∀r,s.data.toList.drop e≠w.data.toList++r)∧spec_l3Word.f s (e:Int) w=some (-1)):=by
 rw[word3_tells s hs e he w hw];have ew:=size_data w;by_cases h:(s.data.toList.drop e).take w.size=w.data.toList;rotate_left;(·right;refine⟨fun r q=>h ?_,by rw[if_neg h]⟩;rw[q,←ew,List.take_left]);left;(have h1:s.data.toList.drop e=w.data.toList++(s.data.toList.drop e).drop w.size:=by rw[←h,List.take_append_drop]);refine⟨_,h1,?_⟩;have:=pos_drop he h1;rw[if_pos h];congr 2;omega
def MKS:List ByteArray:=[(⟨#[64,64,32,45]⟩:ByteArray),(⟨#[44]⟩:ByteArray),(⟨#[32,43]⟩:ByteArray),(⟨#[44]⟩:ByteArray),(⟨#[32,64,64,10]⟩:ByteArray)]
theorem first_step(s:ByteArray)(hs:s.size≤1048576)(e:Nat)(he:e≤s.size)(i:Nat)(hi:i<4)(w:ByteArray)(hw:w.size≤1000)(hm:rdOf ByteArray.empty MKS (i:Int)=w)(out:List Int)(ho:out.length≤10):
    (∃v r,v≤9999∧s.data.toList.drop e=w.data.toList++(dg v++r)∧NoDig r∧∀R,Ev (fun k=>spec_l3First.l0 k s ((s.size-r.length:Nat):Int) MKS (out++[((v:Nat):Int)]) ((i+1:Nat):Int)) R→Ev (fun k=>spec_l3First.l0 k s (e:Int) MKS out (i:Int)) R) ∨
    ((∀v r,v≤9999→NoDig r→s.data.toList.drop e≠w.data.toList++(dg v++r))∧Ev (fun k=>spec_l3First.l0 k s (e:Int) MKS out (i:Int)) ([],-1)):=by
 have hlen:MKS.length=5:=rfl;(rcases word3_l s hs e he w hw with⟨r1,h1,hf⟩|⟨h1,hf⟩);rotate_left;(·right;refine⟨fun v r hv hr q=>h1 _ q,Ev.step (fun k=>by rw[spec_l3First.l0]) ?_⟩;rw[hm];exact Ev_pos (by omega) (Ev_pos (by omega) (Ev_pos (by omega) (Ev_const hf (Ev_pos (by omega) (Ev.now _))))));obtain⟨d1,d2,d3⟩:=pos_drop he h1;(rcases num_tells s hs (s.size-r1.length) (by omega)with⟨v,r,hv,h2,hr,hn⟩|⟨hn,h2⟩);(·left;rw[d1]at h2;refine⟨v,r,hv,by rw[h1,h2],hr,fun R h=>Ev.step (fun k=>by rw[spec_l3First.l0]) ?_⟩;rw[hm];refine Ev_pos (by omega) (Ev_pos (by omega) (Ev_pos (by omega) (Ev_const hf (Ev_neg (by omega) (Ev_neg (by omega) (Ev_call hn (Ev_neg (by omega) (Ev_pos (by omega) ?_))))))));rw[wid (x:=(i:Int)+1) (by omega) (by omega)];exact h);right;rw[d1]at h2;refine⟨fun v r hv hr q=>?_,Ev.step (fun k=>by rw[spec_l3First.l0]) ?_⟩;(·rw[h1]at q;exact h2 v r hv hr (List.append_cancel_left q));rw[hm];exact Ev_pos (by omega) (Ev_pos (by omega) (Ev_pos (by omega) (Ev_const hf (Ev_neg (by omega) (Ev_neg (by omega) (Ev_call hn (Ev_pos (by omega) (Ev.now _))))))))
theorem first_end(s:ByteArray)(hs:s.size≤1048576)(e:Nat)(he:e≤s.size)(out:List Int):
    (∃r,s.data.toList.drop e=[32,64,64,10]++r∧Ev (fun k=>spec_l3First.l0 k s (e:Int) MKS out 4) (out,((s.size-r.length:Nat):Int)))∨((∀r,s.data.toList.drop e≠[32,64,64,10]++r)∧Ev (fun k=>spec_l3First.l0 k s (e:Int) MKS out 4) ([],-1)):=by
 have hm:rdOf ByteArray.empty MKS 4=(⟨#[32,64,64,10]⟩:ByteArray):=rfl;(rcases word3_l s hs e he (⟨#[32,64,64,10]⟩:ByteArray) (by decide)with⟨r,h1,hf⟩|⟨h1,hf⟩);(·left;refine⟨r,h1,Ev.step (fun k=>by rw[spec_l3First.l0]) ?_⟩;rw[hm];exact Ev_pos (by omega) (Ev_pos (by omega) (Ev_pos (by decide) (Ev_const hf (Ev_neg (by omega) (Ev_pos rfl (Ev.now _)))))));right;refine⟨h1,Ev.step (fun k=>by rw[spec_l3First.l0]) ?_⟩;rw[hm];exact Ev_pos (by omega) (Ev_pos (by omega) (Ev_pos (by decide) (Ev_const hf (Ev_pos (by omega) (Ev.now _)))))
theorem hd_form{l:List UInt8}{p a q b:Nat}{r:List UInt8}(h:HdIs l p a q b r):l=[64,64,32,45]++(dg p++([44]++(dg a++([32,43]++(dg q++([44]++(dg b++([32,64,64,10]++r)))))))):=by
 rw[h.2.2.2.2,hdT_app];rfl
theorem nd44(r:List UInt8):NoDig ([44]++r):=noDig_cons (by decide)
theorem nd32(r:List UInt8):NoDig ([32,43]++r):=noDig_cons (by decide)
theorem ndE(r:List UInt8):NoDig ([32,64,64,10]++r):=noDig_cons (by decide)
theorem dg_same{v v':Nat}{r r':List UInt8}(h:dg v++r=dg v'++r')(hr:NoDig r)(hr':NoDig r'):v=v'∧r=r':=by
 obtain⟨e1,e2⟩:=dig_uniq hr hr' (dg_dig v) (dg_dig v') h;exact⟨dg_inj e1,e2⟩
theorem fst_tells(s:ByteArray)(hs:s.size≤1048576)(e:Nat)(he:e≤s.size):
    (∃p a q b r,HdIs (s.data.toList.drop e) p a q b r∧Ev (fun k=>spec_l3First.f k s (e:Int)) ([(p:Int),(a:Int),(q:Int),(b:Int)],((s.size-r.length:Nat):Int))) ∨
    ((∀p a q b r,¬HdIs (s.data.toList.drop e) p a q b r)∧Ev (fun k=>spec_l3First.f k s (e:Int)) ([],-1)):=by
 (have hf:∀R,Ev (fun k=>spec_l3First.l0 k s (e:Int) MKS [] ((0:Nat):Int)) R→Ev (fun k=>spec_l3First.f k s (e:Int)) R:=fun R h=>h);(rcases first_step s hs e he 0 (by omega) (⟨#[64,64,32,45]⟩:ByteArray) (by decide) rfl [] (by simp)with⟨p,r1,hp,h1,n1,g1⟩|⟨h1,g1⟩);rotate_left;(·right;exact⟨fun p' a' q' b' r hd=>h1 _ _ hd.1 (nd44 _) (hd_form hd),hf _ g1⟩);(have k1:s.data.toList.drop e=([64,64,32,45]++dg p)++r1:=by rw[List.append_assoc];exact h1);obtain⟨d1,_,b1⟩:=pos_drop he k1;(rcases first_step s hs (s.size-r1.length) (by omega) 1 (by omega) (⟨#[44]⟩:ByteArray) (by decide) rfl [(p:Int)] (by simp)with⟨a,r2,ha,h2,n2,g2⟩|⟨h2,g2⟩);rotate_left;(·right;rw[d1]at h2;refine⟨fun p' a' q' b' r hd=>?_,hf _ (g1 _ g2)⟩;have e0:=hd_form hd;rw[h1]at e0;obtain⟨_,e1⟩:=dg_same (List.append_cancel_left e0) n1 (nd44 _);exact h2 _ _ hd.2.1 (nd32 _) e1);rw[d1]at h2;(have k2:s.data.toList.drop (s.size-r1.length)=([44]++dg a)++r2:=by rw[d1,List.append_assoc];exact h2);obtain⟨d2,_,b2⟩:=pos_drop (by omega) k2;(rcases first_step s hs (s.size-r2.length) (by omega) 2 (by omega) (⟨#[32,43]⟩:ByteArray) (by decide) rfl [(p:Int),(a:Int)] (by simp)with⟨q,r3,hq,h3,n3,g3⟩|⟨h3,g3⟩);rotate_left;(·right;rw[d2]at h3;refine⟨fun p' a' q' b' r hd=>?_,hf _ (g1 _ (g2 _ g3))⟩;have e0:=hd_form hd;rw[h1]at e0;obtain⟨_,e1⟩:=dg_same (List.append_cancel_left e0) n1 (nd44 _);rw[h2]at e1;obtain⟨_,e2⟩:=dg_same (List.append_cancel_left e1) n2 (nd32 _);exact h3 _ _ hd.2.2.1 (nd44 _) e2);rw[d2]at h3;(have k3:s.data.toList.drop (s.size-r2.length)=([32,43]++dg q)++r3:=by rw[d2,List.append_assoc];exact h3);obtain⟨d3,_,b3⟩:=pos_drop (by omega) k3;(rcases first_step s hs (s.size-r3.length) (by omega) 3 (by omega) (⟨#[44]⟩:ByteArray) (by decide) rfl [(p:Int),(a:Int),(q:Int)] (by simp)with⟨b,r4,hb,h4,n4,g4⟩|⟨h4,g4⟩);rotate_left;(·right;rw[d3]at h4;refine⟨fun p' a' q' b' r hd=>?_,hf _ (g1 _ (g2 _ (g3 _ g4)))⟩;have e0:=hd_form hd;rw[h1]at e0;obtain⟨_,e1⟩:=dg_same (List.append_cancel_left e0) n1 (nd44 _);rw[h2]at e1;obtain⟨_,e2⟩:=dg_same (List.append_cancel_left e1) n2 (nd32 _);rw[h3]at e2;obtain⟨_,e3⟩:=dg_same (List.append_cancel_left e2) n3 (nd44 _);exact h4 _ _ hd.2.2.2.1 (ndE _) e3);rw[d3]at h4;(have k4:s.data.toList.drop (s.size-r3.length)=([44]++dg b)++r4:=by rw[d3,List.append_assoc];exact h4);obtain⟨d4,_,b4⟩:=pos_drop (by omega) k4;(rcases first_end s hs (s.size-r4.length) (by omega) [(p:Int),(a:Int),(q:Int),(b:Int)]with⟨r,h5,g5⟩|⟨h5,g5⟩);(·left;rw[d4]at h5;refine⟨p,a,q,b,r,⟨hp,ha,hq,hb,?_⟩,hf _ (g1 _ (g2 _ (g3 _ (g4 _ g5))))⟩;rw[h1,h2,h3,h4,h5,hdT_app];rfl);right;rw[d4]at h5;refine⟨fun p' a' q' b' r hd=>?_,hf _ (g1 _ (g2 _ (g3 _ (g4 _ g5))))⟩;have e0:=hd_form hd;rw[h1]at e0;obtain⟨_,e1⟩:=dg_same (List.append_cancel_left e0) n1 (nd44 _);rw[h2]at e1;obtain⟨_,e2⟩:=dg_same (List.append_cancel_left e1) n2 (nd32 _);rw[h3]at e2;obtain⟨_,e3⟩:=dg_same (List.append_cancel_left e2) n3 (nd44 _);rw[h4]at e3;obtain⟨_,e4⟩:=dg_same (List.append_cancel_left e3) n4 (ndE _);exact h5 _ e4
theorem cutT{s sep:List UInt8}(h:(Lib.cut s sep).2.2=true):s=(Lib.cut s sep).1++(sep++(Lib.cut s sep).2.1):=by
 unfold Lib.cut at h ⊢;by_cases h0:0≤Lib.index s sep;rotate_left;(·rw[if_neg h0]at h;cases h);rw[if_pos h0];(rcases Lib.index_spec s sep with⟨e,_⟩|⟨i,e,hi,ho,_⟩);(·omega);dsimp only;rw[e,Int.toNat_natCast];unfold Lib.occAt at ho;obtain⟨t,ht⟩:=List.isPrefixOf_iff_prefix.1 ho;(have h1:s.drop (i+sep.length)=t:=by rw[←List.drop_drop,←ht,List.drop_left]);rw[h1,ht,List.take_append_drop]
theorem cutN{s sep:List UInt8}(h:(Lib.cut s sep).2.2=false):(Lib.cut s sep).2.1=[]:=by
 unfold Lib.cut at h ⊢;by_cases h0:0≤Lib.index s sep;rotate_left;(·rw[if_neg h0]);rw[if_pos h0]at h;cases h
theorem cutF{u v sep:List UInt8}{c:UInt8}(hc:c∉u):Lib.cut (u++(c::sep++v)) (c::sep)=(u,v,true):=by
 (have hi:Lib.index (u++(c::sep++v)) (c::sep)=(u.length:Nat):=by refine Lib.index_first (by simp) ?_ (fun j hj=>?_);(·unfold Lib.occAt;rw[List.drop_left,List.isPrefixOf_iff_prefix];exact⟨v,rfl⟩);unfold Lib.occAt;rw[Bool.eq_false_iff];intro q;obtain⟨t,ht⟩:=List.isPrefixOf_iff_prefix.1 q;rw[List.drop_append_of_le_length (by omega),List.drop_eq_getElem_cons hj]at ht;have:c=u[j]:=(List.cons.inj ht).1;exact hc (by rw[this];exact List.getElem_mem hj));unfold Lib.cut;rw[hi,if_pos (by omega),Int.toNat_natCast,List.take_left];congr 2;rw[←List.drop_drop,List.drop_left,List.drop_left]
theorem parse_dig:∀(l:List UInt8) (acc:Nat),(∀x∈l,Dig x)→(acc+1)*10 ^ l.length≤100000000000000000→Lib.parseUint10 acc l=.ok (l.foldl (fun a x=>a*10+(x.toNat-48)) acc):=by
 intro l
 induction l with
 |nil=>intro acc _ _;rfl
 |cons c l ih=>
  intro acc hd hb;have hc:=hd c (by simp);unfold Dig at hc;have hp:1≤10 ^ l.length:=Nat.one_le_pow _ _ (by decide);rw[List.length_cons,Nat.pow_succ]at hb;(have h1:(acc+1)*10≤100000000000000000:=by have:(acc+1)*10*1≤(acc+1)*10*10 ^ l.length:=Nat.mul_le_mul_left _ hp;(have e:(acc+1)*(10 ^ l.length*10)=(acc+1)*10*10 ^ l.length:=by rw[Nat.mul_comm (10 ^ l.length) 10,Nat.mul_assoc]);omega);(have h2:(acc*10+(c.toNat-48)+1)*10 ^ l.length≤100000000000000000:=by have:(acc*10+(c.toNat-48)+1)*10 ^ l.length≤((acc+1)*10)*10 ^ l.length:=Nat.mul_le_mul_right _ (by omega);(have e:(acc+1)*(10 ^ l.length*10)=(acc+1)*10*10 ^ l.length:=by rw[Nat.mul_comm (10 ^ l.length) 10,Nat.mul_assoc]);omega);rw[Lib.parseUint10,if_pos hc,if_neg (by omega),if_neg (by omega),ih _ (fun x hx=>hd x (by simp[hx])) h2];rfl
theorem rn_of{v:Nat}(hv:v≤9999):RN (toB (dg v))=((v:Int),true):=by
 have hd:=dg_dig v;have hn:=dg_ne v;have hl:=dg_len hv;have hval:=nv_dg v
 have hp:Lib.parseIntB 64 (dg v)=.ok (v:Int):=by
  rw[Lib.parseIntB_64]
  have hm:Lib.parseMag (dg v)=.ok v:=by
   unfold Lib.parseMag
   rw[if_neg hn,parse_dig _ 0 hd (by
     have:10 ^ (dg v).length≤10 ^ 4:=Nat.pow_le_pow_right (by omega) hl
     omega)]
   congr 1
  generalize dg v=l at *
  cases l with
  |nil=>exact absurd rfl hn
  |cons c r=>
   have hc:=hd c (by simp);unfold Lib.atoiAll;dsimp only;rw[if_neg (by omega),hm];dsimp only;rw[if_neg (by omega),if_neg (by omega),if_neg (by omega)]
 unfold RN;rw[data_toB,hp];dsimp only;(have hs:(toB (dg v)).size≤4:=by rw[←size_data,data_toB];exact hl);rw[if_pos hs,if_pos (by omega)];(have e:(⟨(Lib.itoa (v:Int)).toArray⟩:ByteArray)=toB (dg v):=by unfold Lib.itoa;rw[if_neg (by omega),Int.toNat_natCast];rfl);rw[decide_eq_true e]
theorem rn_true{t:ByteArray}(h:(RN t).2=true):∃v:Nat,v≤9999∧t=toB (dg v)∧(RN t).1=(v:Int):=by
 unfold RN at h ⊢
 cases hp:Lib.parseIntB 64 t.data.toList with
 |range=>rw[hp]at h;cases h
 |ok z=>
  rw[hp]at h;dsimp only at h ⊢;split at h;rotate_left;(·cases h);rename_i h4;split at h;rotate_left;(·cases h);rename_i h0;have e:=of_decide_eq_true h;obtain⟨v,rfl⟩:∃v:Nat,z=(v:Int):=⟨z.toNat,by omega⟩;(have e2:(⟨(Lib.itoa (v:Int)).toArray⟩:ByteArray)=toB (dg v):=by unfold Lib.itoa;rw[if_neg (by omega),Int.toNat_natCast];rfl);rw[e2]at e;refine⟨v,?_,e.symm,rfl⟩;(have hl:(dg v).length≤4:=by(have:(toB (dg v)).size≤4:=by rw[e];exact h4);rwa[←size_data,data_toB]at this);have:=Num_le (dg_num v) hl;rwa[nv_dg]at this
 |_=>rw[hp]at h;cases h
def RP(l:List UInt8):Int × Int × Bool:=((RN (toB (Lib.cut l [44]).1)).1,(RN (toB (Lib.cut l [44]).2.1)).1,(RN (toB (Lib.cut l [44]).1)).2&&(RN (toB (Lib.cut l [44]).2.1)).2)
theorem cut_len1(l w:List UInt8):(Lib.cut l w).1.length≤l.length∧(Lib.cut l w).2.1.length≤l.length:=by
 unfold Lib.cut;split;(·exact⟨by rw[List.length_take];omega,by rw[List.length_drop];omega⟩);exact⟨Nat.le_refl _,Nat.zero_le _⟩
theorem toB_size'(p:List UInt8):(toB p).size=p.length:=by rw[←size_data,data_toB]
theorem scut(l w:List UInt8)(hl:l.length≤1048576):strings_Cut.f (toB l) (toB w)=some (toB (Lib.cut l w).1,toB (Lib.cut l w).2.1,(Lib.cut l w).2.2):=by
 unfold strings_Cut.f;rw[if_pos (by rw[toB_size'];omega),data_toB,data_toB];rfl
theorem rnf(t:ByteArray)(h:t.size≤1048576):impl_readNumber.f t=some (RN t):=by
 unfold impl_readNumber.f;rw[if_pos (by omega)]
theorem rp_f(l:List UInt8)(hl:l.length≤1048576):impl_readPair.f (toB l)=some (RP l):=by
 have hc:=cut_len1 l [44];unfold impl_readPair.f;rw[show(⟨#[44]⟩:ByteArray)=toB [44]from rfl,scut l [44] hl];simp only[Option.bind_some];rw[rnf _ (by rw[toB_size'];omega),rnf _ (by rw[toB_size'];omega)];simp only[Option.bind_some];unfold RP
 cases(RN (toB (Lib.cut l [44]).1)).2 with
 |true=>rw[if_pos rfl];rfl
 |false=>rw[if_neg (by simp)];rfl
theorem rp_of{a b:Nat}(ha:a≤9999)(hb:b≤9999):RP (dg a++44::dg b)=((a:Int),(b:Int),true):=by
 have hc:Lib.cut (dg a++44::dg b) [44]=(dg a,dg b,true):=cutF (sep:=[]) (dg_no (by decide));unfold RP;rw[hc];dsimp only;rw[rn_of ha,rn_of hb];rfl
theorem rp_true{l:List UInt8}(h:(RP l).2.2=true):∃a b:Nat,a≤9999∧b≤9999∧l=dg a++44::dg b:=by
 unfold RP at h;dsimp only at h;rw[Bool.and_eq_true]at h;obtain⟨a,ha,ea,_⟩:=rn_true h.1;obtain⟨b,hb,eb,_⟩:=rn_true h.2;(have ea':(Lib.cut l [44]).1=dg a:=by have:=congrArg (fun z:ByteArray=>z.data.toList) ea;simpa only[data_toB]using this);(have eb':(Lib.cut l [44]).2.1=dg b:=by have:=congrArg (fun z:ByteArray=>z.data.toList) eb;simpa only[data_toB]using this);refine⟨a,b,ha,hb,?_⟩
 cases hc:(Lib.cut l [44]).2.2 with
 |true=>
  have:=cutT hc;rw[ea',eb']at this;exact this
 |false=>
  have:=cutN hc;rw[eb']at this;exact absurd this (dg_ne b)
def CP(w l:List UInt8):List UInt8 × Bool:=if w.isPrefixOf l then(l.drop w.length,true)else(l,false)
def CS(w l:List UInt8):List UInt8 × Bool:=if w.isSuffixOf l then(l.take (l.length-w.length),true)else(l,false)
theorem beq_toB(x y:List UInt8):((toB x).toList==(toB y).toList)=decide (x=y):=by
 rw[ByteArray.toList_eq,ByteArray.toList_eq,data_toB,data_toB];rw[Bool.eq_iff_iff];simp
theorem cp_f(w l:List UInt8)(hl:l.length≤1048576):strings_CutPrefix.f (toB l) (toB w)=some (toB (CP w l).1,(CP w l).2):=by
 unfold strings_CutPrefix.f stringslite_CutPrefix.f stringslite_HasPrefix.f CP;rw[toB_size',toB_size'];by_cases h:(l.length:Int)≥(w.length:Int);rotate_left;(·rw[if_neg h];(have hp:¬w.isPrefixOf l=true:=fun q=>by obtain⟨t,ht⟩:=List.isPrefixOf_iff_prefix.1 q;have:=congrArg List.length ht;rw[List.length_append]at this;omega);simp only[Option.bind_some];rw[if_neg hp,if_neg (by simp)];rfl);rw[if_pos h,if_pos (by omega),if_pos (by omega)];(have e1:(toB l).extract 0 (((w.length:Int))).toNat=toB (l.take w.length):=by rw[extract_toB,data_toB,List.drop_zero,Int.toNat_natCast,Nat.sub_zero]);(have e2:(toB l).extract (((w.length:Int))).toNat l.length=toB (l.drop w.length):=by rw[extract_toB,data_toB,Int.toNat_natCast,List.take_of_length_le (by rw[List.length_drop];omega)]);rw[e1,beq_toB];simp only[Option.bind_some];by_cases hp:w.isPrefixOf l=true;rotate_left;(·(have h3:¬l.take w.length=w:=fun q=>hp (List.isPrefixOf_iff_prefix.2 ⟨l.drop w.length,by have:=List.take_append_drop w.length l;rw[q]at this;exact this⟩));rw[if_neg hp,decide_eq_false h3,if_neg (by simp)];rfl);obtain⟨t,ht⟩:=List.isPrefixOf_iff_prefix.1 hp;(have h3:l.take w.length=w:=by rw[←ht,List.take_left]);rw[if_pos hp,decide_eq_true h3,if_pos rfl,if_pos (by omega),if_pos (by omega),e2];rfl
theorem cs_f(w l:List UInt8)(hl:l.length≤1048576):strings_CutSuffix.f (toB l) (toB w)=some (toB (CS w l).1,(CS w l).2):=by
 unfold strings_CutSuffix.f stringslite_CutSuffix.f stringslite_HasSuffix.f CS;rw[toB_size',toB_size'];by_cases h:(l.length:Int)≥(w.length:Int);rotate_left;(·rw[if_neg h];(have hp:¬w.isSuffixOf l=true:=fun q=>by obtain⟨t,ht⟩:=List.isSuffixOf_iff_suffix.1 q;have:=congrArg List.length ht;rw[List.length_append]at this;omega);simp only[Option.bind_some];rw[if_neg hp,if_neg (by simp)];rfl);(have ew:wrap64 ((l.length:Int)-(w.length:Int))=((l.length-w.length:Nat):Int):=by rw[wid (by omega) (by omega)];omega);rw[if_pos h,ew,if_pos (by omega),if_pos (by omega)];(have e1:(toB l).extract (((l.length-w.length:Nat):Int)).toNat l.length=toB (l.drop (l.length-w.length)):=by rw[extract_toB,data_toB,Int.toNat_natCast,List.take_of_length_le (by rw[List.length_drop];omega)]);(have e2:(toB l).extract 0 (((l.length-w.length:Nat):Int)).toNat=toB (l.take (l.length-w.length)):=by rw[extract_toB,data_toB,List.drop_zero,Int.toNat_natCast,Nat.sub_zero]);rw[e1,beq_toB];simp only[Option.bind_some];by_cases hp:w.isSuffixOf l=true;rotate_left;(·(have h3:¬l.drop (l.length-w.length)=w:=fun q=>hp (List.isSuffixOf_iff_suffix.2 ⟨l.take (l.length-w.length),by have:=List.take_append_drop (l.length-w.length) l;rw[q]at this;exact this⟩));rw[if_neg hp,decide_eq_false h3,if_neg (by simp)];rfl);obtain⟨t,ht⟩:=List.isSuffixOf_iff_suffix.1 hp;(have h3:l.drop (l.length-w.length)=w:=by(have e:l.length-w.length=t.length:=by rw[←ht,List.length_append];omega);rw[e,←ht,List.drop_left]);rw[if_pos hp,decide_eq_true h3,if_pos rfl,if_pos (by omega),if_pos (by omega),e2];rfl
theorem cp_len(w l:List UInt8):(CP w l).1.length≤l.length:=by
 unfold CP;split;(·rw[List.length_drop];omega);exact Nat.le_refl _
theorem cs_len(w l:List UInt8):(CS w l).1.length≤l.length:=by
 unfold CS;split;(·rw[List.length_take];omega);exact Nat.le_refl _
theorem cp_true{w l:List UInt8}(h:(CP w l).2=true):l=w++(CP w l).1:=by
 unfold CP at h ⊢;by_cases hp:w.isPrefixOf l=true;rotate_left;(·rw[if_neg hp]at h;cases h);obtain⟨t,ht⟩:=List.isPrefixOf_iff_prefix.1 hp;rw[if_pos hp];dsimp only;rw[←ht,List.drop_left]
theorem cs_true{w l:List UInt8}(h:(CS w l).2=true):l=(CS w l).1++w:=by
 unfold CS at h ⊢;by_cases hp:w.isSuffixOf l=true;rotate_left;(·rw[if_neg hp]at h;cases h);obtain⟨t,ht⟩:=List.isSuffixOf_iff_suffix.1 hp;rw[if_pos hp];dsimp only;(have e:l.length-w.length=t.length:=by rw[←ht,List.length_append];omega);rw[e,←ht,List.take_left]
theorem cp_of(w r:List UInt8):CP w (w++r)=(r,true):=by
 unfold CP;rw[if_pos (List.isPrefixOf_iff_prefix.2 ⟨r,rfl⟩),List.drop_left]
theorem cs_of(w r:List UInt8):CS w (r++w)=(r,true):=by
 unfold CS;rw[if_pos (List.isSuffixOf_iff_suffix.2 ⟨r,rfl⟩),List.length_append,Nat.add_sub_cancel,List.take_left]
theorem ihead_tells(x:List UInt8)(hx:x.length≤1048576):
    (∃p a q b:Nat,p≤9999∧a≤9999∧q≤9999∧b≤9999∧x=hdT p a q b∧impl_readHead.f (toB x)=some ((p:Int),(q:Int),[],(a:Int),(b:Int),true)) ∨
    ((∀p a q b:Nat,p≤9999→a≤9999→q≤9999→b≤9999→x≠hdT p a q b)∧∃i j o n,impl_readHead.f (toB x)=some (i,j,[],o,n,false)):=by
 generalize hA:CP [64,64,32,45] x=A;generalize hB:CS [32,64,64,10] A.1=B;generalize hC:Lib.cut B.1 [32,43]=C;(have lA:A.1.length≤x.length:=by rw[←hA];exact cp_len _ _);(have lB:B.1.length≤A.1.length:=by rw[←hB];exact cs_len _ _);(have lC:C.1.length≤B.1.length∧C.2.1.length≤B.1.length:=by rw[←hC];exact cut_len1 _ _);have f1:=cp_f [64,64,32,45] x hx;rw[hA]at f1;have f2:=cs_f [32,64,64,10] A.1 (by omega);rw[hB]at f2;have f3:=scut B.1 [32,43] (by omega);rw[hC]at f3;have f4:=rp_f C.1 (by omega);have f5:=rp_f C.2.1 (by omega);(have hf:impl_readHead.f (toB x)=some ((RP C.1).1,(RP C.2.1).1,[],(RP C.1).2.1,(RP C.2.1).2.1,A.2&&(B.2&&(C.2.2&&((RP C.1).2.2&&(RP C.2.1).2.2)))):=by unfold impl_readHead.f;rw[show(⟨#[64,64,32,45]⟩:ByteArray)=toB [64,64,32,45]from rfl,f1];simp only[Option.bind_some];rw[show(⟨#[32,64,64,10]⟩:ByteArray)=toB [32,64,64,10]from rfl,f2];simp only[Option.bind_some];rw[show(⟨#[32,43]⟩:ByteArray)=toB [32,43]from rfl,f3];simp only[Option.bind_some];rw[f4,f5];simp only[Option.bind_some];cases A.2<;>cases B.2<;>cases C.2.2<;>cases(RP C.1).2.2<;>rfl);rw[hf];by_cases hall:(A.2&&(B.2&&(C.2.2&&((RP C.1).2.2&&(RP C.2.1).2.2))))=true;(·left;have h0:=hall;simp only[Bool.and_eq_true]at h0;obtain⟨h1,h2,h3,h4,h5⟩:=h0;obtain⟨p,a,hp,ha,e4⟩:=rp_true h4;obtain⟨q,b,hq,hb,e5⟩:=rp_true h5;have e1:=cp_true (w:=[64,64,32,45]) (l:=x) (by rw[hA];exact h1);have e2:=cs_true (w:=[32,64,64,10]) (l:=A.1) (by rw[hB];exact h2);have e3:=cutT (s:=B.1) (sep:=[32,43]) (by rw[hC];exact h3);rw[hA]at e1;rw[hB]at e2;rw[hC]at e3;refine⟨p,a,q,b,hp,ha,hq,hb,?_,?_⟩;rotate_left;(·rw[hall,e4,e5,rp_of hp ha,rp_of hq hb]);rw[e1,e2,e3,e4,e5];unfold hdT;simp);right;have hall':(A.2&&(B.2&&(C.2.2&&((RP C.1).2.2&&(RP C.2.1).2.2))))=false:=Bool.eq_false_iff.2 hall;refine⟨fun p a q b hp ha hq hb e=>hall ?_,_,_,_,_,by rw[hall']⟩;(have e1:A=((dg p++44::dg a)++([32,43]++(dg q++44::dg b))++[32,64,64,10],true):=by rw[←hA,e,show hdT p a q b=[64,64,32,45]++((dg p++44::dg a)++([32,43]++(dg q++44::dg b))++[32,64,64,10])by unfold hdT;simp,cp_of]);(have e2:B=((dg p++44::dg a)++([32,43]++(dg q++44::dg b)),true):=by rw[←hB,e1,cs_of]);(have hno:(32:UInt8)∉dg p++44::dg a:=by intro q;(rcases List.mem_append.1 q with q|q);(·exact dg_no (by decide) q);(rcases List.mem_cons.1 q with q|q);(·exact absurd q (by decide));exact dg_no (by decide) q);(have e3:C=(dg p++44::dg a,dg q++44::dg b,true):=by rw[←hC,e2];exact cutF (sep:=[43]) hno);rw[e1,e2,e3];dsimp only;rw[rp_of hp ha,rp_of hq hb];rfl
theorem lineEnd_none:∀{l:List UInt8},nl l=none→lineEnd l=l.length:=by
 intro l
 induction l with
 |nil=>intro _;rfl
 |cons c l ih=>
  intro h;rw[nl]at h;split at h;(·cases h);rename_i hc;rw[lineEnd,if_neg hc,ih (Option.map_eq_none_iff.1 h),List.length_cons]
theorem lineEnd_some:∀{l x r:List UInt8},nl l=some (x,r)→lineEnd l+1=x.length:=by
 intro l
 induction l with
 |nil=>intro x r h;cases h
 |cons c l ih=>
  intro x r h;rw[nl]at h;split at h;rotate_left;(·rename_i hc;obtain⟨⟨x',r'⟩,h1,h2⟩:=Option.map_eq_some_iff.1 h;(injection h2 with h2 h3);rw[lineEnd,if_neg hc,←h2,List.length_cons,ih h1]);rename_i hc;(injection h with h);(injection h with h1 h2);rw[lineEnd,if_pos hc,←h1];rfl
theorem tk_less{l:List UInt8}{y:ByteArray}{r:List UInt8}(h:tk l=some (y,r)):r.length+2≤l.length∧y.size+r.length≤l.length∧2≤y.size:=by
 obtain⟨e,hb⟩:=tk_some h;(have hs:2≤y.size:=Classical.byContradiction fun q=>hb (.inl (by omega)));(have h2:y.size≤(lnT y).length:=by have:=size_data y;unfold lnT;split;(·omega);rw[List.length_append];omega);have:=congrArg List.length e;rw[List.length_append]at this;omega
theorem wr_end{e n:Nat}(h:e+n≤8000):wrap64 ((e:Int)+(n:Int))=((e+n:Nat):Int):=by
 rw[wid (by omega) (by omega)];rfl
theorem wr_next{m:Nat}(h:m+1≤8000):wrap64 ((m:Int)+1)=((m+1:Nat):Int):=by
 rw[wid (by omega) (by omega)];rfl
theorem wr_two{m:Nat}(h:m≤8000):wrap64 ((m:Int)+2)=((m+2:Nat):Int):=by
 rw[wid (by omega) (by omega)];rfl
theorem sread_step(s:ByteArray)(hs:s.size≤8000)(p q:Int)(e:Nat)(he:e≤s.size)(o n:Int)(ls:List ByteArray)(hls:ls.length≤8000)(ho:o>0∨n>0)(o0: -10000≤o)(o1:o≤10000)(n0: -10000≤n)(n1:n≤10000):
    (tk (s.data.toList.drop e)=none→Ev (fun k=>spec_l3Read.l0 k s (e:Int) o n p q ls) (p,q,ls,-1)) ∧
    (∀y r,tk (s.data.toList.drop e)=some (y,r)→∀R,Ev (fun k=>spec_l3Read.l0 k s ((s.size-r.length:Nat):Int) (if mk y=43 then o else o-1) (if mk y=45 then n else n-1) p q (ls++[y])) R→Ev (fun k=>spec_l3Read.l0 k s (e:Int) o n p q ls) R):=by
  have el:=size_data s
  have ll:(s.data.toList.drop e).length=s.size-e:=by rw[List.length_drop,el]
  -- into the flagged part
  have enter:∀R,Ev (fun k=>spec_l3Read.j1 k s (e:Int) o n true p q ls) R→Ev (fun k=>spec_l3Read.l0 k s (e:Int) o n p q ls) R:=fun R h=>by
    refine Ev.step (fun k=>by rw[spec_l3Read.l0]) ?_
    by_cases h1:o>0
    · exact Ev_pos h1 h
    · refine Ev_neg h1 ?_
      rw[decide_eq_true (show n>0 by omega)]
      exact h
  have e1:(s.extract ((e:Int)).toNat s.size)=toB (s.data.toList.drop e):=by
    rw[extract_toB,Int.toNat_natCast,List.take_of_length_le (by omega)]
  have hend:=ended_tells (toB (s.data.toList.drop e)) (by rw[←size_data,data_toB];omega)
  rw[data_toB]at hend
  -- a line that is read
  have line:∀(y:ByteArray) (end_:Nat),end_≤8000→y.size≤8000→(hbad y→Ev (fun k=>spec_l3Read.j2 k s (end_:Int) o n y p q ls) (p,q,ls,-1)) ∧
      (¬hbad y→∀R,Ev (fun k=>spec_l3Read.l0 k s (end_:Int) (if mk y=43 then o else o-1) (if mk y=45 then n else n-1) p q (ls++[y])) R→Ev (fun k=>spec_l3Read.j2 k s (end_:Int) o n y p q ls) R):=fun y end_ hend_ hy=>by
    have hl:=sline_tells y (by omega)
    refine⟨fun hb=>Ev.step (fun k=>by rw[spec_l3Read.j2]) ?_,fun hb R h=>Ev.step (fun k=>by rw[spec_l3Read.j2]) ?_⟩
    · rw[if_pos hb]at hl
      exact Ev_call hl (Ev_neg (by omega) (Ev.now _))
    · rw[if_neg hb]at hl
      have hp:=good_pos hb
      refine Ev_call hl (Ev_pos rfl (Ev_pos (by omega) ?_))
      rw[wid (x:=o-1) (by omega) (by omega),wid (x:=n-1) (by omega) (by omega)]
      by_cases h43:mk y=43
      · have h45:¬mk y=45:=by omega
        rw[if_pos h43,if_neg h45]at h
        exact Ev_pos h43 (Ev_neg h45 (Ev_pos (by omega) h))
      · rw[if_neg h43]at h
        by_cases h45:mk y=45
        · rw[if_pos h45]at h
          exact Ev_neg h43 (Ev_pos h45 (Ev_pos (by omega) h))
        · rw[if_neg h45]at h
          exact Ev_neg h43 (Ev_neg h45 (Ev_pos (by omega) h))
  cases hn:nl (s.data.toList.drop e)with
  |none=>
    have ht:tk (s.data.toList.drop e)=none:=by unfold tk;rw[hn]
    refine⟨fun _=>enter _ (Ev.step (fun k=>by rw[spec_l3Read.j1]) ?_),fun y r h=>by rw[ht]at h;cases h⟩
    rw[e1]
    rw[lineEnd_none hn]at hend
    refine Ev_pos rfl (Ev_pos (by omega) (Ev_pos (by omega) (Ev_call hend (Ev_pos ?_ (Ev.now _)))))
    rw[wid (by omega) (by omega)]
    omega
  |some xr=>
    obtain⟨x,r⟩:=xr
    obtain⟨hx,z,hz,hz2⟩:=nl_some hn
    have hle:=lineEnd_some hn
    obtain⟨d1,d2,d3⟩:=pos_drop he hx
    have hxl:1≤x.length:=by rw[hz];simp
    have hE:e+lineEnd (s.data.toList.drop e)+1=s.size-r.length:=by omega
    have hM:e+lineEnd (s.data.toList.drop e)+1≤8000:=by omega
    have e2:s.extract ((e:Int)).toNat (((s.size-r.length:Nat):Int)).toNat=toB x:=by
      rw[extract_toB,Int.toNat_natCast,Int.toNat_natCast,hx,show s.size-r.length-e=x.length by omega,List.take_left]
    have hxs:(toB x).size=x.length:=by rw[←size_data,data_toB]
    have hW:=word3_tells s (by omega) (s.size-r.length) (by omega) (⟨#[92,10]⟩:ByteArray) (by decide)
    rw[d1]at hW
    have z2:(⟨#[92,10]⟩:ByteArray).size=2:=rfl
    have zd:(⟨#[92,10]⟩:ByteArray).data.toList=[92,10]:=rfl
    rw[z2,zd]at hW
    by_cases h2:r.take 2=[92,10]
    · rw[if_pos h2]at hW
      have hr2:2≤r.length:=by
        have:=congrArg List.length h2
        rw[List.length_take]at this
        simp at this
        omega
      have tkv:tk (s.data.toList.drop e)=if hbad (toB x.dropLast)then none else some (toB x.dropLast,r.drop 2):=by unfold tk;rw[hn];exact if_pos h2
      have e3:(toB x).extract 0 (((lineEnd (s.data.toList.drop e):Nat):Int)).toNat=toB x.dropLast:=by
        rw[extract_toB,data_toB,List.drop_zero,Int.toNat_natCast,List.dropLast_eq_take,show lineEnd (s.data.toList.drop e)-0=x.length-1 by omega]
      have hK:s.size-(r.drop 2).length=s.size-r.length+2:=by rw[List.length_drop];omega
      have go:∀R,Ev (fun k=>spec_l3Read.j2 k s ((s.size-(r.drop 2).length:Nat):Int) o n (toB x.dropLast) p q ls) R→Ev (fun k=>spec_l3Read.l0 k s (e:Int) o n p q ls) R:=fun R h=>by
        refine enter _ (Ev.step (fun k=>by rw[spec_l3Read.j1]) ?_)
        rw[e1]
        refine Ev_pos rfl (Ev_pos (by omega) (Ev_pos (by omega) (Ev_call hend ?_)))
        rw[wr_end (by omega),wr_next hM,hE,e2,e3,wr_two (by omega),←hK,hxs]
        exact Ev_neg (by omega) (Ev_pos (by omega) (Ev_pos (by omega) (Ev_const hW (Ev_pos (by omega) (Ev_pos (by omega) (Ev_pos (by omega) h))))))
      have hyl:(toB x.dropLast).size≤8000:=by rw[←size_data,data_toB,List.length_dropLast];omega
      have hL:=line (toB x.dropLast) (s.size-(r.drop 2).length) (by omega) hyl
      rw[tkv]
      by_cases hb:hbad (toB x.dropLast)
      · rw[if_pos hb]
        exact⟨fun _=>go _ (hL.1 hb),fun y r' h=>by cases h⟩
      · rw[if_neg hb]
        refine⟨fun h=>(by cases h),fun y r' h R hR=>?_⟩
        injection h with h
        injection h with h3 h4
        subst h3 h4
        exact go _ (hL.2 hb R hR)
    · rw[if_neg h2]at hW
      have tkv:tk (s.data.toList.drop e)=if hbad (toB x)then none else some (toB x,r):=by unfold tk;rw[hn];exact if_neg h2
      have go:∀R,Ev (fun k=>spec_l3Read.j2 k s ((s.size-r.length:Nat):Int) o n (toB x) p q ls) R→Ev (fun k=>spec_l3Read.l0 k s (e:Int) o n p q ls) R:=fun R h=>by
        refine enter _ (Ev.step (fun k=>by rw[spec_l3Read.j1]) ?_)
        rw[e1]
        refine Ev_pos rfl (Ev_pos (by omega) (Ev_pos (by omega) (Ev_call hend ?_)))
        rw[wr_end (by omega),wr_next hM,hE,e2]
        exact Ev_neg (by omega) (Ev_pos (by omega) (Ev_pos (by omega) (Ev_const hW (Ev_neg (by omega) h))))
      have hL:=line (toB x) (s.size-r.length) (by omega) (by omega)
      rw[tkv]
      by_cases hb:hbad (toB x)
      · rw[if_pos hb]
        exact⟨fun _=>go _ (hL.1 hb),fun y r' h=>by cases h⟩
      · rw[if_neg hb]
        refine⟨fun h=>(by cases h),fun y r' h R hR=>?_⟩
        injection h with h
        injection h with h3 h4
        subst h3 h4
        exact go _ (hL.2 hb R hR)
theorem sread_loop(s:ByteArray)(hs:s.size≤8000)(p q:Int):∀(f e:Nat) (o n:Int) (ls:List ByteArray),e≤s.size→s.size-e<f→ls.length≤e→ -(e:Int)≤o→o≤9999→ -(e:Int)≤n→n≤9999 →
    (∀x r,rb f o n (s.data.toList.drop e)=some (x,r)→Ev (fun k=>spec_l3Read.l0 k s (e:Int) o n p q ls) (p,q,ls++x,((s.size-r.length:Nat):Int))) ∧
    (rb f o n (s.data.toList.drop e)=none→∃ls',Ev (fun k=>spec_l3Read.l0 k s (e:Int) o n p q ls) (p,q,ls',-1)):=by
 have el:=size_data s;intro f
 induction f with
 |zero=>intro e o n ls he hf;omega
 |succ f ih=>
  intro e o n ls he hf hls o0 o1 n0 n1;(have ll:(s.data.toList.drop e).length=s.size-e:=by rw[List.length_drop,el]);rw[rb];by_cases ho:o>0∨n>0
  ·rw[if_pos ho];obtain⟨s1,s2⟩:=sread_step s hs p q e he o n ls (by omega) ho (by omega) (by omega) (by omega) (by omega)
   cases ht:tk (s.data.toList.drop e)with
   |none=>exact⟨fun x r h=>(by cases h),fun _=>⟨ls,s1 ht⟩⟩
   |some yr=>
    obtain⟨y,r⟩:=yr;obtain⟨t1,t2,t3⟩:=tk_less ht;obtain⟨d1,_,_⟩:=pos_drop he (tk_some ht).1;have hI:=ih (s.size-r.length) (if mk y=43 then o else o-1) (if mk y=45 then n else n-1) (ls++[y]) (by omega) (by omega) (by rw[List.length_append,List.length_singleton];omega) (by split<;>omega) (by split<;>omega) (by split<;>omega) (by split<;>omega);rw[d1]at hI;dsimp only;refine⟨fun x r' h=>?_,fun h=>?_⟩;rotate_left;(·obtain⟨ls',hl⟩:=hI.2 (Option.map_eq_none_iff.1 h);exact⟨ls',s2 y r ht _ hl⟩);obtain⟨⟨x1,r1⟩,h1,h2⟩:=Option.map_eq_some_iff.1 h;(injection h2 with h2 h3);subst h2 h3;have:=s2 y r ht _ (hI.1 _ _ h1);rw[List.append_assoc]at this;exact this
  rw[if_neg ho];(have out:∀R,Ev (fun k=>if o<0 then(some (p,q,ls,(-1:Int)))else(if n<0 then(some (p,q,ls,(-1)))else(some (p,q,ls,(e:Int))))) R→Ev (fun k=>spec_l3Read.l0 k s (e:Int) o n p q ls) R:=fun R h=>by refine Ev.step (fun k=>by rw[spec_l3Read.l0]) (Ev_neg (by omega) ?_);rw[decide_eq_false (show¬n>0 by omega)];exact Ev.step (fun k=>by rw[spec_l3Read.j1]) (Ev_neg (by simp) h));by_cases hn:o<0∨n<0;(·rw[if_pos hn];refine⟨fun x r h=>(by cases h),fun _=>⟨ls,out _ ?_⟩⟩;by_cases h0:o<0;(·exact Ev_pos h0 (Ev.now _));exact Ev_neg h0 (Ev_pos (by omega) (Ev.now _)));rw[if_neg hn];refine⟨fun x r h=>?_,fun h=>by cases h⟩;(injection h with h);(injection h with h1 h2);subst h1 h2;refine out _ (Ev_neg (by omega) (Ev_neg (by omega) (Ev_val ?_)));rw[List.append_nil,ll];congr 4;omega
theorem sread_tells(s:ByteArray)(hs:s.size≤8000)(e:Nat)(he:e≤s.size):
    (∀h r,rh (s.data.toList.drop e)=some (h,r)→Ev (fun k=>spec_l3Read.f k s (e:Int)) (h.f0,h.f1,h.f2,((s.size-r.length:Nat):Int))) ∧
    (rh (s.data.toList.drop e)=none→∃a b l,Ev (fun k=>spec_l3Read.f k s (e:Int)) (a,b,l,-1)):=by
 have el:=size_data s;(have ll:(s.data.toList.drop e).length=s.size-e:=by rw[List.length_drop,el]);(rcases fst_tells s (by omega) e he with⟨p,a,q,b,r,hd,hf⟩|⟨hd,hf⟩);rotate_left;(·rw[rh_none hd];refine⟨fun h r e1=>(by cases e1),fun _=>⟨0,0,[],?_⟩⟩;unfold spec_l3Read.f;exact Ev_call hf (Ev_pos (by omega) (Ev.now _)));rw[rh_is hd];obtain⟨d1,d2,d3⟩:=pos_drop he hd.2.2.2.2;have h12:=hdT_len p a q b;obtain⟨hp,ha,hq,hb,_⟩:=hd;have hI:=sread_loop s hs (p:Int) (q:Int) ((s.data.toList.drop e).length+1) (s.size-r.length) (a:Int) (b:Int) [] (by omega) (by omega) (by simp) (by omega) (by omega) (by omega) (by omega);rw[d1]at hI;(have go:∀R,Ev (fun k=>spec_l3Read.l0 k s ((s.size-r.length:Nat):Int) (a:Int) (b:Int) (p:Int) (q:Int) []) R→Ev (fun k=>spec_l3Read.f k s (e:Int)) R:=fun R h=>by unfold spec_l3Read.f;exact Ev_call hf (Ev_neg (by omega) (Ev_pos (by simp) (Ev_pos (by simp) (Ev_pos (by simp) (Ev_pos (by simp) h))))));refine⟨fun h r' e1=>?_,fun e1=>?_⟩;rotate_left;(·obtain⟨ls',hl⟩:=hI.2 (Option.map_eq_none_iff.1 e1);exact⟨_,_,ls',go _ hl⟩);obtain⟨⟨x,r2⟩,h1,h2⟩:=Option.map_eq_some_iff.1 e1;(injection h2 with h2 h3);subst h2 h3;exact go _ (hI.1 _ _ h1)
theorem rh_less{l:List UInt8}{h:Hk}{r:List UInt8}(e:rh l=some (h,r)):r.length+12+(lsT h.f2).length≤l.length:=by
 obtain⟨e1,_⟩:=rh_some e;have:=congrArg List.length e1;rw[List.length_append,List.length_append]at this;have:=hdT_len h.f0.toNat (hA h.f2) h.f1.toNat (hB h.f2);omega
theorem lw_lsT{x:List ByteArray}(h:HB x=false):lw x≤2*(lsT x).length:=by
 have:=lsT_len x h;unfold lw;omega
def Rd(acc:List Hk)(m:Nat):Prop:=acc.length≤m∧hw acc≤2*m∧∀c∈acc,∀a∈c.f2,a.size≤8000
theorem Rd.small{acc:List Hk}{m:Nat}(h:Rd acc m)(hm:m≤8000):SmallH acc:=⟨fun c hc a ha=>by have:=h.2.2 c hc a ha;omega,by have:=h.1;omega,by have:=h.2.1;omega⟩
theorem hw_snoc(x:List Hk)(c:Hk):hw (x++[c])=hw x+lw c.f2:=by
 induction x with
 |nil=>simp[hw]
 |cons d x ih=>rw[List.cons_append,hw,hw,ih];omega
theorem Rd.next{acc:List Hk}{h:Hk}{l r:List UInt8}{m:Nat}(ha:Rd acc m)(e:rh l=some (h,r))(hl:l.length≤8000):Rd (acc++[h]) (m+(l.length-r.length)):=by
 have h1:=rh_less e;obtain⟨_,hb,_⟩:=rh_some e;have h2:=lw_lsT hb;have h3:=lsT_len h.f2 hb;obtain⟨a1,a2,a3⟩:=ha;refine⟨by rw[List.length_append,List.length_singleton];omega,by rw[hw_snoc];omega,fun c hc a hm=>?_⟩;(rcases List.mem_append.1 hc with hc|hc);(·exact a3 c hc a hm);rw[List.mem_singleton]at hc;subst hc
 have:a.size≤total c.f2:=by
  have all:∀(l:List ByteArray),a∈l→a.size≤total l:=by
   intro l
   induction l with
   |nil=>intro q;exact absurd q (by simp)
   |cons b l ih=>
    intro q;rw[total];(rcases List.mem_cons.1 q with rfl|q);(·omega);have:=ih q;omega
  exact all _ hm
 omega
theorem spp_loop(s:ByteArray)(hs:s.size≤8000):∀(f e:Nat) (acc:List Hk),e≤s.size→s.size-e<f→Rd acc e →
    Ev (fun k=>spec_ParsePatch.l0 k s acc (e:Int)) (if(pr f acc (s.data.toList.drop e)).1=true then(if HKF (pr f acc (s.data.toList.drop e)).2=0 then(0,0,(pr f acc (s.data.toList.drop e)).2)else(HKF (pr f acc (s.data.toList.drop e)).2,0,[]))else(5,((pr f acc (s.data.toList.drop e)).2.length:Nat),[])):=by
 have el:=size_data s;intro f
 induction f with
 |zero=>intro e acc he hf;omega
 |succ f ih=>
  intro e acc he hf ha;(have ll:(s.data.toList.drop e).length=s.size-e:=by rw[List.length_drop,el]);refine Ev.step (fun k=>by rw[spec_ParsePatch.l0]) ?_;rw[pr];by_cases h0:s.data.toList.drop e=[];(·rw[if_pos h0];(have h1:e=s.size:=by have:=congrArg List.length h0;rw[ll]at this;simp at this;omega);refine Ev_neg (by omega) (Ev_call (shf_tells (ha.small (by omega))) ?_);dsimp only;rw[if_pos rfl];exact Ev_if (fun h=>Ev_val (by rw[if_pos h])) (fun h=>Ev_val (by rw[if_neg h])));rw[if_neg h0];(have h1:e<s.size:=by have:=List.length_pos_iff.2 h0;omega);obtain⟨t1,t2⟩:=sread_tells s hs e he
  cases hr:rh (s.data.toList.drop e)with
  |none=>
   obtain⟨a,b,l,hl⟩:=t2 hr;exact Ev_pos (by omega) (Ev_call hl (Ev_pos (by show(-1:Int)<0;decide) (Ev.now _)))
  |some hh=>
   obtain⟨h,r⟩:=hh;have hless:=rh_less hr;(have e9:s.data.toList.drop e=(hdT h.f0.toNat (hA h.f2) h.f1.toNat (hB h.f2)++lsT h.f2)++r:=by rw[List.append_assoc];exact(rh_some hr).1);obtain⟨d1,_,_⟩:=pos_drop he e9;have hn:=ha.next hr (by omega);have hI:=ih (s.size-r.length) (acc++[h]) (by omega) (by omega) (by rw[show s.size-r.length=e+((s.data.toList.drop e).length-r.length)by omega];exact hn);rw[d1]at hI;exact Ev_pos (by omega) (Ev_call (t1 h r hr) (Ev_neg (by show¬(((s.size-r.length:Nat):Int)<0);omega) (Ev_pos (by have:=ha.1;omega) hI)))
theorem spp_tells(s:ByteArray):Ev (fun k=>spec_ParsePatch.f k s) (PPT s):=by
 unfold spec_ParsePatch.f PPT;by_cases h:s.size>8000;(·rw[if_pos h];exact Ev_pos (by omega) (Ev.now _));rw[if_neg h];refine Ev_neg (by omega) ?_;have:=spp_loop s (by omega) (s.size+1) 0 [] (by omega) (by omega) ⟨by simp,by simp[hw],fun c hc=>absurd hc (by simp)⟩;rw[List.drop_zero]at this;exact this
def LN(l:List UInt8):List ByteArray:=(linesL [] l).map toB
theorem LN_none{l:List UInt8}(h:nl l=none):LN l=if l=[]then[]else[toB l]:=by
 unfold LN;rw[linesL_nl,h];dsimp only;rw[List.nil_append];split<;>rfl
theorem LN_some{l x r:List UInt8}(h:nl l=some (x,r)):LN l=toB x::LN r:=by
 unfold LN;rw[linesL_nl,h];rfl
theorem LN_nil{l:List UInt8}:LN l=[]↔l=[]:=by
 cases h:nl l with
 |none=>
  rw[LN_none h];by_cases h0:l=[];(·rw[if_pos h0];simp[h0]);rw[if_neg h0];simp[h0]
 |some xr=>
  obtain⟨x,r⟩:=xr;rw[LN_some h];constructor;(·intro e;cases e);intro e;rw[e]at h;cases h
theorem LN_len(l:List UInt8):(LN l).length≤l.length+1:=by
 unfold LN;rw[List.length_map];exact lines_len [] l
theorem suf_mem{y:List UInt8}{z:List UInt8}(h:y=z++[10]):Lib.hasSuffix y [10]=true:=(suffix_last y).2 ⟨z,h⟩
theorem suf_not{y:List UInt8}(h:10∉y):Lib.hasSuffix y [10]=false:=Bool.eq_false_iff.2 (fun q=>by
  obtain⟨r,e⟩:=(suffix_last y).1 q
  exact h (by rw[e];simp))
theorem iw(x:List UInt8)(hx:x.length≤1048576):impl_isWhole.f (toB x)=some (Lib.hasSuffix x [10]):=by
 have:=isWhole_tells (toB x) (by rw[toB_size'];omega);rwa[data_toB]at this
theorem rb_neg:∀(f:Nat) (o n:Int) (l:List UInt8),o<0∨n<0→rb f o n l=none:=by
 intro f
 induction f with
 |zero=>intro o n l _;rfl
 |succ f ih=>
  intro o n l h;rw[rb];split;rotate_left;(·first|rfl|rw[if_pos h]);split;(·rfl);rename_i y r e;rw[ih _ _ _ (by split<;>split<;>omega)];rfl
theorem mk_toB{c:UInt8}{l:List UInt8}:mk (toB (c::l))=(c.toNat:Int):=mk_cons (data_toB _)
theorem beq_list(x y:List UInt8):((toB x).toList==y)=decide (x=y):=by
 rw[ByteArray.toList_eq,data_toB,Bool.eq_iff_iff];simp
theorem LN_mark(r:List UInt8):(r.take 2=[92,10]→LN r=toB [92,10]::LN (r.drop 2))∧(r.take 2≠[92,10]→∀y t,LN r=y::t→¬y=toB [92,10]):=by
 constructor;(·intro h;(have e:r=[92]++10::r.drop 2:=by(conv=>lhs;rw[←List.take_append_drop 2 r,h]);rfl);(have hn:nl r=some ([92]++[10],r.drop 2):=by(conv=>lhs;rw[e]);exact nl_of [92] _ (by decide));rw[LN_some hn];rfl);intro h y t e he;(have inj:∀u:List UInt8,toB u=toB [92,10]→u=[92,10]:=fun u q=>by have:=congrArg (fun z:ByteArray=>z.data.toList) q;simpa only[data_toB]using this)
 cases hn:nl r with
 |none=>
  rw[LN_none hn]at e;split at e;(·cases e);have e1:=(List.cons.inj e).1;have:=inj r (e1.trans he);exact h (by rw[this];rfl)
 |some xr=>
  obtain⟨x,r'⟩:=xr;rw[LN_some hn]at e;have e1:=(List.cons.inj e).1;have:=inj x (e1.trans he);have h2:=(nl_some hn).1;rw[this]at h2;exact h (by rw[h2];rfl)
theorem tk_marks{l x r:List UInt8}(h:nl l=some (x,r)):(¬(mk (toB x)=32∨mk (toB x)=45∨mk (toB x)=43)→tk l=none) ∧
    ((mk (toB x)=32∨mk (toB x)=45∨mk (toB x)=43)→2≤x.length∧mk (toB x.dropLast)=mk (toB x) ∧
      tk l=if r.take 2=[92,10]then(if x.length=2 then none else some (toB x.dropLast,r.drop 2))else some (toB x,r)):=by
 obtain⟨hx,z,hz,hz2⟩:=nl_some h;(have hdl:x.dropLast=z:=by rw[hz];simp);(have tkv:tk l=if r.take 2=[92,10]then(if hbad (toB x.dropLast)then none else some (toB x.dropLast,r.drop 2))else(if hbad (toB x)then none else some (toB x,r)):=by unfold tk;rw[h]);constructor
 ·intro hm;have b1:hbad (toB x):=.inr (.inl hm)
  have b2:hbad (toB x.dropLast):=by
   rw[hdl]
   cases z with
   |nil=>exact .inl (by decide)
   |cons c z=>
    refine .inr (.inl ?_);rw[hz]at hm;rw[List.cons_append,mk_toB]at hm;rw[mk_toB];exact hm
  rw[tkv,if_pos b1,if_pos b2];split<;>rfl
 intro hm
 cases z with
 |nil=>
  rw[hz]at hm;rw[List.nil_append,mk_toB]at hm;exact absurd hm (by decide)
 |cons c z=>
  (have hc:(c.toNat:Int)=32∨(c.toNat:Int)=45∨(c.toNat:Int)=43:=by rw[hz,List.cons_append,mk_toB]at hm;exact hm);(have hxl:x.length=z.length+2:=by rw[hz];simp);(have hmd:mk (toB x.dropLast)=mk (toB x):=by rw[hdl,hz,List.cons_append,mk_toB,mk_toB]);refine⟨by omega,hmd,?_⟩;(have g1:¬hbad (toB x):=by rintro(q|q|q);(·rw[toB_size']at q;omega);(·exact q hm);unfold tl at q;rw[data_toB,hz]at q;simp only[List.cons_append,List.drop_succ_cons,List.drop_zero,List.dropLast_concat]at q;exact hz2 (by simp[q]));(have g2:hbad (toB x.dropLast)↔x.length=2:=by constructor;rotate_left;(·intro q;left;rw[toB_size',hdl];have:z=[]:=List.length_eq_zero_iff.1 (by omega);rw[this];simp);rintro(q|q|q);(·rw[toB_size',hdl]at q;simp at q;omega);(·exact absurd (by rw[hmd];exact hm) q);unfold tl at q;rw[data_toB,hdl]at q;simp only[List.drop_succ_cons,List.drop_zero]at q;exact absurd ((List.dropLast_sublist z).subset q) (fun w=>hz2 (List.mem_cons_of_mem c w)));rw[tkv,if_neg g1];by_cases h2:x.length=2;(·rw[if_pos h2,if_pos (g2.2 h2)]);rw[if_neg h2,if_neg (fun q=>h2 (g2.1 q))]
theorem iread_step{L:List ByteArray}(hL:L.length≤9000)(p q:Int){l:List UInt8}(hl:l.length≤8000)(at_:Nat)(hat:at_≤L.length)(hLN:L.drop at_=LN l)(o n:Int)(ls:List ByteArray)(hls:ls.length≤8000)
    (ho:o>0∨n>0) (o0:0≤o) (o1:o≤9999) (n0:0≤n) (n1:n≤9999):
    (tk l=none→Ev (fun k=>impl_readHunk.l0 k L o n (at_:Int) p q ls) (0,0,[],0,false)) ∧
    (∀y r,tk l=some (y,r)→((if mk y=43 then o else o-1)<0∨(if mk y=45 then n else n-1)<0)→Ev (fun k=>impl_readHunk.l0 k L o n (at_:Int) p q ls) (0,0,[],0,false)) ∧
    (∀y r,tk l=some (y,r)→¬((if mk y=43 then o else o-1)<0∨(if mk y=45 then n else n-1)<0)→∃at',at_<at'∧at'≤L.length∧L.drop at'=LN r ∧
      ∀R,Ev (fun k=>impl_readHunk.l0 k L (if mk y=43 then o else o-1) (if mk y=45 then n else n-1) (at':Int) p q (ls++[y])) R→Ev (fun k=>impl_readHunk.l0 k L o n (at_:Int) p q ls) R):=by
  have enter:∀R,Ev (fun k=>impl_readHunk.j1 k L o n (at_:Int) true p q ls) R→Ev (fun k=>impl_readHunk.l0 k L o n (at_:Int) p q ls) R:=fun R h=>by
    refine Ev.step (fun k=>by rw[impl_readHunk.l0]) ?_
    by_cases h1:o>0
    · exact Ev_pos h1 h
    · refine Ev_neg h1 ?_
      rw[decide_eq_true (show n>0 by omega)]
      exact h
  have fail2:Ev (fun k=>impl_readHunk.j2 k L o n (at_:Int) true p q ls) (0,0,[],0,false):=Ev.step (fun k=>by rw[impl_readHunk.j2]) (Ev_pos rfl (Ev.now _))
  cases hn:nl l with
  |none=>
    have ht:tk l=none:=by unfold tk;rw[hn]
    refine⟨fun _=>enter _ (Ev.step (fun k=>by rw[impl_readHunk.j1]) (Ev_pos rfl ?_)),fun y r h=>(by rw[ht]at h;cases h),fun y r h=>(by rw[ht]at h;cases h)⟩
    rw[LN_none hn]at hLN
    by_cases h0:l=[]
    · rw[if_pos h0]at hLN
      have h1:at_=L.length:=by
        have:=congrArg List.length hLN
        rw[List.length_drop]at this
        simp at this
        omega
      exact Ev_pos (by omega) fail2
    · rw[if_neg h0]at hLN
      have h1:at_<L.length:=by
        have:=congrArg List.length hLN
        rw[List.length_drop]at this
        simp at this
        omega
      have h2:L[at_]=toB l:=by
        rw[List.drop_eq_getElem_cons h1]at hLN
        exact(List.cons.inj hLN).1
      have hw:=iw l (by omega)
      rw[suf_not (nl_none hn)]at hw
      refine Ev_neg (by omega) (Ev_pos (by omega) (Ev_pos (by omega) ?_))
      rw[rd_nat _ h1,h2]
      exact Ev_const hw fail2
  |some xr=>
    obtain⟨x,r⟩:=xr
    obtain⟨hx,z,hz,hz2⟩:=nl_some hn
    obtain⟨m1,m2⟩:=tk_marks hn
    rw[LN_some hn]at hLN
    have h1:at_<L.length:=by
      have:=congrArg List.length hLN
      rw[List.length_drop]at this
      simp at this
      omega
    have h2:L[at_]=toB x∧L.drop (at_+1)=LN r:=by
      rw[List.drop_eq_getElem_cons h1]at hLN
      exact⟨(List.cons.inj hLN).1,(List.cons.inj hLN).2⟩
    have hlx:=congrArg List.length hx
    rw[List.length_append]at hlx
    have hx1:1≤x.length:=by rw[hz];simp
    have hw:=iw x (by omega)
    rw[suf_mem hz]at hw
    have hmk:bt (toB x) 0=mk (toB x):=rfl
    have into:∀R,Ev (fun k=>if(bt (toB x) 0)=32 then(impl_readHunk.j3 k L (o-1) (n-1) (at_:Int) (toB x) p q ls)else(if(bt (toB x) 0)=45 then(impl_readHunk.j3 k L (o-1) n (at_:Int) (toB x) p q ls)else(if(bt (toB x) 0)=43 then(impl_readHunk.j3 k L o (n-1) (at_:Int) (toB x) p q ls)else(some (0,0,([]:List ByteArray),0,false))))) R →
        Ev (fun k=>impl_readHunk.l0 k L o n (at_:Int) p q ls) R:=fun R h=>by
      refine enter _ (Ev.step (fun k=>by rw[impl_readHunk.j1]) (Ev_pos rfl (Ev_neg (by omega) (Ev_pos (by omega) (Ev_pos (by omega) ?_)))))
      rw[rd_nat _ h1,h2.1]
      refine Ev_const hw (Ev.step (fun k=>by rw[impl_readHunk.j2]) (Ev_neg (by simp) (Ev_pos (by omega) (Ev_pos (by omega) ?_))))
      rw[rd_nat _ h1,h2.1,wid (x:=o-1) (by omega) (by omega),wid (x:=n-1) (by omega) (by omega)]
      exact Ev_pos (by rw[toB_size'];omega) h
    by_cases hm:mk (toB x)=32∨mk (toB x)=45∨mk (toB x)=43
    · obtain⟨k1,k2,k3⟩:=m2 hm
      -- to the common part
      have cnt:∀R,Ev (fun k=>impl_readHunk.j3 k L (if mk (toB x)=43 then o else o-1) (if mk (toB x)=45 then n else n-1) (at_:Int) (toB x) p q ls) R→Ev (fun k=>impl_readHunk.l0 k L o n (at_:Int) p q ls) R:=fun R h=>by
        refine into R ?_
        rw[hmk]
        rcases hm with q1|q1|q1
        · rw[if_neg (by omega),if_neg (by omega)]at h
          exact Ev_pos q1 h
        · rw[if_neg (by omega),if_pos q1]at h
          exact Ev_neg (by omega) (Ev_pos q1 h)
        · rw[if_pos q1,if_neg (by omega)]at h
          exact Ev_neg (by omega) (Ev_neg (by omega) (Ev_pos q1 h))
      have ob: -1≤(if mk (toB x)=43 then o else o-1)∧(if mk (toB x)=43 then o else o-1)≤9999:=by split<;>omega
      have nb: -1≤(if mk (toB x)=45 then n else n-1)∧(if mk (toB x)=45 then n else n-1)≤9999:=by split<;>omega
      generalize ho':(if mk (toB x)=43 then o else o-1)=o' at cnt ob
      generalize hn':(if mk (toB x)=45 then n else n-1)=n' at cnt nb
      have neg:o'<0∨n'<0→Ev (fun k=>impl_readHunk.l0 k L o n (at_:Int) p q ls) (0,0,[],0,false):=fun h=>by
        refine cnt _ (Ev.step (fun k=>by rw[impl_readHunk.j3]) ?_)
        by_cases h3:o'<0
        · exact Ev_pos h3 (Ev.step (fun k=>by rw[impl_readHunk.j4]) (Ev_pos rfl (Ev.now _)))
        · refine Ev_neg h3 (Ev.step (fun k=>by rw[impl_readHunk.j4]) ?_)
          rw[decide_eq_true (show n'<0 by omega)]
          exact Ev_pos rfl (Ev.now _)
      have ok4:¬(o'<0∨n'<0)→∀R,Ev (fun k=>impl_readHunk.j5 k L o' n' ((at_+1:Nat):Int) (toB x) (decide (r.take 2=[92,10])) p q ls) R→Ev (fun k=>impl_readHunk.l0 k L o n (at_:Int) p q ls) R:=fun h R hR=>by
        refine cnt _ (Ev.step (fun k=>by rw[impl_readHunk.j3]) (Ev_neg (by omega) ?_))
        rw[wid (x:=(at_:Int)+1) (by omega) (by omega),decide_eq_false (show¬n'<0 by omega)]
        refine Ev.step (fun k=>by rw[impl_readHunk.j4]) (Ev_neg (by simp) ?_)
        obtain⟨g1,g2⟩:=LN_mark r
        by_cases h3:(at_:Int)+1<(L.length:Int)
        · have h4:at_+1<L.length:=by omega
          refine Ev_pos h3 (Ev_pos (by omega) ?_)
          have h5:=h2.2
          rw[List.drop_eq_getElem_cons h4]at h5
          have e7:rdOf ByteArray.empty L ((at_:Int)+1)=L[at_+1]:=by
            have:=rd_nat ByteArray.empty h4
            exact this
          rw[e7]
          by_cases h6:r.take 2=[92,10]
          · have h7:=g1 h6
            rw[h7]at h5
            rw[(List.cons.inj h5).1,beq_list,decide_eq_true rfl]
            rw[decide_eq_true h6]at hR
            exact hR
          · have h7:=g2 h6 _ _ h5.symm
            have h8:(L[at_+1].toList==([92,10]:List UInt8))=false:=by
              rw[Bool.eq_false_iff]
              intro w
              have w2:L[at_+1].toList=[92,10]:=by simpa using w
              apply h7
              apply data_eq.1
              rw[w2,ByteArray.toList_eq,data_toB]
            rw[h8]
            rw[decide_eq_false h6]at hR
            exact hR
        · have h4:L.drop (at_+1)=[]:=List.drop_eq_nil_of_le (by omega)
          rw[h2.2]at h4
          have h5:=LN_nil.1 h4
          rw[h5,decide_eq_false (by simp)]at hR
          exact Ev_neg h3 hR
      have sx:(toB x).size=x.length:=toB_size' x
      by_cases h6:r.take 2=[92,10]
      · rw[if_pos h6]at k3
        have e6:(toB x).extract 0 (((x.length-1:Nat):Int)).toNat=toB x.dropLast:=by
          rw[extract_toB,data_toB,List.drop_zero,Int.toNat_natCast,List.dropLast_eq_take,Nat.sub_zero]
        have w6:wrap64 ((x.length:Int)-1)=((x.length-1:Nat):Int):=by
          rw[wid (by omega) (by omega)]
          omega
        have dl:(toB x.dropLast).size=x.length-1:=by rw[toB_size',List.length_dropLast]
        by_cases h7:x.length=2
        · rw[if_pos h7]at k3
          rw[k3]
          refine⟨fun _=>?_,fun y r' h=>(by cases h),fun y r' h=>(by cases h)⟩
          by_cases hneg:o'<0∨n'<0
          · exact neg hneg
          · refine ok4 hneg _ ?_
            rw[decide_eq_true h6]
            refine Ev.step (fun k=>by rw[impl_readHunk.j5]) (Ev_pos rfl ?_)
            rw[sx,w6,e6,dl]
            exact Ev_pos (by omega) (Ev_pos (by omega) (Ev_pos (by omega) (Ev.now _)))
        · rw[if_neg h7]at k3
          rw[k3]
          refine⟨fun h=>(by cases h),fun y r' h hneg=>?_,fun y r' h hneg=>?_⟩
          · injection h with h
            injection h with h3 h4
            subst h3 h4
            rw[k2,ho',hn']at hneg
            exact neg hneg
          · injection h with h
            injection h with h3 h4
            subst h3 h4
            rw[k2,ho',hn']at hneg ⊢
            have h7':=(LN_mark r).1 h6
            have h8:at_+1<L.length:=by
              have:=congrArg List.length h2.2
              rw[List.length_drop,h7',List.length_cons]at this
              omega
            refine⟨at_+2,by omega,by omega,?_,fun R hR=>ok4 hneg _ ?_⟩
            · have:=h2.2
              rw[h7',List.drop_eq_getElem_cons h8]at this
              exact(List.cons.inj this).2
            · rw[decide_eq_true h6]
              refine Ev.step (fun k=>by rw[impl_readHunk.j5]) (Ev_pos rfl ?_)
              rw[sx,w6,e6,dl]
              refine Ev_pos (by omega) (Ev_pos (by omega) (Ev_neg (by omega) (Ev_pos (by omega) ?_)))
              rw[wid (x:=((at_+1:Nat):Int)+1) (by omega) (by omega)]
              exact hR
      · rw[if_neg h6]at k3
        rw[k3]
        refine⟨fun h=>(by cases h),fun y r' h hneg=>?_,fun y r' h hneg=>?_⟩
        · injection h with h
          injection h with h3 h4
          subst h3 h4
          rw[ho',hn']at hneg
          exact neg hneg
        · injection h with h
          injection h with h3 h4
          subst h3 h4
          rw[ho',hn']at hneg ⊢
          refine⟨at_+1,by omega,by omega,h2.2,fun R hR=>ok4 hneg _ ?_⟩
          rw[decide_eq_false h6]
          refine Ev.step (fun k=>by rw[impl_readHunk.j5]) (Ev_neg (by simp) ?_)
          rw[sx]
          exact Ev_neg (by omega) (Ev_pos (by omega) hR)
    · have ht:=m1 hm
      rw[ht]
      refine⟨fun _=>into _ ?_,fun y r h=>(by cases h),fun y r h=>(by cases h)⟩
      rw[hmk]
      exact Ev_neg (fun w=>hm (.inl w)) (Ev_neg (fun w=>hm (.inr (.inl w))) (Ev_neg (fun w=>hm (.inr (.inr w))) (Ev.now _)))
theorem iread_loop{L:List ByteArray}(hL:L.length≤9000)(p q:Int):∀(f:Nat) (l:List UInt8) (at_:Nat) (o n:Int) (ls:List ByteArray),l.length≤8000→l.length<f→at_≤L.length→L.drop at_=LN l→ls.length+l.length≤8000→0≤o→o≤9999→0≤n→n≤9999 →
    (∀x r,rb f o n l=some (x,r)→∃at',at'≤L.length∧L.drop at'=LN r∧Ev (fun k=>impl_readHunk.l0 k L o n (at_:Int) p q ls) (p,q,ls++x,(at':Int),true)) ∧
    (rb f o n l=none→Ev (fun k=>impl_readHunk.l0 k L o n (at_:Int) p q ls) (0,0,[],0,false)):=by
 intro f
 induction f with
 |zero=>intro l at_ o n ls _ hf;omega
 |succ f ih=>
  intro l at_ o n ls hl hf hat hLN hls o0 o1 n0 n1;rw[rb];by_cases ho:o>0∨n>0;rotate_left;(·rw[if_neg ho,if_neg (by omega)];refine⟨fun x r h=>?_,fun h=>(by cases h)⟩;(injection h with h);(injection h with h1 h2);subst h1 h2;refine⟨at_,hat,hLN,Ev.step (fun k=>by rw[impl_readHunk.l0]) (Ev_neg (by omega) ?_)⟩;rw[decide_eq_false (show¬n>0 by omega),List.append_nil];exact Ev.step (fun k=>by rw[impl_readHunk.j1]) (Ev_neg (by simp) (Ev.now _)));rw[if_pos ho];obtain⟨s1,s2,s3⟩:=iread_step hL p q hl at_ hat hLN o n ls (by omega) ho o0 o1 n0 n1
  cases ht:tk l with
  |none=>exact⟨fun x r h=>(by cases h),fun _=>s1 ht⟩
  |some yr=>
   obtain⟨y,r⟩:=yr;obtain⟨t1,t2,t3⟩:=tk_less ht;dsimp only;by_cases hneg:(if mk y=43 then o else o-1)<0∨(if mk y=45 then n else n-1)<0;(·rw[rb_neg _ _ _ _ hneg];exact⟨fun x r h=>(by cases h),fun _=>s2 y r ht hneg⟩);obtain⟨at',a1,a2,a3,a4⟩:=s3 y r ht hneg;have hI:=ih r at' (if mk y=43 then o else o-1) (if mk y=45 then n else n-1) (ls++[y]) (by omega) (by omega) a2 a3 (by rw[List.length_append,List.length_singleton];omega) (by omega) (by split<;>omega) (by omega) (by split<;>omega);refine⟨fun x r' h=>?_,fun h=>?_⟩;rotate_left;(·exact a4 _ (hI.2 (Option.map_eq_none_iff.1 h)));obtain⟨⟨x1,r1⟩,h1,h2⟩:=Option.map_eq_some_iff.1 h;(injection h2 with h2 h3);subst h2 h3;obtain⟨at2,b1,b2,b3⟩:=hI.1 _ _ h1;have:=a4 _ b3;rw[List.append_assoc]at this;exact⟨at2,b1,b2,this⟩
theorem hdT_line(p a q b:Nat):∃z,hdT p a q b=z++[10]∧10∉z:=by
 refine⟨[64,64,32,45]++(dg p++44::(dg a++32::43::(dg q++44::(dg b++[32,64,64])))),by unfold hdT;simp,?_⟩;have h1:=@dg_no p 10 (by decide);have h2:=@dg_no a 10 (by decide);have h3:=@dg_no q 10 (by decide);have h4:=@dg_no b 10 (by decide);simp[h1,h2,h3,h4]
theorem iread_tells{l:List UInt8}(hl:l.length≤8000)(h0:l≠[]):
    (∀h r,rh l=some (h,r)→∃at',at'≤(LN l).length∧(LN l).drop at'=LN r∧Ev (fun k=>impl_readHunk.f k (LN l)) (h.f0,h.f1,h.f2,(at':Int),true)) ∧
    (rh l=none→∃a b c d,Ev (fun k=>impl_readHunk.f k (LN l)) (a,b,c,d,false)):=by
  have hlen:=LN_len l
  -- the first line
  have fst:∃x t,LN l=toB x::t∧x.length≤8000∧((∃r,nl l=some (x,r)∧t=LN r)∨(nl l=none∧x=l)):=by
    cases hn:nl l with
    |none=>exact⟨l,[],by rw[LN_none hn,if_neg h0],hl,.inr ⟨rfl,rfl⟩⟩
    |some xr=>
      obtain⟨x,r⟩:=xr
      have:=congrArg List.length (nl_some hn).1
      rw[List.length_append]at this
      exact⟨x,LN r,LN_some hn,by omega,.inl ⟨r,rfl,rfl⟩⟩
  obtain⟨x,t,hLN,hx,hc⟩:=fst
  have hpos:0<(LN l).length:=by rw[hLN];simp
  have h00:rdOf ByteArray.empty (LN l) 0=toB x:=by rw[hLN];rfl
  have hd_iff:∀p a q b r,HdIs l p a q b r→x=hdT p a q b∧nl l=some (x,r):=fun p a q b r hd=>by
    obtain⟨z,hz,hz2⟩:=hdT_line p a q b
    have e:l=z++10::r:=by rw[hd.2.2.2.2,hz];simp
    have hn:nl l=some (z++[10],r):=by rw[e];exact nl_of z r hz2
    rcases hc with⟨r',h1,h2⟩|⟨h1,h2⟩
    · rw[h1]at hn
      injection hn with hn
      injection hn with e1 e2
      rw[h1,e1,e2,hz]
      exact⟨rfl,rfl⟩
    · rw[h1]at hn
      cases hn
  rcases ihead_tells x (by omega)with⟨p,a,q,b,hp,ha,hq,hb,ex,hf⟩|⟨hno,i,j,o,n,hf⟩
  · have hn:∃r,nl l=some (x,r)∧t=LN r:=by
      rcases hc with h|⟨h1,h2⟩
      · exact h
      · exfalso
        obtain⟨z,hz,_⟩:=hdT_line p a q b
        refine nl_none h1 ?_
        rw[←h2,ex,hz]
        simp
    obtain⟨r,hn,ht⟩:=hn
    have hd:HdIs l p a q b r:=⟨hp,ha,hq,hb,by rw[←ex];exact(nl_some hn).1⟩
    have hr:=congrArg List.length (nl_some hn).1
    rw[List.length_append]at hr
    have hx1:1≤x.length:=by
      obtain⟨z,hz,_⟩:=hdT_line p a q b
      rw[ex,hz]
      simp
    rw[rh_is hd]
    have hI:=iread_loop (L:=LN l) (by omega) (p:Int) (q:Int) (l.length+1) r 1 (a:Int) (b:Int) [] (by omega) (by omega) (by omega) (by rw[hLN];exact ht) (by simp;omega) (by omega) (by omega) (by omega) (by omega)
    have go:∀R,Ev (fun k=>impl_readHunk.l0 k (LN l) (a:Int) (b:Int) 1 (p:Int) (q:Int) []) R→Ev (fun k=>impl_readHunk.f k (LN l)) R:=fun R h=>by
      unfold impl_readHunk.f
      rw[h00]
      exact Ev_pos (by omega) (Ev_const hf (Ev_pos rfl h))
    refine⟨fun h r' e1=>?_,fun e1=>⟨_,_,_,_,go _ (hI.2 (Option.map_eq_none_iff.1 e1))⟩⟩
    obtain⟨⟨y,r2⟩,h1,h2⟩:=Option.map_eq_some_iff.1 e1
    injection h2 with h2 h3
    subst h2 h3
    obtain⟨at',b1,b2,b3⟩:=hI.1 _ _ h1
    exact⟨at',b1,b2,go _ b3⟩
  · rw[rh_none (fun p a q b r hd=>hno p a q b hd.1 hd.2.1 hd.2.2.1 hd.2.2.2.1 (hd_iff p a q b r hd).1)]
    refine⟨fun h r e1=>(by cases e1),fun _=>⟨0,0,[],0,?_⟩⟩
    unfold impl_readHunk.f
    rw[h00]
    exact Ev_pos (by omega) (Ev_const hf (Ev_neg (by simp) (Ev.now _)))
theorem ipp_loop:∀(f:Nat) (l:List UInt8) (m:Nat) (acc:List Hk),l.length≤8000→l.length<f→m+l.length≤8000→Rd acc m →
    Ev (fun k=>impl_ParsePatch.l0 k acc (LN l)) (if(pr f acc l).1=true then(if HKF (pr f acc l).2=0 then(0,0,(pr f acc l).2)else(HKF (pr f acc l).2,0,[]))else(5,((pr f acc l).2.length:Nat),[])):=by
 intro f
 induction f with
 |zero=>intro l m acc hl hf;omega
 |succ f ih=>
  intro l m acc hl hf hm ha;refine Ev.step (fun k=>by rw[impl_ParsePatch.l0]) ?_;rw[pr];by_cases h0:l=[];(·rw[if_pos h0];have h1:LN l=[]:=LN_nil.2 h0;refine Ev_neg (by rw[h1];simp) (Ev_call (ihf_tells (ha.small (by omega))) ?_);dsimp only;rw[if_pos rfl];exact Ev_if (fun h=>Ev_val (by rw[if_pos h])) (fun h=>Ev_val (by rw[if_neg h])));rw[if_neg h0];have hp:(LN l).length>0:=List.length_pos_iff.2 (fun q=>h0 (LN_nil.1 q));obtain⟨t1,t2⟩:=iread_tells hl h0
  cases hr:rh l with
  |none=>
   obtain⟨a,b,c,d,hl'⟩:=t2 hr;exact Ev_pos (by omega) (Ev_call hl' (Ev_neg (by simp) (Ev.now _)))
  |some hh=>
   obtain⟨h,r⟩:=hh;have hless:=rh_less hr;obtain⟨at',b1,b2,b3⟩:=t1 h r hr;have hn:=ha.next hr (by omega);have hI:=ih r (m+(l.length-r.length)) (acc++[h]) (by omega) (by omega) (by omega) hn;refine Ev_pos (by omega) (Ev_call b3 (Ev_pos rfl (Ev_pos (by have:=ha.1;omega) (Ev_pos (by show(0:Int)≤(at':Int);omega) (Ev_pos (by show(at':Int)≤((LN l).length:Int);omega) ?_)))));rw[Int.toNat_natCast,b2];exact hI
theorem ipp_tells(s:ByteArray):Ev (fun k=>impl_ParsePatch.f k s) (PPT s):=by
 have el:=size_data s;unfold impl_ParsePatch.f PPT;by_cases h:s.size>8000;(·rw[if_pos h];exact Ev_pos (by omega) (Ev.now _));rw[if_neg h];refine Ev_neg (by omega) (Ev_const (linesOf_tells s (by omega)) ?_);exact ipp_loop (s.size+1) s.data.toList 0 [] (by omega) (by omega) (by omega) ⟨by simp,by simp[hw],fun c hc=>absurd hc (by simp)⟩
theorem Rd.up{acc:List Hk}{m n:Nat}(h:Rd acc m)(hn:m≤n):Rd acc n:=⟨by have:=h.1;omega,by have:=h.2.1;omega,h.2.2⟩
theorem pr_rd:∀(f:Nat) (l:List UInt8) (m:Nat) (acc:List Hk),m+l.length≤8000→Rd acc m→Rd (pr f acc l).2 8000:=by
 intro f
 induction f with
 |zero=>intro l m acc hm ha;exact ha.up (by omega)
 |succ f ih=>
  intro l m acc hm ha;rw[pr];split;(·exact ha.up (by omega));split;(·exact ha.up (by omega));rename_i h r hr;have hless:=rh_less hr;exact ih r (m+(l.length-r.length)) _ (by omega) (ha.next hr (by omega))
theorem PPT_small(s:ByteArray):SmallH (PPT s).2.2:=by
 have el:=size_data s;have nil:SmallH ([]:List Hk):=⟨fun c hc=>absurd hc (by simp),by simp,by simp[hw]⟩;unfold PPT;split;(·exact nil);rename_i h;split;rotate_left;(·exact nil);split;(·exact(pr_rd _ _ 0 [] (by omega) ⟨by simp,by simp[hw],fun c hc=>absurd hc (by simp)⟩).small (by omega));exact nil
end Go.Proofs.YthmmmiknmkpbeaaGreatDoor.P
end
section
set_option linter.unusedVariables false
set_option linter.unusedSimpArgs false
namespace Go.Proofs.YthmmmiknmkpbeaaGreatDoor.P.VFnPatchTexts
open Go.RowKit Go.Proofs.YthmmmiknmkpbeaaGreatDoorW.PrintWords Go.Proofs.YthmmmiknmkpbeaaGreatDoorW.PrintLast
theorem same(a:List ByteArray)(hl:a.length≤1048576):Ev (fun k=>impl_SameLines.f k a a) true:=by
 unfold impl_SameLines.f;exact Ev_call (isame_tells a a (by omega)) (Ev_val (by simp))
theorem loop_tells{x:List Hk}(hs:SmallH x)(hx:∀c∈x,Wr c)(u v:Int):∀(d i:Nat),x.length-i=d→i≤x.length→Ev (fun k=>laws_FnPatchTexts.l0 k x (i:Int) u v x) true:=by
 have h2:=hs.2.1;intro d
 induction d with
 |zero=>
  intro i hd hi;exact Ev.step (fun k=>by rw[laws_FnPatchTexts.l0]) (Ev_neg (by omega) (Ev.now _))
 |succ d ih=>
  intro i hd hi;(have hlt:i<x.length:=by omega);have er:rd_T35 x (i:Int)=x[i]:=rdh_nat hlt;have hb:=(hx x[i] (List.getElem_mem hlt)).1;have sm:=hs.at hlt;have hz:=isizes_tells x[i].f0 x[i].f1 (l:=x[i].f2) sm.2.1 sm.1;rw[if_neg (by rw[hb];simp)]at hz;(have hS:Ev (fun k=>impl_SizesOf.f k x[i].f0 x[i].f1 x[i].f2) (0,[((hA x[i].f2:Nat):Int),((hB x[i].f2:Nat):Int)]):=by unfold impl_SizesOf.f;exact Ev_call hz (Ev_pos rfl (Ev.now _)));refine Ev.step (fun k=>by rw[laws_FnPatchTexts.l0]) ?_;rw[er,wsucc hlt (by omega)];exact Ev_pos (by omega) (Ev_pos (by omega) (Ev_pos (by omega) (Ev_pos rfl (Ev_pos rfl (Ev_call (same _ sm.2.1) (Ev_pos rfl (Ev_call hS (Ev_pos rfl (ih (i+1) (by omega) (by omega))))))))))
theorem second{c:List Int}(hc:Code c):Ev (fun k=>laws_FnPatchTexts.j0 k c) true:=by
 obtain⟨x,hd,sx⟩:=drawf hc;refine Ev.step (fun k=>by rw[laws_FnPatchTexts.j0]) (Ev_call hd (Ev_call (ifp_tells sx) ?_));by_cases e:(FPT x).1=0;rotate_left;(·exact Ev_neg e (Ev_call (sfp_tells sx) (Ev_val (by simp))));obtain⟨t,ht⟩:∃t,FPT x=(0,t):=⟨(FPT x).2,Prod.ext e rfl⟩;(have hk:HKF x=0:=by unfold FPT at ht;split at ht;(·assumption);rename_i h0;exact absurd (Prod.mk.inj ht).1 h0);have hp:=ipp_tells t;rw[PPT_FPT ht]at hp;rw[ht];refine Ev_pos rfl (Ev_call hp (Ev_pos rfl ?_));have hl:=loop_tells sx (HKF_Wr hk) 0 0 _ 0 rfl (by omega);have hne:((x.length:Int) !=(x.length:Int))=false:=bne_eq_false_iff_eq.mpr rfl;show Ev (fun k=>laws_FnPatchTexts.j1 k x ((x.length:Int) !=(x.length:Int)) 0 0 x) true;rw[hne];refine Ev.step (fun k=>by rw[laws_FnPatchTexts.j1]) ?_;exact Ev_neg (by decide) hl
theorem proof:UFnPatchTexts.Pure:=by
 intro l0 g0;apply Ev.rounds;unfold laws_FnPatchTexts.f;(have hc:Code l0:=fun x hx=>by have:=g0.2 x hx;simp[Lit.wf,IntKind.min,IntKind.max,IntKind.signed,IntKind.bits]at this;omega);refine Ev_const (by unfold laws_lwBig.f;rfl) ?_;by_cases hb:(l0.length:Int)>1048576;(·exact Ev_pos (by simpa using hb) (Ev.now _));refine Ev_neg (by simpa using hb) ?_;obtain⟨t,hd,ht⟩:=drawp hc;have h2:=second hc;have hr:=PPT_small t;refine Ev_call hd (Ev_call (ipp_tells t) ?_);by_cases e:(PPT t).1=0;rotate_left;(·exact Ev_neg e (Ev_call (spp_tells t) (Ev_pos rfl h2)));have hf:FPT (PPT t).2.2=(0,t):=FPT_PPT (i:=(PPT t).2.1) (Prod.ext e (Prod.ext rfl rfl));have hi:=ifp_tells hr;rw[hf]at hi;exact Ev_pos e (Ev_call hi (Ev_pos rfl (Ev_pos rfl h2)))
end Go.Proofs.YthmmmiknmkpbeaaGreatDoor.P.VFnPatchTexts
end
section
set_option linter.unusedVariables false
set_option linter.unusedSimpArgs false
namespace Go.Proofs.YthmmmiknmkpbeaaGreatDoor.O
open Go.RowKit Go.ChangeShapes Go.WideShapes Go.Proofs.YthmmmiknmkpbeaaGreatDoorW.PrintWords
def Opens{α:Type}(P:Program)(t:TypeId)(d:Kd α)(G:α→Prop):Prop:=
  P.cellsOf t=d.sz∧∀{H:Type} {enc:TypeId × Value→H} {w:World} {base:Nat} {spare:Nat→Bool} {held:Bool} {fuel:Nat} {cs:List Value} {x:DataW H × List MemPlace},
    DataW.trod enc P w base spare held fuel t cs=some x→∃a,d.K w a cs∧G a
theorem list_of{α:Type}{Q:Nat→α→Prop}:∀n:Nat,(∀j,j<n→∃p,Q j p)→∃xs:List α,xs.length=n∧∀j p,xs[j]?=some p→Q j p
  |0,_=>⟨[],rfl,fun j p h=>by simp at h⟩
  |n+1,h=>by
    obtain⟨xs,hl,hx⟩:=list_of n (fun j hj=>h j (Nat.lt_succ_of_lt hj))
    obtain⟨p,hp⟩:=h n (Nat.lt_succ_self n)
    refine⟨xs++[p],by simp[hl],fun j q hq=>?_⟩
    rcases Nat.lt_or_ge j xs.length with hj|hj
    · rw[List.getElem?_append_left hj]at hq
      exact hx j q hq
    · have hj':j=xs.length:=by
        have:=(List.getElem?_eq_some_iff.1 hq).1
        rw[List.length_append,List.length_singleton]at this
        omega
      subst hj'
      have e:p=q:=by simpa using hq
      subst e
      rw[hl]
      exact hp
theorem cells_get{w:World}{base:Nat}{a:Addr}{n:Nat}{cs:List Value}(h:w.cells? base a n=some cs):cs.length=n∧∀i u,cs[i]?=some u→w.cell? (a.add i)=some u:=by
 unfold World.cells? at h;split at h;rotate_left;(·simp at h);have hl:=mapM_some_length h;rw[List.length_range]at hl;refine⟨hl,fun i u hu=>?_⟩;(have hi:i<n:=by have:=(List.getElem?_eq_some_iff.1 hu).1;omega);have:=mapM_some_get h i i (by simp[hi]);rw[this,hu]
theorem opens_int{P:Program}{t:TypeId}{k:IntKind}(ht:P.underlying t=some (.int k))(hc:P.cellsOf t=1):Opens P t (Kd.int k) (fun x=>(Lit.int k x).wf=true):=
  ⟨hc,fun h=>by
    obtain⟨n,rfl,_,hw⟩:=DataW.trod_int ht h
    exact⟨n,rfl,hw⟩⟩
theorem opens_slice{α:Type}{P:Program}{t e:TypeId}{d:Kd α}{G:α→Prop}(ht:P.underlying t=some (.slice e))(hc:P.cellsOf t=1)(he:Opens P e d G):
    Opens P t (Kd.slice e d) (fun l=>l.length≤9223372036854775807∧∀x∈l,G x):=by
 refine⟨hc,fun {H enc w base spare held fuel cs x} h=>?_⟩;(rcases DataW.trod_slice ht h with⟨rfl,_⟩|⟨a,len,cap,elems,rest,n,_,rfl,_,hb,hl,hm,hlen,hel,_,_⟩);(·exact⟨[],⟨none,0,rfl,Nat.le_refl _,rfl,by simp,fun hp=>absurd hp (by simp)⟩,by simp,by simp⟩);have hcap:cap≤9223372036854775807:=hm
 obtain⟨xs,hxl,hx⟩:=list_of (Q:=fun j p=>(∃c:List Value,c.length=d.sz∧d.K w p c∧∀i u,c[i]?=some u→w.cell? (a.add (j*d.sz+i))=some u)∧G p) len (fun j hj=>by
   have h1:=hel j hj
   rw[List.getElem?_eq_getElem (by omega),Option.bind_eq_some_iff]at h1
   obtain⟨cs',hcs,hy⟩:=h1
   obtain⟨p,hK,hG⟩:=he.2 hy
   obtain⟨hcl,hcell⟩:=cells_get hcs
   refine⟨p,⟨cs',by rw[hcl,he.1],hK,fun i u hu=>?_⟩,hG⟩
   have:=hcell i u hu
   rw[he.1]at this
   rw[←Addr.add_add]
   exact this)
 (have hlen2:xs.length≤cap:=by omega);refine⟨xs,⟨some a,cap,?_,hlen2,rfl,by omega,fun _=>⟨a,rfl,fun j p hj=>(hx j p hj).1⟩⟩,by omega,fun y hy=>?_⟩;(·rw[hxl]);obtain⟨j,hj⟩:=List.getElem?_of_mem hy;exact(hx j y hj).2
end Go.Proofs.YthmmmiknmkpbeaaGreatDoor.O
end
namespace Go.Proofs.YthmmmiknmkpbeaaGreatDoor.fnPatchTexts
open Go.ChangeShapes Go.WideShapes Go.ChangeAt Go.RowKit
open Go.ChangeMaps (open_string shut_string)
open Go.Proofs.YthmmmiknmkpbeaaGreatDoor.P Go.Proofs.YthmmmiknmkpbeaaGreatDoor.P.UFnPatchTexts Go.Proofs.YthmmmiknmkpbeaaGreatDoorW.PrintWords
set_option linter.unusedVariables false
theorem own:ownKnob Tryz.prog.godebug=none:=by kernel_rfl
theorem laidOut:laidOutB Tryz.prog=true:=by kernel_rfl
theorem pow_of_laid{W:World}(h:laidMet Tryz.prog Rows.fnPatchTextsRow.laid W):Lib.TabIs Tryz.prog W "internal/strconv.uint64pow10" .u64 Lib.pow10Tab:=by
 rw[show Lib.pow10Tab=[1,10,100,1000,10000,100000,1000000,10000000,100000000,1000000000,10000000000,100000000000,1000000000000,10000000000000,100000000000000,1000000000000000,10000000000000000,100000000000000000,1000000000000000000,10000000000000000000]by kernel_rfl];exact Lib.tabIs_of_head (g:=0) (t:=132) (e:=118) (zs:=[1,10,100,1000,10000,100000,1000000,10000000,100000000,1000000000,10000000000,100000000000,1000000000000,10000000000000,100000000000000,1000000000000000,10000000000000000,100000000000000000,1000000000000000000,10000000000000000000]) (by kernel_rfl) (by kernel_rfl) Tryz.underlying132 Tryz.underlying118 (by kernel_rfl) (by kernel_rfl) (laidMet.tail (laidMet.tail h))
theorem row_err(u:TypeId)(h:Tryz.prog.typeName? 3 u=some "*errors.errorString"):u=158:=
  typeName_ptr_named (nm:= "errors.errorString") (by rw[show "*" ++ "errors.errorString" = "*errors.errorString" by decide];kernel_rfl) (by kernel_rfl) (by decide) u (by rw[show "*" ++ "errors.errorString" = "*errors.errorString" by decide];exact h)
theorem syn_of_laid{W:World}(h:laidMet Tryz.prog Rows.fnPatchTextsRow.laid W):∃t p,W.var? Tryz.prog "strconv.ErrSyntax" =some #[.iface t p]:=by
 obtain⟨a0,s0,hv0,-,-,-⟩:=laid_sentinel (laidMet.tail (laidMet.tail (laidMet.tail (laidMet.tail (laidMet.tail h))))) (g:=6) (ti:=57) (by kernel_rfl) (by kernel_rfl) Tryz.underlying57 row_err Tryz.underlying158 Tryz.underlying160 rfl rfl Tryz.underlying9 (by kernel_rfl) (by kernel_rfl);exact⟨_,_,hv0⟩
theorem rng_of_laid{W:World}(h:laidMet Tryz.prog Rows.fnPatchTextsRow.laid W):∃t p,W.var? Tryz.prog "strconv.ErrRange" =some #[.iface t p]:=by
 obtain⟨a0,s0,hv0,-,-,-⟩:=laid_sentinel (laidMet.tail (laidMet.tail (laidMet.tail (laidMet.tail h)))) (g:=7) (ti:=57) (by kernel_rfl) (by kernel_rfl) Tryz.underlying57 row_err Tryz.underlying158 Tryz.underlying160 rfl rfl Tryz.underlying9 (by kernel_rfl) (by kernel_rfl);exact⟨_,_,hv0⟩
theorem max_of_shape{W:World}(h:W.ShapedOpen Tryz.prog):∃m,W.cell? ⟨1,0,none⟩=some (.int .i64 m):=cell_of_shapedOpen_int (zero:=#[.int .i64 0]) (t:=3) h (of_decide_eq_true (by kernel_rfl)) (by kernel_rfl) rfl (by kernel_rfl) (by kernel_rfl) Tryz.underlying3
theorem tabW_of_laid{W:World}(h:laidMetH Tryz.prog Rows.fnPatchTextsRow.laid W)(hsh:W.ShapedOpen Tryz.prog):TabW W:=by
 rw[MakeChecks.laidMetH_plain _ _ _ (by kernel_rfl)]at h;exact⟨pow_of_laid h,syn_of_laid h,rng_of_laid h,max_of_shape hsh⟩
set_option maxRecDepth 100000 in
theorem main_(H:Type)(enc:TypeId × Value→H)(W:World)(base:Nat)(args:Array Value)(ds gs:List (DataW H))(before:List MemPlace)(hSh:W.ShapedOpen Tryz.prog)
    (hval0:∀(j:Nat) t v,Tryz.f3.params[j]?=some t→args[j]?=some v→Value.okWide Tryz.prog W .any base t v)
    (hW:DataW.Whole enc Tryz.prog Tryz.f3.params.toList Rows.fnPatchTextsSpec.vars false W args.toList ds gs before) (hL:laidMetH Tryz.prog Rows.fnPatchTextsRow.laid W):
    Calls Tryz.prog 3 args W fun e W'=>∃v,e=.returned v∧Rows.fnPatchTextsSpec.post enc Tryz.prog Tryz.f3 false true false false W args v W':=by
 have hval:∀(j:Nat) t v,Tryz.f3.params[j]?=some t→args[j]?=some v→Value.okWide Tryz.prog W .any base t v:=hval0;have hW':=hW;obtain⟨p,q,hA0,hV,rfl,hfz,hnd⟩:=hW;have hA:DataW.TrodAll enc Tryz.prog W 0 (fun _=>true) true Tryz.f3.params.toList args.toList ds p:=hA0;rw[Tryz.params3]at hA hval;obtain⟨v0,vs0,d0,ds0,p0,q0,hargs,rfl,rfl,h0,r0⟩:=trodAll_cons hA;obtain⟨rfl,rfl,rfl⟩:=trodAll_nil r0;(obtain rfl:args=#[v0]:=by cases args;simp_all);obtain⟨rfl,rfl⟩:=trodVars_none hV;have k0_:=h0;(have lt0:∀x∈p0,x.block<W.heap.size:=by obtain⟨m,hm⟩:=k0_;exact DataW.trod_lt m _ _ _ hm);obtain⟨b0,len0,cap0,rfl⟩:=okWide_slice Tryz.underlying22 (hval 0 22 v0 rfl rfl);obtain⟨fuel0,hf0⟩:=h0;obtain⟨l0,⟨A0,c0,hcs0,hc0,hr0⟩,g0⟩:=(O.opens_slice Tryz.underlying22 (by kernel_rfl) (O.opens_int Tryz.underlying5 (by kernel_rfl))).2 hf0;simp[Value.cells]at hcs0;obtain⟨rfl,rfl,rfl⟩:=hcs0;clear hA0 hval0;obtain⟨k,h⟩:=VFnPatchTexts.proof l0 g0;have hTW:=tabW_of_laid hL hSh;(refine(laws_FnPatchTexts.calls (hT:=hTW) k _ _ l0 true W hr0 hc0 h rfl).mono fun e W' hend=>?_);obtain⟨rfl,hbel⟩:=hend;have bel:Below W.heap.size W W':=hbel;exact⟨_,rfl,_,_,_,[],_,[],hW',trodAll_mk1 (shut_bool Tryz.underlying4 _),(trodAll_cons_mk (Below.trod laidOut (by kernel_rfl) (of_decide_eq_true (by kernel_rfl)) k0_ bel lt0) trodAll_mk0),rfl,bel.frame _,fun h=>by cases h⟩
set_option maxRecDepth 100000 in
theorem lifted(os:Os)(started:os.Started)(H:Type)(enc:TypeId × Value→H):
    ReturnsInHanded {} Tryz.checked os 3 .any (fun w args=>(Rows.fnPatchTextsSpec.pre enc Tryz.prog Tryz.f3 [] false w args∧laidMetH Tryz.prog Rows.fnPatchTextsRow.laid w)∧sizedMet enc Tryz.prog Tryz.f3 (OpenSpec.ofChange Rows.fnPatchTextsSpec) false w args)
      (Rows.fnPatchTextsSpec.post enc Tryz.prog Tryz.f3 false true false false):=by
 refine returnsInHanded_of_calls (C:=Tryz.checked) own started (by kernel_rfl)
   (ChangeSpec.witness_shaped (enc:=enc) (C:=Tryz.checked) (os:=os) (X:=fun w _=>laidMetH Tryz.prog Rows.fnPatchTextsRow.laid w) false (World.laidAll Tryz.prog os Rows.fnPatchTextsRow.laid) #[.slice none 0 0] 8 (World.laidAll_os _ _ _)
     (World.shaped_of_ZipB (by kernel_rfl) (by kernel_rfl)) (by kernel_rfl) (by kernel_rfl) (by kernel_rfl)
     (by rw[MakeChecks.laidMetH_plain _ _ _ (by kernel_rfl)];exact laidMet_laidAll _ (by kernel_rfl) (by kernel_rfl))) ?_
 intro w tape i _ hSh _ hok hpre hholds;obtain⟨_,_,_,fn',hfn',_,_,_,_,hval0⟩:=hok;obtain rfl:fn'=Tryz.f3:=Option.some.inj (hfn'.symm.trans Tryz.func3);obtain⟨⟨⟨ds,gs,before,hw,hcnd⟩,hx⟩,hz⟩:=hpre;have hW:=DataW.Whole.of_heap (w':=w.forCall tape i) (by rfl) hw;have hL:laidMetH Tryz.prog Rows.fnPatchTextsRow.laid (w.forCall tape i):=laidMetH.of_heap (w':=w.forCall tape i) (by rfl) hx;exact(main_ H enc (w.forCall tape i) w.heap.size i.args ds gs before hSh hval0 hW hL).mono fun e W' ⟨v,he,hp⟩=>by subst he;exact ChangeSpec.post_blind hp
theorem over:Rows.fnPatchTextsRow.holds Tryz.pinned (OpenSpec.ofChange Rows.fnPatchTextsSpec):=
  OpenClaim.holds_of_wide 3 Tryz.f3 rfl rfl rfl rfl rfl rfl rfl ⟨rfl,rfl,rfl,rfl,rfl⟩ rfl rfl rfl rfl rfl (by kernel_rfl) Tryz.func3 (by kernel_rfl)
    (of_decide_eq_true (by kernel_rfl)) (by unfold Func.isWrapper;first|(rw[if_pos (by decide +kernel)];kernel_rfl)|(rw[if_neg (by decide +kernel)];exact⟨rfl,rfl⟩))
    (fun os started H enc _=>lifted os started H enc)
set_option maxRecDepth 100000 in
theorem proved:Rows.FnPatchTextsCardSaid:=
  Claim7.holds_tied_plain_at .later [] [.data,.data,.data,.data,.sentinel,.sentinel,.pinned] true (true, "b82fcdf77038081274cab80cdc00c3d35d844f8293b6727f7c33ea8326ad79be") true over (fun _ h=>by cases h) (by kernel_rfl) (fun _ h=>by cases h) fnPatchTexts_row_tie rfl ⟨rfl,rfl⟩ (by kernel_rfl) rfl
    (fun f fn hf hfn=>by
      obtain rfl:f=3:=Option.some.inj ((show Tryz.prog.funcNamed "loop.example/g00172/laws.FnPatchTexts" =some 3 by kernel_rfl).symm.trans hf) |>.symm
      obtain rfl:fn=Tryz.f3:=(Option.some.inj (Tryz.func3.symm.trans hfn)).symm
      exact⟨by kernel_rfl,fun j t ht=>by
        rw[Tryz.params3]at ht
        have hm:t∈[22]:=by simpa using Array.mem_of_getElem? ht
        have hall:([22].all fun u=>!Tryz.prog.wantsStandIn u)=true:=by kernel_rfl
        exact(show Tryz.prog.wantsStandIn t=false by simpa using List.all_eq_true.1 hall t hm)⟩)
    (by kernel_rfl)
#print axioms proved
end Go.Proofs.YthmmmiknmkpbeaaGreatDoor.fnPatchTexts
namespace Go.Proofs.YthmmmiknmkpbeaaGreatDoor
theorem fnPatchTexts_holds:Rows.FnPatchTextsCardSaid:=fnPatchTexts.proved
end Go.Proofs.YthmmmiknmkpbeaaGreatDoor
