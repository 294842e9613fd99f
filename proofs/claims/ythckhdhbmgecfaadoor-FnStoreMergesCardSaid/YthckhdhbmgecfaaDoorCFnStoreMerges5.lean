/- FnStoreMerges: the law of the program holds at every input: the Go function returns true, and its arguments read afterwards as before.
Conditions: none beyond the given statement's own (what can be read as data, of a size that memory bears). -/
import Derived.Lib.Strings
import Derived.Lib.Bytealg
import Derived.Lib.Split
import Derived.Lib.SplitLaws
import Derived.Lib.Repeat
import Derived.Lib.Join
import Derived.SliceStrings
import Derived.DataReads
import Derived.DataElems
import Derived.Test.YthckhdhbmgecfaaDoorCards
import Derived.Test.YthckhdhbmgecfaaDoorTie
import Derived.Lay
import Derived.LaidOnce
import Derived.SevenTiedAt
import Derived.Lib.LaidTab
import Derived.Test.YthckhdhbmgecfaaDoorRows
import Derived.WalkKit
import Derived.ProofKit
import Derived.OpenShut
import Derived.ShutString
import Derived.ChangeOld
import Derived.Below
import Derived.SizedLaws
import Derived.Carry
import Derived.Test.YthckhdhbmgecfaaDoorCFnStoreMerges1
import Derived.Test.YthckhdhbmgecfaaDoorCFnStoreMerges2
import Derived.Test.YthckhdhbmgecfaaDoorCFnStoreMerges3
import Derived.Test.YthckhdhbmgecfaaDoorCFnStoreMerges4
section
namespace Go.Proofs.YthckhdhbmgecfaaDoor.P
open Go.RowKit Go.Proofs.YthckhdhbmgecfaaDoorW.PrintWords Go.Proofs.YthckhdhbmgecfaaDoorW.PrintLast Go.Proofs.YthckhdhbmgecfaaDoorW.PrintMore
attribute [local go_sem] max2_int min2_int max_two min_two max_three min_three max_four min_four
set_option linter.unusedVariables false
set_option linter.unusedSimpArgs false
attribute [local go_sem high] eqA32
mutual
def laws_FnStoreMerges.j0:Nat→List (S32)→List (S32)→Bool→Int→ByteArray→List (S32)→Int→ByteArray→List (S32)→Option (Bool)
 |0,_,_,_,_,_,_,_,_,_=>none
 |k+1,x3,x4,x49,x385000,x385001,x385002,x396000,x396001,x396002=>if x49=true then(some false)else(laws_FnStoreMerges.l0 k x3 x4 0 x385000 x385001 x385002 x396000 x396001 x396002)
def laws_FnStoreMerges.l0:Nat→List (S32)→List (S32)→Int→Int→ByteArray→List (S32)→Int→ByteArray→List (S32)→Option (Bool)
 |0,_,_,_,_,_,_,_,_,_=>none
 |k+1,x3,x4,x7,x385000,x385001,x385002,x396000,x396001,x396002=>if x7<(x385002.length:Int)then(if 0≤x7 then(if x7<(x396002.length:Int)then(if(!((((rd_T32 x385002 x7).f0).toList)==(((rd_T32 x396002 x7).f0).toList)) ||(!(((rd_T32 x385002 x7).f1)==((rd_T32 x396002 x7).f1)) ||(!((((rd_T32 x385002 x7).f2).toList)==(((rd_T32 x396002 x7).f2).toList)))))=true then(some false)else(laws_FnStoreMerges.l0 k x3 x4 (wrap64 (x7+1)) x385000 x385001 x385002 x396000 x396001 x396002))else(none))else(none))else(laws_FnStoreMerges.l1 k x3 x4 0 x385000 x385001 x385002)
def laws_FnStoreMerges.l1:Nat→List (S32)→List (S32)→Int→Int→ByteArray→List (S32)→Option (Bool)
 |0,_,_,_,_,_,_=>none
 |k+1,x3,x4,x8,x385000,x385001,x385002=>if x8<(x4.length:Int)then(if 0≤x8 then((impl_GetObject.f k x385002 ((rd_T32 x4 x8).f1) ((rd_T32 x4 x8).f0)).bind fun bt401=>(if bt401.2.2.2.toList=((rd_T32 x4 x8).f2).toList then(laws_FnStoreMerges.l1 k x3 x4 (wrap64 (x8+1)) x385000 x385001 x385002)else(some false)))else(none))else(if(x385002.length:Int)≥(x3.length:Int)then(some (decide ((x385002.length:Int)≥(x4.length:Int))))else(some false))
end
def laws_FnStoreMerges.f(k:Nat)(l0:List Int):Option (Bool):=(laws_lwBig.f l0).bind fun t372=>(if t372=true then(some true)else((spec_DrawMergeStores.f k l0).bind fun bt373=>((impl_MergeStores.f k bt373.1 bt373.2).bind fun bt379=>(if bt379.1=0 then((impl_MergeStores.f k bt373.2 bt373.1).bind fun bt390=>(if bt390.1=0 then(if(bt390.2.2.length:Int)=(bt379.2.2.length:Int)then((impl_StoreFault.f k bt379.2.2).bind fun t396=>(laws_FnStoreMerges.j0 k bt373.1 bt373.2 (t396 !=0) bt379.1 bt379.2.1 bt379.2.2 bt390.1 bt390.2.1 bt390.2.2))else(laws_FnStoreMerges.j0 k bt373.1 bt373.2 true bt379.1 bt379.2.1 bt379.2.2 bt390.1 bt390.2.1 bt390.2.2))else(laws_FnStoreMerges.j0 k bt373.1 bt373.2 true bt379.1 bt379.2.1 bt379.2.2 bt390.1 bt390.2.1 bt390.2.2)))else((spec_MergeStores.f k bt373.1 bt373.2).bind fun bt385=>(some (bt385.1==bt379.1)))))))
def laws_FnStoreMerges.T6:Bool × List (List Nat × List Nat):=(true,[([],[]),([],[]),([0,1],[0,1]),([2],[2]),([],[]),([4],[4]),([3,5],[3,5]),([6,2,0,1,2,3,4,5,6],[6])])
def laws_FnStoreMerges.B6:List Nat:=[0,0,3,7,0,16,63,127]
theorem laws_FnStoreMerges.tab6:rtab .any (opsOf Tryd.f3 6)=laws_FnStoreMerges.T6:=by kernel_rfl
theorem laws_FnStoreMerges.bits6:waitsOk laws_FnStoreMerges.T6.2 laws_FnStoreMerges.B6=true:=by kernel_rfl
def laws_FnStoreMerges.T13:Bool × List (List Nat × List Nat):=(true,[([],[]),([0],[0]),([],[]),([1,2],[1,2]),([3],[3]),([],[]),([5],[5]),([],[]),([6,7],[6,7]),([8],[8]),([4,9],[4,9])])
def laws_FnStoreMerges.B13:List Nat:=[0,1,0,7,15,0,32,0,224,480,1023]
theorem laws_FnStoreMerges.tab13:rtab .any (opsOf Tryd.f3 13)=laws_FnStoreMerges.T13:=by kernel_rfl
theorem laws_FnStoreMerges.bits13:waitsOk laws_FnStoreMerges.T13.2 laws_FnStoreMerges.B13=true:=by kernel_rfl
def laws_FnStoreMerges.T18:Bool × List (List Nat × List Nat):=(true,[([],[]),([0],[0]),([],[]),([],[]),([2,3],[2,3]),([4],[4]),([5],[5]),([],[]),([],[]),([7,8],[7,8]),([9],[9]),([10],[10]),([1,6,11],[1,6,11]),([12],[12]),([13],[13]),([],[]),([],[]),([15,16],[15,16]),([17],[17]),([18],[18]),([14,19],[14,19])])
def laws_FnStoreMerges.B18:List Nat:=[0,1,0,0,12,28,60,0,0,384,896,1920,4095,8191,16383,0,0,98304,229376,491520,1048575]
theorem laws_FnStoreMerges.tab18:rtab .any (opsOf Tryd.f3 18)=laws_FnStoreMerges.T18:=by kernel_rfl
theorem laws_FnStoreMerges.bits18:waitsOk laws_FnStoreMerges.T18.2 laws_FnStoreMerges.B18=true:=by kernel_rfl
set_option maxHeartbeats 8000000 in
set_option maxRecDepth 100000 in
theorem laws_FnStoreMerges.calls(k:Nat)(A0:Option Addr)(c0:Nat)(l0:List Int)(r:Bool)(w:World)(hT:TabW w)(hr0:Kd.C (Kd.int .u8) w A0 l0.length l0)(hc0:l0.length≤c0)(h:laws_FnStoreMerges.f k l0=some r)(hlaw:r=true):
  Calls Tryd.prog 3 #[.slice A0 l0.length c0] w fun e w'=>e=.returned (.bool r)∧Below w.heap.size w w':=by
 have HTW:=a_ hT;clear hT;have hu28:=Tryd.underlying28;have hu32:=Tryd.underlying32;(have hfd28_0:∀(x0_ x1_ x2_:Value) (w_:World),(Instr.field 28 (.agg #[x0_,x1_,x2_]) 0).run Tryd.prog w_=.ok x0_ w_:=fun _ _ _ _=>by kernel_rfl);(have hfd28_1:∀(x0_ x1_ x2_:Value) (w_:World),(Instr.field 28 (.agg #[x0_,x1_,x2_]) 1).run Tryd.prog w_=.ok x1_ w_:=fun _ _ _ _=>by kernel_rfl);(have hfd28_2:∀(x0_ x1_ x2_:Value) (w_:World),(Instr.field 28 (.agg #[x0_,x1_,x2_]) 2).run Tryd.prog w_=.ok x2_ w_:=fun _ _ _ _=>by kernel_rfl);(have hfd32_0:∀(x0_ x1_ x2_:Value) (w_:World),(Instr.field 32 (.agg #[x0_,x1_,x2_]) 0).run Tryd.prog w_=.ok x0_ w_:=fun _ _ _ _=>by kernel_rfl);(have hfd32_1:∀(x0_ x1_ x2_:Value) (w_:World),(Instr.field 32 (.agg #[x0_,x1_,x2_]) 1).run Tryd.prog w_=.ok x1_ w_:=fun _ _ _ _=>by kernel_rfl);(have hfd32_2:∀(x0_ x1_ x2_:Value) (w_:World),(Instr.field 32 (.agg #[x0_,x1_,x2_]) 2).run Tryd.prog w_=.ok x2_ w_:=fun _ _ _ _=>by kernel_rfl);(have hfd34_0:∀(x0_ x1_ x2_ x3_:Value) (w_:World),(Instr.field 34 (.agg #[x0_,x1_,x2_,x3_]) 0).run Tryd.prog w_=.ok x0_ w_:=fun _ _ _ _ _=>by kernel_rfl);(have hfd34_1:∀(x0_ x1_ x2_ x3_:Value) (w_:World),(Instr.field 34 (.agg #[x0_,x1_,x2_,x3_]) 1).run Tryd.prog w_=.ok (.agg #[x1_,x2_,x3_]) w_:=fun _ _ _ _ _=>by kernel_rfl);have HR0:=a_ hr0;have HC0:=a_ hc0;clear hr0 hc0;have HB:=a_ (Below.refl w.heap.size w);have HLAW:=a_ hlaw;clear hlaw;have H:((laws_lwBig.f l0).bind fun t372=>(if t372=true then(some true)else((spec_DrawMergeStores.f k l0).bind fun bt373=>((impl_MergeStores.f k bt373.1 bt373.2).bind fun bt379=>(if bt379.1=0 then((impl_MergeStores.f k bt373.2 bt373.1).bind fun bt390=>(if bt390.1=0 then(if(bt390.2.2.length:Int)=(bt379.2.2.length:Int)then((impl_StoreFault.f k bt379.2.2).bind fun t396=>(laws_FnStoreMerges.j0 k bt373.1 bt373.2 (t396 !=0) bt379.1 bt379.2.1 bt379.2.2 bt390.1 bt390.2.1 bt390.2.2))else(laws_FnStoreMerges.j0 k bt373.1 bt373.2 true bt379.1 bt379.2.1 bt379.2.2 bt390.1 bt390.2.1 bt390.2.2))else(laws_FnStoreMerges.j0 k bt373.1 bt373.2 true bt379.1 bt379.2.1 bt379.2.2 bt390.1 bt390.2.1 bt390.2.2)))else((spec_MergeStores.f k bt373.1 bt373.2).bind fun bt385=>(some (bt385.1==bt379.1))))))))=some r:=h;clear h;replace H:=Option.bind_eq_some_iff.mp H;obtain⟨t372,A20,H⟩:=H;(try dsimp only at H);have A2:=a_ A20;clear A20;by_cases c3:t372=true;(·subst c3;(have H1:(some true)=some r:=by rw[if_pos rfl]at H;exact H);clear H;have H:=H1;clear H1;obtain rfl:=Option.some.inj H;go_enter Tryd.func3,Tryd.ntmps3;go_wp2_with (first|((with_reducible refine gate_callee (f:=4) rfl ?_);refine goesL_ (some 10) rfl rfl Tryd.func4 (by kernel_rfl) rfl #[.slice A0 l0.length c0] rfl lf_ ?_;(with_reducible refine(laws_lwBig.calls _ _ l0 true _ ?side1 ?side2 A2.out).mono ?_);(case side1=>exact rc_ HR0.out);(case side2=>exact HC0.out);rintro e w' ⟨rfl,⟨nd,rfl⟩⟩;refine⟨_,rfl,?_⟩));go_ret;exact⟨by first|rfl|(simp[errW_none,errW_some]<;>rfl)|(simp[*,errW_none,errW_some]<;>rfl),bw_ HB.out⟩);replace c3:=Bool.eq_false_iff.mpr c3;subst c3;(have H1:((spec_DrawMergeStores.f k l0).bind fun bt373=>((impl_MergeStores.f k bt373.1 bt373.2).bind fun bt379=>(if bt379.1=0 then((impl_MergeStores.f k bt373.2 bt373.1).bind fun bt390=>(if bt390.1=0 then(if(bt390.2.2.length:Int)=(bt379.2.2.length:Int)then((impl_StoreFault.f k bt379.2.2).bind fun t396=>(laws_FnStoreMerges.j0 k bt373.1 bt373.2 (t396 !=0) bt379.1 bt379.2.1 bt379.2.2 bt390.1 bt390.2.1 bt390.2.2))else(laws_FnStoreMerges.j0 k bt373.1 bt373.2 true bt379.1 bt379.2.1 bt379.2.2 bt390.1 bt390.2.1 bt390.2.2))else(laws_FnStoreMerges.j0 k bt373.1 bt373.2 true bt379.1 bt379.2.1 bt379.2.2 bt390.1 bt390.2.1 bt390.2.2)))else((spec_MergeStores.f k bt373.1 bt373.2).bind fun bt385=>(some (bt385.1==bt379.1))))))=some r:=by rw[if_neg (show¬(false=true)by decide)]at H;exact H);clear H;have H:=H1;clear H1;replace H:=Option.bind_eq_some_iff.mp H;obtain⟨⟨t373,t374⟩,A40,H⟩:=H;(try dsimp only at H);have A4:=a_ A40;clear A40;replace H:=Option.bind_eq_some_iff.mp H;obtain⟨⟨t379,t380,t381⟩,A50,H⟩:=H;(try dsimp only at H);have A5:=a_ A50;clear A50;by_cases c6:t379=0;rotate_left;(·rw[if_neg c6]at H;have c6b0:(t379==0)=false:=beq_eq_false_iff_ne.mpr c6;have c6b1:(t379 !=0)=true:=bne_iff_ne.mpr c6;replace H:=Option.bind_eq_some_iff.mp H;obtain⟨⟨t385,t386,t387⟩,A520,H⟩:=H;(try dsimp only at H);have A52:=a_ A520;clear A520;obtain rfl:=Option.some.inj H;go_enter Tryd.func3,Tryd.ntmps3;(try go_wp2_with (first|((with_reducible refine gate_callee (f:=4) rfl ?_);refine goesL_ (some 10) rfl rfl Tryd.func4 (by kernel_rfl) rfl #[.slice A0 l0.length c0] rfl lf_ ?_;(with_reducible refine(laws_lwBig.calls _ _ l0 false _ ?side1 ?side2 A2.out).mono ?_);(case side1=>exact rc_ HR0.out);(case side2=>exact HC0.out);rintro e w' ⟨rfl,⟨nd,rfl⟩⟩;refine⟨_,rfl,?_⟩)|((with_reducible refine gate_callee (f:=5) rfl ?_);refine goesL_ (some 13) rfl rfl Tryd.func5 (by kernel_rfl) rfl #[.slice A0 l0.length c0] rfl lf_ ?_;(with_reducible refine(spec_DrawMergeStores.calls k _ _ l0 t373 t374 _ ?side1 ?side2 A4.out).mono ?_);(case side1=>exact rc_ HR0.out);(case side2=>exact HC0.out);rintro e w53 ⟨v375,v377,rfl,ho0,ho1,hb⟩;refine⟨_,rfl,?_⟩;have HO376:=a_ (Kd.R_lower ho0 (below_size (bw_ HB.out)));have HO378:=a_ (Kd.R_lower ho1 (below_size (bw_ HB.out)));replace HB:=a_ (below_step (bw_ HB.out) hb);(try clear hb);(try clear hb2);(try clear hk);(try clear hi);(try clear ho0);(try clear ho1);obtain⟨Ao54,co54,eo54⟩:=Kd.R_slice HO376.out;subst eo54;obtain⟨Ao55,co55,eo55⟩:=Kd.R_slice HO378.out;subst eo55)|((with_reducible refine gate_callee (f:=6) rfl ?_);refine goesL_ (some 18) rfl rfl Tryd.func6 (by kernel_rfl) rfl #[.slice Ao54 t373.length co54,.slice Ao55 t374.length co55] rfl lf_ ?_;(with_reducible refine(impl_MergeStores.calls (hT:=?sideT) k _ _ t373 _ _ t374 t379 t380 t381 _ ?side1 ?side2 ?side3 ?side4 A5.out).mono ?_);(case sideT=>exact TabW.below HTW.out (bw_ HB.out));(case side1=>exact rc_ (Kd.R_reads' HO376.out).2.2);(case side2=>exact(Kd.R_reads' HO376.out).2.1);(case side3=>exact rc_ (Kd.R_reads' HO378.out).2.2);(case side4=>exact(Kd.R_reads' HO378.out).2.1);rintro e w56 ⟨v382,rfl,ho0,hb⟩;refine⟨_,rfl,?_⟩;have HO383:=a_ (Kd.R_lower (Kd.R_new' (Kd.R_new' ho0 (Kd.R_lt (rr_ HO376.out))) (Kd.R_lt (rr_ HO378.out))) (below_size (bw_ HB.out)));replace HO376:=a_ (Kd.R_elder' (rr_ HO376.out) (Kd.R_base ho0) hb);replace HO378:=a_ (Kd.R_elder' (rr_ HO378.out) (Kd.R_base ho0) hb);replace HB:=a_ (below_step (bw_ HB.out) hb);(try clear hb);(try clear hb2);(try clear hk);(try clear hi);(try clear ho0))|((with_reducible refine gate_dst (N:=5) rfl ?_);(try(refine gate_guard (by rfl) ?_;dsimp only));refine box_event ?hg (N:=5) ?hd (cs:=#[.int .i64 0,.string (⟨#[]⟩:ByteArray),.slice none 0 0]) (t:=28) ?hr ?_;(case hd=>rfl);(case hg=>rfl);(case hr=>first|(go_simp;done)|(go_simp;rfl));intro gb384 hg w57 hbox hb;replace HO376:=a_ (Kd.R_below (rr_ HO376.out) hb);replace HO378:=a_ (Kd.R_below (rr_ HO378.out) hb);replace HO383:=a_ (Kd.R_below (rr_ HO383.out) hb);have BK384:=a_ (hbox);have GW384:=a_ ((by rw[hg];exact(below_size (bw_ HB.out)):w.heap.size≤gb384));have GE384:=a_ ((by rw[hg];exact(below_size (bw_ HB.out)):w.heap.size≤gb384));replace HB:=a_ (below_step (bw_ HB.out) hb);clear hb hbox hg;have hcz58_0:w57.cell? ⟨gb384,0,none⟩=some (.int .i64 0):=(blk_cell BK384.out 0).trans rfl;have hcz58_1:w57.cell? ⟨gb384,1,none⟩=some (.string (⟨#[]⟩:ByteArray)):=(blk_cell BK384.out 1).trans rfl;have hcz58_2:w57.cell? ⟨gb384,2,none⟩=some (.slice none 0 0):=(blk_cell BK384.out 2).trans rfl;have hfz58_0:=blk_frozen BK384.out 0;have hfz58_1:=blk_frozen BK384.out 1;have hfz58_2:=blk_frozen BK384.out 2;obtain⟨Ao59,co59,eo59⟩:=Kd.R_slice HO383.out;subst eo59)));have n0_:Aside0 (Kd.R k32 32 (((w57.setCell ⟨gb384,0,none⟩ (.int .i64 t379)).setCell ⟨gb384,1,none⟩ (.string t380)).setCell ⟨gb384,2,none⟩ (.slice Ao59 t381.length co59)) w.heap.size (fun k_=>some k_≠(.slice Ao55 t374.length co55:Value).ownBlock∧some k_≠(.slice Ao59 t381.length co59:Value).ownBlock) (.slice Ao54 t373.length co54) t373):=⟨by(with_reducible repeat(first|apply Kd.R_alloc|apply Kd.R_drewN|apply Kd.R_drew));exact Kd.R_mono (Kd.R_far (p:=⟨gb384,2,none⟩) (Kd.R_far (p:=⟨gb384,1,none⟩) (Kd.R_far (p:=⟨gb384,0,none⟩) (Kd.R_types HO376.out BK384.out (by decide)) (fun _ hk=>hk.2) (.int .i64 t379)) (fun _ hk=>hk.2) (.string t380)) (fun _ hk=>hk.2) (.slice Ao59 t381.length co59)) (fun _ hk=>⟨hk.1.1,hk.1.2⟩)⟩;have n1_:Aside0 (Kd.R k32 32 (((w57.setCell ⟨gb384,0,none⟩ (.int .i64 t379)).setCell ⟨gb384,1,none⟩ (.string t380)).setCell ⟨gb384,2,none⟩ (.slice Ao59 t381.length co59)) w.heap.size (fun k_=>some k_≠(.slice Ao54 t373.length co54:Value).ownBlock∧some k_≠(.slice Ao59 t381.length co59:Value).ownBlock) (.slice Ao55 t374.length co55) t374):=⟨by(with_reducible repeat(first|apply Kd.R_alloc|apply Kd.R_drewN|apply Kd.R_drew));exact Kd.R_mono (Kd.R_far (p:=⟨gb384,2,none⟩) (Kd.R_far (p:=⟨gb384,1,none⟩) (Kd.R_far (p:=⟨gb384,0,none⟩) (Kd.R_types HO378.out BK384.out (by decide)) (fun _ hk=>hk.2) (.int .i64 t379)) (fun _ hk=>hk.2) (.string t380)) (fun _ hk=>hk.2) (.slice Ao59 t381.length co59)) (fun _ hk=>⟨hk.1.1,hk.1.2⟩)⟩;have n2_:Aside0 (Kd.R k32 32 (((w57.setCell ⟨gb384,0,none⟩ (.int .i64 t379)).setCell ⟨gb384,1,none⟩ (.string t380)).setCell ⟨gb384,2,none⟩ (.slice Ao59 t381.length co59)) w.heap.size (fun k_=>some k_≠(.slice Ao54 t373.length co54:Value).ownBlock∧some k_≠(.slice Ao55 t374.length co55:Value).ownBlock) (.slice Ao59 t381.length co59) t381):=⟨by(with_reducible repeat(first|apply Kd.R_alloc|apply Kd.R_drewN|apply Kd.R_drew));exact Kd.R_mono (Kd.R_far (p:=⟨gb384,2,none⟩) (Kd.R_far (p:=⟨gb384,1,none⟩) (Kd.R_far (p:=⟨gb384,0,none⟩) (Kd.R_types HO383.out BK384.out (by decide)) (fun _ hk=>hk.2) (.int .i64 t379)) (fun _ hk=>hk.2) (.string t380)) (fun _ hk=>hk.2) (.slice Ao59 t381.length co59)) (fun _ hk=>⟨hk.1.1.2,hk.1.2⟩)⟩;have n3_:Aside0 ((((w57.setCell ⟨gb384,0,none⟩ (.int .i64 t379)).setCell ⟨gb384,1,none⟩ (.string t380)).setCell ⟨gb384,2,none⟩ (.slice Ao59 t381.length co59)).heap[gb384]?=some (.cells #[.int .i64 t379,.string t380,.slice Ao59 t381.length co59] 28 (0,0))):=⟨by(with_reducible repeat(first|refine blk_drewN ?_ _|refine blk_drew ?_|refine blk_alloc ?_ _));refine blk_put (cs:=#[.int .i64 t379,.string t380,.slice none 0 0]) ?_ 2 _ rfl;(with_reducible repeat(first|refine blk_drewN ?_ _|refine blk_drew ?_|refine blk_alloc ?_ _));refine blk_put (cs:=#[.int .i64 t379,.string (⟨#[]⟩:ByteArray),.slice none 0 0]) ?_ 1 _ rfl;(with_reducible repeat(first|refine blk_drewN ?_ _|refine blk_drew ?_|refine blk_alloc ?_ _));refine blk_put (cs:=#[.int .i64 0,.string (⟨#[]⟩:ByteArray),.slice none 0 0]) ?_ 0 _ rfl;(with_reducible repeat(first|refine blk_drewN ?_ _|refine blk_drew ?_|refine blk_alloc ?_ _));exact BK384.out⟩;have n4_:Aside0 (Below w.heap.size w (((w57.setCell ⟨gb384,0,none⟩ (.int .i64 t379)).setCell ⟨gb384,1,none⟩ (.string t380)).setCell ⟨gb384,2,none⟩ (.slice Ao59 t381.length co59))):=⟨bw1_ HB.out GE384.out⟩;(try clear HO376);(try clear HO378);(try clear HO383);(try clear BK384);(try clear HB);generalize (((w57.setCell ⟨gb384,0,none⟩ (.int .i64 t379)).setCell ⟨gb384,1,none⟩ (.string t380)).setCell ⟨gb384,2,none⟩ (.slice Ao59 t381.length co59))=w60 at n0_ n1_ n2_ n3_ n4_ ⊢;have HO376:=n0_;have HO378:=n1_;have HO383:=n2_;have BK384:=n3_;have HB:=n4_;clear n0_ n1_ n2_ n3_ n4_;replace HO376:=a_ (Kd.R_drew HO376.out);replace HO378:=a_ (Kd.R_drew HO378.out);replace HO383:=a_ (Kd.R_drew HO383.out);replace BK384:=a_ (blk_drew BK384.out);replace HB:=a_ (below_drew1 HB.out);refine start_ (n:=8) (S:=fun w'=>w'.cell? ⟨gb384,0,none⟩=some (.int .i64 t379)∧w'.cell? ⟨gb384,1,none⟩=some (.string t380)∧w'.cell? ⟨gb384,2,none⟩=some (.slice Ao59 t381.length co59)) (ds:=[]) (mb_ 8 0) (by kernel_rfl) rfl rfl ⟨(blk_cell BK384.out 0).trans rfl,(blk_cell BK384.out 1).trans rfl,(blk_cell BK384.out 2).trans rfl⟩ (fun hHeld=>?_);refine with_tabW laws_FnStoreMerges.tab6 laws_FnStoreMerges.bits6 (fun HT_ HW_=>?_);generalize w60.drew=w61 at HO376 HO378 HO383 BK384 HB hHeld ⊢;refine pure_ (i:=0) (N:=some 22) (v:=?_) (a':=?_) (mb_ 8 1) rfl rfl (any_of HT_.out (by kernel_rfl)) (fun _ _ _ h=>h) (Or.inl ⟨by rfl,?_⟩) ?_ ?_;rotate_left;(·intro w';go_simp;first|with_reducible rfl|(simp only[hfd28_0,hfd28_1,hfd28_2,hfd32_0,hfd32_1,hfd32_2,hfd34_0,hfd34_1];with_reducible rfl));rotate_left;(·simp only[Act.put,s0_,s1_,s2_,i64_w,i32_w];rfl);refine pure_ (i:=1) (N:=some 23) (v:=?_) (a':=?_) (mb_ 8 3) rfl rfl (any_of HT_.out (by kernel_rfl)) (fun _ _ _ h=>h) (Or.inl ⟨by rfl,?_⟩) ?_ ?_;rotate_left;(·intro w';go_simp;first|with_reducible rfl|(simp only[hfd28_0,hfd28_1,hfd28_2,hfd32_0,hfd32_1,hfd32_2,hfd34_0,hfd34_1];with_reducible rfl));rotate_left;(·simp only[Act.put,s0_,s1_,s2_,i64_w,i32_w];rfl);refine pure_ (i:=4) (N:=some 26) (v:=?_) (a':=?_) (mb_ 8 19) rfl rfl (any_of HT_.out (by kernel_rfl)) (fun _ _ _ h=>h) (Or.inl ⟨by rfl,?_⟩) ?_ ?_;rotate_left;(·intro w';go_simp;first|with_reducible rfl|(simp only[hfd28_0,hfd28_1,hfd28_2,hfd32_0,hfd32_1,hfd32_2,hfd34_0,hfd34_1];with_reducible rfl));rotate_left;(·simp only[Act.put,s0_,s1_,s2_,i64_w,i32_w];rfl);refine take_ (i:=5) (N:=some 27) (v:=?_) (a':=?_) (mb_ 8 51) rfl rfl (take_ofW HT_.out HW_.out (by kernel_rfl)) (fun _ _ _ h=>h) (Or.inl ⟨by rfl,?_⟩) hHeld ?_ ?_;rotate_left;(·rintro w' ⟨s0,s1,s2⟩;go_simp;first|with_reducible rfl|(simp only[hfd28_0,hfd28_1,hfd28_2,hfd32_0,hfd32_1,hfd32_2,hfd34_0,hfd34_1];with_reducible rfl));rotate_left;(·simp only[Act.put,s0_,s1_,s2_,i64_w,i32_w];rfl);refine one_ (i:=2) (N:=some 24) (mb_ 8 55) rfl rfl (one_of HT_.out (by kernel_rfl)) (by decide) (fun K hK=>?_);refine goes_ Tryd.func7 (by kernel_rfl) rfl #[.slice Ao54 t373.length co54,.slice Ao55 t374.length co55] (by rfl) rfl rfl lf_ ?_;(with_reducible refine(spec_MergeStores.calls k _ _ t373 _ _ t374 t385 t386 t387 _ ?side1 ?side2 ?side3 ?side4 A52.out).mono ?_);(case side1=>exact rc_ (Kd.R_reads' HO376.out).2.2);(case side2=>exact(Kd.R_reads' HO376.out).2.1);(case side3=>exact rc_ (Kd.R_reads' HO378.out).2.2);(case side4=>exact(Kd.R_reads' HO378.out).2.1);rintro e w62 ⟨v388,rfl,ho0,hb⟩;refine⟨_,rfl,?_⟩;have HO389:=a_ (Kd.R_lower (Kd.R_new' (Kd.R_new' (Kd.R_new' ho0 (Kd.R_lt (rr_ HO376.out))) (Kd.R_lt (rr_ HO378.out))) (Kd.R_lt (rr_ HO383.out))) (below_size (bw1_ HB.out GE384.out)));replace HO376:=a_ (Kd.R_elder' (rr_ HO376.out) (Kd.R_base ho0) hb);replace HO378:=a_ (Kd.R_elder' (rr_ HO378.out) (Kd.R_base ho0) hb);replace HO383:=a_ (Kd.R_elder' (rr_ HO383.out) (Kd.R_base ho0) hb);replace BK384:=a_ (bb_ BK384.out hb);replace HB:=a_ (below_step (bw1_ HB.out GE384.out) hb);(try clear hb);(try clear hb2);(try clear hk);(try clear hi);(try clear ho0);refine hK.out _ _ ⟨(blk_cell BK384.out 0).trans rfl,(blk_cell BK384.out 1).trans rfl,(blk_cell BK384.out 2).trans rfl⟩ (fun hHeld=>?_);clear hK K;refine norm_ (a':=?_) ?_ ?_;rotate_left;(·show Act.put _ (some 24) _=_;simp only[Act.put,s0_,s1_,s2_,i64_w,i32_w];rfl);refine pure_ (i:=3) (N:=some 25) (v:=?_) (a':=?_) (mb_ 8 63) rfl rfl (any_of HT_.out (by kernel_rfl)) (fun _ _ _ h=>h) (Or.inl ⟨by rfl,?_⟩) ?_ ?_;rotate_left;(·intro w';go_simp;first|with_reducible rfl|(simp only[hfd28_0,hfd28_1,hfd28_2,hfd32_0,hfd32_1,hfd32_2,hfd34_0,hfd34_1];with_reducible rfl));rotate_left;(·simp only[Act.put,s0_,s1_,s2_,i64_w,i32_w];rfl);refine pure_ (i:=6) (N:=some 28) (v:=?_) (a':=?_) (mb_ 8 127) rfl rfl (any_of HT_.out (by kernel_rfl)) (fun _ _ _ h=>h) (Or.inl ⟨by rfl,?_⟩) ?_ ?_;rotate_left;(·intro w';go_simp;first|with_reducible rfl|(simp only[hfd28_0,hfd28_1,hfd28_2,hfd32_0,hfd32_1,hfd32_2,hfd34_0,hfd34_1];with_reducible rfl));rotate_left;(·simp only[Act.put,s0_,s1_,s2_,i64_w,i32_w];rfl);refine pure_ (i:=7) (N:=some 2) (v:=?_) (a':=?_) (mb_ 8 255) rfl rfl (any_of HT_.out (by kernel_rfl)) (fun _ _ _ h=>h) (Or.inl ⟨by rfl,?_⟩) ?_ ?_;rotate_left;(·intro w';go_simp;first|with_reducible rfl|(simp only[hfd28_0,hfd28_1,hfd28_2,hfd32_0,hfd32_1,hfd32_2,hfd34_0,hfd34_1];with_reducible rfl));rotate_left;(·simp only[Act.put,s0_,s1_,s2_,i64_w,i32_w];rfl);refine done_ (done_of HT_.out (by kernel_rfl)) ?_;(try go_wp2);go_ret;exact⟨by first|rfl|(simp[errW_none,errW_some]<;>rfl)|(simp[*,errW_none,errW_some]<;>rfl),bw1_ HB.out GE384.out⟩);rw[if_pos c6]at H;have c6b0:(t379==0)=true:=beq_iff_eq.mpr c6;have c6b1:(t379 !=0)=false:=bne_eq_false_iff_eq.mpr c6;clear c6;replace H:=Option.bind_eq_some_iff.mp H;obtain⟨⟨t390,t391,t392⟩,A70,H⟩:=H;(try dsimp only at H);have A7:=a_ A70;clear A70;have HC8:=a_ H;clear H;go_enter Tryd.func3,Tryd.ntmps3;(go_upto_region 8 with(first|((with_reducible refine gate_callee (f:=4) rfl ?_);refine goesL_ (some 10) rfl rfl Tryd.func4 (by kernel_rfl) rfl #[.slice A0 l0.length c0] rfl lf_ ?_;(with_reducible refine(laws_lwBig.calls _ _ l0 false _ ?side1 ?side2 A2.out).mono ?_);(case side1=>exact rc_ HR0.out);(case side2=>exact HC0.out);rintro e w' ⟨rfl,⟨nd,rfl⟩⟩;refine⟨_,rfl,?_⟩)|((with_reducible refine gate_callee (f:=5) rfl ?_);refine goesL_ (some 13) rfl rfl Tryd.func5 (by kernel_rfl) rfl #[.slice A0 l0.length c0] rfl lf_ ?_;(with_reducible refine(spec_DrawMergeStores.calls k _ _ l0 t373 t374 _ ?side1 ?side2 A4.out).mono ?_);(case side1=>exact rc_ HR0.out);(case side2=>exact HC0.out);rintro e w9 ⟨v375,v377,rfl,ho0,ho1,hb⟩;refine⟨_,rfl,?_⟩;have HO376:=a_ (Kd.R_lower ho0 (below_size (bw_ HB.out)));have HO378:=a_ (Kd.R_lower ho1 (below_size (bw_ HB.out)));replace HB:=a_ (below_step (bw_ HB.out) hb);(try clear hb);(try clear hb2);(try clear hk);(try clear hi);(try clear ho0);(try clear ho1);obtain⟨Ao10,co10,eo10⟩:=Kd.R_slice HO376.out;subst eo10;obtain⟨Ao11,co11,eo11⟩:=Kd.R_slice HO378.out;subst eo11)|((with_reducible refine gate_callee (f:=6) rfl ?_);refine goesL_ (some 18) rfl rfl Tryd.func6 (by kernel_rfl) rfl #[.slice Ao10 t373.length co10,.slice Ao11 t374.length co11] rfl lf_ ?_;(with_reducible refine(impl_MergeStores.calls (hT:=?sideT) k _ _ t373 _ _ t374 t379 t380 t381 _ ?side1 ?side2 ?side3 ?side4 A5.out).mono ?_);(case sideT=>exact TabW.below HTW.out (bw_ HB.out));(case side1=>exact rc_ (Kd.R_reads' HO376.out).2.2);(case side2=>exact(Kd.R_reads' HO376.out).2.1);(case side3=>exact rc_ (Kd.R_reads' HO378.out).2.2);(case side4=>exact(Kd.R_reads' HO378.out).2.1);rintro e w12 ⟨v382,rfl,ho0,hb⟩;refine⟨_,rfl,?_⟩;have HO383:=a_ (Kd.R_lower (Kd.R_new' (Kd.R_new' ho0 (Kd.R_lt (rr_ HO376.out))) (Kd.R_lt (rr_ HO378.out))) (below_size (bw_ HB.out)));replace HO376:=a_ (Kd.R_elder' (rr_ HO376.out) (Kd.R_base ho0) hb);replace HO378:=a_ (Kd.R_elder' (rr_ HO378.out) (Kd.R_base ho0) hb);replace HB:=a_ (below_step (bw_ HB.out) hb);(try clear hb);(try clear hb2);(try clear hk);(try clear hi);(try clear ho0))|((with_reducible refine gate_dst (N:=5) rfl ?_);(try(refine gate_guard (by rfl) ?_;dsimp only));refine box_event ?hg (N:=5) ?hd (cs:=#[.int .i64 0,.string (⟨#[]⟩:ByteArray),.slice none 0 0]) (t:=28) ?hr ?_;(case hd=>rfl);(case hg=>rfl);(case hr=>first|(go_simp;done)|(go_simp;rfl));intro gb384 hg w13 hbox hb;replace HO376:=a_ (Kd.R_below (rr_ HO376.out) hb);replace HO378:=a_ (Kd.R_below (rr_ HO378.out) hb);replace HO383:=a_ (Kd.R_below (rr_ HO383.out) hb);have BK384:=a_ (hbox);have GW384:=a_ ((by rw[hg];exact(below_size (bw_ HB.out)):w.heap.size≤gb384));have GE384:=a_ ((by rw[hg];exact(below_size (bw_ HB.out)):w.heap.size≤gb384));replace HB:=a_ (below_step (bw_ HB.out) hb);clear hb hbox hg;have hcz14_0:w13.cell? ⟨gb384,0,none⟩=some (.int .i64 0):=(blk_cell BK384.out 0).trans rfl;have hcz14_1:w13.cell? ⟨gb384,1,none⟩=some (.string (⟨#[]⟩:ByteArray)):=(blk_cell BK384.out 1).trans rfl;have hcz14_2:w13.cell? ⟨gb384,2,none⟩=some (.slice none 0 0):=(blk_cell BK384.out 2).trans rfl;have hfz14_0:=blk_frozen BK384.out 0;have hfz14_1:=blk_frozen BK384.out 1;have hfz14_2:=blk_frozen BK384.out 2;obtain⟨Ao15,co15,eo15⟩:=Kd.R_slice HO383.out;subst eo15)|((with_reducible refine gate_callee (f:=6) rfl ?_);refine goesL_ (some 31) rfl rfl Tryd.func6 (by kernel_rfl) rfl #[.slice Ao11 t374.length co11,.slice Ao10 t373.length co10] rfl lf_ ?_;(with_reducible refine(impl_MergeStores.calls (hT:=?sideT) k _ _ t374 _ _ t373 t390 t391 t392 _ ?side1 ?side2 ?side3 ?side4 A7.out).mono ?_);(case sideT=>exact TabW.below HTW.out (bw1_ HB.out GE384.out));(case side1=>refine(Kd.R_reads' (e:=32) (base:=w.heap.size) (ok:=fun k_=>(some k_≠(.slice Ao10 t373.length co10:Value).ownBlock∧some k_≠(.slice Ao15 t381.length co15:Value).ownBlock)) (n:=t374.length) (c:=co11) ?_).2.2;exact(by(with_reducible repeat(first|apply Kd.R_alloc|apply Kd.R_drewN|apply Kd.R_drew));exact(Kd.R_mono (Kd.R_far (p:=⟨gb384,2,none⟩) (Kd.R_far (p:=⟨gb384,1,none⟩) (Kd.R_far (p:=⟨gb384,0,none⟩) (Kd.R_types HO378.out BK384.out (by decide)) (fun _ hk=>hk.2) (.int .i64 t379)) (fun _ hk=>hk.2) (.string t380)) (fun _ hk=>hk.2) (.slice Ao15 t381.length co15)) (fun _ h_=>h_.1))));(case side2=>exact(Kd.R_reads' HO378.out).2.1);(case side3=>refine(Kd.R_reads' (e:=32) (base:=w.heap.size) (ok:=fun k_=>(some k_≠(.slice Ao11 t374.length co11:Value).ownBlock∧some k_≠(.slice Ao15 t381.length co15:Value).ownBlock)) (n:=t373.length) (c:=co10) ?_).2.2;exact(by(with_reducible repeat(first|apply Kd.R_alloc|apply Kd.R_drewN|apply Kd.R_drew));exact(Kd.R_mono (Kd.R_far (p:=⟨gb384,2,none⟩) (Kd.R_far (p:=⟨gb384,1,none⟩) (Kd.R_far (p:=⟨gb384,0,none⟩) (Kd.R_types HO376.out BK384.out (by decide)) (fun _ hk=>hk.2) (.int .i64 t379)) (fun _ hk=>hk.2) (.string t380)) (fun _ hk=>hk.2) (.slice Ao15 t381.length co15)) (fun _ h_=>h_.1))));(case side4=>exact(Kd.R_reads' HO376.out).2.1);rintro e w16 ⟨v393,rfl,ho0,hb⟩;refine⟨_,rfl,?_⟩;have HO394:=a_ (Kd.R_lower (Kd.R_new' (Kd.R_new' (Kd.R_new' ho0 (Kd.R_lt (by(with_reducible repeat(first|apply Kd.R_alloc|apply Kd.R_drewN|apply Kd.R_drew));exact(Kd.R_mono (Kd.R_far (p:=⟨gb384,2,none⟩) (Kd.R_far (p:=⟨gb384,1,none⟩) (Kd.R_far (p:=⟨gb384,0,none⟩) (Kd.R_types HO376.out BK384.out (by decide)) (fun _ hk=>hk.2) (.int .i64 t379)) (fun _ hk=>hk.2) (.string t380)) (fun _ hk=>hk.2) (.slice Ao15 t381.length co15)) (fun _ h_=>h_.1))))) (Kd.R_lt (by(with_reducible repeat(first|apply Kd.R_alloc|apply Kd.R_drewN|apply Kd.R_drew));exact(Kd.R_mono (Kd.R_far (p:=⟨gb384,2,none⟩) (Kd.R_far (p:=⟨gb384,1,none⟩) (Kd.R_far (p:=⟨gb384,0,none⟩) (Kd.R_types HO378.out BK384.out (by decide)) (fun _ hk=>hk.2) (.int .i64 t379)) (fun _ hk=>hk.2) (.string t380)) (fun _ hk=>hk.2) (.slice Ao15 t381.length co15)) (fun _ h_=>h_.1))))) (Kd.R_lt (by(with_reducible repeat(first|apply Kd.R_alloc|apply Kd.R_drewN|apply Kd.R_drew));exact(Kd.R_mono (Kd.R_far (p:=⟨gb384,2,none⟩) (Kd.R_far (p:=⟨gb384,1,none⟩) (Kd.R_far (p:=⟨gb384,0,none⟩) (Kd.R_types HO383.out BK384.out (by decide)) (fun _ hk=>hk.2) (.int .i64 t379)) (fun _ hk=>hk.2) (.string t380)) (fun _ hk=>hk.2) (.slice Ao15 t381.length co15)) (fun _ h_=>h_.1))))) (below_size (bw1_ HB.out GE384.out)));replace HO376:=a_ (Kd.R_elder' (by(with_reducible repeat(first|apply Kd.R_alloc|apply Kd.R_drewN|apply Kd.R_drew));exact(Kd.R_mono (Kd.R_far (p:=⟨gb384,2,none⟩) (Kd.R_far (p:=⟨gb384,1,none⟩) (Kd.R_far (p:=⟨gb384,0,none⟩) (Kd.R_types HO376.out BK384.out (by decide)) (fun _ hk=>hk.2) (.int .i64 t379)) (fun _ hk=>hk.2) (.string t380)) (fun _ hk=>hk.2) (.slice Ao15 t381.length co15)) (fun _ h_=>h_.1))) (Kd.R_base ho0) hb);replace HO378:=a_ (Kd.R_elder' (by(with_reducible repeat(first|apply Kd.R_alloc|apply Kd.R_drewN|apply Kd.R_drew));exact(Kd.R_mono (Kd.R_far (p:=⟨gb384,2,none⟩) (Kd.R_far (p:=⟨gb384,1,none⟩) (Kd.R_far (p:=⟨gb384,0,none⟩) (Kd.R_types HO378.out BK384.out (by decide)) (fun _ hk=>hk.2) (.int .i64 t379)) (fun _ hk=>hk.2) (.string t380)) (fun _ hk=>hk.2) (.slice Ao15 t381.length co15)) (fun _ h_=>h_.1))) (Kd.R_base ho0) hb);replace HO383:=a_ (Kd.R_elder' (by(with_reducible repeat(first|apply Kd.R_alloc|apply Kd.R_drewN|apply Kd.R_drew));exact(Kd.R_mono (Kd.R_far (p:=⟨gb384,2,none⟩) (Kd.R_far (p:=⟨gb384,1,none⟩) (Kd.R_far (p:=⟨gb384,0,none⟩) (Kd.R_types HO383.out BK384.out (by decide)) (fun _ hk=>hk.2) (.int .i64 t379)) (fun _ hk=>hk.2) (.string t380)) (fun _ hk=>hk.2) (.slice Ao15 t381.length co15)) (fun _ h_=>h_.1))) (Kd.R_base ho0) hb);replace BK384:=a_ (blk_below (g:=gb384) (o:=.cells #[.int .i64 t379,.string t380,.slice Ao15 t381.length co15] 28 (0,0)) (by(with_reducible repeat(first|refine blk_drewN ?_ _|refine blk_drew ?_|refine blk_alloc ?_ _));refine blk_put (cs:=#[.int .i64 t379,.string t380,.slice none 0 0]) ?_ 2 _ rfl;(with_reducible repeat(first|refine blk_drewN ?_ _|refine blk_drew ?_|refine blk_alloc ?_ _));refine blk_put (cs:=#[.int .i64 t379,.string (⟨#[]⟩:ByteArray),.slice none 0 0]) ?_ 1 _ rfl;(with_reducible repeat(first|refine blk_drewN ?_ _|refine blk_drew ?_|refine blk_alloc ?_ _));refine blk_put (cs:=#[.int .i64 0,.string (⟨#[]⟩:ByteArray),.slice none 0 0]) ?_ 0 _ rfl;(with_reducible repeat(first|refine blk_drewN ?_ _|refine blk_drew ?_|refine blk_alloc ?_ _));exact BK384.out) hb);replace HB:=a_ (below_step (bw1_ HB.out GE384.out) hb);(try clear hb);(try clear hb2);(try clear hk);(try clear hi);(try clear ho0))|((with_reducible refine gate_dst (N:=6) rfl ?_);(try(refine gate_guard (by rfl) ?_;dsimp only));refine box_event ?hg (N:=6) ?hd (cs:=#[.int .i64 0,.string (⟨#[]⟩:ByteArray),.slice none 0 0]) (t:=28) ?hr ?_;(case hd=>rfl);(case hg=>rfl);(case hr=>first|(go_simp;done)|(go_simp;rfl));intro gb395 hg w17 hbox hb;replace HO376:=a_ (Kd.R_below (rr_ HO376.out) hb);replace HO378:=a_ (Kd.R_below (rr_ HO378.out) hb);replace HO383:=a_ (Kd.R_below (rr_ HO383.out) hb);replace HO394:=a_ (Kd.R_below (rr_ HO394.out) hb);have BK395:=a_ (hbox);have GW395:=a_ ((by rw[hg];exact(below_size (bw1_ HB.out GE384.out)):w.heap.size≤gb395));have GE395:=a_ ((by rw[hg];exact(below_size (bw1_ HB.out GE384.out)):w.heap.size≤gb395));replace HB:=a_ (below_step (bw1_ HB.out GE384.out) hb);have NB384_395:=a_ ((by rw[hg];exact Nat.ne_of_lt (bl_ BK384.out):gb384≠gb395));have NB395_384:=a_ ((by rw[hg];exact Nat.ne_of_gt (bl_ BK384.out):gb395≠gb384));replace BK384:=a_ (bb_ BK384.out hb);clear hb hbox hg;have hnb18:=NB395_384.out;have hnc18:=NB384_395.out;have hcz19_0:w17.cell? ⟨gb395,0,none⟩=some (.int .i64 0):=(blk_cell BK395.out 0).trans rfl;have hcz19_1:w17.cell? ⟨gb395,1,none⟩=some (.string (⟨#[]⟩:ByteArray)):=(blk_cell BK395.out 1).trans rfl;have hcz19_2:w17.cell? ⟨gb395,2,none⟩=some (.slice none 0 0):=(blk_cell BK395.out 2).trans rfl;have hfz19_0:=blk_frozen BK395.out 0;have hfz19_1:=blk_frozen BK395.out 1;have hfz19_2:=blk_frozen BK395.out 2;obtain⟨Ao20,co20,eo20⟩:=Kd.R_slice HO394.out;subst eo20)));(try simp only[Act.put,List.setIfInBounds_toArray,List.set_cons_zero,List.set_cons_succ]);go_cut [49] (fun v49 wc=>∃(kq:Nat) (x49_7:Bool),v49=.bool x49_7∧Aside0 (laws_FnStoreMerges.j0 kq t373 t374 x49_7 t379 t380 t381 t390 t391 t392=some r)∧Aside0 (kq≤k)∧Aside0 (Kd.R k32 32 wc w.heap.size (fun k_=>some k_≠((.slice Ao11 t374.length co11):Value).ownBlock∧some k_≠((.slice Ao15 t381.length co15):Value).ownBlock∧some k_≠((.slice Ao20 t392.length co20):Value).ownBlock) (.slice Ao10 t373.length co10) t373)∧Aside0 (Kd.R k32 32 wc w.heap.size (fun k_=>some k_≠((.slice Ao10 t373.length co10):Value).ownBlock∧some k_≠((.slice Ao15 t381.length co15):Value).ownBlock∧some k_≠((.slice Ao20 t392.length co20):Value).ownBlock) (.slice Ao11 t374.length co11) t374)∧Aside0 (Kd.R k32 32 wc w.heap.size (fun k_=>some k_≠((.slice Ao10 t373.length co10):Value).ownBlock∧some k_≠((.slice Ao11 t374.length co11):Value).ownBlock∧some k_≠((.slice Ao20 t392.length co20):Value).ownBlock) (.slice Ao15 t381.length co15) t381)∧Aside0 (Kd.R k32 32 wc w.heap.size (fun k_=>some k_≠((.slice Ao10 t373.length co10):Value).ownBlock∧some k_≠((.slice Ao11 t374.length co11):Value).ownBlock∧some k_≠((.slice Ao15 t381.length co15):Value).ownBlock) (.slice Ao20 t392.length co20) t392)∧Aside0 (wc.heap[gb384]?=some (.cells #[.int .i64 t379,.string t380,(.slice Ao15 t381.length co15)] 28 (0,0)))∧Aside0 (wc.heap[gb395]?=some (.cells #[.int .i64 t390,.string t391,(.slice Ao20 t392.length co20)] 28 (0,0)))∧Aside0 (Below w.heap.size w wc))
 case first=>
  have H:=HC8.out;clear HC8;by_cases c21:t390=0;rotate_left;(·rw[if_neg c21]at H;have c21b0:(t390==0)=false:=beq_eq_false_iff_ne.mpr c21;have c21b1:(t390 !=0)=true:=bne_iff_ne.mpr c21;(first|rw[c21b0]|(simp only[i64_w,i32_w];rw[c21b0])|skip);have H':=a_ H;clear H;have hnb31:=NB395_384.out;have hnc31:=NB384_395.out;have hcz32_0:w17.cell? ⟨gb395,0,none⟩=some (.int .i64 0):=(blk_cell BK395.out 0).trans rfl;have hcz32_1:w17.cell? ⟨gb395,1,none⟩=some (.string (⟨#[]⟩:ByteArray)):=(blk_cell BK395.out 1).trans rfl;have hcz32_2:w17.cell? ⟨gb395,2,none⟩=some (.slice none 0 0):=(blk_cell BK395.out 2).trans rfl;have hfz32_0:=blk_frozen BK395.out 0;have hfz32_1:=blk_frozen BK395.out 1;have hfz32_2:=blk_frozen BK395.out 2;go_wp2;go_meet;case rel=>exact⟨_,(true),ls_,H',⟨by first|omega|exact Nat.le_refl _⟩,⟨by(with_reducible repeat(first|apply Kd.R_alloc|apply Kd.R_drewN|apply Kd.R_drew));exact Kd.R_mono (Kd.R_far (p:=⟨gb395,2,none⟩) (Kd.R_far (p:=⟨gb395,1,none⟩) (Kd.R_far (p:=⟨gb395,0,none⟩) (Kd.R_types HO376.out BK395.out (by decide)) (fun _ hk=>hk.2) (.int .i64 t390)) (fun _ hk=>hk.2) (.string t391)) (fun _ hk=>hk.2) (.slice Ao20 t392.length co20)) (fun _ hk=>⟨hk.1.1.1,⟨hk.1.1.2,hk.1.2⟩⟩)⟩,⟨by(with_reducible repeat(first|apply Kd.R_alloc|apply Kd.R_drewN|apply Kd.R_drew));exact Kd.R_mono (Kd.R_far (p:=⟨gb395,2,none⟩) (Kd.R_far (p:=⟨gb395,1,none⟩) (Kd.R_far (p:=⟨gb395,0,none⟩) (Kd.R_types HO378.out BK395.out (by decide)) (fun _ hk=>hk.2) (.int .i64 t390)) (fun _ hk=>hk.2) (.string t391)) (fun _ hk=>hk.2) (.slice Ao20 t392.length co20)) (fun _ hk=>⟨hk.1.1.1,⟨hk.1.1.2,hk.1.2⟩⟩)⟩,⟨by(with_reducible repeat(first|apply Kd.R_alloc|apply Kd.R_drewN|apply Kd.R_drew));exact Kd.R_mono (Kd.R_far (p:=⟨gb395,2,none⟩) (Kd.R_far (p:=⟨gb395,1,none⟩) (Kd.R_far (p:=⟨gb395,0,none⟩) (Kd.R_types HO383.out BK395.out (by decide)) (fun _ hk=>hk.2) (.int .i64 t390)) (fun _ hk=>hk.2) (.string t391)) (fun _ hk=>hk.2) (.slice Ao20 t392.length co20)) (fun _ hk=>⟨hk.1.1.1.2,⟨hk.1.1.2,hk.1.2⟩⟩)⟩,⟨by(with_reducible repeat(first|apply Kd.R_alloc|apply Kd.R_drewN|apply Kd.R_drew));exact Kd.R_mono (Kd.R_far (p:=⟨gb395,2,none⟩) (Kd.R_far (p:=⟨gb395,1,none⟩) (Kd.R_far (p:=⟨gb395,0,none⟩) (Kd.R_types HO394.out BK395.out (by decide)) (fun _ hk=>hk.2) (.int .i64 t390)) (fun _ hk=>hk.2) (.string t391)) (fun _ hk=>hk.2) (.slice Ao20 t392.length co20)) (fun _ hk=>⟨hk.1.1.1.2,⟨hk.1.1.2,hk.1.2⟩⟩)⟩,⟨by(with_reducible repeat(first|refine blk_drewN ?_ _|refine blk_drew ?_|refine blk_alloc ?_ _));refine blk_far ?_ NB384_395.out _;(with_reducible repeat(first|refine blk_drewN ?_ _|refine blk_drew ?_|refine blk_alloc ?_ _));refine blk_far ?_ NB384_395.out _;(with_reducible repeat(first|refine blk_drewN ?_ _|refine blk_drew ?_|refine blk_alloc ?_ _));refine blk_far ?_ NB384_395.out _;(with_reducible repeat(first|refine blk_drewN ?_ _|refine blk_drew ?_|refine blk_alloc ?_ _));exact BK384.out⟩,⟨by(with_reducible repeat(first|refine blk_drewN ?_ _|refine blk_drew ?_|refine blk_alloc ?_ _));refine blk_put (cs:=#[.int .i64 t390,.string t391,.slice none 0 0]) ?_ 2 _ rfl;(with_reducible repeat(first|refine blk_drewN ?_ _|refine blk_drew ?_|refine blk_alloc ?_ _));refine blk_put (cs:=#[.int .i64 t390,.string (⟨#[]⟩:ByteArray),.slice none 0 0]) ?_ 1 _ rfl;(with_reducible repeat(first|refine blk_drewN ?_ _|refine blk_drew ?_|refine blk_alloc ?_ _));refine blk_put (cs:=#[.int .i64 0,.string (⟨#[]⟩:ByteArray),.slice none 0 0]) ?_ 0 _ rfl;(with_reducible repeat(first|refine blk_drewN ?_ _|refine blk_drew ?_|refine blk_alloc ?_ _));exact BK395.out⟩,⟨bw2_ HB.out GE384.out GE395.out⟩⟩);rw[if_pos c21]at H;have c21b0:(t390==0)=true:=beq_iff_eq.mpr c21;have c21b1:(t390 !=0)=false:=bne_eq_false_iff_eq.mpr c21;clear c21;(first|rw[c21b0]|(simp only[i64_w,i32_w];rw[c21b0])|skip);by_cases c22:(t392.length:Int)=(t381.length:Int);rotate_left;(·rw[if_neg c22]at H;have c22b0:((t392.length:Int)==(t381.length:Int))=false:=beq_eq_false_iff_ne.mpr c22;have c22b1:((t392.length:Int) !=(t381.length:Int))=true:=bne_iff_ne.mpr c22;(have c22b2:(t392.length==t381.length)=false:=by first|simpa using c22|(simp at c22 ⊢;omega));have H':=a_ H;clear H;have hnb28:=NB395_384.out;have hnc28:=NB384_395.out;have hcz29_0:w17.cell? ⟨gb395,0,none⟩=some (.int .i64 0):=(blk_cell BK395.out 0).trans rfl;have hcz29_1:w17.cell? ⟨gb395,1,none⟩=some (.string (⟨#[]⟩:ByteArray)):=(blk_cell BK395.out 1).trans rfl;have hcz29_2:w17.cell? ⟨gb395,2,none⟩=some (.slice none 0 0):=(blk_cell BK395.out 2).trans rfl;have hfz29_0:=blk_frozen BK395.out 0;have hfz29_1:=blk_frozen BK395.out 1;have hfz29_2:=blk_frozen BK395.out 2;have hcz30_0:w17.cell? ⟨gb384,0,none⟩=some (.int .i64 t379):=(blk_cell BK384.out 0).trans rfl;have hcz30_1:w17.cell? ⟨gb384,1,none⟩=some (.string t380):=(blk_cell BK384.out 1).trans rfl;have hcz30_2:w17.cell? ⟨gb384,2,none⟩=some (.slice Ao15 t381.length co15):=(blk_cell BK384.out 2).trans rfl;have hfz30_0:=blk_frozen BK384.out 0;have hfz30_1:=blk_frozen BK384.out 1;have hfz30_2:=blk_frozen BK384.out 2;go_wp2;go_meet;case rel=>exact⟨_,(true),ls_,H',⟨by first|omega|exact Nat.le_refl _⟩,⟨by(with_reducible repeat(first|apply Kd.R_alloc|apply Kd.R_drewN|apply Kd.R_drew));exact Kd.R_mono (Kd.R_far (p:=⟨gb395,2,none⟩) (Kd.R_far (p:=⟨gb395,1,none⟩) (Kd.R_far (p:=⟨gb395,0,none⟩) (Kd.R_types HO376.out BK395.out (by decide)) (fun _ hk=>hk.2) (.int .i64 t390)) (fun _ hk=>hk.2) (.string t391)) (fun _ hk=>hk.2) (.slice Ao20 t392.length co20)) (fun _ hk=>⟨hk.1.1.1,⟨hk.1.1.2,hk.1.2⟩⟩)⟩,⟨by(with_reducible repeat(first|apply Kd.R_alloc|apply Kd.R_drewN|apply Kd.R_drew));exact Kd.R_mono (Kd.R_far (p:=⟨gb395,2,none⟩) (Kd.R_far (p:=⟨gb395,1,none⟩) (Kd.R_far (p:=⟨gb395,0,none⟩) (Kd.R_types HO378.out BK395.out (by decide)) (fun _ hk=>hk.2) (.int .i64 t390)) (fun _ hk=>hk.2) (.string t391)) (fun _ hk=>hk.2) (.slice Ao20 t392.length co20)) (fun _ hk=>⟨hk.1.1.1,⟨hk.1.1.2,hk.1.2⟩⟩)⟩,⟨by(with_reducible repeat(first|apply Kd.R_alloc|apply Kd.R_drewN|apply Kd.R_drew));exact Kd.R_mono (Kd.R_far (p:=⟨gb395,2,none⟩) (Kd.R_far (p:=⟨gb395,1,none⟩) (Kd.R_far (p:=⟨gb395,0,none⟩) (Kd.R_types HO383.out BK395.out (by decide)) (fun _ hk=>hk.2) (.int .i64 t390)) (fun _ hk=>hk.2) (.string t391)) (fun _ hk=>hk.2) (.slice Ao20 t392.length co20)) (fun _ hk=>⟨hk.1.1.1.2,⟨hk.1.1.2,hk.1.2⟩⟩)⟩,⟨by(with_reducible repeat(first|apply Kd.R_alloc|apply Kd.R_drewN|apply Kd.R_drew));exact Kd.R_mono (Kd.R_far (p:=⟨gb395,2,none⟩) (Kd.R_far (p:=⟨gb395,1,none⟩) (Kd.R_far (p:=⟨gb395,0,none⟩) (Kd.R_types HO394.out BK395.out (by decide)) (fun _ hk=>hk.2) (.int .i64 t390)) (fun _ hk=>hk.2) (.string t391)) (fun _ hk=>hk.2) (.slice Ao20 t392.length co20)) (fun _ hk=>⟨hk.1.1.1.2,⟨hk.1.1.2,hk.1.2⟩⟩)⟩,⟨by(with_reducible repeat(first|refine blk_drewN ?_ _|refine blk_drew ?_|refine blk_alloc ?_ _));refine blk_far ?_ NB384_395.out _;(with_reducible repeat(first|refine blk_drewN ?_ _|refine blk_drew ?_|refine blk_alloc ?_ _));refine blk_far ?_ NB384_395.out _;(with_reducible repeat(first|refine blk_drewN ?_ _|refine blk_drew ?_|refine blk_alloc ?_ _));refine blk_far ?_ NB384_395.out _;(with_reducible repeat(first|refine blk_drewN ?_ _|refine blk_drew ?_|refine blk_alloc ?_ _));exact BK384.out⟩,⟨by(with_reducible repeat(first|refine blk_drewN ?_ _|refine blk_drew ?_|refine blk_alloc ?_ _));refine blk_put (cs:=#[.int .i64 t390,.string t391,.slice none 0 0]) ?_ 2 _ rfl;(with_reducible repeat(first|refine blk_drewN ?_ _|refine blk_drew ?_|refine blk_alloc ?_ _));refine blk_put (cs:=#[.int .i64 t390,.string (⟨#[]⟩:ByteArray),.slice none 0 0]) ?_ 1 _ rfl;(with_reducible repeat(first|refine blk_drewN ?_ _|refine blk_drew ?_|refine blk_alloc ?_ _));refine blk_put (cs:=#[.int .i64 0,.string (⟨#[]⟩:ByteArray),.slice none 0 0]) ?_ 0 _ rfl;(with_reducible repeat(first|refine blk_drewN ?_ _|refine blk_drew ?_|refine blk_alloc ?_ _));exact BK395.out⟩,⟨bw2_ HB.out GE384.out GE395.out⟩⟩);rw[if_pos c22]at H;have c22b0:((t392.length:Int)==(t381.length:Int))=true:=beq_iff_eq.mpr c22;have c22b1:((t392.length:Int) !=(t381.length:Int))=false:=bne_eq_false_iff_eq.mpr c22;(have c22b2:(t392.length==t381.length)=true:=by first|simpa using c22|(simp at c22 ⊢;omega));clear c22;replace H:=Option.bind_eq_some_iff.mp H;obtain⟨t396,A230,H⟩:=H;(try dsimp only at H);have A23:=a_ A230;clear A230;have H':=a_ H;clear H;have hnb24:=NB395_384.out;have hnc24:=NB384_395.out;have hcz25_0:w17.cell? ⟨gb395,0,none⟩=some (.int .i64 0):=(blk_cell BK395.out 0).trans rfl;have hcz25_1:w17.cell? ⟨gb395,1,none⟩=some (.string (⟨#[]⟩:ByteArray)):=(blk_cell BK395.out 1).trans rfl;have hcz25_2:w17.cell? ⟨gb395,2,none⟩=some (.slice none 0 0):=(blk_cell BK395.out 2).trans rfl;have hfz25_0:=blk_frozen BK395.out 0;have hfz25_1:=blk_frozen BK395.out 1;have hfz25_2:=blk_frozen BK395.out 2;have hcz26_0:w17.cell? ⟨gb384,0,none⟩=some (.int .i64 t379):=(blk_cell BK384.out 0).trans rfl;have hcz26_1:w17.cell? ⟨gb384,1,none⟩=some (.string t380):=(blk_cell BK384.out 1).trans rfl;have hcz26_2:w17.cell? ⟨gb384,2,none⟩=some (.slice Ao15 t381.length co15):=(blk_cell BK384.out 2).trans rfl;have hfz26_0:=blk_frozen BK384.out 0;have hfz26_1:=blk_frozen BK384.out 1;have hfz26_2:=blk_frozen BK384.out 2;go_wp2_with (first|(go_at_call 8;(with_reducible refine(impl_StoreFault.calls (hT:=?sideT) k _ _ t381 t396 _ ?side1 ?side2 A23.out).mono ?_);(case sideT=>exact TabW.below HTW.out (bw2_ HB.out GE384.out GE395.out));(case side1=>refine(Kd.R_reads' (e:=32) (base:=w.heap.size) (ok:=fun k_=>(((True∧some k_≠(.slice Ao10 t373.length co10:Value).ownBlock)∧some k_≠(.slice Ao11 t374.length co11:Value).ownBlock)∧some k_≠(.slice Ao20 t392.length co20:Value).ownBlock)) (n:=t381.length) (c:=co15) ?_).2.2;exact(by(with_reducible repeat(first|apply Kd.R_alloc|apply Kd.R_drewN|apply Kd.R_drew));exact(Kd.R_mono (Kd.R_far (p:=⟨gb395,2,none⟩) (Kd.R_far (p:=⟨gb395,1,none⟩) (Kd.R_far (p:=⟨gb395,0,none⟩) (Kd.R_types HO383.out BK395.out (by decide)) (fun _ hk=>hk.2) (.int .i64 t390)) (fun _ hk=>hk.2) (.string t391)) (fun _ hk=>hk.2) (.slice Ao20 t392.length co20)) (fun _ h_=>h_.1))));(case side2=>exact(Kd.R_reads' HO383.out).2.1);rintro e w27 ⟨rfl,hb⟩;replace HO376:=a_ (Kd.R_below (by(with_reducible repeat(first|apply Kd.R_alloc|apply Kd.R_drewN|apply Kd.R_drew));exact(Kd.R_mono (Kd.R_far (p:=⟨gb395,2,none⟩) (Kd.R_far (p:=⟨gb395,1,none⟩) (Kd.R_far (p:=⟨gb395,0,none⟩) (Kd.R_types HO376.out BK395.out (by decide)) (fun _ hk=>hk.2) (.int .i64 t390)) (fun _ hk=>hk.2) (.string t391)) (fun _ hk=>hk.2) (.slice Ao20 t392.length co20)) (fun _ h_=>h_.1))) hb);replace HO378:=a_ (Kd.R_below (by(with_reducible repeat(first|apply Kd.R_alloc|apply Kd.R_drewN|apply Kd.R_drew));exact(Kd.R_mono (Kd.R_far (p:=⟨gb395,2,none⟩) (Kd.R_far (p:=⟨gb395,1,none⟩) (Kd.R_far (p:=⟨gb395,0,none⟩) (Kd.R_types HO378.out BK395.out (by decide)) (fun _ hk=>hk.2) (.int .i64 t390)) (fun _ hk=>hk.2) (.string t391)) (fun _ hk=>hk.2) (.slice Ao20 t392.length co20)) (fun _ h_=>h_.1))) hb);replace HO383:=a_ (Kd.R_below (by(with_reducible repeat(first|apply Kd.R_alloc|apply Kd.R_drewN|apply Kd.R_drew));exact(Kd.R_mono (Kd.R_far (p:=⟨gb395,2,none⟩) (Kd.R_far (p:=⟨gb395,1,none⟩) (Kd.R_far (p:=⟨gb395,0,none⟩) (Kd.R_types HO383.out BK395.out (by decide)) (fun _ hk=>hk.2) (.int .i64 t390)) (fun _ hk=>hk.2) (.string t391)) (fun _ hk=>hk.2) (.slice Ao20 t392.length co20)) (fun _ h_=>h_.1))) hb);replace HO394:=a_ (Kd.R_below (by(with_reducible repeat(first|apply Kd.R_alloc|apply Kd.R_drewN|apply Kd.R_drew));exact(Kd.R_mono (Kd.R_far (p:=⟨gb395,2,none⟩) (Kd.R_far (p:=⟨gb395,1,none⟩) (Kd.R_far (p:=⟨gb395,0,none⟩) (Kd.R_types HO394.out BK395.out (by decide)) (fun _ hk=>hk.2) (.int .i64 t390)) (fun _ hk=>hk.2) (.string t391)) (fun _ hk=>hk.2) (.slice Ao20 t392.length co20)) (fun _ h_=>h_.1))) hb);replace BK384:=a_ (blk_below (g:=gb384) (o:=.cells #[.int .i64 t379,.string t380,.slice Ao15 t381.length co15] 28 (0,0)) (by(with_reducible repeat(first|refine blk_drewN ?_ _|refine blk_drew ?_|refine blk_alloc ?_ _));refine blk_far ?_ NB384_395.out _;(with_reducible repeat(first|refine blk_drewN ?_ _|refine blk_drew ?_|refine blk_alloc ?_ _));refine blk_far ?_ NB384_395.out _;(with_reducible repeat(first|refine blk_drewN ?_ _|refine blk_drew ?_|refine blk_alloc ?_ _));refine blk_far ?_ NB384_395.out _;(with_reducible repeat(first|refine blk_drewN ?_ _|refine blk_drew ?_|refine blk_alloc ?_ _));exact BK384.out) hb);replace BK395:=a_ (blk_below (g:=gb395) (o:=.cells #[.int .i64 t390,.string t391,.slice Ao20 t392.length co20] 28 (0,0)) (by(with_reducible repeat(first|refine blk_drewN ?_ _|refine blk_drew ?_|refine blk_alloc ?_ _));refine blk_put (cs:=#[.int .i64 t390,.string t391,.slice none 0 0]) ?_ 2 _ rfl;(with_reducible repeat(first|refine blk_drewN ?_ _|refine blk_drew ?_|refine blk_alloc ?_ _));refine blk_put (cs:=#[.int .i64 t390,.string (⟨#[]⟩:ByteArray),.slice none 0 0]) ?_ 1 _ rfl;(with_reducible repeat(first|refine blk_drewN ?_ _|refine blk_drew ?_|refine blk_alloc ?_ _));refine blk_put (cs:=#[.int .i64 0,.string (⟨#[]⟩:ByteArray),.slice none 0 0]) ?_ 0 _ rfl;(with_reducible repeat(first|refine blk_drewN ?_ _|refine blk_drew ?_|refine blk_alloc ?_ _));exact BK395.out) hb);replace HB:=a_ (below_step (bw2_ HB.out GE384.out GE395.out) hb);(try clear hb);(try clear hb2);(try clear hk);(try clear hi)));go_meet;case rel=>exact⟨_,((t396 !=0)),ls_,H',⟨by first|omega|exact Nat.le_refl _⟩,⟨by(with_reducible repeat(first|apply Kd.R_alloc|apply Kd.R_drewN|apply Kd.R_drew));exact Kd.R_mono HO376.out (fun _ hk=>⟨hk.1.1,⟨hk.1.2,hk.2⟩⟩)⟩,⟨by(with_reducible repeat(first|apply Kd.R_alloc|apply Kd.R_drewN|apply Kd.R_drew));exact Kd.R_mono HO378.out (fun _ hk=>⟨hk.1.1,⟨hk.1.2,hk.2⟩⟩)⟩,⟨by(with_reducible repeat(first|apply Kd.R_alloc|apply Kd.R_drewN|apply Kd.R_drew));exact Kd.R_mono HO383.out (fun _ hk=>⟨hk.1.1.2,⟨hk.1.2,hk.2⟩⟩)⟩,⟨by(with_reducible repeat(first|apply Kd.R_alloc|apply Kd.R_drewN|apply Kd.R_drew));exact Kd.R_mono HO394.out (fun _ hk=>⟨hk.1.1.2,⟨hk.1.2,hk.2⟩⟩)⟩,⟨rb_ BK384.out⟩,⟨rb_ BK395.out⟩,⟨bw2_ HB.out GE384.out GE395.out⟩⟩
 case rest=>
  clear HC8;(try clear c1);(try clear c2);(try clear p2);(try clear c3);(try clear c4);(try clear c5);(try clear c6);(try clear c6b0);(try clear c6b1);(try clear c18);(try clear c21);(try clear c21b0);(try clear c21b1);(try clear c22);(try clear c22b0);(try clear c22b1);(try clear c22b2);(try clear c24);(try clear c28);(try clear c31);(try clear hcz14_0);(try clear hcz14_1);(try clear hcz14_2);(try clear hcz19_0);(try clear hcz19_1);(try clear hcz19_2);(try clear hcz25_0);(try clear hcz25_1);(try clear hcz25_2);(try clear hcz26_0);(try clear hcz26_1);(try clear hcz26_2);(try clear hcz29_0);(try clear hcz29_1);(try clear hcz29_2);(try clear hcz30_0);(try clear hcz30_1);(try clear hcz30_2);(try clear hcz32_0);(try clear hcz32_1);(try clear hcz32_2);(try clear hfz14_0);(try clear hfz14_1);(try clear hfz14_2);(try clear hfz19_0);(try clear hfz19_1);(try clear hfz19_2);(try clear hfz25_0);(try clear hfz25_1);(try clear hfz25_2);(try clear hfz26_0);(try clear hfz26_1);(try clear hfz26_2);(try clear hfz29_0);(try clear hfz29_1);(try clear hfz29_2);(try clear hfz30_0);(try clear hfz30_1);(try clear hfz30_2);(try clear hfz32_0);(try clear hfz32_1);(try clear hfz32_2);obtain⟨kq,x49_7,rfl,HA,HJ7,HO_3,HO_4,HO_385002,HO_396002,BK384,BK395,HB⟩:=hcut
  cases kq with
  |zero=>exact absurd HA.out (by simp[laws_FnStoreMerges.j0])
  |succ kj7=>
   have H:=HA.out;clear HA;simp only[laws_FnStoreMerges.j0]at H;by_cases c33:x49_7=true;(·subst c33;(have H1:(some false)=some r:=by rw[if_pos rfl]at H;exact H);clear H;have H:=H1;clear H1;exact absurd ((Option.some.inj H).trans HLAW.out) (by decide));replace c33:=Bool.eq_false_iff.mpr c33;subst c33;(have H1:(laws_FnStoreMerges.l0 kj7 t373 t374 0 t379 t380 t381 t390 t391 t392)=some r:=by rw[if_neg (show¬(false=true)by decide)]at H;exact H);clear H;have H:=H1;clear H1;have H':=a_ H;clear H;go_wp2;go_loopg [7] kj7 (fun kq v7 w'=>∃(x7_2:Int),v7=.int .i64 x7_2∧Aside0 (laws_FnStoreMerges.l0 kq t373 t374 x7_2 t379 t380 t381 t390 t391 t392=some r)∧Aside0 (kq≤kj7)∧Aside0 (Kd.R k32 32 w' w.heap.size (fun k_=>some k_≠((.slice Ao11 t374.length co11):Value).ownBlock∧some k_≠((.slice Ao15 t381.length co15):Value).ownBlock∧some k_≠((.slice Ao20 t392.length co20):Value).ownBlock) (.slice Ao10 t373.length co10) t373)∧Aside0 (Kd.R k32 32 w' w.heap.size (fun k_=>some k_≠((.slice Ao10 t373.length co10):Value).ownBlock∧some k_≠((.slice Ao15 t381.length co15):Value).ownBlock∧some k_≠((.slice Ao20 t392.length co20):Value).ownBlock) (.slice Ao11 t374.length co11) t374)∧Aside0 (Kd.R k32 32 w' w.heap.size (fun k_=>some k_≠((.slice Ao10 t373.length co10):Value).ownBlock∧some k_≠((.slice Ao11 t374.length co11):Value).ownBlock∧some k_≠((.slice Ao20 t392.length co20):Value).ownBlock) (.slice Ao15 t381.length co15) t381)∧Aside0 (Kd.R k32 32 w' w.heap.size (fun k_=>some k_≠((.slice Ao10 t373.length co10):Value).ownBlock∧some k_≠((.slice Ao11 t374.length co11):Value).ownBlock∧some k_≠((.slice Ao15 t381.length co15):Value).ownBlock) (.slice Ao20 t392.length co20) t392)∧Aside0 (w'.heap[gb384]?=some (.cells #[.int .i64 t379,.string t380,(.slice Ao15 t381.length co15)] 28 (0,0)))∧Aside0 (w'.heap[gb395]?=some (.cells #[.int .i64 t390,.string t391,(.slice Ao20 t392.length co20)] 28 (0,0)))∧Aside0 (Below w.heap.size w w'));(case atStart=>exact⟨(0),ls_,H',⟨Nat.le_refl _⟩,⟨rr_ HO_3.out⟩,⟨rr_ HO_4.out⟩,⟨rr_ HO_385002.out⟩,⟨rr_ HO_396002.out⟩,⟨rb_ BK384.out⟩,⟨rb_ BK395.out⟩,⟨bw2_ HB.out GE384.out GE395.out⟩⟩)
   case round=>
    clear H';(try clear c1);(try clear c2);(try clear p2);(try clear c3);(try clear c4);(try clear c5);(try clear c6);(try clear c6b0);(try clear c6b1);(try clear c18);(try clear c21);(try clear c21b0);(try clear c21b1);(try clear c22);(try clear c22b0);(try clear c22b1);(try clear c22b2);(try clear c24);(try clear c28);(try clear c31);(try clear c33);(try clear hcz14_0);(try clear hcz14_1);(try clear hcz14_2);(try clear hcz19_0);(try clear hcz19_1);(try clear hcz19_2);(try clear hcz25_0);(try clear hcz25_1);(try clear hcz25_2);(try clear hcz26_0);(try clear hcz26_1);(try clear hcz26_2);(try clear hcz29_0);(try clear hcz29_1);(try clear hcz29_2);(try clear hcz30_0);(try clear hcz30_1);(try clear hcz30_2);(try clear hcz32_0);(try clear hcz32_1);(try clear hcz32_2);(try clear hfz14_0);(try clear hfz14_1);(try clear hfz14_2);(try clear hfz19_0);(try clear hfz19_1);(try clear hfz19_2);(try clear hfz25_0);(try clear hfz25_1);(try clear hfz25_2);(try clear hfz26_0);(try clear hfz26_1);(try clear hfz26_2);(try clear hfz29_0);(try clear hfz29_1);(try clear hfz29_2);(try clear hfz30_0);(try clear hfz30_1);(try clear hfz30_2);(try clear hfz32_0);(try clear hfz32_1);(try clear hfz32_2);(try clear p2);obtain⟨x7_2,rfl,HA,HK2,HO_3,HO_4,HO_385002,HO_396002,BK384,BK395,HB⟩:=hrel
    cases gk with
    |zero=>exact absurd HA.out (by simp[laws_FnStoreMerges.l0])
    |succ k2=>
     have H:=HA.out;clear HA;simp only[laws_FnStoreMerges.l0]at H;by_cases c34:x7_2<(t381.length:Int);(·rw[if_pos c34]at H;have c34b0:=decide_eq_true c34;clear c34;obtain⟨c35,Hq⟩:=if_ H;clear H;have H:=Hq;clear Hq;have c35b0:=decide_eq_true c35;clear c35;obtain⟨c36,Hq⟩:=if_ H;clear H;have H:=Hq;clear Hq;have c36b0:=decide_eq_true c36;clear c36;by_cases c37:(!((((rd_T32 t381 x7_2).f0).toList)==(((rd_T32 t392 x7_2).f0).toList)) ||(!(((rd_T32 t381 x7_2).f1)==((rd_T32 t392 x7_2).f1)) ||(!((((rd_T32 t381 x7_2).f2).toList)==(((rd_T32 t392 x7_2).f2).toList)))))=true;(·rw[if_pos c37]at H;have c37b0:(!((((rd_T32 t381 x7_2).f0).toList)==(((rd_T32 t392 x7_2).f0).toList)) ||(!(((rd_T32 t381 x7_2).f1)==((rd_T32 t392 x7_2).f1)) ||(!((((rd_T32 t381 x7_2).f2).toList)==(((rd_T32 t392 x7_2).f2).toList)))))=true:=c37;clear c37;exact absurd ((Option.some.inj H).trans HLAW.out) (by decide));rw[if_neg c37]at H;(have c37b0:(!((((rd_T32 t381 x7_2).f0).toList)==(((rd_T32 t392 x7_2).f0).toList)) ||(!(((rd_T32 t381 x7_2).f1)==((rd_T32 t392 x7_2).f1)) ||(!((((rd_T32 t381 x7_2).f2).toList)==(((rd_T32 t392 x7_2).f2).toList)))))=false:=by simpa using c37);clear c37;have H':=a_ H;clear H;have hnb38:=NB384_395.out;have hnc38:=NB395_384.out;have hcz39_0:wr.cell? ⟨gb384,0,none⟩=some (.int .i64 t379):=(blk_cell BK384.out 0).trans rfl;have hcz39_1:wr.cell? ⟨gb384,1,none⟩=some (.string t380):=(blk_cell BK384.out 1).trans rfl;have hcz39_2:wr.cell? ⟨gb384,2,none⟩=some (.slice Ao15 t381.length co15):=(blk_cell BK384.out 2).trans rfl;have hfz39_0:=blk_frozen BK384.out 0;have hfz39_1:=blk_frozen BK384.out 1;have hfz39_2:=blk_frozen BK384.out 2;(try go_wp2);replace HO_3:=a_ (Kd.R_drew HO_3.out);replace HO_4:=a_ (Kd.R_drew HO_4.out);replace HO_385002:=a_ (Kd.R_drew HO_385002.out);replace HO_396002:=a_ (Kd.R_drew HO_396002.out);replace BK384:=a_ (blk_drew BK384.out);replace BK395:=a_ (blk_drew BK395.out);replace HB:=a_ (below_drew1 HB.out);have p397:0≤(x7_2:Int):=od_;have q397:x7_2<(t381.length:Int):=od_;obtain⟨ad397,e397,hx397_0,hx397_1,hx397_2⟩:=at_T32 (Kd.R_reads' HO_385002.out).2.2 x7_2 p397 q397;cases e397;replace p397:=eq_true p397;replace q397:=eq_true q397;have p398:0≤(x7_2:Int):=od_;have q398:x7_2<(t392.length:Int):=od_;obtain⟨ad398,e398,hx398_0,hx398_1,hx398_2⟩:=at_T32 (Kd.R_reads' HO_396002.out).2.2 x7_2 p398 q398;cases e398;replace p398:=eq_true p398;replace q398:=eq_true q398;refine start_ (n:=11) (S:=fun w'=>w'.cell? ⟨gb384,0,none⟩=some (.int .i64 t379)∧w'.cell? ⟨gb384,1,none⟩=some (.string t380)∧w'.cell? ⟨gb384,2,none⟩=some (.slice (some ad397) t381.length co15)∧w'.cell? ⟨gb395,0,none⟩=some (.int .i64 t390)∧w'.cell? ⟨gb395,1,none⟩=some (.string t391)∧w'.cell? ⟨gb395,2,none⟩=some (.slice (some ad398) t392.length co20)∧w'.cell? (ad397.add ((x7_2).toNat*3))=some (.string ((rd_T32 t381 x7_2).f0))∧w'.cell? ⟨(ad397.add ((x7_2).toNat*3)).block,(ad397.add ((x7_2).toNat*3)).off+1,none⟩=some (.int .i64 ((rd_T32 t381 x7_2).f1))∧w'.cell? ⟨(ad397.add ((x7_2).toNat*3)).block,(ad397.add ((x7_2).toNat*3)).off+2,none⟩=some (.string ((rd_T32 t381 x7_2).f2))∧w'.cell? (ad398.add ((x7_2).toNat*3))=some (.string ((rd_T32 t392 x7_2).f0))∧w'.cell? ⟨(ad398.add ((x7_2).toNat*3)).block,(ad398.add ((x7_2).toNat*3)).off+1,none⟩=some (.int .i64 ((rd_T32 t392 x7_2).f1))∧w'.cell? ⟨(ad398.add ((x7_2).toNat*3)).block,(ad398.add ((x7_2).toNat*3)).off+2,none⟩=some (.string ((rd_T32 t392 x7_2).f2))) (ds:=[]) (mb_ 11 0) (by kernel_rfl) rfl rfl ⟨(blk_cell BK384.out 0).trans rfl,(blk_cell BK384.out 1).trans rfl,(blk_cell BK384.out 2).trans rfl,(blk_cell BK395.out 0).trans rfl,(blk_cell BK395.out 1).trans rfl,(blk_cell BK395.out 2).trans rfl,hx397_0,hx397_1,hx397_2,hx398_0,hx398_1,hx398_2⟩ (fun hHeld=>?_);refine with_tabW laws_FnStoreMerges.tab13 laws_FnStoreMerges.bits13 (fun HT_ HW_=>?_);generalize wr.drew=w40 at HO_3 HO_4 HO_385002 HO_396002 BK384 BK395 HB hx397_0 hx397_1 hx397_2 hx398_0 hx398_1 hx398_2 hHeld ⊢;refine pure_ (i:=0) (N:=some 57) (v:=?_) (a':=?_) (mb_ 11 1) rfl rfl (any_of HT_.out (by kernel_rfl)) (fun _ _ _ h=>h) (Or.inl ⟨by rfl,?_⟩) ?_ ?_;rotate_left;(·intro w';go_simp;first|with_reducible rfl|(simp only[hfd28_0,hfd28_1,hfd28_2,hfd32_0,hfd32_1,hfd32_2,hfd34_0,hfd34_1];with_reducible rfl));rotate_left;(·simp only[Act.put,s0_,s1_,s2_,i64_w,i32_w];rfl);refine pure_ (i:=2) (N:=some 59) (v:=?_) (a':=?_) (mb_ 11 5) rfl rfl (any_of HT_.out (by kernel_rfl)) (fun _ _ _ h=>h) (Or.inl ⟨by rfl,?_⟩) ?_ ?_;rotate_left;(·intro w';go_simp;first|with_reducible rfl|(simp only[hfd28_0,hfd28_1,hfd28_2,hfd32_0,hfd32_1,hfd32_2,hfd34_0,hfd34_1];with_reducible rfl));rotate_left;(·simp only[Act.put,s0_,s1_,s2_,i64_w,i32_w];rfl);refine pure_ (i:=5) (N:=some 62) (v:=?_) (a':=?_) (mb_ 11 37) rfl rfl (any_of HT_.out (by kernel_rfl)) (fun _ _ _ h=>h) (Or.inl ⟨by rfl,?_⟩) ?_ ?_;rotate_left;(·intro w';go_simp;first|with_reducible rfl|(simp only[hfd28_0,hfd28_1,hfd28_2,hfd32_0,hfd32_1,hfd32_2,hfd34_0,hfd34_1];with_reducible rfl));rotate_left;(·simp only[Act.put,s0_,s1_,s2_,i64_w,i32_w];rfl);refine pure_ (i:=7) (N:=some 64) (v:=?_) (a':=?_) (mb_ 11 165) rfl rfl (any_of HT_.out (by kernel_rfl)) (fun _ _ _ h=>h) (Or.inl ⟨by rfl,?_⟩) ?_ ?_;rotate_left;(·intro w';go_simp;first|with_reducible rfl|(simp only[hfd28_0,hfd28_1,hfd28_2,hfd32_0,hfd32_1,hfd32_2,hfd34_0,hfd34_1];with_reducible rfl));rotate_left;(·simp only[Act.put,s0_,s1_,s2_,i64_w,i32_w];rfl);refine take_ (i:=1) (N:=some 58) (v:=?_) (a':=?_) (mb_ 11 167) rfl rfl (take_ofW HT_.out HW_.out (by kernel_rfl)) (fun _ _ _ h=>h) (Or.inl ⟨by rfl,?_⟩) hHeld ?_ ?_;rotate_left;(·rintro w' ⟨s0,s1,s2,s3,s4,s5,s6,s7,s8,s9,s10,s11⟩;go_simp;first|with_reducible rfl|(simp only[hfd28_0,hfd28_1,hfd28_2,hfd32_0,hfd32_1,hfd32_2,hfd34_0,hfd34_1];with_reducible rfl));rotate_left;(·simp only[Act.put,s0_,s1_,s2_,i64_w,i32_w];rfl);refine pure_ (i:=3) (N:=some 60) (v:=?_) (a':=?_) (mb_ 11 175) rfl rfl (any_of HT_.out (by kernel_rfl)) (fun _ _ _ h=>h) (Or.inl ⟨by rfl,?_⟩) ?_ ?_;rotate_left;(·intro w';go_simp;first|with_reducible rfl|(simp only[hfd28_0,hfd28_1,hfd28_2,hfd32_0,hfd32_1,hfd32_2,hfd34_0,hfd34_1];with_reducible rfl));rotate_left;(·simp only[Act.put,s0_,s1_,s2_,i64_w,i32_w];rfl);refine take_ (i:=4) (N:=some 61) (v:=?_) (a':=?_) (mb_ 11 191) rfl rfl (take_ofW HT_.out HW_.out (by kernel_rfl)) (fun _ _ _ h=>h) (Or.inl ⟨by rfl,?_⟩) hHeld ?_ ?_;rotate_left;(·rintro w' ⟨s0,s1,s2,s3,s4,s5,s6,s7,s8,s9,s10,s11⟩;go_simp;first|with_reducible rfl|(simp only[hfd28_0,hfd28_1,hfd28_2,hfd32_0,hfd32_1,hfd32_2,hfd34_0,hfd34_1];with_reducible rfl));rotate_left;(·simp only[Act.put,s0_,s1_,s2_,i64_w,i32_w];rfl);refine take_ (i:=6) (N:=some 63) (v:=?_) (a':=?_) (mb_ 11 255) rfl rfl (take_ofW HT_.out HW_.out (by kernel_rfl)) (fun _ _ _ h=>h) (Or.inl ⟨by rfl,?_⟩) hHeld ?_ ?_;rotate_left;(·rintro w' ⟨s0,s1,s2,s3,s4,s5,s6,s7,s8,s9,s10,s11⟩;go_simp;first|with_reducible rfl|(simp only[hfd28_0,hfd28_1,hfd28_2,hfd32_0,hfd32_1,hfd32_2,hfd34_0,hfd34_1];with_reducible rfl));rotate_left;(·simp only[Act.put,s0_,s1_,s2_,i64_w,i32_w];rfl);refine pure_ (i:=8) (N:=some 65) (v:=?_) (a':=?_) (mb_ 11 511) rfl rfl (any_of HT_.out (by kernel_rfl)) (fun _ _ _ h=>h) (Or.inl ⟨by rfl,?_⟩) ?_ ?_;rotate_left;(·intro w';go_simp;first|with_reducible rfl|(simp only[hfd28_0,hfd28_1,hfd28_2,hfd32_0,hfd32_1,hfd32_2,hfd34_0,hfd34_1];with_reducible rfl));rotate_left;(·simp only[Act.put,s0_,s1_,s2_,i64_w,i32_w];rfl);refine take_ (i:=9) (N:=some 66) (v:=?_) (a':=?_) (mb_ 11 1023) rfl rfl (take_ofW HT_.out HW_.out (by kernel_rfl)) (fun _ _ _ h=>h) (Or.inl ⟨by rfl,?_⟩) hHeld ?_ ?_;rotate_left;(·rintro w' ⟨s0,s1,s2,s3,s4,s5,s6,s7,s8,s9,s10,s11⟩;go_simp;first|with_reducible rfl|(simp only[hfd28_0,hfd28_1,hfd28_2,hfd32_0,hfd32_1,hfd32_2,hfd34_0,hfd34_1];with_reducible rfl));rotate_left;(·simp only[Act.put,s0_,s1_,s2_,i64_w,i32_w];rfl);refine pure_ (i:=10) (N:=some 67) (v:=?_) (a':=?_) (mb_ 11 2047) rfl rfl (any_of HT_.out (by kernel_rfl)) (fun _ _ _ h=>h) (Or.inl ⟨by rfl,?_⟩) ?_ ?_;rotate_left;(·intro w';go_simp;first|with_reducible rfl|(simp only[hfd28_0,hfd28_1,hfd28_2,hfd32_0,hfd32_1,hfd32_2,hfd34_0,hfd34_1];with_reducible rfl));rotate_left;(·simp only[Act.put,s0_,s1_,s2_,i64_w,i32_w];rfl);refine done_ (done_of HT_.out (by kernel_rfl)) ?_;(try go_wp2);go_roundg k2;(case measure=>have:=HJ7.out;have:=HK2.out;omega);case rel=>exact⟨(wrap64 (x7_2+1)),ls_,H',⟨by have:=HJ7.out;have:=HK2.out;omega⟩,⟨rr_ HO_3.out⟩,⟨rr_ HO_4.out⟩,⟨rr_ HO_385002.out⟩,⟨rr_ HO_396002.out⟩,⟨rb_ BK384.out⟩,⟨rb_ BK395.out⟩,⟨bw2_ HB.out GE384.out GE395.out⟩⟩);rw[if_neg c34]at H;have c34b0:=decide_eq_false c34;clear c34;have H':=a_ H;clear H;have hnb41:=NB384_395.out;have hnc41:=NB395_384.out;have hcz42_0:wr.cell? ⟨gb384,0,none⟩=some (.int .i64 t379):=(blk_cell BK384.out 0).trans rfl;have hcz42_1:wr.cell? ⟨gb384,1,none⟩=some (.string t380):=(blk_cell BK384.out 1).trans rfl;have hcz42_2:wr.cell? ⟨gb384,2,none⟩=some (.slice Ao15 t381.length co15):=(blk_cell BK384.out 2).trans rfl;have hfz42_0:=blk_frozen BK384.out 0;have hfz42_1:=blk_frozen BK384.out 1;have hfz42_2:=blk_frozen BK384.out 2;go_wp2;go_loopg [8] k2 (fun kq v8 w'=>∃(x8_3:Int),v8=.int .i64 x8_3∧Aside0 (laws_FnStoreMerges.l1 kq t373 t374 x8_3 t379 t380 t381=some r)∧Aside0 (kq≤k2)∧Aside0 (Kd.R k32 32 w' w.heap.size (fun k_=>some k_≠((.slice Ao11 t374.length co11):Value).ownBlock∧some k_≠((.slice Ao15 t381.length co15):Value).ownBlock∧some k_≠((.slice Ao20 t392.length co20):Value).ownBlock) (.slice Ao10 t373.length co10) t373)∧Aside0 (Kd.R k32 32 w' w.heap.size (fun k_=>some k_≠((.slice Ao10 t373.length co10):Value).ownBlock∧some k_≠((.slice Ao15 t381.length co15):Value).ownBlock∧some k_≠((.slice Ao20 t392.length co20):Value).ownBlock) (.slice Ao11 t374.length co11) t374)∧Aside0 (Kd.R k32 32 w' w.heap.size (fun k_=>some k_≠((.slice Ao10 t373.length co10):Value).ownBlock∧some k_≠((.slice Ao11 t374.length co11):Value).ownBlock∧some k_≠((.slice Ao20 t392.length co20):Value).ownBlock) (.slice Ao15 t381.length co15) t381)∧Aside0 (Kd.R k32 32 w' w.heap.size (fun k_=>some k_≠((.slice Ao10 t373.length co10):Value).ownBlock∧some k_≠((.slice Ao11 t374.length co11):Value).ownBlock∧some k_≠((.slice Ao15 t381.length co15):Value).ownBlock) (.slice Ao20 t392.length co20) t392)∧Aside0 (w'.heap[gb384]?=some (.cells #[.int .i64 t379,.string t380,(.slice Ao15 t381.length co15)] 28 (0,0)))∧Aside0 (w'.heap[gb395]?=some (.cells #[.int .i64 t390,.string t391,(.slice Ao20 t392.length co20)] 28 (0,0)))∧Aside0 (Below w.heap.size w w'));(case atStart=>exact⟨(0),ls_,H',⟨Nat.le_refl _⟩,⟨rr_ HO_3.out⟩,⟨rr_ HO_4.out⟩,⟨rr_ HO_385002.out⟩,⟨rr_ HO_396002.out⟩,⟨rb_ BK384.out⟩,⟨rb_ BK395.out⟩,⟨bw2_ HB.out GE384.out GE395.out⟩⟩)
     case round=>
      clear H';(try clear c1);(try clear c2);(try clear p2);(try clear c3);(try clear p3);(try clear q3);(try clear hx3);(try clear c4);(try clear c5);(try clear c6);(try clear c6b0);(try clear c6b1);(try clear p6);(try clear c18);(try clear c21);(try clear c21b0);(try clear c21b1);(try clear c22);(try clear c22b0);(try clear c22b1);(try clear c22b2);(try clear c24);(try clear c28);(try clear c31);(try clear c33);(try clear c34);(try clear c34b0);(try clear c35);(try clear c35b0);(try clear c36);(try clear c36b0);(try clear c37);(try clear c37b0);(try clear c38);(try clear p39);(try clear q39);(try clear hx39);(try clear c41);(try clear hcz14_0);(try clear hcz14_1);(try clear hcz14_2);(try clear hcz19_0);(try clear hcz19_1);(try clear hcz19_2);(try clear hcz25_0);(try clear hcz25_1);(try clear hcz25_2);(try clear hcz26_0);(try clear hcz26_1);(try clear hcz26_2);(try clear hcz29_0);(try clear hcz29_1);(try clear hcz29_2);(try clear hcz30_0);(try clear hcz30_1);(try clear hcz30_2);(try clear hcz32_0);(try clear hcz32_1);(try clear hcz32_2);(try clear hcz39_0);(try clear hcz39_1);(try clear hcz39_2);(try clear hcz42_0);(try clear hcz42_1);(try clear hcz42_2);(try clear hfz14_0);(try clear hfz14_1);(try clear hfz14_2);(try clear hfz19_0);(try clear hfz19_1);(try clear hfz19_2);(try clear hfz25_0);(try clear hfz25_1);(try clear hfz25_2);(try clear hfz26_0);(try clear hfz26_1);(try clear hfz26_2);(try clear hfz29_0);(try clear hfz29_1);(try clear hfz29_2);(try clear hfz30_0);(try clear hfz30_1);(try clear hfz30_2);(try clear hfz32_0);(try clear hfz32_1);(try clear hfz32_2);(try clear hfz39_0);(try clear hfz39_1);(try clear hfz39_2);(try clear hfz42_0);(try clear hfz42_1);(try clear hfz42_2);(try clear hx397_0);(try clear hx397_1);(try clear hx397_2);(try clear hx398_0);(try clear hx398_1);(try clear hx398_2);(try clear p2);(try clear p397);(try clear p398);(try clear q397);(try clear q398);obtain⟨x8_3,rfl,HA,HK3,HO_3,HO_4,HO_385002,HO_396002,BK384,BK395,HB⟩:=hrel
      cases gk with
      |zero=>exact absurd HA.out (by simp[laws_FnStoreMerges.l1])
      |succ k3=>
       have H:=HA.out;clear HA;simp only[laws_FnStoreMerges.l1]at H;by_cases c43:x8_3<(t374.length:Int);rotate_left;(·rw[if_neg c43]at H;have c43b0:=decide_eq_false c43;clear c43;by_cases c49:(t381.length:Int)≥(t373.length:Int);rotate_left;(·rw[if_neg c49]at H;have c49b0:decide ((t373.length:Int)≤(t381.length:Int))=false:=decide_eq_false c49;have c49b1:decide (t373.length≤t381.length)=false:=decide_eq_false (fun h=>c49 (Int.ofNat_le.mpr h));clear c49;exact absurd ((Option.some.inj H).trans HLAW.out) (by decide));rw[if_pos c49]at H;have c49b0:decide ((t373.length:Int)≤(t381.length:Int))=true:=decide_eq_true c49;have c49b1:decide (t373.length≤t381.length)=true:=decide_eq_true (Int.ofNat_le.mp c49);clear c49;obtain rfl:=Option.some.inj H;have hnb50:=NB384_395.out;have hnc50:=NB395_384.out;have hcz51_0:wr.cell? ⟨gb384,0,none⟩=some (.int .i64 t379):=(blk_cell BK384.out 0).trans rfl;have hcz51_1:wr.cell? ⟨gb384,1,none⟩=some (.string t380):=(blk_cell BK384.out 1).trans rfl;have hcz51_2:wr.cell? ⟨gb384,2,none⟩=some (.slice Ao15 t381.length co15):=(blk_cell BK384.out 2).trans rfl;have hfz51_0:=blk_frozen BK384.out 0;have hfz51_1:=blk_frozen BK384.out 1;have hfz51_2:=blk_frozen BK384.out 2;go_wp2;go_ret;exact⟨by first|rfl|(simp[errW_none,errW_some]<;>rfl)|(simp[*,errW_none,errW_some]<;>rfl),bw2_ HB.out GE384.out GE395.out⟩);rw[if_pos c43]at H;have c43b0:=decide_eq_true c43;clear c43;obtain⟨c44,Hq⟩:=if_ H;clear H;have H:=Hq;clear Hq;have c44b0:=decide_eq_true c44;clear c44;replace H:=Option.bind_eq_some_iff.mp H;obtain⟨⟨t401,t402,t403,t404⟩,A450,H⟩:=H;(try dsimp only at H);have A45:=a_ A450;clear A450;by_cases c46:t404.toList=((rd_T32 t374 x8_3).f2).toList;rotate_left;(·rw[if_neg c46]at H;have c46b0:(t404.toList==((rd_T32 t374 x8_3).f2).toList)=false:=beq_eq_false_iff_ne.mpr c46;have c46b1:(t404.toList !=((rd_T32 t374 x8_3).f2).toList)=true:=bne_iff_ne.mpr c46;exact absurd ((Option.some.inj H).trans HLAW.out) (by decide));rw[if_pos c46]at H;have c46b0:(t404.toList==((rd_T32 t374 x8_3).f2).toList)=true:=beq_iff_eq.mpr c46;have c46b1:(t404.toList !=((rd_T32 t374 x8_3).f2).toList)=false:=bne_eq_false_iff_eq.mpr c46;clear c46;have H':=a_ H;clear H;(try go_wp2);replace HO_3:=a_ (Kd.R_drew HO_3.out);replace HO_4:=a_ (Kd.R_drew HO_4.out);replace HO_385002:=a_ (Kd.R_drew HO_385002.out);replace HO_396002:=a_ (Kd.R_drew HO_396002.out);replace BK384:=a_ (blk_drew BK384.out);replace BK395:=a_ (blk_drew BK395.out);replace HB:=a_ (below_drew1 HB.out);have p399:0≤(x8_3:Int):=od_;have q399:x8_3<(t374.length:Int):=od_;obtain⟨ad399,e399,hx399_0,hx399_1,hx399_2⟩:=at_T32 (Kd.R_reads' HO_4.out).2.2 x8_3 p399 q399;cases e399;replace p399:=eq_true p399;replace q399:=eq_true q399;have p400:0≤(x8_3:Int):=od_;have q400:x8_3<(t374.length:Int):=od_;obtain⟨ad400,e400,hx400_0,hx400_1,hx400_2⟩:=at_T32 (Kd.R_reads' HO_4.out).2.2 x8_3 p400 q400;obtain rfl:ad399=ad400:=(by injection e400);replace p400:=eq_true p400;replace q400:=eq_true q400;have p405:0≤(x8_3:Int):=od_;have q405:x8_3<(t374.length:Int):=od_;obtain⟨ad405,e405,hx405_0,hx405_1,hx405_2⟩:=at_T32 (Kd.R_reads' HO_4.out).2.2 x8_3 p405 q405;obtain rfl:ad399=ad405:=(by injection e405);replace p405:=eq_true p405;replace q405:=eq_true q405;refine start_ (n:=21) (S:=fun w'=>w'.cell? ⟨gb384,0,none⟩=some (.int .i64 t379)∧w'.cell? ⟨gb384,1,none⟩=some (.string t380)∧w'.cell? ⟨gb384,2,none⟩=some (.slice Ao15 t381.length co15)∧w'.cell? (ad399.add ((x8_3).toNat*3))=some (.string ((rd_T32 t374 x8_3).f0))∧w'.cell? ⟨(ad399.add ((x8_3).toNat*3)).block,(ad399.add ((x8_3).toNat*3)).off+1,none⟩=some (.int .i64 ((rd_T32 t374 x8_3).f1))∧w'.cell? ⟨(ad399.add ((x8_3).toNat*3)).block,(ad399.add ((x8_3).toNat*3)).off+2,none⟩=some (.string ((rd_T32 t374 x8_3).f2))∧w'.cell? (ad399.add ((x8_3).toNat*3))=some (.string ((rd_T32 t374 x8_3).f0))∧w'.cell? ⟨(ad399.add ((x8_3).toNat*3)).block,(ad399.add ((x8_3).toNat*3)).off+1,none⟩=some (.int .i64 ((rd_T32 t374 x8_3).f1))∧w'.cell? ⟨(ad399.add ((x8_3).toNat*3)).block,(ad399.add ((x8_3).toNat*3)).off+2,none⟩=some (.string ((rd_T32 t374 x8_3).f2))∧w'.cell? (ad399.add ((x8_3).toNat*3))=some (.string ((rd_T32 t374 x8_3).f0))∧w'.cell? ⟨(ad399.add ((x8_3).toNat*3)).block,(ad399.add ((x8_3).toNat*3)).off+1,none⟩=some (.int .i64 ((rd_T32 t374 x8_3).f1))∧w'.cell? ⟨(ad399.add ((x8_3).toNat*3)).block,(ad399.add ((x8_3).toNat*3)).off+2,none⟩=some (.string ((rd_T32 t374 x8_3).f2))) (ds:=[]) (mb_ 21 0) (by kernel_rfl) rfl rfl ⟨(blk_cell BK384.out 0).trans rfl,(blk_cell BK384.out 1).trans rfl,(blk_cell BK384.out 2).trans rfl,hx399_0,hx399_1,hx399_2,hx400_0,hx400_1,hx400_2,hx405_0,hx405_1,hx405_2⟩ (fun hHeld=>?_);refine with_tabW laws_FnStoreMerges.tab18 laws_FnStoreMerges.bits18 (fun HT_ HW_=>?_);generalize wr.drew=w47 at HO_3 HO_4 HO_385002 HO_396002 BK384 BK395 HB hx399_0 hx399_1 hx399_2 hx400_0 hx400_1 hx400_2 hx405_0 hx405_1 hx405_2 hHeld ⊢;refine pure_ (i:=0) (N:=some 74) (v:=?_) (a':=?_) (mb_ 21 1) rfl rfl (any_of HT_.out (by kernel_rfl)) (fun _ _ _ h=>h) (Or.inl ⟨by rfl,?_⟩) ?_ ?_;rotate_left;(·intro w';go_simp;first|with_reducible rfl|(simp only[hfd28_0,hfd28_1,hfd28_2,hfd32_0,hfd32_1,hfd32_2,hfd34_0,hfd34_1];with_reducible rfl));rotate_left;(·simp only[Act.put,s0_,s1_,s2_,i64_w,i32_w];rfl);refine pure_ (i:=2) (N:=some 76) (v:=?_) (a':=?_) (mb_ 21 5) rfl rfl (any_of HT_.out (by kernel_rfl)) (fun _ _ _ h=>h) (Or.inl ⟨by rfl,?_⟩) ?_ ?_;rotate_left;(·intro w';go_simp;first|with_reducible rfl|(simp only[hfd28_0,hfd28_1,hfd28_2,hfd32_0,hfd32_1,hfd32_2,hfd34_0,hfd34_1];with_reducible rfl));rotate_left;(·simp only[Act.put,s0_,s1_,s2_,i64_w,i32_w];rfl);refine pure_ (i:=3) (N:=some 77) (v:=?_) (a':=?_) (mb_ 21 13) rfl rfl (any_of HT_.out (by kernel_rfl)) (fun _ _ _ h=>h) (Or.inl ⟨by rfl,?_⟩) ?_ ?_;rotate_left;(·intro w';go_simp;first|with_reducible rfl|(simp only[hfd28_0,hfd28_1,hfd28_2,hfd32_0,hfd32_1,hfd32_2,hfd34_0,hfd34_1];with_reducible rfl));rotate_left;(·simp only[Act.put,s0_,s1_,s2_,i64_w,i32_w];rfl);refine pure_ (i:=4) (N:=some 78) (v:=?_) (a':=?_) (mb_ 21 29) rfl rfl (any_of HT_.out (by kernel_rfl)) (fun _ _ _ h=>h) (Or.inl ⟨by rfl,?_⟩) ?_ ?_;rotate_left;(·intro w';go_simp;first|with_reducible rfl|(simp only[hfd28_0,hfd28_1,hfd28_2,hfd32_0,hfd32_1,hfd32_2,hfd34_0,hfd34_1];with_reducible rfl));rotate_left;(·simp only[Act.put,s0_,s1_,s2_,i64_w,i32_w];rfl);refine pure_ (i:=5) (N:=some 79) (v:=?_) (a':=?_) (mb_ 21 61) rfl rfl (any_of HT_.out (by kernel_rfl)) (fun _ _ _ h=>h) (Or.inl ⟨by rfl,?_⟩) ?_ ?_;rotate_left;(·intro w';go_simp;first|with_reducible rfl|(simp only[hfd28_0,hfd28_1,hfd28_2,hfd32_0,hfd32_1,hfd32_2,hfd34_0,hfd34_1];with_reducible rfl));rotate_left;(·simp only[Act.put,s0_,s1_,s2_,i64_w,i32_w];rfl);refine pure_ (i:=7) (N:=some 81) (v:=?_) (a':=?_) (mb_ 21 189) rfl rfl (any_of HT_.out (by kernel_rfl)) (fun _ _ _ h=>h) (Or.inl ⟨by rfl,?_⟩) ?_ ?_;rotate_left;(·intro w';go_simp;first|with_reducible rfl|(simp only[hfd28_0,hfd28_1,hfd28_2,hfd32_0,hfd32_1,hfd32_2,hfd34_0,hfd34_1];with_reducible rfl));rotate_left;(·simp only[Act.put,s0_,s1_,s2_,i64_w,i32_w];rfl);refine pure_ (i:=8) (N:=some 82) (v:=?_) (a':=?_) (mb_ 21 445) rfl rfl (any_of HT_.out (by kernel_rfl)) (fun _ _ _ h=>h) (Or.inl ⟨by rfl,?_⟩) ?_ ?_;rotate_left;(·intro w';go_simp;first|with_reducible rfl|(simp only[hfd28_0,hfd28_1,hfd28_2,hfd32_0,hfd32_1,hfd32_2,hfd34_0,hfd34_1];with_reducible rfl));rotate_left;(·simp only[Act.put,s0_,s1_,s2_,i64_w,i32_w];rfl);refine pure_ (i:=9) (N:=some 83) (v:=?_) (a':=?_) (mb_ 21 957) rfl rfl (any_of HT_.out (by kernel_rfl)) (fun _ _ _ h=>h) (Or.inl ⟨by rfl,?_⟩) ?_ ?_;rotate_left;(·intro w';go_simp;first|with_reducible rfl|(simp only[hfd28_0,hfd28_1,hfd28_2,hfd32_0,hfd32_1,hfd32_2,hfd34_0,hfd34_1];with_reducible rfl));rotate_left;(·simp only[Act.put,s0_,s1_,s2_,i64_w,i32_w];rfl);refine pure_ (i:=10) (N:=some 84) (v:=?_) (a':=?_) (mb_ 21 1981) rfl rfl (any_of HT_.out (by kernel_rfl)) (fun _ _ _ h=>h) (Or.inl ⟨by rfl,?_⟩) ?_ ?_;rotate_left;(·intro w';go_simp;first|with_reducible rfl|(simp only[hfd28_0,hfd28_1,hfd28_2,hfd32_0,hfd32_1,hfd32_2,hfd34_0,hfd34_1];with_reducible rfl));rotate_left;(·simp only[Act.put,s0_,s1_,s2_,i64_w,i32_w];rfl);refine pure_ (i:=15) (N:=some 89) (v:=?_) (a':=?_) (mb_ 21 34749) rfl rfl (any_of HT_.out (by kernel_rfl)) (fun _ _ _ h=>h) (Or.inl ⟨by rfl,?_⟩) ?_ ?_;rotate_left;(·intro w';go_simp;first|with_reducible rfl|(simp only[hfd28_0,hfd28_1,hfd28_2,hfd32_0,hfd32_1,hfd32_2,hfd34_0,hfd34_1];with_reducible rfl));rotate_left;(·simp only[Act.put,s0_,s1_,s2_,i64_w,i32_w];rfl);refine pure_ (i:=16) (N:=some 90) (v:=?_) (a':=?_) (mb_ 21 100285) rfl rfl (any_of HT_.out (by kernel_rfl)) (fun _ _ _ h=>h) (Or.inl ⟨by rfl,?_⟩) ?_ ?_;rotate_left;(·intro w';go_simp;first|with_reducible rfl|(simp only[hfd28_0,hfd28_1,hfd28_2,hfd32_0,hfd32_1,hfd32_2,hfd34_0,hfd34_1];with_reducible rfl));rotate_left;(·simp only[Act.put,s0_,s1_,s2_,i64_w,i32_w];rfl);refine pure_ (i:=17) (N:=some 91) (v:=?_) (a':=?_) (mb_ 21 231357) rfl rfl (any_of HT_.out (by kernel_rfl)) (fun _ _ _ h=>h) (Or.inl ⟨by rfl,?_⟩) ?_ ?_;rotate_left;(·intro w';go_simp;first|with_reducible rfl|(simp only[hfd28_0,hfd28_1,hfd28_2,hfd32_0,hfd32_1,hfd32_2,hfd34_0,hfd34_1];with_reducible rfl));rotate_left;(·simp only[Act.put,s0_,s1_,s2_,i64_w,i32_w];rfl);refine pure_ (i:=18) (N:=some 92) (v:=?_) (a':=?_) (mb_ 21 493501) rfl rfl (any_of HT_.out (by kernel_rfl)) (fun _ _ _ h=>h) (Or.inl ⟨by rfl,?_⟩) ?_ ?_;rotate_left;(·intro w';go_simp;first|with_reducible rfl|(simp only[hfd28_0,hfd28_1,hfd28_2,hfd32_0,hfd32_1,hfd32_2,hfd34_0,hfd34_1];with_reducible rfl));rotate_left;(·simp only[Act.put,s0_,s1_,s2_,i64_w,i32_w];rfl);refine take_ (i:=1) (N:=some 75) (v:=?_) (a':=?_) (mb_ 21 493503) rfl rfl (take_ofW HT_.out HW_.out (by kernel_rfl)) (fun _ _ _ h=>h) (Or.inl ⟨by rfl,?_⟩) hHeld ?_ ?_;rotate_left;(·rintro w' ⟨s0,s1,s2,s3,s4,s5,s6,s7,s8,s9,s10,s11⟩;go_simp;first|with_reducible rfl|(simp only[hfd28_0,hfd28_1,hfd28_2,hfd32_0,hfd32_1,hfd32_2,hfd34_0,hfd34_1];with_reducible rfl));rotate_left;(·simp only[Act.put,s0_,s1_,s2_,i64_w,i32_w];rfl);refine take_ (i:=6) (N:=some 80) (v:=?_) (a':=?_) (mb_ 21 493567) rfl rfl (take_ofW HT_.out HW_.out (by kernel_rfl)) (fun _ _ _ h=>h) (Or.inl ⟨by rfl,?_⟩) hHeld ?_ ?_;rotate_left;(·rintro w' ⟨s0,s1,s2,s3,s4,s5,s6,s7,s8,s9,s10,s11⟩;go_simp;first|with_reducible rfl|(simp only[hfd28_0,hfd28_1,hfd28_2,hfd32_0,hfd32_1,hfd32_2,hfd34_0,hfd34_1];with_reducible rfl));rotate_left;(·simp only[Act.put,s0_,s1_,s2_,i64_w,i32_w];rfl);refine take_ (i:=11) (N:=some 85) (v:=?_) (a':=?_) (mb_ 21 495615) rfl rfl (take_ofW HT_.out HW_.out (by kernel_rfl)) (fun _ _ _ h=>h) (Or.inl ⟨by rfl,?_⟩) hHeld ?_ ?_;rotate_left;(·rintro w' ⟨s0,s1,s2,s3,s4,s5,s6,s7,s8,s9,s10,s11⟩;go_simp;first|with_reducible rfl|(simp only[hfd28_0,hfd28_1,hfd28_2,hfd32_0,hfd32_1,hfd32_2,hfd34_0,hfd34_1];with_reducible rfl));rotate_left;(·simp only[Act.put,s0_,s1_,s2_,i64_w,i32_w];rfl);refine take_ (i:=19) (N:=some 93) (v:=?_) (a':=?_) (mb_ 21 1019903) rfl rfl (take_ofW HT_.out HW_.out (by kernel_rfl)) (fun _ _ _ h=>h) (Or.inl ⟨by rfl,?_⟩) hHeld ?_ ?_;rotate_left;(·rintro w' ⟨s0,s1,s2,s3,s4,s5,s6,s7,s8,s9,s10,s11⟩;go_simp;first|with_reducible rfl|(simp only[hfd28_0,hfd28_1,hfd28_2,hfd32_0,hfd32_1,hfd32_2,hfd34_0,hfd34_1];with_reducible rfl));rotate_left;(·simp only[Act.put,s0_,s1_,s2_,i64_w,i32_w];rfl);refine one_ (i:=12) (N:=some 86) (mb_ 21 1023999) rfl rfl (one_of HT_.out (by kernel_rfl)) (by decide) (fun K hK=>?_);refine goes_ Tryd.func9 (by kernel_rfl) rfl #[.slice Ao15 t381.length co15,.int .i64 ((rd_T32 t374 x8_3).f1),.string ((rd_T32 t374 x8_3).f0)] (by rfl) rfl rfl lf_ ?_;(with_reducible refine(impl_GetObject.calls (hT:=?sideT) k3 _ _ t381 ((rd_T32 t374 x8_3).f1) ((rd_T32 t374 x8_3).f0) t401 t402 t403 t404 _ ?side1 ?side2 A45.out).mono ?_);(case sideT=>exact TabW.below HTW.out (bw2_ HB.out GE384.out GE395.out));(case side1=>exact rc_ (Kd.R_reads' HO_385002.out).2.2);(case side2=>exact(Kd.R_reads' HO_385002.out).2.1);rintro e w48 ⟨rfl,hb⟩;have HS3_:=(hb.cell (World.block_lt_of_cell? _ _ (hHeld.2.2.2.1))).trans (hHeld.2.2.2.1);have HS4_:=(hb.cell (World.block_lt_of_cell? _ _ (hHeld.2.2.2.2.1))).trans (hHeld.2.2.2.2.1);have HS5_:=(hb.cell (World.block_lt_of_cell? _ _ (hHeld.2.2.2.2.2.1))).trans (hHeld.2.2.2.2.2.1);have HS6_:=(hb.cell (World.block_lt_of_cell? _ _ (hHeld.2.2.2.2.2.2.1))).trans (hHeld.2.2.2.2.2.2.1);have HS7_:=(hb.cell (World.block_lt_of_cell? _ _ (hHeld.2.2.2.2.2.2.2.1))).trans (hHeld.2.2.2.2.2.2.2.1);have HS8_:=(hb.cell (World.block_lt_of_cell? _ _ (hHeld.2.2.2.2.2.2.2.2.1))).trans (hHeld.2.2.2.2.2.2.2.2.1);have HS9_:=(hb.cell (World.block_lt_of_cell? _ _ (hHeld.2.2.2.2.2.2.2.2.2.1))).trans (hHeld.2.2.2.2.2.2.2.2.2.1);have HS10_:=(hb.cell (World.block_lt_of_cell? _ _ (hHeld.2.2.2.2.2.2.2.2.2.2.1))).trans (hHeld.2.2.2.2.2.2.2.2.2.2.1);have HS11_:=(hb.cell (World.block_lt_of_cell? _ _ (hHeld.2.2.2.2.2.2.2.2.2.2.2))).trans (hHeld.2.2.2.2.2.2.2.2.2.2.2);refine⟨_,rfl,?_⟩;replace HO_3:=a_ (Kd.R_below (rr_ HO_3.out) hb);replace HO_4:=a_ (Kd.R_below (rr_ HO_4.out) hb);replace HO_385002:=a_ (Kd.R_below (rr_ HO_385002.out) hb);replace HO_396002:=a_ (Kd.R_below (rr_ HO_396002.out) hb);replace BK384:=a_ (bb_ BK384.out hb);replace BK395:=a_ (bb_ BK395.out hb);replace HB:=a_ (below_step (bw2_ HB.out GE384.out GE395.out) hb);(try clear hb);(try clear hb2);(try clear hk);(try clear hi);refine hK.out _ _ ⟨(blk_cell BK384.out 0).trans rfl,(blk_cell BK384.out 1).trans rfl,(blk_cell BK384.out 2).trans rfl,HS3_,HS4_,HS5_,HS6_,HS7_,HS8_,HS9_,HS10_,HS11_⟩ (fun hHeld=>?_);clear hK K;refine norm_ (a':=?_) ?_ ?_;rotate_left;(·show Act.put _ (some 86) _=_;simp only[Act.put,s0_,s1_,s2_,i64_w,i32_w];rfl);refine pure_ (i:=13) (N:=some 87) (v:=?_) (a':=?_) (mb_ 21 1032191) rfl rfl (any_of HT_.out (by kernel_rfl)) (fun _ _ _ h=>h) (Or.inl ⟨by rfl,?_⟩) ?_ ?_;rotate_left;(·intro w';go_simp;first|with_reducible rfl|(simp only[hfd28_0,hfd28_1,hfd28_2,hfd32_0,hfd32_1,hfd32_2,hfd34_0,hfd34_1];with_reducible rfl));rotate_left;(·simp only[Act.put,s0_,s1_,s2_,i64_w,i32_w];rfl);refine pure_ (i:=14) (N:=some 88) (v:=?_) (a':=?_) (mb_ 21 1048575) rfl rfl (any_of HT_.out (by kernel_rfl)) (fun _ _ _ h=>h) (Or.inl ⟨by rfl,?_⟩) ?_ ?_;rotate_left;(·intro w';go_simp;first|with_reducible rfl|(simp only[hfd28_0,hfd28_1,hfd28_2,hfd32_0,hfd32_1,hfd32_2,hfd34_0,hfd34_1];with_reducible rfl));rotate_left;(·simp only[Act.put,s0_,s1_,s2_,i64_w,i32_w];rfl);refine pure_ (i:=20) (N:=some 94) (v:=?_) (a':=?_) (mb_ 21 2097151) rfl rfl (any_of HT_.out (by kernel_rfl)) (fun _ _ _ h=>h) (Or.inl ⟨by rfl,?_⟩) ?_ ?_;rotate_left;(·intro w';go_simp;first|with_reducible rfl|(simp only[hfd28_0,hfd28_1,hfd28_2,hfd32_0,hfd32_1,hfd32_2,hfd34_0,hfd34_1];with_reducible rfl));rotate_left;(·simp only[Act.put,s0_,s1_,s2_,i64_w,i32_w];rfl);refine done_ (done_of HT_.out (by kernel_rfl)) ?_;(try go_wp2);go_roundg k3;(case measure=>have:=HJ7.out;have:=HK2.out;have:=HK3.out;omega);case rel=>exact⟨(wrap64 (x8_3+1)),ls_,H',⟨by have:=HJ7.out;have:=HK2.out;have:=HK3.out;omega⟩,⟨rr_ HO_3.out⟩,⟨rr_ HO_4.out⟩,⟨rr_ HO_385002.out⟩,⟨rr_ HO_396002.out⟩,⟨rb_ BK384.out⟩,⟨rb_ BK395.out⟩,⟨bw2_ HB.out GE384.out GE395.out⟩⟩
end Go.Proofs.YthckhdhbmgecfaaDoor.P
end
section
set_option linter.unusedVariables false
namespace Go.Proofs.YthckhdhbmgecfaaDoor.P
open Go.RowKit Go.Proofs.YthckhdhbmgecfaaDoorW.PrintWords Go.Proofs.YthckhdhbmgecfaaDoorW.PrintLast
namespace UFnStoreMerges
def Pure:Prop:=∀(l0:List Int),(l0.length≤9223372036854775807∧∀x∈l0,(Lit.int .u8 x).wf=true)→∃k,laws_FnStoreMerges.f k l0=some true
end UFnStoreMerges
end Go.Proofs.YthckhdhbmgecfaaDoor.P
end
section
set_option linter.unusedVariables false
set_option linter.unusedSimpArgs false
namespace Go.Proofs.YthckhdhbmgecfaaDoor.P
open Go.RowKit Go.Proofs.YthckhdhbmgecfaaDoorW.PrintWords Go.Proofs.YthckhdhbmgecfaaDoorW.PrintLast
theorem wid{x:Int}(h0: -9223372036854775808≤x)(h1:x≤9223372036854775807):wrap64 x=x:=by
 unfold wrap64;omega
theorem wsucc{i n:Nat}(h:i<n)(hn:n≤9223372036854775807):wrap64 ((i:Int)+1)=((i+1:Nat):Int):=by
 rw[wid (by omega) (by omega)];rfl
theorem Ev_if{α:Type}{c:Prop}[Decidable c]{a b:Nat→Option α}{r:α}(hp:c→Ev a r)(hn:¬c→Ev b r):Ev (fun k=>if c then a k else b k) r:=by
 by_cases h:c;(·exact(hp h).congr (fun k=>if_pos h));exact(hn h).congr (fun k=>if_neg h)
theorem Ev_pos{α:Type}{c:Prop}[Decidable c]{a b:Nat→Option α}{r:α}(hc:c)(h:Ev a r):Ev (fun k=>if c then a k else b k) r:=h.congr (fun k=>if_pos hc)
theorem Ev_neg{α:Type}{c:Prop}[Decidable c]{a b:Nat→Option α}{r:α}(hc:¬c)(h:Ev b r):Ev (fun k=>if c then a k else b k) r:=h.congr (fun k=>if_neg hc)
theorem Ev_call{α β:Type}{g:Nat→Option α}{f:Nat→α→Option β}{a:α}{r:β}(h:Ev g a)(k:Ev (fun n=>f n a) r):Ev (fun n=>(g n).bind (f n)) r:=Ev.bind h k
theorem Ev_const{α β:Type}{g:Option α}{f:Nat→α→Option β}{a:α}{r:β}(h:g=some a)(k:Ev (fun n=>f n a) r):Ev (fun n=>g.bind (f n)) r:=
  Ev.bind (g:=fun _=>g) ⟨0,fun _ _=>h⟩ k
theorem Ev_eq{α:Type}{g:Nat→Option α}{r r':α}(h:Ev g r)(e:r=r'):Ev g r':=e▸h
theorem Ev_val{α:Type}{r r':α}(h:r=r'):Ev (fun _=>some r) r':=⟨0,fun _ _=>by rw[h]⟩
theorem rd_nat{α:Type}(d:α){xs:List α}{i:Nat}(h:i<xs.length):rdOf d xs (i:Int)=xs[i]:=by
 unfold rdOf;rw[Int.toNat_natCast,List.getD_eq_getElem?_getD,List.getElem?_eq_getElem h];rfl
theorem rdi_nat{xs:List Int}{i:Nat}(h:i<xs.length):rd xs (i:Int)=xs[i]:=by
 unfold rd;rw[Int.toNat_natCast,List.getD_eq_getElem?_getD,List.getElem?_eq_getElem h];rfl
theorem bt_nat{s:ByteArray}{i:Nat}(h:i<s.data.toList.length):bt s (i:Int)=((s.data.toList[i]).toNat:Int):=by
 (have h':i<s.size:=by simpa using h);unfold bt;rw[dif_pos (by rw[Int.toNat_natCast];exact h')];simp[ByteArray.getElem_eq_getElem_data]
theorem data_eq{a b:ByteArray}:a.toList=b.toList↔a=b:=by
 rw[ByteArray.toList_eq,ByteArray.toList_eq];constructor;rotate_left;(·rintro rfl;rfl);intro h;cases a;cases b;simpa using h
theorem toList_nil{a:ByteArray}:a.toList=([]:List UInt8)↔a.data.toList=[]:=by rw[ByteArray.toList_eq]
theorem size_data(a:ByteArray):a.data.toList.length=a.size:=by simp
theorem drop_at{α:Type}{xs:List α}{i:Nat}(h:i<xs.length):xs.drop i=xs[i]::xs.drop (i+1):=List.drop_eq_getElem_cons h
def total:List ByteArray→Nat
  |[]=>0
  |x::l=>x.size+total l
end Go.Proofs.YthckhdhbmgecfaaDoor.P
end
section
set_option linter.unusedVariables false
set_option linter.unusedSimpArgs false
namespace Go.Proofs.YthckhdhbmgecfaaDoor.P
open Go.RowKit
theorem index_low(l:List UInt8)(c:UInt8): -1≤Lib.indexByte l c:=by
 induction l with
 |nil=>simp[Lib.indexByte]
 |cons b l ih=>
  unfold Lib.indexByte;split;(·omega);split;(·omega);omega
end Go.Proofs.YthckhdhbmgecfaaDoor.P
end
section
set_option linter.unusedVariables false
set_option linter.unusedSimpArgs false
namespace Go.Proofs.YthckhdhbmgecfaaDoor.P
open Go.RowKit Go.Proofs.YthckhdhbmgecfaaDoorW.PrintWords Go.Proofs.YthckhdhbmgecfaaDoorW.PrintLast
def pieces:List UInt8→List UInt8→List (List UInt8)
  |cur,[]=>[cur]
  |cur,b::l=>if b=10 then(cur++[b])::pieces [] l else pieces (cur++[b]) l
def linesL:List UInt8→List UInt8→List (List UInt8)
  |cur,[]=>if cur=[]then[]else[cur]
  |cur,b::l=>if b=10 then(cur++[b])::linesL [] l else linesL (cur++[b]) l
def toB(l:List UInt8):ByteArray:=⟨l.toArray⟩
theorem toB_data(s:ByteArray):toB s.data.toList=s:=by cases s;simp[toB]
theorem data_toB(l:List UInt8):(toB l).data.toList=l:=by simp[toB]
def LNB(s:ByteArray):List ByteArray:=(linesL [] s.data.toList).map toB
theorem extract_data(s:ByteArray)(a b:Nat):(s.extract a b).data.toList=(s.data.toList.drop a).take (b-a):=by
 rw[ByteArray.data_extract,Array.toList_extract,List.extract_eq_take_drop]
theorem extract_toB(s:ByteArray)(a b:Nat):s.extract a b=toB ((s.data.toList.drop a).take (b-a)):=by
 rw[←extract_data,toB_data]
theorem take_more{l:List UInt8}{f i:Nat}(hf:f≤i)(hi:i<l.length):(l.drop f).take (i+1-f)=(l.drop f).take (i-f)++[l[i]]:=by
 (have e:i+1-f=(i-f)+1:=by omega);rw[e,List.take_add_one,List.getElem?_drop];(have e2:f+(i-f)=i:=by omega);rw[e2,List.getElem?_eq_getElem hi];rfl
theorem split_loop(s:ByteArray)(hs:s.size≤1048576):∀(d i f:Nat) (out:List ByteArray),s.size-i=d→i≤s.size→f≤i→out.length≤f →
    Ev (fun k=>spec_l1Split.l0 k s out (f:Int) (i:Int)) (out++(linesL ((s.data.toList.drop f).take (i-f)) (s.data.toList.drop i)).map toB):=by
 intro d
 induction d with
 |zero=>
  intro i f out hd hi hf ho;(have hi':i=s.size:=by omega);subst hi';refine Ev.step (fun k=>by rw[spec_l1Split.l0]) ?_;refine Ev_neg (by omega) ?_;rw[List.drop_eq_nil_of_le (Nat.le_of_eq (size_data s)),linesL];refine Ev_if (fun h=>?_) (fun h=>?_);rotate_left;(·refine Ev_val ?_;(have:f=s.size:=by omega);subst this;rw[if_pos (by simp)];simp);refine Ev_pos (by omega) (Ev_pos (by omega) (Ev_pos (by omega) (Ev_val ?_)));(have e1:((f:Int)).toNat=f:=by omega);rw[extract_toB,if_neg (fun e=>?_)];(·rfl);have:=congrArg List.length e;simp only[List.length_take,List.length_drop,size_data,List.length_nil]at this;omega
 |succ d ih=>
  intro i f out hd hi hf ho;(have hlt:i<s.data.toList.length:=by rw[size_data];omega);refine Ev.step (fun k=>by rw[spec_l1Split.l0]) (Ev_pos (by omega) (Ev_pos (by omega) ?_));rw[bt_nat hlt,drop_at hlt,wsucc (n:=s.size) (by omega) (by omega)];rw[linesL,←take_more hf hlt];refine Ev_if (fun h=>?_) (fun h=>?_);rotate_left;(·(have:¬s.data.toList[i]=10:=fun e=>h (by rw[e];rfl));rw[if_neg this];exact ih (i+1) f out (by omega) (by omega) (by omega) ho);(have hb:s.data.toList[i]=10:=by apply UInt8.toNat_inj.1;(have h2:s.data.toList[i].toNat=10:=by omega);exact h2);refine Ev_pos (by omega) (Ev_pos (by omega) (Ev_pos (by omega) (Ev_pos (by omega) ?_)));rw[if_pos hb];refine Ev_eq (ih (i+1) (i+1) _ (by omega) (by omega) (Nat.le_refl _) (by rw[List.length_append,List.length_singleton];omega)) ?_;(have e1:((f:Int)).toNat=f:=by omega);(have e2:(((i+1:Nat):Int)).toNat=i+1:=by omega);rw[e1,e2,extract_toB,Nat.sub_self,List.take_zero,List.append_assoc];rfl
theorem split_tells(s:ByteArray)(hs:s.size≤1048576):Ev (fun k=>spec_l1Split.f k s) (LNB s):=by
 unfold spec_l1Split.f;have h:=split_loop s hs _ 0 0 [] rfl (by omega) (by omega) (by simp);rw[List.drop_zero,Nat.sub_self,List.take_zero]at h;exact h
def ahead(cur:List UInt8):List (List UInt8)→List (List UInt8)
  |[]=>[cur]
  |x::r=>(cur++x)::r
theorem pieces_ne(cur l:List UInt8):pieces cur l≠[]:=by
 induction l generalizing cur with
 |nil=>simp[pieces]
 |cons b l ih=>
  rw[pieces];split;(·simp);exact ih _
theorem ahead_ahead(a b:List UInt8){xs:List (List UInt8)}(h:xs≠[]):ahead a (ahead b xs)=ahead (a++b) xs:=by
 cases xs with
 |nil=>exact absurd rfl h
 |cons x r=>simp[ahead]
theorem pieces_cur(cur l:List UInt8):pieces cur l=ahead cur (pieces [] l):=by
 induction l generalizing cur with
 |nil=>simp[pieces,ahead]
 |cons b l ih=>
  rw[pieces,pieces];by_cases h:b=10;(·rw[if_pos h,if_pos h];simp[ahead]);rw[if_neg h,if_neg h,ih (cur++[b]),ih ([]++[b]),ahead_ahead _ _ (pieces_ne _ _)];rfl
theorem splitK_cons(b:UInt8)(l:List UInt8)(h:b≠10)(k:Nat):Lib.splitK [10] 1 k (b::l)=ahead [b] (Lib.splitK [10] 1 k l):=by
 cases k with
 |zero=>rfl
 |succ k=>
  have hge:=index_low l 10;(have e:Lib.indexByte (b::l) 10=if Lib.indexByte l 10<0 then -1 else Lib.indexByte l 10+1:=by rw[Lib.indexByte];simp only[beq_iff_eq,h,if_false];by_cases q:Lib.indexByte l 10= -1;(·rw[if_pos q,if_pos (by omega)]);rw[if_neg q,if_neg (by omega)]);rw[Lib.splitK,Lib.splitK,Lib.index_one,Lib.index_one,e];by_cases hn:Lib.indexByte l 10<0;(·(have e2:Lib.indexByte l 10= -1:=by omega);rw[if_pos hn,e2,if_pos (beq_self_eq_true _),if_pos (beq_self_eq_true _)];rfl);rw[if_neg hn,if_neg (fun q=>by have:=beq_iff_eq.1 q;omega),if_neg (fun q=>by have:=beq_iff_eq.1 q;omega)];obtain⟨o,ho⟩:∃o:Nat,Lib.indexByte l 10=(o:Int):=⟨(Lib.indexByte l 10).toNat,by omega⟩;rw[ho];(have e3:((o:Int)+1).toNat=o+1:=by omega);(have e4:((o:Int)).toNat=o:=by omega);rw[e3,e4];rfl
theorem splitK_pieces(l:List UInt8):Lib.splitK [10] 1 (l.count 10) l=pieces [] l:=by
 induction l with
 |nil=>rfl
 |cons b l ih=>
  rw[pieces];by_cases h:b=10;rotate_left;(·rw[if_neg h,List.count_cons_of_ne (fun e=>h e),splitK_cons b l h,ih];exact(pieces_cur [b] l).symm);subst h;rw[if_pos rfl,List.count_cons_self,Lib.splitK,Lib.index_one];(have e:Lib.indexByte (10::l) 10=0:=by rw[Lib.indexByte];simp);rw[e,if_neg (by decide)];show _::Lib.splitK [10] 1 (l.count 10) l=_;rw[ih];rfl
theorem pieces_lines(cur l:List UInt8):∃p ps,pieces cur l=ps++[p]∧linesL cur l=if p=[]then ps else ps++[p]:=by
 induction l generalizing cur with
 |nil=>
  refine⟨cur,[],rfl,?_⟩;simp[linesL]
 |cons b l ih=>
  rw[pieces,linesL];by_cases h:b=10;rotate_left;(·rw[if_neg h,if_neg h];exact ih _);rw[if_pos h,if_pos h];obtain⟨p,ps,e1,e2⟩:=ih [];refine⟨p,(cur++[b])::ps,by rw[e1];rfl,?_⟩;rw[e2];split<;>rfl
theorem linesOf_tells(s:ByteArray)(hs:s.size≤1048576):impl_linesOf.f s=some (LNB s):=by
 (have e1:strings_SplitAfter.f s (⟨#[10]⟩:ByteArray)=some ((pieces [] s.data.toList).map toB):=by unfold strings_SplitAfter.f;(have:strings_genSplit.f s (⟨#[10]⟩:ByteArray) (((⟨#[10]⟩:ByteArray).size:Nat):Int) (-1)=some ((pieces [] s.data.toList).map toB):=by unfold strings_genSplit.f;show(if s.size<4294967281∧(1:Int)=1∧(-1:Int)= -1 then some (Lib.splitB ⟨⟨[10]⟩⟩ 1 (Lib.countB s ⟨⟨[10]⟩⟩) s)else none)=_;rw[if_pos ⟨by omega,rfl,rfl⟩];congr 1;have h:=Lib.splitB_data ⟨⟨[10]⟩⟩ 1 (Lib.countB s ⟨⟨[10]⟩⟩) s;have e0:Lib.countB s ⟨⟨[10]⟩⟩=s.data.toList.count 10:=Lib.count_one 10 s.data.toList;rw[e0]at h ⊢;have h2:=h.trans (splitK_pieces s.data.toList);rw[←h2,List.map_map];have:(toB ∘ fun x:ByteArray=>x.data.toList)=id:=funext toB_data;rw[this,List.map_id]);rw[this];rfl);unfold impl_linesOf.f;rw[e1];obtain⟨p,ps,e2,e3⟩:=pieces_lines [] s.data.toList;show(if 0≤wrap64 ((((pieces [] s.data.toList).map toB).length:Int)-1)then _ else none)=_;(have hl:((pieces [] s.data.toList).map toB).length=ps.length+1:=by rw[e2];simp)
 have hle:ps.length≤s.size:=by
  have h1:∀(cur l:List UInt8),(pieces cur l).length≤l.length+1:=by
   intro cur l
   induction l generalizing cur with
   |nil=>simp[pieces]
   |cons b l ih=>
    rw[pieces];split;(·have:=ih [];simp only[List.length_cons];omega);have:=ih (cur++[b]);simp only[List.length_cons];omega
  have:=h1 [] s.data.toList;rw[List.length_map]at hl;rw[hl,size_data]at this;omega
 rw[hl];(have ew:wrap64 (((ps.length+1:Nat):Int)-1)=(ps.length:Int):=by rw[wid (by omega) (by omega)];omega);rw[ew,if_pos (by omega),if_pos (by omega)];(have hlt:ps.length<((pieces [] s.data.toList).map toB).length:=by omega);rw[rd_nat _ hlt];(have hget:((pieces [] s.data.toList).map toB)[ps.length]=toB p:=by simp[e2]);rw[hget];(have hq:(toB p).toList=([]:List UInt8)↔p=[]:=by rw[toList_nil,data_toB]);unfold LNB;rw[e3];by_cases hp:p=[];rotate_left;(·rw[if_neg (fun e=>hp (hq.1 e)),if_neg hp,e2]);rw[if_pos (hq.2 hp),if_pos (by omega),if_pos hp,e2];(have:((ps.length:Int)).toNat=ps.length:=by omega);rw[this];simp
def TF(a0:ByteArray):Int:=if(a0.size:Int)>2000 then 2 else if((LNB a0).length:Int)>100 then 2 else 0
theorem stf_tells(a0:ByteArray)(hs:a0.size≤1048576):Ev (fun k=>spec_TextFault.f k a0) (TF a0):=by
 unfold spec_TextFault.f TF;refine Ev_if (fun h1=>by rw[if_pos h1];exact Ev.now _) (fun h1=>?_);rw[if_neg h1];refine Ev_call (split_tells a0 hs) (Ev_if (fun h2=>by rw[if_pos h2];exact Ev.now _) (fun h2=>by rw[if_neg h2];exact Ev.now _))
theorem itf_tells(a0:ByteArray)(hs:a0.size≤1048576):impl_TextFault.f a0=some (TF a0):=by
 unfold impl_TextFault.f TF;by_cases h1:(a0.size:Int)>2000;(·rw[if_pos h1,if_pos h1]);rw[if_neg h1,if_neg h1,linesOf_tells a0 hs];by_cases h2:((LNB a0).length:Int)>100;(·rw[if_pos h2];exact if_pos h2);rw[if_neg h2];exact if_neg h2
end Go.Proofs.YthckhdhbmgecfaaDoor.P
end
section
namespace Go.Proofs.YthckhdhbmgecfaaDoor.P
open Go.RowKit
theorem wsucc'{i:Nat}(hn:i<9223372036854775807):wrap64 ((i:Int)+1)=((i+1:Nat):Int):=by
 rw[wid (by omega) (by omega)];omega
theorem wpred{i:Nat}(hn:i≤9223372036854775807):wrap64 (((i+1:Nat):Int)-1)=(i:Int):=by
 rw[wid (by omega) (by omega)];omega
end Go.Proofs.YthckhdhbmgecfaaDoor.P
end
section
set_option linter.unusedVariables false
set_option linter.unusedSimpArgs false
namespace Go.Proofs.YthckhdhbmgecfaaDoor.P
open Go.RowKit Go.Proofs.YthckhdhbmgecfaaDoorW.PrintWords Go.Proofs.YthckhdhbmgecfaaDoorW.PrintLast
def firstN:List Int→Int
  |[]=>0
  |c::l=>if c=0 then firstN l else c
theorem firstN_loop(xs:List Int)(hl:xs.length≤9223372036854775807):∀(d i:Nat),xs.length-i=d→i≤xs.length→Ev (fun k=>impl_firstCode.l0 k xs (xs.length:Int) (i:Int)) (firstN (xs.drop i)):=by
 intro d
 induction d with
 |zero=>
  intro i hd hi;refine Ev.step (fun k=>by rw[impl_firstCode.l0]) (Ev_neg (by omega) (Ev_val ?_));rw[List.drop_eq_nil_of_le (by omega)];rfl
 |succ d ih=>
  intro i hd hi;(have hlt:i<xs.length:=by omega);refine Ev.step (fun k=>by rw[impl_firstCode.l0]) (Ev_pos (by omega) (Ev_pos (by omega) (Ev_pos (by omega) ?_)));rw[rdi_nat hlt,drop_at hlt,wsucc hlt hl,firstN];refine Ev_if (fun h=>?_) (fun h=>?_);(·rw[if_pos h];exact ih (i+1) (by omega) (by omega));rw[if_neg h];exact Ev.now _
theorem firstN_tells(xs:List Int)(hl:xs.length≤9223372036854775807):Ev (fun k=>impl_firstCode.f k xs) (firstN xs):=by
 unfold impl_firstCode.f;have:=firstN_loop xs hl _ 0 rfl (by omega);rw[List.drop_zero]at this;exact this
def DGf:List UInt8→Nat→Nat
  |[],h=>h
  |b::l,h=>DGf l ((h*131+b.toNat)%65521)
theorem DGf_lt:∀(l:List UInt8) (h:Nat),h<65521→DGf l h<65521:=by
 intro l
 induction l with
 |nil=>intro h hh;exact hh
 |cons b l ih=>intro h hh;exact ih _ (Nat.mod_lt _ (by omega))
theorem dg_step{b:UInt8}{h:Nat}(hh:h<65521):Int.tmod (wrap64 ((wrap64 ((h:Int)*131))+(wrap64 ((b.toNat:Int))))) 65521=(((h*131+b.toNat)%65521:Nat):Int):=by
 have hb:=UInt8.toNat_lt b;rw[wid (x:=(h:Int)*131) (by omega) (by omega),wid (x:=(b.toNat:Int)) (by omega) (by omega),wid (by omega) (by omega),Int.tmod_eq_emod_of_nonneg (by omega)];omega
theorem sdg_loop(s:ByteArray)(hs:s.size≤9223372036854775807):∀(d i h:Nat),s.size-i=d→i≤s.size→h<65521 →
    Ev (fun k=>spec_DigestOf.l0 k s (h:Int) (i:Int)) ((DGf (s.data.toList.drop i) h:Nat):Int)∧Ev (fun k=>impl_DigestOf.l0 k s (h:Int) (s.size:Int) (i:Int)) ((DGf (s.data.toList.drop i) h:Nat):Int):=by
 intro d
 induction d with
 |zero=>
  intro i h hd hi hh;rw[List.drop_eq_nil_of_le (by rw[size_data];omega)];rw[DGf];refine⟨Ev.step (fun k=>by rw[spec_DigestOf.l0]) ?_,Ev.step (fun k=>by rw[impl_DigestOf.l0]) ?_⟩;(·exact Ev_neg (by omega) (Ev.now _));exact Ev_neg (by omega) (Ev.now _)
 |succ d ih=>
  intro i h hd hi hh;(have hlt:i<s.data.toList.length:=by rw[size_data];omega);have e:=ih (i+1) ((h*131+s.data.toList[i].toNat)%65521) (by omega) (by omega) (Nat.mod_lt _ (by omega));rw[drop_at hlt,DGf];refine⟨Ev.step (fun k=>by rw[spec_DigestOf.l0]) ?_,Ev.step (fun k=>by rw[impl_DigestOf.l0]) ?_⟩;(·refine Ev_pos (by omega) (Ev_pos (by omega) ?_);rw[bt_nat hlt,dg_step hh,wsucc (n:=s.size) (by omega) hs];exact e.1);refine Ev_pos (by omega) (Ev_pos (by omega) (Ev_pos (by omega) ?_));rw[bt_nat hlt,dg_step hh,wsucc (n:=s.size) (by omega) hs];exact e.2
def DGn(s:ByteArray):Nat:=DGf s.data.toList 7
theorem DGn_lt(s:ByteArray):DGn s<65521:=DGf_lt _ 7 (by omega)
theorem sdg_tells(s:ByteArray)(hs:s.size≤9223372036854775807):Ev (fun k=>spec_DigestOf.f k s) ((DGn s:Nat):Int):=by
 unfold spec_DigestOf.f;exact(sdg_loop s hs _ 0 7 rfl (by omega) (by omega)).1
theorem idg_tells(s:ByteArray)(hs:s.size≤9223372036854775807):Ev (fun k=>impl_DigestOf.f k s) ((DGn s:Nat):Int):=by
 unfold impl_DigestOf.f;exact(sdg_loop s hs _ 0 7 rfl (by omega) (by omega)).2
def letB(k:Int):ByteArray:=(⟨#[63,98,116,99]⟩:ByteArray).extract k.toNat (k+1).toNat
def hex4(h:Nat):ByteArray:=⟨#[hexd (h / 4096%16),hexd (h / 256%16),hexd (h / 16%16),hexd (h%16)]⟩
def idB(k:Int)(s:ByteArray):ByteArray:=letB k++hex4 (DGn s)
theorem letB_size{k:Int}(h1:1≤k)(h3:k≤3):(letB k).size=1:=by
 (have:k=1∨k=2∨k=3:=by omega);rcases this with rfl|rfl|rfl<;>rfl
theorem letB_impl{k:Int}(h1:1≤k)(h3:k≤3):(⟨#[98,116,99]⟩:ByteArray).extract (k-1).toNat k.toNat=letB k:=by
 (have:k=1∨k=2∨k=3:=by omega);rcases this with rfl|rfl|rfl<;>rfl
theorem dig_fin:∀n:Fin 16,((⟨#[48,49,50,51,52,53,54,55,56,57,97,98,99,100,101,102]⟩:ByteArray).extract n.val (n.val+1)).data.toList=[hexd n.val]:=by decide +kernel
theorem dig_at{n:Nat}(h:n<16):(⟨#[48,49,50,51,52,53,54,55,56,57,97,98,99,100,101,102]⟩:ByteArray).extract n (n+1)=toB [hexd n]:=by
 rw[←dig_fin ⟨n,h⟩,toB_data]
theorem toB_size(l:List UInt8):(toB l).size=l.length:=by simp[toB,ByteArray.size]
theorem toB_app(a b:List UInt8):toB a++toB b=toB (a++b):=by
 apply data_eq.1;rw[ByteArray.toList_eq,ByteArray.toList_eq,ByteArray.data_append,Array.toList_append,data_toB,data_toB,data_toB]
theorem id_step(a:Int)(h j:Nat)(o:List UInt8)(hh:h<65536)(hj:j<4)(ho:o.length≤10){R:ByteArray}
    (hK:Ev (fun k=>spec_l5Id.l0 k a ((h / 16:Nat):Int) (toB (hexd (h%16)::o)) ((j+1:Nat):Int)) R):Ev (fun k=>spec_l5Id.l0 k a (h:Int) (toB o) (j:Int)) R:=by
 (have e1:Int.tmod (h:Int) 16=((h%16:Nat):Int):=by rw[Int.tmod_eq_emod_of_nonneg (by omega)];omega);(have e2:Int.tdiv (h:Int) 16=((h / 16:Nat):Int):=by rw[Int.tdiv_eq_ediv_of_nonneg (by omega)];omega);have e3:wrap64 (((h%16:Nat):Int)+1)=((h%16+1:Nat):Int):=wsucc' (by omega);have e4:(toB [hexd (h%16)]).size=1:=rfl;(have e5:(toB o).size=o.length:=by simp[toB,ByteArray.size]);refine Ev.step (fun k=>by rw[spec_l5Id.l0]) ?_;rw[e1,e3,e2,Int.toNat_natCast,Int.toNat_natCast,dig_at (Nat.mod_lt _ (by omega)),wid (x:=((h / 16:Nat):Int)) (by omega) (by omega),wsucc' (i:=j) (by omega),toB_app];exact Ev_pos (by omega) (Ev_pos (by omega) (Ev_pos (by omega) (Ev_pos (by omega) (Ev_pos (by omega) hK))))
theorem sid_tells(a:Int)(s:ByteArray)(h1:1≤a)(h3:a≤3)(hs:s.size≤9223372036854775807):Ev (fun k=>spec_l5Id.f k a s) (idB a s):=by
 have hlt:=DGn_lt s;have hl:=letB_size h1 h3;unfold spec_l5Id.f;refine Ev_call (sdg_tells s hs) ?_;refine id_step a (DGn s) 0 [] (by omega) (by omega) (by simp) ?_;refine id_step a (DGn s / 16) 1 _ (by omega) (by omega) (by simp) ?_;refine id_step a (DGn s / 16 / 16) 2 _ (by omega) (by omega) (by simp) ?_;refine id_step a (DGn s / 16 / 16 / 16) 3 _ (by omega) (by omega) (by simp) ?_;refine Ev.step (fun k=>by rw[spec_l5Id.l0]) ?_;refine Ev_neg (by omega) (Ev_const (a:=letB a) ?_ ?_);(·unfold spec_l5Letter.f letB;rw[wid (x:=a+1) (by omega) (by omega),if_pos (by omega),if_pos (by omega),if_pos (by omega)]);refine Ev_pos ?_ (Ev_val ?_);(·rw[hl];show 1+4≤_;omega);unfold idB hex4;congr 1;show toB _=_;(have e1:DGn s / 16 / 16 / 16%16=DGn s / 4096%16:=by omega);(have e2:DGn s / 16 / 16%16=DGn s / 256%16:=by omega);rw[e1,e2];rfl
theorem pad4(h:Nat)(hh:h<65536):(hexF 3 h).length≤4∧1≤(hexF 3 h).length∧(Lib.repeatL [48] (4-(hexF 3 h).length))++hexF 3 h=[hexd (h / 4096%16),hexd (h / 256%16),hexd (h / 16%16),hexd (h%16)]:=by
 have z:hexd 0=48:=rfl;by_cases c1:h<16;(·rw[hexF_small _ c1];(have e1:h / 4096%16=0:=by omega);(have e2:h / 256%16=0:=by omega);(have e3:h / 16%16=0:=by omega);(have e4:h%16=h:=by omega);rw[e1,e2,e3,e4,z];exact⟨by simp,by simp,rfl⟩);(have u1:hexF 3 h=hexF 2 (h / 16)++[hexd (h%16)]:=by rw[hexF,if_neg c1]);by_cases c2:h / 16<16;(·rw[u1,hexF_small _ c2];(have e1:h / 4096%16=0:=by omega);(have e2:h / 256%16=0:=by omega);(have e3:h / 16%16=h / 16:=by omega);rw[e1,e2,e3,z];exact⟨by simp,by simp,rfl⟩);(have u2:hexF 2 (h / 16)=hexF 1 (h / 16 / 16)++[hexd (h / 16%16)]:=by rw[hexF,if_neg c2]);by_cases c3:h / 16 / 16<16;(·rw[u1,u2,hexF_small _ c3];(have e1:h / 4096%16=0:=by omega);(have e2:h / 256%16=h / 16 / 16:=by omega);rw[e1,e2,z];exact⟨by simp,by simp,rfl⟩);have u3:hexF 1 (h / 16 / 16)=[hexd (h / 16 / 16 / 16)]++[hexd (h / 16 / 16%16)]:=if_neg c3;rw[u1,u2,u3];(have e1:h / 4096%16=h / 16 / 16 / 16:=by omega);(have e2:h / 256%16=h / 16 / 16%16:=by omega);rw[e1,e2];exact⟨by simp,by simp,rfl⟩
theorem iid_tells(a:Int)(s:ByteArray)(h1:1≤a)(h3:a≤3)(hs:s.size≤9223372036854775807):Ev (fun k=>impl_idOf.f k a s) (idB a s):=by
 have hlt:=DGn_lt s;have hl:=letB_size h1 h3;obtain⟨p1,p2,p3⟩:=pad4 (DGn s) (by omega);(have es:(⟨(hexF 3 (DGn s)).toArray⟩:ByteArray).size=(hexF 3 (DGn s)).length:=by simp[ByteArray.size]);unfold impl_idOf.f;refine Ev_call (idg_tells s hs) (Ev_const (a:=toB (hexF 3 (DGn s))) ?_ ?_);(·unfold strconv_FormatInt.f;rw[if_pos rfl,if_pos (by omega),if_pos (by omega),Int.toNat_natCast];rfl);have e0:(toB (hexF 3 (DGn s))).size=(hexF 3 (DGn s)).length:=es;rw[wid (x:=a-1) (by omega) (by omega),e0,wid (x:=4-((hexF 3 (DGn s)).length:Int)) (by omega) (by omega),letB_impl h1 h3];refine Ev_pos (by omega) (Ev_pos (by omega) (Ev_pos (by omega) ?_));(have hr:(Lib.repeatL [48] (4-(hexF 3 (DGn s)).length)).length=4-(hexF 3 (DGn s)).length:=by rw[Lib.repeatL_length];simp);refine Ev_const (a:=toB (Lib.repeatL [48] (4-(hexF 3 (DGn s)).length))) ?_ ?_;(·unfold strings_Repeat.f;rw[if_pos (by omega),if_pos (by omega),if_pos (by decide)];(have:(4-((hexF 3 (DGn s)).length:Int)).toNat=4-(hexF 3 (DGn s)).length:=by omega);rw[this];rfl);(have e6:(toB (Lib.repeatL [48] (4-(hexF 3 (DGn s)).length))).size=4-(hexF 3 (DGn s)).length:=by exact(toB_size _).trans hr);refine Ev_pos (by rw[hl,e6];omega) (Ev_pos (by rw[ByteArray.size_append,hl,e6];omega) (Ev_val ?_));unfold idB;rw[ByteArray.append_assoc,toB_app,p3];rfl
def IdO(a:Int)(s:ByteArray):Int × ByteArray:=if 1≤a∧a≤3 then(if TF s=0 then(0,idB a s)else(TF s,(⟨#[]⟩:ByteArray)))else(3,(⟨#[]⟩:ByteArray))
def DC(a:Int)(s:ByteArray):Int:=if 1≤a∧a≤3 then TF s else 3
theorem IO_code(a:Int)(s:ByteArray):(IdO a s).1=DC a s:=by
 unfold IdO DC;split;rotate_left;(·rfl);split;(·rename_i h;exact h.symm);rfl
theorem kind_tells(a:Int):spec_l5Kind.f a=some (decide (1≤a∧a≤3)):=by
 unfold spec_l5Kind.f spec_l1In.f;by_cases h:a≥1;rotate_left;(·rw[if_neg h,show decide (1≤a∧a≤3)=false from decide_eq_false (fun e=>h e.1)];rfl);rw[if_pos h];by_cases h2:a≤3;(·rw[show decide (1≤a∧a≤3)=true from decide_eq_true ⟨h,h2⟩,show decide (a≤3)=true from decide_eq_true h2];rfl);rw[show decide (1≤a∧a≤3)=false from decide_eq_false (fun e=>h2 e.2),show decide (a≤3)=false from decide_eq_false h2];rfl
theorem ikind_tells(a:Int):impl_isKind.f a=some (decide (1≤a∧a≤3)):=by
 unfold impl_isKind.f impl_within.f;by_cases h:a≥1;rotate_left;(·rw[if_neg h,show decide (1≤a∧a≤3)=false from decide_eq_false (fun e=>h e.1)];rfl);rw[if_pos h];by_cases h2:a≤3;(·rw[show decide (1≤a∧a≤3)=true from decide_eq_true ⟨h,h2⟩,show decide (a≤3)=true from decide_eq_true h2];rfl);rw[show decide (1≤a∧a≤3)=false from decide_eq_false (fun e=>h2 e.2),show decide (a≤3)=false from decide_eq_false h2];rfl
theorem sio_tells(a:Int)(s:ByteArray)(hs:s.size≤1048576):Ev (fun k=>spec_IdOf.f k a s) (IdO a s):=by
 unfold spec_IdOf.f IdO;refine Ev_const (kind_tells a) (Ev_if (fun h=>?_) (fun h=>?_));rotate_left;(·rw[if_neg (fun e=>h (decide_eq_true e))];exact Ev.now _);have h':=of_decide_eq_true h;rw[if_pos h'];refine Ev_call (stf_tells s hs) (Ev_if (fun h2=>?_) (fun h2=>by rw[if_neg h2];exact Ev.now _));rw[if_pos h2];exact Ev_call (sid_tells a s h'.1 h'.2 (by omega)) (Ev.now _)
theorem dc_tells(a:Int)(s:ByteArray)(hs:s.size≤1048576):Ev (fun k=>impl_dataCode.f k a s) (DC a s):=by
 unfold impl_dataCode.f DC;refine Ev_const (ikind_tells a) ?_;by_cases h:1≤a∧a≤3;rotate_left;(·rw[if_neg h];refine Ev_const (a:=3) (by unfold impl_codeIf.f;simp[h]) (Ev_const (itf_tells s hs) (Ev_call (firstN_tells _ (by simp)) (Ev_val ?_)));simp[firstN]);rw[if_pos h];refine Ev_const (a:=0) (by unfold impl_codeIf.f;simp[h]) (Ev_const (itf_tells s hs) (Ev_call (firstN_tells _ (by simp)) (Ev_val ?_)));show(if(0:Int)=0 then(if TF s=0 then 0 else TF s)else 0)=TF s;rw[if_pos rfl];split<;>omega
theorem rdo_nat{l:List S32}{i:Nat}(h:i<l.length):rd_T32 l (i:Int)=l[i]:=by
 unfold rd_T32;rw[Int.toNat_natCast,List.getD_eq_getElem?_getD,List.getElem?_eq_getElem h];rfl
def SmallO(l:List S32):Prop:=(∀o∈l,o.f0.size≤1048576∧o.f2.size≤1048576)∧l.length≤1048576
def SFi(l:List S32):Nat→Nat→Int
  |0,_=>0
  |d+1,i=>if DC (rd_T32 l (i:Int)).f1 (rd_T32 l (i:Int)).f2=0 then(if(rd_T32 l (i:Int)).f0=idB (rd_T32 l (i:Int)).f1 (rd_T32 l (i:Int)).f2 then(if 0<i then(if(Op.bytesLess (rd_T32 l (wrap64 ((i:Int)-1))).f0.toList (rd_T32 l (i:Int)).f0.toList)=true then SFi l d (i+1)else 1)else SFi l d (i+1))else 1)else DC (rd_T32 l (i:Int)).f1 (rd_T32 l (i:Int)).f2
def SF(l:List S32):Int:=if l.length>200 then 2 else SFi l l.length 0
theorem DC_zero{a:Int}{s:ByteArray}(h:DC a s=0):(1≤a∧a≤3)∧IdO a s=(0,idB a s):=by
 unfold DC at h;split at h;rotate_left;(·cases h);rename_i hk;exact⟨hk,by unfold IdO;rw[if_pos hk,if_pos h]⟩
theorem ssf_loop{l:List S32}(hs:SmallO l):∀(d i:Nat),l.length-i=d→i≤l.length→Ev (fun k=>spec_StoreFault.l0 k l (i:Int)) (SFi l d i):=by
 have hl:=hs.2;intro d
 induction d with
 |zero=>
  intro i hd hi;refine Ev.step (fun k=>by rw[spec_StoreFault.l0]) ?_;exact Ev_neg (by omega) (Ev.now _)
 |succ d ih=>
  intro i hd hi;(have hlt:i<l.length:=by omega);have hz:=hs.1 l[i] (List.getElem_mem hlt);rw[←rdo_nat hlt]at hz;(have next:=ih (i+1) (by omega) (by omega));refine Ev.step (fun k=>by rw[spec_StoreFault.l0]) ?_;rw[wsucc hlt (by omega)];refine Ev_pos (by omega) (Ev_pos (by omega) (Ev_call (sio_tells _ _ hz.2) ?_));rw[SFi,IO_code];refine Ev_if (fun h=>?_) (fun h=>by rw[if_neg h];exact Ev.now _);rw[if_pos h,(DC_zero h).2];refine Ev_if (fun h2=>?_) (fun h2=>by rw[if_neg (fun e=>h2 (by rw[e]))];exact Ev.now _);rw[if_pos (data_eq.1 h2).symm];refine Ev_if (fun h3=>?_) (fun h3=>by rw[if_neg (by omega)];exact next);rw[if_pos (by omega)];(have hw:wrap64 ((i:Int)-1)=((i-1:Nat):Int):=by rw[wid (by omega) (by omega)];omega);refine Ev_pos (by rw[hw];omega) (Ev_pos (by rw[hw];omega) ?_);exact Ev_if (fun h4=>by rw[if_pos h4];exact next) (fun h4=>by rw[if_neg h4];exact Ev.now _)
theorem isf_loop{l:List S32}(hs:SmallO l):∀(d i:Nat),l.length-i=d→i≤l.length→Ev (fun k=>impl_StoreFault.l0 k l l (l.length:Int) (i:Int)) (SFi l d i):=by
 have hl:=hs.2;intro d
 induction d with
 |zero=>
  intro i hd hi;refine Ev.step (fun k=>by rw[impl_StoreFault.l0]) ?_;exact Ev_neg (by omega) (Ev.now _)
 |succ d ih=>
  intro i hd hi;(have hlt:i<l.length:=by omega);have hz:=hs.1 l[i] (List.getElem_mem hlt);rw[←rdo_nat hlt]at hz;(have next:=ih (i+1) (by omega) (by omega));refine Ev.step (fun k=>by rw[impl_StoreFault.l0]) ?_;rw[wsucc hlt (by omega)];refine Ev_pos (by omega) (Ev_pos (by omega) (Ev_pos (by omega) (Ev_call (dc_tells _ _ hz.2) ?_)));rw[SFi];refine Ev_if (fun h=>?_) (fun h=>by rw[if_neg h];exact Ev.now _);rw[if_pos h];refine Ev_call (iid_tells _ _ (DC_zero h).1.1 (DC_zero h).1.2 (by omega)) ?_;refine Ev_if (fun h2=>?_) (fun h2=>by rw[if_neg (fun e=>h2 (by rw[e]))];exact Ev.now _);rw[if_pos (data_eq.1 h2)];refine Ev_if (fun h3=>?_) (fun h3=>by rw[if_neg (by omega)];exact next);rw[if_pos (by omega)];(have hw:wrap64 ((i:Int)-1)=((i-1:Nat):Int):=by rw[wid (by omega) (by omega)];omega);refine Ev_pos (by rw[hw];omega) (Ev_pos (by rw[hw];omega) ?_);exact Ev_if (fun h4=>by rw[if_pos h4];exact next) (fun h4=>by rw[if_neg h4];exact Ev.now _)
theorem ssf_tells{l:List S32}(hs:SmallO l):Ev (fun k=>spec_StoreFault.f k l) (SF l):=by
 unfold spec_StoreFault.f SF;refine Ev_if (fun h=>by rw[if_pos (by omega)];exact Ev.now _) (fun h=>?_);rw[if_neg (by omega)];exact ssf_loop hs _ 0 rfl (by omega)
theorem isf_tells{l:List S32}(hs:SmallO l):Ev (fun k=>impl_StoreFault.f k l) (SF l):=by
 unfold impl_StoreFault.f SF;refine Ev_if (fun h=>by rw[if_pos (by omega)];exact Ev.now _) (fun h=>?_);rw[if_neg (by omega)];exact isf_loop hs _ 0 rfl (by omega)
theorem bl_trans:∀(a b c:List UInt8),Op.bytesLess a b=true→Op.bytesLess b c=true→Op.bytesLess a c=true:=by
 intro a
 induction a with
 |nil=>
  intro b c h1 h2
  cases c with
  |nil=>cases b<;>simp[Op.bytesLess]at h2
  |cons z c=>rfl
 |cons x a ih=>
  intro b c h1 h2
  cases b with
  |nil=>simp[Op.bytesLess]at h1
  |cons y b=>
   cases c with
   |nil=>simp[Op.bytesLess]at h2
   |cons z c=>
    simp only[Op.bytesLess,Bool.or_eq_true,decide_eq_true_eq,Bool.and_eq_true,beq_iff_eq]at h1 h2 ⊢;(rcases h1 with h1|⟨rfl,h1⟩);rotate_left;(·(rcases h2 with h2|⟨rfl,h2⟩);(·exact .inl h2);exact .inr ⟨rfl,ih b c h1 h2⟩);(rcases h2 with h2|⟨rfl,h2⟩);rotate_left;(·exact .inl h1);left;rw[UInt8.lt_iff_toNat_lt]at *;omega
theorem cmp_lt:∀(a b:List UInt8),Lib.compareBytes a b<0↔Op.bytesLess a b=true:=by
 intro a
 induction a with
 |nil=>
  intro b;cases b<;>simp[Lib.compareBytes,Op.bytesLess]
 |cons x a ih=>
  intro b
  cases b with
  |nil=>simp[Lib.compareBytes,Op.bytesLess]
  |cons y b=>
   simp only[Lib.compareBytes,Op.bytesLess,Bool.or_eq_true,decide_eq_true_eq,Bool.and_eq_true,beq_iff_eq];by_cases h1:x<y;(·simp[h1]);rw[if_neg h1];by_cases h2:y<x;(·rw[if_pos h2];(have h3:¬x=y:=fun e=>by subst e;exact h1 h2);simp[h1,h3]);rw[if_neg h2,ih b]
   have h3:x=y:=UInt8.toNat_inj.1 (by
     have e1:¬x.toNat<y.toNat:=fun h=>h1 (UInt8.lt_iff_toNat_lt.2 h)
     have e2:¬y.toNat<x.toNat:=fun h=>h2 (UInt8.lt_iff_toNat_lt.2 h)
     omega)
   simp[h1,h3]
theorem cmp_eq:∀(a b:List UInt8),Lib.compareBytes a b=0↔a=b:=by
 intro a
 induction a with
 |nil=>
  intro b;cases b<;>simp[Lib.compareBytes]
 |cons x a ih=>
  intro b
  cases b with
  |nil=>simp[Lib.compareBytes]
  |cons y b=>
   simp only[Lib.compareBytes];by_cases h1:x<y;(·(have h3:¬x=y:=fun e=>by subst e;exact absurd (UInt8.lt_iff_toNat_lt.1 h1) (by omega));simp[h1,h3]);rw[if_neg h1];by_cases h2:y<x;(·(have h3:¬x=y:=fun e=>by subst e;exact h1 h2);simp[h2,h3]);rw[if_neg h2,ih b]
   have h3:x=y:=UInt8.toNat_inj.1 (by
     have e1:¬x.toNat<y.toNat:=fun h=>h1 (UInt8.lt_iff_toNat_lt.2 h)
     have e2:¬y.toNat<x.toNat:=fun h=>h2 (UInt8.lt_iff_toNat_lt.2 h)
     omega)
   simp[h3]
def Asc(l:List S32):Prop:=∀p q,p<q→(hq:q<l.length)→(hp:p<l.length)→Op.bytesLess l[p].f0.toList l[q].f0.toList=true
theorem SFi_good{l:List S32}(hl:l.length≤1048576):∀(d i:Nat),l.length-i=d→SFi l d i=0→∀q,i≤q→(hq:q<l.length)→DC l[q].f1 l[q].f2=0∧l[q].f0=idB l[q].f1 l[q].f2∧∀p,p+1=q→(hp:p<l.length)→Op.bytesLess l[p].f0.toList l[q].f0.toList=true:=by
 intro d
 induction d with
 |zero=>intro i hd h q hiq hq;omega
 |succ d ih=>
  intro i hd h q hiq hq;(have hlt:i<l.length:=by omega);rw[SFi,rdo_nat hlt]at h;split at h;(case isFalse=>rename_i h1;exact absurd h h1);rename_i h1;split at h;(case isFalse=>cases h);rename_i h2;by_cases e:i=q;rotate_left;(·by_cases h0:0<i;rotate_left;(·rw[if_neg h0]at h;exact ih (i+1) (by omega) h q (by omega) hq);rw[if_pos h0]at h;split at h;(·exact ih (i+1) (by omega) h q (by omega) hq);cases h);subst e;refine⟨h1,h2,fun p hp hpl=>?_⟩;rw[if_pos (by omega)]at h;(have hw:wrap64 ((i:Int)-1)=(p:Int):=by rw[wid (by omega) (by omega)];omega);rw[hw,rdo_nat hpl]at h;split at h;(·assumption);cases h
theorem SF_asc{l:List S32}(hl:l.length≤1048576)(h:SF l=0):Asc l:=by
 unfold SF at h;split at h;(·cases h);have g:=SFi_good hl _ 0 rfl h;intro p q hpq hq
 induction q with
 |zero=>omega
 |succ q ih=>
  intro hp;have s:=(g (q+1) (by omega) hq).2.2 q rfl (by omega);by_cases e:p=q;(·subst e;exact s);exact bl_trans _ _ _ (ih (by omega) (by omega) hp) s
def FO(id:ByteArray):List S32→Option Nat
  |[]=>none
  |o::l=>if o.f0=id then some 0 else(FO id l).map (· + 1)
theorem FO_at(id:ByteArray):∀(l:List S32) (i:Nat) (hi:i<l.length),l[i].f0=id→(∀p (hp:p<i),l[p].f0≠id)→FO id l=some i:=by
 intro l
 induction l with
 |nil=>intro i hi;exact absurd hi (by simp)
 |cons o l ih=>
  intro i hi he hn;rw[FO]
  cases i with
  |zero=>rw[if_pos (by simpa using he)]
  |succ i=>
   rw[if_neg (by have:=hn 0 (by omega);simpa using this),ih i (by simpa using hi) (by simpa using he) (fun p hp=>by have:=hn (p+1) (by omega);simpa using this)];rfl
theorem FO_none(id:ByteArray):∀(l:List S32),(∀o∈l,o.f0≠id)→FO id l=none:=by
 intro l
 induction l with
 |nil=>intro _;rfl
 |cons o l ih=>
  intro h;rw[FO,if_neg (h o (by simp)),ih (fun x hx=>h x (by simp[hx]))];rfl
theorem FO_some(id:ByteArray):∀(l:List S32) (i:Nat),FO id l=some i→∃hi:i<l.length,l[i].f0=id:=by
 intro l
 induction l with
 |nil=>intro i h;cases h
 |cons o l ih=>
  intro i h;rw[FO]at h;split at h;(·rename_i e;obtain rfl:=Option.some.inj h;exact⟨by simp,e⟩)
  cases hf:FO id l with
  |none=>rw[hf]at h;cases h
  |some j=>
   rw[hf]at h;obtain rfl:=Option.some.inj h;obtain⟨hj,e⟩:=ih j hf;exact⟨by simpa using hj,by simpa using e⟩
theorem bl_irr:∀a:List UInt8,Op.bytesLess a a=false:=by
 intro a
 induction a with
 |nil=>rfl
 |cons x a ih=>simp[Op.bytesLess,ih]
theorem bl_tri:∀a b:List UInt8,Op.bytesLess a b=true∨a=b∨Op.bytesLess b a=true:=by
 intro a
 induction a with
 |nil=>intro b;cases b<;>simp[Op.bytesLess]
 |cons x a ih=>
  intro b
  cases b with
  |nil=>simp[Op.bytesLess]
  |cons y b=>
   simp only[Op.bytesLess,Bool.or_eq_true,decide_eq_true_eq,Bool.and_eq_true,beq_iff_eq];by_cases h1:x<y;(·exact .inl (.inl h1));by_cases h2:y<x;(·exact .inr (.inr (.inl h2)))
   have h3:x=y:=UInt8.toNat_inj.1 (by
     have e1:¬x.toNat<y.toNat:=fun h=>h1 (UInt8.lt_iff_toNat_lt.2 h)
     have e2:¬y.toNat<x.toNat:=fun h=>h2 (UInt8.lt_iff_toNat_lt.2 h)
     omega)
   subst h3;(rcases ih b with h|rfl|h);(·exact .inl (.inr ⟨rfl,h⟩));(·exact .inr (.inl rfl));exact .inr (.inr (.inr ⟨rfl,h⟩))
def LtO(x y:S32):Prop:=Op.bytesLess x.f0.toList y.f0.toList=true
theorem LtO.trans{x y z:S32}(h:LtO x y)(k:LtO y z):LtO x z:=bl_trans _ _ _ h k
theorem LtO.ne{x y:S32}(h:LtO x y):x.f0≠y.f0:=fun e=>by
  unfold LtO at h
  rw[e,bl_irr]at h
  cases h
def GoodO(x:S32):Prop:=DC x.f1 x.f2=0∧x.f0=idB x.f1 x.f2
structure GoodL(l:List S32):Prop where
  srt:l.Pairwise LtO
  all:∀x∈l,GoodO x
  len:l.length≤200
theorem asc_srt{l:List S32}:Asc l↔l.Pairwise LtO:=by
 rw[List.pairwise_iff_getElem];exact⟨fun h i j hi hj hij=>h i j hij hj hi,fun h p q hpq hq hp=>h p q hp hq hpq⟩
theorem SF_good{l:List S32}(hl:l.length≤1048576)(h:SF l=0):GoodL l:=by
 have ha:=SF_asc hl h;unfold SF at h;split at h;(·cases h);rename_i hn;refine⟨asc_srt.1 ha,fun x hx=>?_,by omega⟩;obtain⟨i,hi,rfl⟩:=List.mem_iff_getElem.1 hx;have g:=SFi_good hl _ 0 rfl h i (Nat.zero_le _) hi;exact⟨g.1,g.2.1⟩
theorem good_SFi{l:List S32}(h:GoodL l):∀(d i:Nat),l.length-i=d→SFi l d i=0:=by
 have hl:=h.len;intro d
 induction d with
 |zero=>intro i _;rfl
 |succ d ih=>
  intro i hd;(have hlt:i<l.length:=by omega);have g:=h.all l[i] (List.getElem_mem hlt);rw[SFi,rdo_nat hlt,if_pos g.1,if_pos g.2];split;rotate_left;(·exact ih (i+1) (by omega));rename_i h0;(have hw:wrap64 ((i:Int)-1)=((i-1:Nat):Int):=by rw[wid (by omega) (by omega)];omega);rw[hw,rdo_nat (by omega),if_pos (asc_srt.2 h.srt (i-1) i (by omega) hlt (by omega))];exact ih (i+1) (by omega)
theorem good_SF{l:List S32}(h:GoodL l):SF l=0:=by
 unfold SF;rw[if_neg (by have:=h.len;omega)];exact good_SFi h _ 0 rfl
theorem idB_kind{a a':Int}{s s':ByteArray}(h1:1≤a∧a≤3)(h2:1≤a'∧a'≤3)(e:idB a s=idB a' s'):a=a':=by
 have e':=congrArg (fun b:ByteArray=>b.data.toList.head?) e;simp only[idB,ByteArray.data_append,Array.toList_append]at e';have x1:(letB 1).data.toList=[98]:=rfl;have x2:(letB 2).data.toList=[116]:=rfl;have x3:(letB 3).data.toList=[99]:=rfl;(have ha:a=1∨a=2∨a=3:=by omega);(have ha':a'=1∨a'=2∨a'=3:=by omega);rcases ha with rfl|rfl|rfl<;>rcases ha' with rfl|rfl|rfl<;>first|rfl|(simp[x1,x2,x3]at e')
theorem good_kind{x:S32}(h:GoodO x):1≤x.f1∧x.f1≤3:=(DC_zero h.1).1
theorem good_eq{x y:S32}(hx:GoodO x)(hy:GoodO y)(e:x.f0=y.f0)(ed:x.f2=y.f2):x=y:=by
 have ek:x.f1=y.f1:=idB_kind (good_kind hx) (good_kind hy) (by rw[←hx.2,←hy.2,e]);cases x;cases y;simp only at e ed ek;subst e ed ek;rfl
theorem srt_inj{r:List S32}(h:r.Pairwise LtO){x y:S32}(hx:x∈r)(hy:y∈r)(e:x.f0=y.f0):x=y:=by
 induction r with
 |nil=>cases hx
 |cons z r ih=>
  rw[List.pairwise_cons]at h;(rcases List.mem_cons.1 hx with hx1|hx1);(·(rcases List.mem_cons.1 hy with hy1|hy1);(·rw[hx1,hy1]);exact absurd (hx1▸e) (h.1 y hy1).ne);(rcases List.mem_cons.1 hy with hy1|hy1);(·exact absurd (hy1▸e.symm) (h.1 x hx1).ne);exact ih h.2 hx1 hy1
theorem srt_sub:∀(r l:List S32),r.Pairwise LtO→l.Pairwise LtO→(∀y∈l,y∈r)→l.Sublist r:=by
 intro r
 induction r with
 |nil=>
  intro l _ _ h
  cases l with
  |nil=>exact List.nil_sublist _
  |cons y l=>exact absurd (h y (by simp)) (by simp)
 |cons z r ih=>
  intro l hr hl h;rw[List.pairwise_cons]at hr
  cases l with
  |nil=>exact List.nil_sublist _
  |cons y l=>
   rw[List.pairwise_cons]at hl;(rcases List.mem_cons.1 (h y (by simp))with rfl|hy);(·refine(ih l hr.2 hl.2 (fun w hw=>?_)).cons_cons _;(rcases List.mem_cons.1 (h w (by simp[hw]))with rfl|hw2);(·exact absurd rfl (hl.1 w hw).ne);exact hw2);refine(ih (y::l) hr.2 (List.pairwise_cons.2 hl) (fun w hw=>?_)).cons _;(rcases List.mem_cons.1 hw with rfl|hw);(·exact hy);(rcases List.mem_cons.1 (h w (by simp[hw]))with rfl|hw2);(·exact absurd rfl ((hr.1 y hy).trans (hl.1 w hw)).ne);exact hw2
theorem srt_eq{l r:List S32}(hl:l.Pairwise LtO)(hr:r.Pairwise LtO)(h:∀y,y∈l↔y∈r):l=r:=
  (srt_sub r l hr hl (fun y hy=>(h y).1 hy)).eq_of_length_le (srt_sub l r hl hr (fun y hy=>(h y).2 hy)).length_le
def INS(x:S32):List S32→List S32
  |[]=>[x]
  |y::l=>if Op.bytesLess y.f0.toList x.f0.toList=true then y::INS x l else x::y::l
theorem INS_mem(x y:S32):∀l:List S32,y∈INS x l↔y=x∨y∈l:=by
 intro l
 induction l with
 |nil=>simp[INS]
 |cons z l ih=>
  rw[INS];split;rotate_left;(·rw[List.mem_cons]);rw[List.mem_cons,ih,List.mem_cons];exact⟨fun h=>by rcases h with h|h|h<;>simp[h],fun h=>by rcases h with h|h|h<;>simp[h]⟩
theorem INS_len(x:S32):∀l:List S32,(INS x l).length=l.length+1:=by
 intro l
 induction l with
 |nil=>rfl
 |cons z l ih=>
  rw[INS];split;(·rw[List.length_cons,ih,List.length_cons]);rfl
theorem INS_srt{x:S32}:∀{l:List S32},l.Pairwise LtO→(∀y∈l,y.f0≠x.f0)→(INS x l).Pairwise LtO:=by
 intro l
 induction l with
 |nil=>intro _ _;exact List.pairwise_singleton _ _
 |cons z l ih=>
  intro h hn;rw[List.pairwise_cons]at h;rw[INS];split;(·rename_i c;refine List.pairwise_cons.2 ⟨fun y hy=>?_,ih h.2 (fun y hy=>hn y (by simp[hy]))⟩;(rcases(INS_mem x y l).1 hy with rfl|hy);(·exact c);exact h.1 y hy);rename_i c;(have hxz:LtO x z:=by(rcases bl_tri x.f0.toList z.f0.toList with h1|h1|h1);(·exact h1);(·exact absurd (data_eq.1 h1).symm (hn z (by simp)));exact absurd h1 c);refine List.pairwise_cons.2 ⟨fun y hy=>?_,List.pairwise_cons.2 h⟩;(rcases List.mem_cons.1 hy with rfl|hy);(·exact hxz);exact hxz.trans (h.1 y hy)
theorem INS_at(x:S32):∀(l:List S32) (r:Nat),r≤l.length→(∀p (hp:p<l.length),p<r→Op.bytesLess l[p].f0.toList x.f0.toList=true)→(∀(hr:r<l.length),¬Op.bytesLess l[r].f0.toList x.f0.toList=true)→INS x l=l.take r++[x]++l.drop r:=by
 intro l
 induction l with
 |nil=>intro r hr _ _;simp at hr;subst hr;rfl
 |cons z l ih=>
  intro r hr h1 h2;rw[INS]
  cases r with
  |zero=>
   have e:¬Op.bytesLess z.f0.toList x.f0.toList=true:=h2 (Nat.zero_lt_succ _);rw[if_neg e];rfl
  |succ r=>
   have e:Op.bytesLess z.f0.toList x.f0.toList=true:=h1 0 (Nat.zero_lt_succ _) (by omega);rw[if_pos e,ih r (by simpa using hr) (fun p hp hpr=>h1 (p+1) (Nat.succ_lt_succ hp) (by omega)) (fun hr2=>h2 (Nat.succ_lt_succ hr2))];rfl
theorem FO_none'(id:ByteArray):∀(l:List S32),FO id l=none→∀o∈l,o.f0≠id:=by
 intro l
 induction l with
 |nil=>intro _ o ho;cases ho
 |cons z l ih=>
  intro h o ho;rw[FO]at h;split at h;(·cases h);rename_i hz;(rcases List.mem_cons.1 ho with rfl|ho);(·exact hz);exact ih (by cases hf:FO id l with|none=>rfl|some p=>rw[hf]at h;cases h) o ho
def PU(l:List S32)(x:S32):Int × List S32:=match FO x.f0 l with
  |some i=>if(rd_T32 l (i:Int)).f2=x.f2 then(0,l)else(6,[])
  |none=>if 200≤l.length then(2,[])else(0,INS x l)
def ME:List S32→List S32→Int × List S32
  |l,[]=>(0,l)
  |l,x::xs=>if(PU l x).1=0 then ME (PU l x).2 xs else((PU l x).1,[])
theorem PU_ok{l:List S32}{x:S32}(hl:GoodL l)(hx:GoodO x)(h:(PU l x).1=0):GoodL (PU l x).2∧(∀y,y∈(PU l x).2↔y=x∨y∈l)∧l.length≤(PU l x).2.length:=by
 unfold PU at h ⊢
 cases hf:FO x.f0 l with
 |some i=>
  obtain⟨hi,e⟩:=FO_some _ l i hf;simp only[hf,rdo_nat hi]at h ⊢;split at h;rotate_left;(·cases h);rename_i c;rw[if_pos c];(have hm:x∈l:=by rw[←good_eq (hl.all _ (List.getElem_mem hi)) hx e c];exact List.getElem_mem hi);exact⟨hl,fun y=>⟨.inr,fun h=>by rcases h with rfl|h<;>assumption⟩,Nat.le_refl _⟩
 |none=>
  simp only[hf]at h ⊢;split at h;(·cases h);rename_i c;rw[if_neg c];refine⟨⟨INS_srt hl.srt (FO_none' _ l hf),fun y hy=>?_,by rw[INS_len];omega⟩,fun y=>INS_mem x y l,by rw[INS_len];omega⟩;(rcases(INS_mem x y l).1 hy with rfl|hy);(·exact hx);exact hl.all y hy
theorem ME_ok:∀{xs l:List S32},GoodL l→(∀x∈xs,GoodO x)→(ME l xs).1=0→GoodL (ME l xs).2∧(∀y,y∈(ME l xs).2↔y∈l∨y∈xs)∧l.length≤(ME l xs).2.length:=by
 intro xs
 induction xs with
 |nil=>intro l hl _ _;exact⟨hl,fun y=>by simp[ME],Nat.le_refl _⟩
 |cons x xs ih=>
  intro l hl hx h;rw[ME]at h ⊢;split at h;rotate_left;(·rename_i c;exact absurd h c);rename_i c;rw[if_pos c];obtain⟨p1,p2,p3⟩:=PU_ok hl (hx x (by simp)) c;obtain⟨q1,q2,q3⟩:=ih p1 (fun y hy=>hx y (by simp[hy])) h;refine⟨q1,fun y=>?_,Nat.le_trans p3 q3⟩;rw[q2,p2,List.mem_cons];exact⟨fun h=>by rcases h with(h|h)|h<;>simp[h],fun h=>by rcases h with h|h|h<;>simp[h]⟩
theorem PU_can{l r:List S32}{x:S32}(hl:GoodL l)(hx:GoodO x)(hr:GoodL r)(hs:∀y∈l,y∈r)(hm:x∈r):(PU l x).1=0:=by
 unfold PU
 cases hf:FO x.f0 l with
 |some i=>
  obtain⟨hi,e⟩:=FO_some _ l i hf;simp only[rdo_nat hi];have e2:=srt_inj hr.srt (hs _ (List.getElem_mem hi)) hm e;rw[if_pos (by rw[e2])]
 |none=>
  simp only
  have h1:=(srt_sub r (INS x l) hr.srt (INS_srt hl.srt (FO_none' _ l hf)) (fun y hy=>by
    rcases(INS_mem x y l).1 hy with rfl|hy
    · exact hm
    · exact hs y hy)).length_le
  rw[INS_len]at h1;have:=hr.len;rw[if_neg (by omega)]
theorem ME_can:∀{xs l r:List S32},GoodL l→(∀x∈xs,GoodO x)→GoodL r→(∀y∈l,y∈r)→(∀y∈xs,y∈r)→(ME l xs).1=0:=by
 intro xs
 induction xs with
 |nil=>intro l r _ _ _ _ _;rfl
 |cons x xs ih=>
  intro l r hl hx hr hs ht;have c:=PU_can hl (hx x (by simp)) hr hs (ht x (by simp));obtain⟨p1,p2,_⟩:=PU_ok hl (hx x (by simp)) c;rw[ME,if_pos c];refine ih p1 (fun y hy=>hx y (by simp[hy])) hr (fun y hy=>?_) (fun y hy=>ht y (by simp[hy]));(rcases(p2 y).1 hy with rfl|hy);(·exact ht y (by simp));exact hs y hy
theorem ME_both{a b:List S32}(ha:GoodL a)(hb:GoodL b)(h:(ME a b).1=0):(ME b a).1=0∧(ME b a).2=(ME a b).2∧GoodL (ME a b).2∧(∀x∈b,x∈(ME a b).2)∧a.length≤(ME a b).2.length∧b.length≤(ME a b).2.length:=by
 obtain⟨p1,p2,p3⟩:=ME_ok ha hb.all h;have c:=ME_can hb ha.all p1 (fun y hy=>(p2 y).2 (.inr hy)) (fun y hy=>(p2 y).2 (.inl hy));obtain⟨q1,q2,q3⟩:=ME_ok hb ha.all c;have e:(ME b a).2=(ME a b).2:=srt_eq q1.srt p1.srt (fun y=>by rw[q2,p2];exact Or.comm);exact⟨c,e,p1,fun x hx=>(p2 x).2 (.inr hx),p3,by rw[←e];exact q3⟩
def foI(i:Nat):Option Nat→Int
  |some p=>((i+p:Nat):Int)
  |none=> -1
theorem sfind_loop(l:List S32)(hl:l.length≤1048576)(id:ByteArray):∀(d i:Nat),l.length-i=d→i≤l.length→Ev (fun k=>spec_l5Find.l0 k l id (i:Int)) (foI i (FO id (l.drop i))):=by
 intro d
 induction d with
 |zero=>
  intro i hd hi;refine Ev.step (fun k=>by rw[spec_l5Find.l0]) ?_;refine Ev_neg (by omega) (Ev_val ?_);rw[List.drop_eq_nil_of_le (by omega)];rfl
 |succ d ih=>
  intro i hd hi;(have hlt:i<l.length:=by omega);refine Ev.step (fun k=>by rw[spec_l5Find.l0]) ?_;rw[rdo_nat hlt,wsucc hlt (by omega),drop_at hlt,FO];refine Ev_pos (by omega) (Ev_pos (by omega) (Ev_if (fun h=>?_) (fun h=>?_)));(·rw[if_pos (data_eq.1 h)];exact Ev_val rfl);rw[if_neg (fun e=>h (by rw[e]))];refine Ev_eq (ih (i+1) (by omega) (by omega)) ?_
  cases FO id (l.drop (i+1))with
  |none=>rfl
  |some p=>show((i+1+p:Nat):Int)=((i+(p+1):Nat):Int);omega
def GT(l:List S32)(a:Int)(id:ByteArray):ByteArray × Bool:=match FO id l with
  |some i=>if(rd_T32 l (i:Int)).f1=a then((rd_T32 l (i:Int)).f2,true)else((⟨#[]⟩:ByteArray),false)
  |none=>((⟨#[]⟩:ByteArray),false)
theorem cmpO_at{l:List S32}{id:ByteArray}{p:Nat}(hp:p<l.length):cmpO l id p=Lib.compareBytes l[p].f0.toList id.toList:=by
 unfold cmpO;rw[rdo_nat hp,ByteArray.toList_eq,ByteArray.toList_eq]
theorem cmpO_lt{l:List S32}(ha:Asc l){id:ByteArray}{p q:Nat}(hpq:p<q)(hq:q<l.length)(h:cmpO l id q<0):cmpO l id p<0:=by
 rw[cmpO_at hq,cmp_lt]at h;rw[cmpO_at (by omega),cmp_lt];exact bl_trans _ _ _ (ha p q hpq hq (by omega)) h
theorem find_loop{l:List S32}(ha:Asc l)(id:ByteArray):∀(d i j:Nat),j-i≤d→i≤j→j≤l.length→(∀p,p<i→cmpO l id p<0)→(∀p,j≤p→p<l.length→¬cmpO l id p<0) →
    ∃r,r≤l.length∧Ev (fun k=>impl_find.l0 k l id i j) ((r:Int),decide (r<l.length∧cmpO l id r=0))∧(∀p,p<r→cmpO l id p<0)∧(∀p,r≤p→p<l.length→¬cmpO l id p<0):=by
 intro d
 induction d with
 |zero=>
  intro i j hd hij hj h1 h2;refine⟨i,by omega,Ev.step (fun k=>by rw[impl_find.l0]) ?_,h1,fun p hp=>h2 p (by omega)⟩;refine Ev_neg (by omega) (Ev_if (fun c=>Ev_val ?_) (fun c=>Ev_val ?_));(·congr 1;simp[c]);congr 1;simp[c]
 |succ d ih=>
  intro i j hd hij hj h1 h2;by_cases c:i<j;rotate_left;(·refine⟨i,by omega,Ev.step (fun k=>by rw[impl_find.l0]) ?_,h1,fun p hp=>h2 p (by omega)⟩;refine Ev_neg c (Ev_if (fun c=>Ev_val ?_) (fun c=>Ev_val ?_));(·congr 1;simp[c]);congr 1;simp[c]);by_cases c2:cmpO l id ((i+j) / 2)<0
  ·obtain⟨r,hr,hE,g1,g2⟩:=ih ((i+j) / 2+1) j (by omega) (by omega) hj (fun p hp=>by
     by_cases e:p=(i+j) / 2
     · rw[e];exact c2
     · exact cmpO_lt ha (show p<(i+j) / 2 by omega) (by omega) c2) h2
   exact⟨r,hr,Ev.step (fun k=>by rw[impl_find.l0]) (Ev_pos c (Ev_pos c2 hE)),g1,g2⟩
  obtain⟨r,hr,hE,g1,g2⟩:=ih i ((i+j) / 2) (by omega) (by omega) (by omega) h1 (fun p hp hpl=>by
    by_cases e:p=(i+j) / 2
    · rw[e];exact c2
    · exact fun hc=>c2 (cmpO_lt ha (show(i+j) / 2<p by omega) hpl hc))
  exact⟨r,hr,Ev.step (fun k=>by rw[impl_find.l0]) (Ev_pos c (Ev_neg c2 hE)),g1,g2⟩
theorem ifind_tells{l:List S32}(hl:l.length≤200)(ha:Asc l)(id:ByteArray):∃r:Nat,Ev (fun k=>impl_find.f k l id) ((r:Int),(FO id l).isSome)∧(∀i,FO id l=some i→r=i)∧r≤l.length∧(∀p,p<r→cmpO l id p<0)∧(∀p,r≤p→p<l.length→¬cmpO l id p<0):=by
 obtain⟨r,hr,hE,g1,g2⟩:=find_loop ha id _ 0 l.length (Nat.le_refl _) (Nat.zero_le _) (Nat.le_refl _) (fun p hp=>by omega) (fun p hp hpl=>by omega)
 have key:decide (r<l.length∧cmpO l id r=0)=(FO id l).isSome∧∀i,FO id l=some i→r=i:=by
  by_cases c:r<l.length∧cmpO l id r=0
  ·have e:l[r].f0=id:=data_eq.1 ((cmp_eq _ _).1 ((cmpO_at c.1).symm.trans c.2))
   have hf:FO id l=some r:=FO_at id l r c.1 e (fun p hp he=>by
     have h:=g1 p hp
     rw[cmpO_at (by omega),he,(cmp_eq _ _).2 rfl]at h
     omega)
   rw[hf];exact⟨by simp[c],fun i h=>Option.some.inj h⟩
  have hf:FO id l=none:=FO_none id l (fun o ho he=>by
    obtain⟨p,hp,rfl⟩:=List.mem_iff_getElem.1 ho
    have h0:cmpO l id p=0:=by rw[cmpO_at hp,he,(cmp_eq _ _).2 rfl]
    by_cases c1:p<r
    · have:=g1 p c1;omega
    · by_cases c2:p=r
      · subst c2;exact c ⟨hp,h0⟩
      · have hb:=ha r p (by omega) hp (by omega)
        rw[he]at hb
        have:=g2 r (Nat.le_refl _) (by omega)
        rw[cmpO_at (by omega),cmp_lt]at this
        exact this hb)
  rw[hf];exact⟨by simp only[Option.isSome_none];exact decide_eq_false c,fun i h=>by cases h⟩
 refine⟨r,?_,key.2,hr,g1,g2⟩;unfold impl_find.f;rw[←key.1];exact Ev_pos (by omega) hE
theorem iget_tells{l:List S32}(hl:l.length≤200)(ha:Asc l)(a:Int)(id:ByteArray):Ev (fun k=>impl_get.f k l a id) (GT l a id):=by
 obtain⟨r,hE,hr,_⟩:=ifind_tells hl ha id;unfold impl_get.f GT;refine Ev_call hE ?_
 cases hf:FO id l with
 |none=>exact Ev_neg (by simp) (Ev.now _)
 |some i=>
  have e:=hr i hf;subst e;obtain⟨hi,e⟩:=FO_some id l r hf;show Ev _ (if(rd_T32 l (r:Int)).f1=a then((rd_T32 l (r:Int)).f2,true)else((⟨#[]⟩:ByteArray),false));refine Ev_pos rfl (Ev_pos (by show(0:Int)≤(r:Int);omega) (Ev_pos (by show(r:Int)<_;omega) ?_));exact Ev_if (fun h=>by rw[if_pos (show(rd_T32 l (r:Int)).f1=a from h)];exact Ev.now _) (fun h=>by rw[if_neg (show¬(rd_T32 l (r:Int)).f1=a from h)];exact Ev.now _)
def GO(l:List S32)(a:Int)(id:ByteArray):Int × ByteArray × Int × ByteArray:=if SF l=0 then(if 1≤a∧a≤3 then(if(GT l a id).2=true then(0,id,a,(GT l a id).1)else(4,(⟨#[]⟩:ByteArray),0,(⟨#[]⟩:ByteArray)))else(3,(⟨#[]⟩:ByteArray),0,(⟨#[]⟩:ByteArray)))else(SF l,(⟨#[]⟩:ByteArray),0,(⟨#[]⟩:ByteArray))
theorem i_tells{l:List S32}(hs:SmallO l)(a:Int)(id:ByteArray):Ev (fun k=>impl_GetObject.f k l a id) (GO l a id):=by
 unfold impl_GetObject.f GO;refine Ev_call (isf_tells hs) (Ev_const (ikind_tells a) ?_);by_cases hk:1≤a∧a≤3;rotate_left;(·refine Ev_const (a:=3) (by unfold impl_codeIf.f;simp[hk]) (Ev_call (firstN_tells _ (by simp)) ?_);by_cases h:SF l=0;(·(have e:firstN [SF l,3]=3:=by show(if SF l=0 then(if(3:Int)=0 then 0 else 3)else SF l)=3;rw[if_pos h];rfl);rw[e,if_pos h,if_neg hk];exact Ev_neg (by omega) (Ev.now _));(have e:firstN [SF l,3]=SF l:=by show(if SF l=0 then(if(3:Int)=0 then 0 else 3)else SF l)=SF l;rw[if_neg h]);rw[e,if_neg h];exact Ev_neg h (Ev.now _));refine Ev_const (a:=0) (by unfold impl_codeIf.f;simp[hk]) (Ev_call (firstN_tells _ (by simp)) ?_);(have e:firstN [SF l,0]=SF l:=by show(if SF l=0 then(if(0:Int)=0 then 0 else 0)else SF l)=SF l;split;(·rename_i h;rw[h];rfl);rfl);rw[e];refine Ev_if (fun h=>?_) (fun h=>by rw[if_neg h];exact Ev.now _);rw[if_pos h,if_pos hk];(have hl:l.length≤200:=by unfold SF at h;split at h;(·cases h);omega);exact Ev_call (iget_tells hl (SF_asc hs.2 h) a id) (Ev_if (fun h3=>by rw[if_pos h3];exact Ev.now _) (fun h3=>by rw[if_neg h3];exact Ev.now _))
theorem PU_same{l:List S32}{x:S32}{i:Nat}(hf:FO x.f0 l=some i)(c:(rd_T32 l (i:Int)).f2=x.f2):PU l x=(0,l):=by
 unfold PU;rw[hf];exact if_pos c
theorem PU_clash{l:List S32}{x:S32}{i:Nat}(hf:FO x.f0 l=some i)(c:¬(rd_T32 l (i:Int)).f2=x.f2):PU l x=(6,[]):=by
 unfold PU;rw[hf];exact if_neg c
theorem PU_many{l:List S32}{x:S32}(hf:FO x.f0 l=none)(c:200≤l.length):PU l x=(2,[]):=by
 unfold PU;rw[hf];exact if_pos c
theorem PU_new{l:List S32}{x:S32}(hf:FO x.f0 l=none)(c:¬200≤l.length):PU l x=(0,INS x l):=by
 unfold PU;rw[hf];exact if_neg c
def PI(l:List S32)(x:S32):Int × ByteArray × List S32:=if(PU l x).1=0 then(0,x.f0,(PU l x).2)else((PU l x).1,(⟨#[]⟩:ByteArray),[])
theorem iput_tells{l:List S32}{x:S32}(hl:GoodL l)(hx:GoodO x)(hs:x.f2.size≤9223372036854775807):Ev (fun k=>impl_put.f k l x.f1 x.f2) (PI l x):=by
 have hk:=good_kind hx;have hlen:=hl.len;unfold impl_put.f;refine Ev_call (iid_tells x.f1 x.f2 hk.1 hk.2 hs) ?_;rw[←hx.2];obtain⟨r,hE,hr,hrl,g1,g2⟩:=ifind_tells hlen (asc_srt.2 hl.srt) x.f0;refine Ev_call hE ?_;(have hcl:slices_CloneO.f l=some l:=by unfold slices_CloneO.f;rw[if_pos (by omega)])
 cases hf:FO x.f0 l with
 |some i=>
  obtain⟨hi,e⟩:=FO_some _ l i hf;obtain rfl:=hr i hf;refine Ev_pos rfl (Ev_pos (by show(0:Int)≤(r:Int);omega) (Ev_pos (by show(r:Int)<_;omega) ?_));refine Ev.step (fun k=>by rw[impl_put.j0]) ?_;by_cases c:(rd_T32 l (r:Int)).f2=x.f2;(·(have e:PI l x=(0,x.f0,l):=by unfold PI;rw[PU_same hf c];rfl);rw[e];refine Ev_neg (by show¬((rd_T32 l (r:Int)).f2.toList !=x.f2.toList)=true;rw[c];simp) (Ev_pos rfl (Ev_const hcl (Ev.now _))));(have e:PI l x=(6,(⟨#[]⟩:ByteArray),[]):=by unfold PI;rw[PU_clash hf c];rfl);rw[e];refine Ev_pos (by show((rd_T32 l (r:Int)).f2.toList !=x.f2.toList)=true;rw[bne_iff_ne];exact fun e=>c (data_eq.1 e)) (Ev.now _)
 |none=>
  refine Ev_neg (by simp) (Ev.step (fun k=>by rw[impl_put.j0]) (Ev_neg (by simp) (Ev_neg (by simp) ?_)));by_cases c:200≤l.length;(·(have e:PI l x=(2,(⟨#[]⟩:ByteArray),[]):=by unfold PI;rw[PU_many hf c];rfl);rw[e];exact Ev_pos (by omega) (Ev.now _));(have e:PI l x=(0,x.f0,INS x l):=by unfold PI;rw[PU_new hf c];rfl);rw[e];refine Ev_neg (by omega) (Ev_const hcl (Ev_const (a:=INS x l) ?_ (Ev.now _)));show slices_InsertO.f l (r:Int) [⟨x.f0,x.f1,x.f2⟩]=some (INS x l);unfold slices_InsertO.f;rw[if_pos ⟨rfl,by omega,by omega,by omega⟩,Int.toNat_natCast];congr 1;refine(INS_at x l r hrl (fun p hp hpr=>?_) (fun h=>?_)).symm;(·have:=g1 p hpr;rwa[cmpO_at hp,cmp_lt]at this);have:=g2 r (Nat.le_refl _) h;rwa[cmpO_at h,cmp_lt]at this
theorem imerge_loop(b:List S32)(hb:∀x∈b,GoodO x)(hs:SmallO b):∀(d i:Nat) (c:ByteArray) (st:List S32),b.length-i=d→GoodL st →
    Ev (fun k=>impl_MergeStores.l0 k b (b.length:Int) (i:Int) 0 c st) ((ME st (b.drop i)).1,(⟨#[]⟩:ByteArray),(ME st (b.drop i)).2):=by
 have hl:=hs.2;intro d
 induction d with
 |zero=>
  intro i c st hd hst;refine Ev.step (fun k=>by rw[impl_MergeStores.l0]) (Ev_neg (by omega) (Ev_val ?_));rw[List.drop_eq_nil_of_le (by omega)];rfl
 |succ d ih=>
  intro i c st hd hst;(have hlt:i<b.length:=by omega);have hg:=hb _ (List.getElem_mem hlt);refine Ev.step (fun k=>by rw[impl_MergeStores.l0]) (Ev_pos (by omega) (Ev_pos (by omega) (Ev_pos (by omega) ?_)));rw[rdo_nat hlt,drop_at hlt,wsucc hlt (by omega),ME];refine Ev_call (iput_tells hst hg (by have:=(hs.1 _ (List.getElem_mem hlt)).2;omega)) ?_;unfold PI;by_cases h:(PU st b[i]).1=0;(·rw[if_pos h,if_pos h];exact Ev_pos rfl (ih (i+1) b[i].f0 (PU st b[i]).2 (by omega) (PU_ok hst hg h).1));rw[if_neg h,if_neg h];exact Ev_neg h (Ev.now _)
def MI(a b:List S32):Int × ByteArray × List S32:=if SF a=0 then(if SF b=0 then((ME a b).1,(⟨#[]⟩:ByteArray),(ME a b).2)else(SF b,(⟨#[]⟩:ByteArray),[]))else(SF a,(⟨#[]⟩:ByteArray),[])
theorem imerge_tells{a b:List S32}(ha:SmallO a)(hb:SmallO b):Ev (fun k=>impl_MergeStores.f k a b) (MI a b):=by
 unfold impl_MergeStores.f MI;refine Ev_call (isf_tells ha) (Ev_call (isf_tells hb) (Ev_call (firstN_tells _ (by simp)) ?_));by_cases h:SF a=0;rotate_left;(·(have e:firstN [SF a,SF b]=SF a:=by simp[firstN,h]);rw[e,if_neg h];exact Ev_neg h (Ev.now _));by_cases h2:SF b=0;rotate_left;(·(have e:firstN [SF a,SF b]=SF b:=by simp[firstN,h,h2]);rw[e,if_pos h,if_neg h2];exact Ev_neg h2 (Ev.now _));(have e:firstN [SF a,SF b]=0:=by simp[firstN,h,h2]);rw[e,if_pos h,if_pos h2];have ga:=SF_good ha.2 h;(have hcl:slices_CloneO.f a=some a:=by unfold slices_CloneO.f;rw[if_pos (by have:=ga.len;omega)]);have hm:=imerge_loop b (SF_good hb.2 h2).all hb _ 0 (⟨#[]⟩:ByteArray) a rfl ga;rw[List.drop_zero]at hm;exact Ev_pos rfl (Ev_const hcl hm)
theorem copy_tells{l:List S32}(hl:l.length≤1048576):spec_l5Copy.f l=some l:=by
 unfold spec_l5Copy.f;show(if([]:List S32).length+l.length<_ then some ([]++l)else none)=some l;rw[if_pos (by simp only[List.length_nil];omega),List.nil_append]
theorem sput_loop(l:List S32)(hl:l.length≤1048576)(x:S32):∀(d i:Nat),l.length-i=d→i≤l.length→Ev (fun k=>spec_l5Put.l0 k l x.f1 x.f2 x.f0 (i:Int)) (l.take i++INS x (l.drop i),x.f0,0):=by
 intro d
 induction d with
 |zero=>
  intro i hd hi;refine Ev.step (fun k=>by rw[spec_l5Put.l0]) (Ev_neg (by omega) (Ev_pos (by omega) (Ev_pos (by omega) ?_)));rw[Int.toNat_natCast,List.drop_eq_nil_of_le (show l.length≤i by omega)];refine Ev_const (copy_tells (by rw[List.length_take];omega)) (Ev_pos (by rw[List.length_take];omega) (Ev_const rfl (Ev_const rfl (Ev_pos (by simp only[List.length_append,List.length_take,List.length_cons,List.length_nil];omega) (Ev_val ?_)))));rw[List.append_nil];rfl
 |succ d ih=>
  intro i hd hi;(have hlt:i<l.length:=by omega);refine Ev.step (fun k=>by rw[spec_l5Put.l0]) (Ev_pos (by omega) (Ev_pos (by omega) ?_));rw[rdo_nat hlt,wsucc hlt (by omega),Int.toNat_natCast,drop_at hlt,INS];refine Ev_if (fun c=>?_) (fun c=>?_);(·rw[if_pos c];refine Ev_eq (ih (i+1) (by omega) (by omega)) ?_;rw[List.take_succ_eq_append_getElem hlt,List.append_assoc];rfl);rw[if_neg c];refine Ev_pos (by omega) (Ev_const (copy_tells (by rw[List.length_take];omega)) (Ev_pos (by rw[List.length_take];omega) (Ev_const rfl (Ev_const rfl (Ev_pos (by simp only[List.length_append,List.length_take,List.length_cons,List.length_nil,List.length_drop];omega) (Ev_val ?_))))));rw[List.append_assoc];rfl
def PS(l:List S32)(x:S32):List S32 × ByteArray × Int:=if(PU l x).1=0 then((PU l x).2,x.f0,0)else([],(⟨#[]⟩:ByteArray),(PU l x).1)
theorem sput_tells{l:List S32}(hl:l.length≤1048576)(a:Int)(s:ByteArray)(h1:1≤a)(h3:a≤3)(hs:s.size≤9223372036854775807):Ev (fun k=>spec_l5Put.f k l a s) (PS l ⟨idB a s,a,s⟩):=by
 unfold spec_l5Put.f;refine Ev_call (sid_tells a s h1 h3 hs) ?_;have hfd:=sfind_loop l hl (idB a s) _ 0 rfl (by omega);rw[List.drop_zero]at hfd;refine Ev_call (a:=foI 0 (FO (idB a s) l)) (by unfold spec_l5Find.f;exact hfd) ?_
 cases hf:FO (idB a s) l with
 |some i=>
  obtain⟨hi,e⟩:=FO_some _ l i hf;(have e0:foI 0 (some i)=(i:Int):=by show((0+i:Nat):Int)=_;omega);rw[e0];refine Ev_pos (by omega) (Ev_pos (by omega) (Ev_pos (by omega) ?_));refine Ev_if (fun c=>?_) (fun c=>?_);(·(have e:PS l ⟨idB a s,a,s⟩=(l,idB a s,0):=by unfold PS;rw[PU_same (x:=⟨idB a s,a,s⟩) hf (data_eq.1 c)];rfl);rw[e];exact Ev_const (copy_tells hl) (Ev.now _));(have e:PS l ⟨idB a s,a,s⟩=([],(⟨#[]⟩:ByteArray),6):=by unfold PS;rw[PU_clash (x:=⟨idB a s,a,s⟩) hf (fun e=>c (by rw[e]))];rfl);rw[e];exact Ev.now _
 |none=>
  refine Ev_neg (by show¬((-1:Int)≥0);omega) ?_;refine Ev_if (fun c=>?_) (fun c=>?_);(·(have e:PS l ⟨idB a s,a,s⟩=([],(⟨#[]⟩:ByteArray),2):=by unfold PS;rw[PU_many (x:=⟨idB a s,a,s⟩) hf (by omega)];rfl);rw[e];exact Ev.now _);(have e:PS l ⟨idB a s,a,s⟩=(INS ⟨idB a s,a,s⟩ l,idB a s,0):=by unfold PS;rw[PU_new (x:=⟨idB a s,a,s⟩) hf (by omega)];rfl);rw[e];have h:=sput_loop l hl ⟨idB a s,a,s⟩ _ 0 rfl (by omega);rw[List.drop_zero,List.take_zero,List.nil_append]at h;exact h
theorem smerge_loop(b:List S32)(hb:∀x∈b,GoodO x)(hs:SmallO b):∀(d i:Nat) (st:List S32),b.length-i=d→GoodL st →
    Ev (fun k=>spec_MergeStores.l0 k b st (i:Int)) ((ME st (b.drop i)).1,(⟨#[]⟩:ByteArray),(ME st (b.drop i)).2):=by
 have hl:=hs.2;intro d
 induction d with
 |zero=>
  intro i st hd hst;refine Ev.step (fun k=>by rw[spec_MergeStores.l0]) (Ev_neg (by omega) (Ev_val ?_));rw[List.drop_eq_nil_of_le (by omega)];rfl
 |succ d ih=>
  intro i st hd hst;(have hlt:i<b.length:=by omega);have hg:=hb _ (List.getElem_mem hlt);have hk:=good_kind hg;refine Ev.step (fun k=>by rw[spec_MergeStores.l0]) (Ev_pos (by omega) (Ev_pos (by omega) ?_));rw[rdo_nat hlt,drop_at hlt,wsucc hlt (by omega),ME];refine Ev_call (sput_tells (by have:=hst.len;omega) b[i].f1 b[i].f2 hk.1 hk.2 (by have:=(hs.1 _ (List.getElem_mem hlt)).2;omega)) ?_;(have e:(⟨idB b[i].f1 b[i].f2,b[i].f1,b[i].f2⟩:S32)=b[i]:=by rw[←hg.2]);rw[e];unfold PS;by_cases h:(PU st b[i]).1=0;(·rw[if_pos h,if_pos h];exact Ev_pos rfl (ih (i+1) (PU st b[i]).2 (by omega) (PU_ok hst hg h).1));rw[if_neg h,if_neg h];exact Ev_neg h (Ev.now _)
theorem smerge_tells{a b:List S32}(ha:SmallO a)(hb:SmallO b):Ev (fun k=>spec_MergeStores.f k a b) (MI a b):=by
 unfold spec_MergeStores.f MI;refine Ev_call (ssf_tells ha) (Ev_if (fun h=>?_) (fun h=>by rw[if_neg h];exact Ev.now _));rw[if_pos h];refine Ev_call (ssf_tells hb) (Ev_if (fun h2=>?_) (fun h2=>by rw[if_neg h2];exact Ev.now _));rw[if_pos h2];have ga:=SF_good ha.2 h;have hm:=smerge_loop b (SF_good hb.2 h2).all hb _ 0 a rfl ga;rw[List.drop_zero]at hm;exact Ev_const (copy_tells ha.2) hm
theorem GT_mem{r:List S32}(hr:GoodL r){x:S32}(hx:x∈r):GT r x.f1 x.f0=(x.f2,true):=by
 unfold GT
 cases hf:FO x.f0 r with
 |none=>exact absurd rfl (FO_none' _ r hf x hx)
 |some i=>
  obtain⟨hi,e⟩:=FO_some _ r i hf;have e2:=srt_inj hr.srt (List.getElem_mem hi) hx e;show(if(rd_T32 r (i:Int)).f1=x.f1 then((rd_T32 r (i:Int)).f2,true)else((⟨#[]⟩:ByteArray),false))=_;rw[rdo_nat hi,e2,if_pos rfl]
theorem join_flat(xs:List ByteArray):Lib.join (xs.map (·.data.toList)) []=(xs.map (·.data.toList)).flatten:=by
 unfold Lib.join
 induction xs with
 |nil=>rfl
 |cons x l ih=>
  cases l with
  |nil=>simp[List.intercalate]
  |cons y l=>
   simp only[List.map_cons,List.intercalate,List.intersperse,List.flatten_cons,List.nil_append]at ih ⊢;rw[ih]
theorem join_all(xs:List ByteArray):(Lib.join (xs.map (·.data.toList)) []).length=total xs:=by
 rw[join_flat]
 induction xs with
 |nil=>rfl
 |cons x l ih=>
  rw[List.map_cons,List.flatten_cons,List.length_append,ih,size_data];rfl
def Small(xs:List ByteArray):Prop:=(∀x∈xs,x.size≤9223372036854775807)∧xs.length≤1048576∧total xs≤1048576
def joinedB(xs:List ByteArray):ByteArray:=⟨(Lib.join (xs.map (·.data.toList)) []).toArray⟩
theorem flatB(xs:List ByteArray):(joinedB xs).data.toList=(xs.map (·.data.toList)).flatten:=by
 unfold joinedB;rw[List.toList_toArray,join_flat]
theorem joinedB_size(xs:List ByteArray):(joinedB xs).size=total xs:=by
 rw[←join_all];simp[joinedB,ByteArray.size]
theorem sjoin_loop(xs:List ByteArray)(hl:xs.length≤9223372036854775807)(ht:total xs≤9223372036854775807):∀(d i:Nat) (s:ByteArray),xs.length-i=d→i≤xs.length→s.size+total (xs.drop i)≤9223372036854775807 →
    Ev (fun k=>spec_l1Join.l0 k xs s (i:Int)) (⟨(s.data.toList++((xs.drop i).map (·.data.toList)).flatten).toArray⟩:ByteArray):=by
 intro d
 induction d with
 |zero=>
  intro i s hd hi hs;refine Ev.step (fun k=>by rw[spec_l1Join.l0]) (Ev_neg (by omega) (Ev_val ?_));rw[List.drop_eq_nil_of_le (by omega)];simp
 |succ d ih=>
  intro i s hd hi hs;(have hlt:i<xs.length:=by omega);rw[drop_at hlt]at hs ⊢;simp only[total]at hs;refine Ev.step (fun k=>by rw[spec_l1Join.l0]) (Ev_pos (by omega) (Ev_pos (by omega) ?_));rw[rd_nat _ hlt,wsucc hlt hl];refine Ev_pos (by omega) ?_;refine Ev_eq (ih (i+1) (s++xs[i]) (by omega) (by omega) (by rw[ByteArray.size_append];omega)) ?_;congr 2;rw[List.map_cons,List.flatten_cons,ByteArray.data_append,Array.toList_append,List.append_assoc]
theorem sjoin_tells(xs:List ByteArray)(hl:xs.length≤9223372036854775807)(ht:total xs≤9223372036854775807):Ev (fun k=>spec_l1Join.f k xs) (joinedB xs):=by
 unfold spec_l1Join.f;refine Ev_eq (sjoin_loop xs hl ht _ 0 (⟨#[]⟩:ByteArray) rfl (by omega) (by simp[ByteArray.size];exact ht)) ?_;rw[List.drop_zero];apply data_eq.1;rw[ByteArray.toList_eq,ByteArray.toList_eq,flatB];simp
def Code(c:List Int):Prop:=∀x∈c,0≤x∧x≤255
theorem Code.rd{c:List Int}(hc:Code c){i:Int}(h0:0≤i)(h1:i<(c.length:Int)):0≤rd c i∧rd c i≤255:=by
 obtain⟨n,rfl⟩:=Int.eq_ofNat_of_zero_le h0;(have hn:n<c.length:=by omega);rw[rdi_nat hn];exact hc _ (List.getElem_mem hn)
theorem next_tells{c:List Int}(hc:Code c){p n:Int}(h0:0≤p)(h1:p≤1000000)(hn:n≤1000000):∃v,spec_l1Next.f c p n=some (v,p+1)∧0≤v∧(1≤n→v<n):=by
 unfold spec_l1Next.f;rw[wid (x:=p+1) (by omega) (by omega),show p+1-1=p by omega,wid (x:=p) (by omega) (by omega)];by_cases c0:n<1;(·rw[if_pos c0];exact⟨0,rfl,by omega,by omega⟩);rw[if_neg c0];by_cases c1:(c.length:Int)=0;(·rw[if_pos c1,if_neg (by omega),wid (x:=p*7) (by omega) (by omega)];exact⟨_,rfl,Int.tmod_nonneg _ (by omega),fun _=>Int.tmod_lt_of_pos _ (by omega)⟩);rw[if_neg c1];have q0:0≤Int.tmod p (c.length:Int):=Int.tmod_nonneg _ h0;have q1:Int.tmod p (c.length:Int)<(c.length:Int):=Int.tmod_lt_of_pos _ (by omega);have r1:=hc.rd q0 q1;rw[if_pos q0,if_pos q1];have d0:0≤Int.tdiv p (c.length:Int):=Int.tdiv_nonneg h0 (by omega);have d1:Int.tdiv p (c.length:Int)≤p:=Int.tdiv_le_self _ h0;rw[wid (x:=Int.tdiv p (c.length:Int)) (by omega) (by omega),wid (x:=rd c (Int.tmod p (c.length:Int))) (by omega) (by omega),wid (x:=Int.tdiv p (c.length:Int)*37) (by omega) (by omega),wid (x:=rd c (Int.tmod p (c.length:Int))+Int.tdiv p (c.length:Int)*37) (by omega) (by omega)];by_cases c2:n>200;rotate_left;(·rw[if_neg c2,if_neg (by omega)];exact⟨_,rfl,Int.tmod_nonneg _ (by omega),fun _=>Int.tmod_lt_of_pos _ (by omega)⟩);rw[if_pos c2,wid (x:=p+1) (by omega) (by omega)];have q2:0≤Int.tmod (p+1) (c.length:Int):=Int.tmod_nonneg _ (by omega);have q3:Int.tmod (p+1) (c.length:Int)<(c.length:Int):=Int.tmod_lt_of_pos _ (by omega);have r2:=hc.rd q2 q3
 rw[if_pos q2,if_pos q3,if_neg (by omega),wid (x:=rd c (Int.tmod (p+1) (c.length:Int))) (by omega) (by omega),wid (x:=rd c (Int.tmod (p+1) (c.length:Int))*13) (by omega) (by omega),
   wid (x:=(rd c (Int.tmod p (c.length:Int))+Int.tdiv p (c.length:Int)*37)*251) (by omega) (by omega),wid (x:=(rd c (Int.tmod p (c.length:Int))+Int.tdiv p (c.length:Int)*37)*251+rd c (Int.tmod (p+1) (c.length:Int))*13) (by omega) (by omega),wid (by omega) (by omega)]
 exact⟨_,rfl,Int.tmod_nonneg _ (by omega),fun _=>Int.tmod_lt_of_pos _ (by omega)⟩
theorem chance_tells{c:List Int}(hc:Code c){p n:Int}(h0:0≤p)(h1:p≤1000000)(hn:n≤1000000):∃b,spec_l1Chance.f c p n=some (b,p+1):=by
 obtain⟨v,e,_⟩:=next_tells hc h0 h1 hn;unfold spec_l1Chance.f;rw[e];exact⟨_,rfl⟩
def Lin(lo hi:Nat)(l:List ByteArray):Prop:=∀x∈l,lo≤x.size∧x.size≤hi
theorem Lin.mono{lo hi lo' hi':Nat}{l:List ByteArray}(h:Lin lo hi l)(h1:lo'≤lo)(h2:hi≤hi'):Lin lo' hi' l:=fun x hx=>⟨Nat.le_trans h1 (h x hx).1,Nat.le_trans (h x hx).2 h2⟩
theorem Lin.app{lo hi:Nat}{l m:List ByteArray}(h:Lin lo hi l)(g:Lin lo hi m):Lin lo hi (l++m):=fun x hx=>by
  rcases List.mem_append.1 hx with hx|hx
  · exact h x hx
  · exact g x hx
theorem Lin.one{lo hi:Nat}{s:ByteArray}(h:lo≤s.size∧s.size≤hi):Lin lo hi [s]:=fun x hx=>by
  rw[List.mem_singleton.1 hx]
  exact h
theorem Lin.take{lo hi:Nat}{l:List ByteArray}(h:Lin lo hi l)(n:Nat):Lin lo hi (l.take n):=fun x hx=>h x (List.mem_of_mem_take hx)
theorem Lin.drop{lo hi:Nat}{l:List ByteArray}(h:Lin lo hi l)(n:Nat):Lin lo hi (l.drop n):=fun x hx=>h x (List.mem_of_mem_drop hx)
theorem Lin.set{lo hi:Nat}{l:List ByteArray}(h:Lin lo hi l)(i:Nat){s:ByteArray}(hs:lo≤s.size∧s.size≤hi):Lin lo hi (l.set i s):=fun x hx=>by
  rcases List.mem_or_eq_of_mem_set hx with hx|rfl
  · exact h x hx
  · exact hs
theorem Lin.total{lo hi:Nat}:∀{l:List ByteArray},Lin lo hi l→total l≤hi*l.length:=by
 intro l
 induction l with
 |nil=>intro _;simp[Go.Proofs.YthckhdhbmgecfaaDoor.P.total]
 |cons x l ih=>
  intro h;have h1:=(h x (by simp)).2;have h2:=ih (fun y hy=>h y (by simp[hy]));simp only[Go.Proofs.YthckhdhbmgecfaaDoor.P.total,List.length_cons,Nat.mul_add,Nat.mul_one];omega
theorem Lin.small{lo hi:Nat}{l:List ByteArray}(h:Lin lo hi l)(hh:hi≤1000)(hl:l.length≤1000):Small l:=by
 have:=h.total;refine⟨fun x hx=>by have:=(h x hx).2;omega,by omega,?_⟩;have:hi*l.length≤1000*1000:=Nat.mul_le_mul hh hl;omega
theorem end_size(s:ByteArray):(s++(⟨#[10]⟩:ByteArray)).size=s.size+1:=by
 rw[ByteArray.size_append];rfl
theorem word_tells{c:List Int}(hc:Code c){p:Int}(h0:0≤p)(h1:p≤1000000):∃s,spec_l1Word.f c p=some (s,p+1)∧s.size≤7:=by
 obtain⟨v,e,v0,v1⟩:=next_tells hc (n:=9) h0 h1 (by omega);unfold spec_l1Word.f;rw[Option.bind_some,e,Option.bind_some];have v2:=v1 (by omega);obtain⟨n,rfl⟩:=Int.eq_ofNat_of_zero_le v0;(have hn:n<([(⟨#[97]⟩:ByteArray),(⟨#[98]⟩:ByteArray),(⟨#[99]⟩:ByteArray),(⟨#[100]⟩:ByteArray),(⟨#[120,32,121]⟩:ByteArray),(⟨#[]⟩:ByteArray),(⟨#[60,60,60,60,60,60,60]⟩:ByteArray),(⟨#[61,61,61,61,61,61,61]⟩:ByteArray),(⟨#[111,110,101]⟩:ByteArray)]:List ByteArray).length:=by show n<9;omega);rw[if_pos v0,if_pos (by omega),rd_nat _ hn];refine⟨_,rfl,?_⟩;(have all:∀x∈([(⟨#[97]⟩:ByteArray),(⟨#[98]⟩:ByteArray),(⟨#[99]⟩:ByteArray),(⟨#[100]⟩:ByteArray),(⟨#[120,32,121]⟩:ByteArray),(⟨#[]⟩:ByteArray),(⟨#[60,60,60,60,60,60,60]⟩:ByteArray),(⟨#[61,61,61,61,61,61,61]⟩:ByteArray),(⟨#[111,110,101]⟩:ByteArray)]:List ByteArray),x.size≤7:=by decide);exact all _ (List.getElem_mem hn)
theorem lines_loop{c:List Int}(hc:Code c):∀(d:Nat) (p:Int) (o:List ByteArray),d≤100→0≤p→p≤900000+(100-d)→o.length+d≤1000→Lin 1 8 o →
    ∃r q,Ev (fun k=>spec_l1Lines.l0 k (d:Int) o c p) (r,q)∧Lin 1 8 r∧r.length≤o.length+d∧p≤q∧q≤p+d+2:=by
 intro d
 induction d with
 |zero=>
  intro p o hd h0 h1 ho hl;by_cases c0:(o.length:Int)>0;rotate_left;(·exact⟨o,p,Ev.step (fun k=>by rw[spec_l1Lines.l0]) (Ev_neg (by omega) (Ev_neg c0 (Ev.now _))),hl,by omega,by omega,by omega⟩);obtain⟨b,e⟩:=chance_tells hc (p:=p) (n:=5) h0 (by omega) (by omega)
  cases b with
  |false=>
   refine⟨o,p+1,Ev.step (fun k=>by rw[spec_l1Lines.l0]) ?_,hl,by omega,by omega,by omega⟩;refine Ev_neg (by omega) (Ev_pos c0 (Ev_const e ?_));exact Ev_neg (by simp) (Ev.now _)
  |true=>
   obtain⟨v,e2,v0,v1⟩:=next_tells hc (p:=p+1) (n:=3) (by omega) (by omega) (by omega);have v2:=v1 (by omega);obtain⟨n,rfl⟩:=Int.eq_ofNat_of_zero_le v0;(have hn:n<([(⟨#[122]⟩:ByteArray),(⟨#[97]⟩:ByteArray),(⟨#[101,110,100]⟩:ByteArray)]:List ByteArray).length:=by show n<3;omega);(have all:∀x∈([(⟨#[122]⟩:ByteArray),(⟨#[97]⟩:ByteArray),(⟨#[101,110,100]⟩:ByteArray)]:List ByteArray),1≤x.size∧x.size≤8:=by decide);refine⟨o.set ((o.length:Int)-1).toNat ([(⟨#[122]⟩:ByteArray),(⟨#[97]⟩:ByteArray),(⟨#[101,110,100]⟩:ByteArray)]:List ByteArray)[n],p+1+1,?_,hl.set _ (all _ (List.getElem_mem hn)),by rw[List.length_set];omega,by omega,by omega⟩;refine Ev.step (fun k=>by rw[spec_l1Lines.l0]) ?_;refine Ev_neg (by omega) (Ev_pos c0 (Ev_const e ?_));refine Ev_pos rfl (Ev_const rfl (Ev_const e2 ?_));refine Ev_pos v0 (Ev_pos (by omega) ?_);rw[wid (by omega) (by omega),rd_nat _ hn];exact Ev_pos (by omega) (Ev_pos (by omega) (Ev.now _))
 |succ d ih=>
  intro p o hd h0 h1 ho hl;obtain⟨s,e,hs⟩:=word_tells hc (p:=p) h0 (by omega);obtain⟨r,q,hr,g1,g2,g3,g4⟩:=ih (p+1) (o++[s++(⟨#[10]⟩:ByteArray)]) (by omega) (by omega) (by omega) (by rw[List.length_append];simp only[List.length_singleton];omega) (hl.app (Lin.one (by rw[end_size];omega)));rw[List.length_append,List.length_singleton]at g2;refine⟨r,q,Ev.step (fun k=>by rw[spec_l1Lines.l0]) ?_,g1,by omega,by omega,by omega⟩;refine Ev_pos (by omega) (Ev_const e ?_);rw[wpred (by omega)];refine Ev_pos (by show s.size+1≤9223372036854775807;omega) (Ev_pos (by omega) ?_);exact hr
theorem lines_tells{c:List Int}(hc:Code c){p n:Int}(h0:0≤p)(h1:p≤900000)(n0:0≤n)(n1:n≤100):
    ∃r q,Ev (fun k=>spec_l1Lines.f k c p n) (r,q)∧Lin 1 8 r∧r.length≤100∧p≤q∧q≤p+102:=by
 obtain⟨m,rfl⟩:=Int.eq_ofNat_of_zero_le n0;obtain⟨r,q,hr,g1,g2,g3,g4⟩:=lines_loop hc m p [] (by omega) h0 (by omega) (by simp only[List.length_nil];omega) (fun x hx=>absurd hx (by simp));simp only[List.length_nil]at g2;exact⟨r,q,hr,g1,by omega,g3,by omega⟩
theorem pick5_tells{c:List Int}(hc:Code c){p:Int}(h0:0≤p)(h1:p≤1000000){l:List Int}(hl:1≤l.length)(h2:l.length≤1000):∃v,spec_l1Pick.f c p l=some (v,p+1):=by
 obtain⟨v,e,v0,v1⟩:=next_tells hc (p:=p) (n:=(l.length:Int)) h0 h1 (by omega);have v2:=v1 (by omega);refine⟨rd l v,?_⟩;unfold spec_l1Pick.f;rw[e];show(if 0≤v then(if v<(l.length:Int)then some (rd l v,p+1)else none)else none)=_;rw[if_pos v0,if_pos v2]
theorem idB_size{a:Int}(s:ByteArray)(h1:1≤a)(h3:a≤3):(idB a s).size=5:=by
 unfold idB;rw[ByteArray.size_append,letB_size h1 h3];rfl
def SzO(o:S32):Prop:=o.f0.size≤5∧o.f2.size≤3000
def Sz(l:List S32)(n:Nat):Prop:=(∀o∈l,SzO o)∧l.length≤n
theorem Sz.small{l:List S32}{n:Nat}(h:Sz l n)(hn:n≤1000):SmallO l:=⟨fun o ho=>by have:=h.1 o ho;unfold SzO at this;omega,by have:=h.2;omega⟩
theorem PS_sz{l:List S32}{x:S32}{n:Nat}(h:Sz l n)(hx:SzO x):Sz (PS l x).1 (n+1):=by
 have hn:=h.2;unfold PS;split;rotate_left;(·exact⟨fun o ho=>absurd ho (by simp),by show 0≤n+1;omega⟩);rename_i c
 cases hf:FO x.f0 l with
 |some i=>
  by_cases e:(rd_T32 l (i:Int)).f2=x.f2;(·rw[PU_same hf e];exact⟨h.1,by show l.length≤n+1;omega⟩);rw[PU_clash hf e]at c;cases c
 |none=>
  by_cases e:200≤l.length;(·rw[PU_many hf e]at c;cases c);rw[PU_new hf e];refine⟨fun o ho=>?_,by show(INS x l).length≤n+1;rw[INS_len];omega⟩;(rcases(INS_mem x o l).1 ho with rfl|ho);(·exact hx);exact h.1 o ho
theorem sz_set{l:List S32}{n:Nat}(h:Sz l n)(i:Nat){x:S32}(hx:x.f0.size≤5∧x.f2.size≤3001):SmallO (l.set i x)∨1000<n:=by
 by_cases hn:n≤1000;rotate_left;(·exact .inr (by omega));left;refine⟨fun o ho=>?_,by rw[List.length_set];have:=h.2;omega⟩;(rcases List.mem_or_eq_of_mem_set ho with ho|rfl);rotate_left;(·omega);have:=h.1 o ho;unfold SzO at this;omega
theorem store_tail{c:List Int}(hc:Code c){p:Int}(h0:0≤p)(h1:p≤900000){st:List S32}{n:Nat}(hs:Sz st n)(hn:n≤100)(k0:Int)(hk:¬k0>0):
    ∃r q,Ev (fun k=>spec_l5Store.l0 (k+1) st k0 c p) (r,q)∧SmallO r∧p≤q∧q≤p+10:=by
 have hl:=hs.2;have hsm:=hs.small (by omega);by_cases he:(st.length:Int)=0;(·refine⟨st,p,?_,hsm,by omega,by omega⟩;simp only[spec_l5Store.l0];exact Ev_neg hk (Ev_pos he (Ev.now _)));obtain⟨v,e1,v0,v1⟩:=next_tells hc (p:=p) (n:=(st.length:Int)) h0 (by omega) (by omega);have v2:=v1 (by omega);obtain⟨i,rfl⟩:=Int.eq_ofNat_of_zero_le v0;(have hi:i<st.length:=by omega);obtain⟨u,e2,u0,u1⟩:=next_tells hc (p:=p+1) (n:=24) (by omega) (by omega) (by omega);have ho:=hs.1 _ (List.getElem_mem hi);unfold SzO at ho;by_cases c0:u=0;(·refine⟨st.set i ⟨st[i].f0,st[i].f1,st[i].f2++(⟨#[120]⟩:ByteArray)⟩,p+1+1,?_,?_,by omega,by omega⟩;rotate_left;(·exact(sz_set hs i (x:=⟨st[i].f0,st[i].f1,st[i].f2++(⟨#[120]⟩:ByteArray)⟩) ⟨ho.1,by show(st[i].f2++(⟨#[120]⟩:ByteArray)).size≤3001;rw[ByteArray.size_append];have:(⟨#[120]⟩:ByteArray).size=1:=rfl;omega⟩).resolve_right (by omega));simp only[spec_l5Store.l0];refine Ev_neg hk (Ev_neg he (Ev_const e1 (Ev_const e2 (Ev_pos c0 (Ev_pos (by omega) (Ev_pos (by omega) ?_))))));rw[rdo_nat hi,Int.toNat_natCast];exact Ev_pos (by omega) (Ev.now _));by_cases c1:u=1;(·obtain⟨x,e3,_⟩:=next_tells hc (p:=p+1+1) (n:=3) (by omega) (by omega) (by omega);obtain⟨y,e4⟩:=pick5_tells hc (p:=p+1+1+1) (by omega) (by omega) (l:=[0,4,wrap64 (1+x)]) (by simp) (by simp);refine⟨st.set i ⟨st[i].f0,y,st[i].f2⟩,p+1+1+1+1,?_,?_,by omega,by omega⟩;rotate_left;(·exact(sz_set hs i (x:=⟨st[i].f0,y,st[i].f2⟩) ⟨ho.1,by show st[i].f2.size≤3001;omega⟩).resolve_right (by omega));simp only[spec_l5Store.l0];refine Ev_neg hk (Ev_neg he (Ev_const e1 (Ev_const e2 (Ev_neg c0 (Ev_pos c1 (Ev_const e3 (Ev_const e4 (Ev_pos (by omega) (Ev_pos (by omega) ?_)))))))));rw[rdo_nat hi,Int.toNat_natCast];exact Ev.now _);by_cases c2:u=2;(·refine⟨st++[st[i]],p+1+1,?_,?_,by omega,by omega⟩;(·simp only[spec_l5Store.l0];refine Ev_neg hk (Ev_neg he (Ev_const e1 (Ev_const e2 (Ev_neg c0 (Ev_neg c1 (Ev_pos c2 (Ev_pos (by omega) (Ev_pos (by omega) (Ev_pos (by omega) ?_)))))))));rw[rdo_nat hi];exact Ev.now _);refine⟨fun o h=>?_,by simp;omega⟩;(rcases List.mem_append.1 h with h|h);(·exact hsm.1 o h);rw[List.mem_singleton]at h;subst h;omega);by_cases c3:u=3;rotate_left;(·refine⟨st,p+1+1,?_,hsm,by omega,by omega⟩;simp only[spec_l5Store.l0];exact Ev_neg hk (Ev_neg he (Ev_const e1 (Ev_const e2 (Ev_neg c0 (Ev_neg c1 (Ev_neg c2 (Ev_neg c3 (Ev.now _)))))))));refine⟨List.replicate 201 z32,p+1+1,?_,?_,by omega,by omega⟩;(·simp only[spec_l5Store.l0];exact Ev_neg hk (Ev_neg he (Ev_const e1 (Ev_const e2 (Ev_neg c0 (Ev_neg c1 (Ev_neg c2 (Ev_pos c3 (Ev_pos (by omega) (Ev.now _))))))))));refine⟨fun o h=>?_,by rw[List.length_replicate];omega⟩;obtain rfl:=List.eq_of_mem_replicate h;show(⟨#[]⟩:ByteArray).size≤_∧(⟨#[]⟩:ByteArray).size≤_;have:(⟨#[]⟩:ByteArray).size=0:=rfl;omega
theorem store_loop{c:List Int}(hc:Code c):∀(m:Nat) (p:Int) (st:List S32) (n:Nat),0≤p→p+110*m≤890000→Sz st n→n+m≤50 →
    ∃r q,Ev (fun k=>spec_l5Store.l0 k st (m:Int) c p) (r,q)∧SmallO r∧p≤q∧q≤p+110*m+10:=by
 intro m
 induction m with
 |zero=>
  intro p st n h0 h1 hs hn;obtain⟨r,q,hr,g⟩:=store_tail hc h0 (by omega) hs (by omega) 0 (by omega);exact⟨r,q,Ev.step (fun k=>rfl) hr,g.1,g.2.1,by omega⟩
 |succ m ih=>
  intro p st n h0 h1 hs hn;obtain⟨a,e1,a0,a1⟩:=next_tells hc (p:=p) (n:=3) h0 (by omega) (by omega);have a2:=a1 (by omega);obtain⟨b,e2,b0,b1⟩:=next_tells hc (p:=p+1) (n:=4) (by omega) (by omega) (by omega);have b2:=b1 (by omega);obtain⟨ls,q,hls,l1,l2,l3,l4⟩:=lines_tells hc (p:=p+1+1) (n:=b) (by omega) (by omega) b0 (by omega);have ht:=l1.total;have hj:=sjoin_tells ls (by omega) (by omega);have hsz:=joinedB_size ls;have hw:wrap64 (1+a)=1+a:=wid (by omega) (by omega);have hp:=sput_tells (l:=st) (by have:=hs.2;omega) (1+a) (joinedB ls) (by omega) (by omega) (by omega);have hx:SzO (⟨idB (1+a) (joinedB ls),1+a,joinedB ls⟩:S32):=⟨by show(idB _ _).size≤5;rw[idB_size _ (by omega) (by omega)];omega,by show(joinedB ls).size≤3000;omega⟩;have hps:=PS_sz hs hx;by_cases c0:(PS st ⟨idB (1+a) (joinedB ls),1+a,joinedB ls⟩).2.2=0;(·obtain⟨r,q2,hr,g1,g2,g3⟩:=ih q _ (n+1) (by omega) (by omega) hps (by omega);refine⟨r,q2,Ev.step (fun k=>by rw[spec_l5Store.l0]) ?_,g1,by omega,by omega⟩;refine Ev_pos (by omega) (Ev_const e1 (Ev_const e2 (Ev_call hls (Ev_call hj ?_))));rw[hw,wpred (by omega)];exact Ev_call hp (Ev_pos c0 hr));obtain⟨r,q2,hr,g1,g2,g3⟩:=ih q st n (by omega) (by omega) hs (by omega);refine⟨r,q2,Ev.step (fun k=>by rw[spec_l5Store.l0]) ?_,g1,by omega,by omega⟩;refine Ev_pos (by omega) (Ev_const e1 (Ev_const e2 (Ev_call hls (Ev_call hj ?_))));rw[hw,wpred (by omega)];exact Ev_call hp (Ev_neg c0 hr)
theorem store_tells{c:List Int}(hc:Code c){p:Int}(h0:0≤p)(h1:p≤100000):∃r q,Ev (fun k=>spec_l5Store.f k c p) (r,q)∧SmallO r∧p≤q∧q≤p+1000:=by
 obtain⟨a,e1,a0,a1⟩:=next_tells hc (p:=p) (n:=6) h0 (by omega) (by omega);have a2:=a1 (by omega);obtain⟨m,rfl⟩:=Int.eq_ofNat_of_zero_le a0;obtain⟨r,q,hr,g1,g2,g3⟩:=store_loop hc m (p+1) [] 0 (by omega) (by omega) ⟨fun o ho=>absurd ho (by simp),by simp⟩ (by omega);refine⟨r,q,?_,g1,by omega,by omega⟩;unfold spec_l5Store.f;exact Ev_const e1 hr
theorem twin_tells(s:ByteArray)(hs:s.size≤1000):∃t,spec_l5Twin.f s=some t∧t.size≤2000:=by
 have h10:(⟨#[10]⟩:ByteArray).size=1:=rfl;(have hy:∀a b:Int,(strOfNums [a,b]).size=2:=fun a b=>rfl);unfold spec_l5Twin.f;by_cases c1:(s.size:Int)<2;(·rw[if_pos c1,if_pos (by omega)];exact⟨_,rfl,by rw[ByteArray.size_append];omega⟩);rw[if_neg c1,if_pos (by omega)];by_cases c2:bt s 0=255;(·rw[if_pos c2,if_pos (by omega)];exact⟨_,rfl,by rw[ByteArray.size_append];omega⟩);rw[if_neg c2,if_pos (by omega)];by_cases c3:bt s 1<131;(·rw[if_pos c3,if_pos (by omega)];exact⟨_,rfl,by rw[ByteArray.size_append];omega⟩);rw[if_neg c3];show∃t,(if 2≤(s.size:Int)then(if(strOfNums [(bt s 0+1)%256,(bt s 1-131)%256]).size+(s.extract 2 s.size).size≤9223372036854775807 then some (strOfNums [(bt s 0+1)%256,(bt s 1-131)%256]++s.extract 2 s.size)else none)else none)=some t∧t.size≤2000;rw[if_pos (by omega),if_pos (by rw[hy,ByteArray.size_extract];omega)];exact⟨_,rfl,by rw[ByteArray.size_append,hy,ByteArray.size_extract];omega⟩
theorem draw_tells{c:List Int}(hc:Code c):∃a b,Ev (fun k=>spec_DrawMergeStores.f k c) (a,b)∧SmallO a∧SmallO b:=by
 obtain⟨a,q,ha,a1,a2,a3⟩:=store_tells hc (p:=0) (by omega) (by omega);obtain⟨b,q2,hb,b1,b2,b3⟩:=store_tells hc (p:=q) (by omega) (by omega);obtain⟨v,e⟩:=chance_tells hc (p:=q2) (n:=8) (by omega) (by omega) (by omega)
 cases v with
 |false=>
  refine⟨a,b,?_,a1,b1⟩;unfold spec_DrawMergeStores.f;exact Ev_const (by unfold spec_l1Source.f;rfl) (Ev_call ha (Ev_call hb (Ev_const e (Ev_neg (by simp) (Ev.now _)))))
 |true=>
  obtain⟨u,e2,u0,u1⟩:=next_tells hc (p:=q2+1) (n:=90) (by omega) (by omega) (by omega);have hy:(strOfNums [wrap64 (140+u)%256]).size=1:=rfl;have h65:(⟨#[65]⟩:ByteArray).size=1:=rfl;have h122:(⟨#[122,10]⟩:ByteArray).size=2:=rfl;obtain⟨one,hone⟩:∃o:ByteArray,o=((⟨#[65]⟩:ByteArray)++(strOfNums [wrap64 (140+u)%256]))++(⟨#[122,10]⟩:ByteArray):=⟨_,rfl⟩;(have h1:one.size=4:=by rw[hone,ByteArray.size_append,ByteArray.size_append,hy,h65,h122]);obtain⟨t,et,ht⟩:=twin_tells one (by omega);have z0:Sz ([]:List S32) 0:=⟨fun o ho=>absurd ho (by simp),by simp⟩;have hp1:=sput_tells (l:=([]:List S32)) (by simp) 1 one (by omega) (by omega) (by omega);have hp2:=sput_tells (l:=([]:List S32)) (by simp) 1 t (by omega) (by omega) (by omega);have s1:=(PS_sz z0 (x:=⟨idB 1 one,1,one⟩) ⟨by show(idB _ _).size≤5;rw[idB_size _ (by omega) (by omega)];omega,by show one.size≤3000;omega⟩).small (by omega);have s2:=(PS_sz z0 (x:=⟨idB 1 t,1,t⟩) ⟨by show(idB _ _).size≤5;rw[idB_size _ (by omega) (by omega)];omega,by show t.size≤3000;omega⟩).small (by omega);(have start:∀{r:List S32 × List S32},Ev (fun k=>if(PS ([]:List S32) ⟨idB 1 one,1,one⟩).2.2=0 then(if(PS ([]:List S32) ⟨idB 1 t,1,t⟩).2.2=0 then some ((PS ([]:List S32) ⟨idB 1 one,1,one⟩).1,(PS ([]:List S32) ⟨idB 1 t,1,t⟩).1)else some (a,b))else some (a,b)) r→Ev (fun k=>spec_DrawMergeStores.f k c) r:=by intro r hr;unfold spec_DrawMergeStores.f;refine Ev_const (by unfold spec_l1Source.f;rfl) (Ev_call ha (Ev_call hb (Ev_const e (Ev_pos rfl (Ev_const e2 (Ev_const rfl ?_))))));refine Ev_pos (by rw[hy];omega) (Ev_pos (by rw[ByteArray.size_append,hy,h65];omega) ?_);rw[←hone];exact Ev_call hp1 (Ev_const et (Ev_call hp2 hr)));by_cases c1:(PS ([]:List S32) ⟨idB 1 one,1,one⟩).2.2=0;rotate_left;(·exact⟨_,_,start (Ev_neg c1 (Ev.now _)),a1,b1⟩);by_cases c2:(PS ([]:List S32) ⟨idB 1 t,1,t⟩).2.2=0;(·exact⟨_,_,start (Ev_pos c1 (Ev_pos c2 (Ev.now _))),s1,s2⟩);exact⟨_,_,start (Ev_pos c1 (Ev_neg c2 (Ev.now _))),a1,b1⟩
end Go.Proofs.YthckhdhbmgecfaaDoor.P
end
section
set_option linter.unusedVariables false
set_option linter.unusedSimpArgs false
namespace Go.Proofs.YthckhdhbmgecfaaDoor.P.VFnStoreMerges
open Go.RowKit Go.Proofs.YthckhdhbmgecfaaDoorW.PrintWords Go.Proofs.YthckhdhbmgecfaaDoorW.PrintLast
theorem same_loop(a b r:List S32)(hr:r.length≤200)(u v:Int)(x y:ByteArray)(hE:Ev (fun k=>laws_FnStoreMerges.l1 k a b 0 u x r) true):∀(d i:Nat),r.length-i=d→i≤r.length→Ev (fun k=>laws_FnStoreMerges.l0 k a b (i:Int) u x r v y r) true:=by
 intro d
 induction d with
 |zero=>
  intro i hd hi;exact Ev.step (fun k=>by rw[laws_FnStoreMerges.l0]) (Ev_neg (by omega) hE)
 |succ d ih=>
  intro i hd hi;(have hlt:i<r.length:=by omega);refine Ev.step (fun k=>by rw[laws_FnStoreMerges.l0]) (Ev_pos (by omega) (Ev_pos (by omega) (Ev_pos (by omega) (Ev_neg (by simp) ?_))));rw[wsucc hlt (by omega)];exact ih (i+1) (by omega) (by omega)
theorem have_loop(a b r:List S32)(hr:GoodL r)(hs:SmallO r)(hb:GoodL b)(hm:∀x∈b,x∈r)(ha:a.length≤r.length)(hbl:b.length≤r.length)(u:Int)(x:ByteArray):∀(d i:Nat),b.length-i=d→i≤b.length→Ev (fun k=>laws_FnStoreMerges.l1 k a b (i:Int) u x r) true:=by
 have hb2:=hb.len;intro d
 induction d with
 |zero=>
  intro i hd hi;refine Ev.step (fun k=>by rw[laws_FnStoreMerges.l1]) (Ev_neg (by omega) (Ev_pos (by omega) (Ev_val ?_)));exact decide_eq_true (by omega)
 |succ d ih=>
  intro i hd hi;(have hlt:i<b.length:=by omega);have hx:=hm _ (List.getElem_mem hlt);have hk:=good_kind (hb.all _ (List.getElem_mem hlt));have hg:=i_tells hs b[i].f1 b[i].f0;(have e:GO r b[i].f1 b[i].f0=(0,b[i].f0,b[i].f1,b[i].f2):=by unfold GO;rw[if_pos (good_SF hr),if_pos hk,GT_mem hr hx,if_pos rfl]);rw[e]at hg;refine Ev.step (fun k=>by rw[laws_FnStoreMerges.l1]) (Ev_pos (by omega) (Ev_pos (by omega) ?_));rw[rdo_nat hlt,wsucc hlt (by omega)];exact Ev_call hg (Ev_pos rfl (ih (i+1) (by omega) (by omega)))
theorem me_small:∀{xs l:List S32},SmallO l→SmallO xs→GoodL l→(∀x∈xs,GoodO x)→(ME l xs).1=0→SmallO (ME l xs).2:=by
 intro xs l hl hxs hg hx h;obtain⟨p1,p2,_⟩:=ME_ok hg hx h;refine⟨fun o ho=>?_,by have:=p1.len;omega⟩;(rcases(p2 o).1 ho with ho|ho);(·exact hl.1 o ho);exact hxs.1 o ho
theorem proof:UFnStoreMerges.Pure:=by
 intro l0 g0;apply Ev.rounds;unfold laws_FnStoreMerges.f;(have hc:Code l0:=fun x hx=>by have:=g0.2 x hx;simp[Lit.wf,IntKind.min,IntKind.max,IntKind.signed,IntKind.bits]at this;omega);refine Ev_const (by unfold laws_lwBig.f;rfl) ?_;by_cases hb:(l0.length:Int)>1048576;(·exact Ev_pos (by simpa using hb) (Ev.now _));refine Ev_neg (by simpa using hb) ?_;obtain⟨a,b,hd,ha,hb⟩:=draw_tells hc;have h1:=imerge_tells ha hb;have h2:=imerge_tells hb ha;have hs:=smerge_tells ha hb;refine Ev_call hd (Ev_call h1 ?_);by_cases c:(MI a b).1=0;rotate_left;(·exact Ev_neg c (Ev_call hs (Ev_val (by simp))));(have ea:SF a=0:=by unfold MI at c;split at c;(·assumption);rename_i h;exact absurd c h);(have eb:SF b=0:=by unfold MI at c;rw[if_pos ea]at c;split at c;(·assumption);rename_i h;exact absurd c h);have ga:=SF_good ha.2 ea;have gb:=SF_good hb.2 eb;(have e1:MI a b=((ME a b).1,(⟨#[]⟩:ByteArray),(ME a b).2):=by unfold MI;rw[if_pos ea,if_pos eb]);(have e2:MI b a=((ME b a).1,(⟨#[]⟩:ByteArray),(ME b a).2):=by unfold MI;rw[if_pos eb,if_pos ea]);rw[e1]at c;obtain⟨c2,es,gr,hm,l1,l2⟩:=ME_both ga gb c;have sr:=me_small ha hb ga gb.all c;rw[e2,es]at h2;rw[e1];refine Ev_pos c (Ev_call h2 (Ev_pos c2 (Ev_pos rfl ?_)));refine Ev_call (isf_tells sr) ?_;rw[good_SF gr];have hx:=have_loop a b (ME a b).2 gr sr gb hm l1 l2 (ME a b).1 (⟨#[]⟩:ByteArray) _ 0 rfl (by omega);refine Ev.step (fun k=>by rw[laws_FnStoreMerges.j0]) (Ev_neg (by decide) ?_);exact same_loop a b (ME a b).2 gr.len (ME a b).1 (ME b a).1 (⟨#[]⟩:ByteArray) (⟨#[]⟩:ByteArray) hx _ 0 rfl (by omega)
end Go.Proofs.YthckhdhbmgecfaaDoor.P.VFnStoreMerges
end
section
set_option linter.unusedVariables false
set_option linter.unusedSimpArgs false
namespace Go.Proofs.YthckhdhbmgecfaaDoor.O
open Go.RowKit Go.ChangeShapes Go.WideShapes Go.Proofs.YthckhdhbmgecfaaDoorW.PrintWords
def Opens{α:Type}(P:Program)(t:TypeId)(d:Kd α)(G:α→Prop):Prop:=
  P.cellsOf t=d.sz∧∀{H:Type} {enc:TypeId × Value→H} {w:World} {base:Nat} {spare:Nat→Bool} {held:Bool} {fuel:Nat} {cs:List Value} {x:DataW H × List MemPlace},
    DataW.trod enc P w base spare held fuel t cs=some x→∃a,d.K w a cs∧G a
theorem list_of{α:Type}{Q:Nat→α→Prop}:∀n:Nat,(∀j,j<n→∃p,Q j p)→∃xs:List α,xs.length=n∧∀j p,xs[j]?=some p→Q j p
  |0,_=>⟨[],rfl,fun j p h=>by simp at h⟩
  |n+1,h=>by
    obtain⟨xs,hl,hx⟩:=list_of n (fun j hj=>h j (Nat.lt_succ_of_lt hj))
    obtain⟨p,hp⟩:=h n (Nat.lt_succ_self n)
    refine⟨xs++[p],by simp[hl],fun j q hq=>?_⟩
    rcases Nat.lt_or_ge j xs.length with hj|hj
    · rw[List.getElem?_append_left hj]at hq
      exact hx j q hq
    · have hj':j=xs.length:=by
        have:=(List.getElem?_eq_some_iff.1 hq).1
        rw[List.length_append,List.length_singleton]at this
        omega
      subst hj'
      have e:p=q:=by simpa using hq
      subst e
      rw[hl]
      exact hp
theorem cells_get{w:World}{base:Nat}{a:Addr}{n:Nat}{cs:List Value}(h:w.cells? base a n=some cs):cs.length=n∧∀i u,cs[i]?=some u→w.cell? (a.add i)=some u:=by
 unfold World.cells? at h;split at h;rotate_left;(·simp at h);have hl:=mapM_some_length h;rw[List.length_range]at hl;refine⟨hl,fun i u hu=>?_⟩;(have hi:i<n:=by have:=(List.getElem?_eq_some_iff.1 hu).1;omega);have:=mapM_some_get h i i (by simp[hi]);rw[this,hu]
theorem opens_int{P:Program}{t:TypeId}{k:IntKind}(ht:P.underlying t=some (.int k))(hc:P.cellsOf t=1):Opens P t (Kd.int k) (fun x=>(Lit.int k x).wf=true):=
  ⟨hc,fun h=>by
    obtain⟨n,rfl,_,hw⟩:=DataW.trod_int ht h
    exact⟨n,rfl,hw⟩⟩
theorem opens_slice{α:Type}{P:Program}{t e:TypeId}{d:Kd α}{G:α→Prop}(ht:P.underlying t=some (.slice e))(hc:P.cellsOf t=1)(he:Opens P e d G):
    Opens P t (Kd.slice e d) (fun l=>l.length≤9223372036854775807∧∀x∈l,G x):=by
 refine⟨hc,fun {H enc w base spare held fuel cs x} h=>?_⟩;(rcases DataW.trod_slice ht h with⟨rfl,_⟩|⟨a,len,cap,elems,rest,n,_,rfl,_,hb,hl,hm,hlen,hel,_,_⟩);(·exact⟨[],⟨none,0,rfl,Nat.le_refl _,rfl,by simp,fun hp=>absurd hp (by simp)⟩,by simp,by simp⟩);have hcap:cap≤9223372036854775807:=hm
 obtain⟨xs,hxl,hx⟩:=list_of (Q:=fun j p=>(∃c:List Value,c.length=d.sz∧d.K w p c∧∀i u,c[i]?=some u→w.cell? (a.add (j*d.sz+i))=some u)∧G p) len (fun j hj=>by
   have h1:=hel j hj
   rw[List.getElem?_eq_getElem (by omega),Option.bind_eq_some_iff]at h1
   obtain⟨cs',hcs,hy⟩:=h1
   obtain⟨p,hK,hG⟩:=he.2 hy
   obtain⟨hcl,hcell⟩:=cells_get hcs
   refine⟨p,⟨cs',by rw[hcl,he.1],hK,fun i u hu=>?_⟩,hG⟩
   have:=hcell i u hu
   rw[he.1]at this
   rw[←Addr.add_add]
   exact this)
 (have hlen2:xs.length≤cap:=by omega);refine⟨xs,⟨some a,cap,?_,hlen2,rfl,by omega,fun _=>⟨a,rfl,fun j p hj=>(hx j p hj).1⟩⟩,by omega,fun y hy=>?_⟩;(·rw[hxl]);obtain⟨j,hj⟩:=List.getElem?_of_mem hy;exact(hx j y hj).2
end Go.Proofs.YthckhdhbmgecfaaDoor.O
end
namespace Go.Proofs.YthckhdhbmgecfaaDoor.fnStoreMerges
open Go.ChangeShapes Go.WideShapes Go.ChangeAt Go.RowKit
open Go.ChangeMaps (open_string shut_string)
open Go.Proofs.YthckhdhbmgecfaaDoor.P Go.Proofs.YthckhdhbmgecfaaDoor.P.UFnStoreMerges Go.Proofs.YthckhdhbmgecfaaDoorW.PrintWords
set_option linter.unusedVariables false
theorem own:ownKnob Tryd.prog.godebug=none:=by kernel_rfl
theorem laidOut:laidOutB Tryd.prog=true:=by kernel_rfl
theorem tabW_of_laid{W:World}(h:laidMetH Tryd.prog Rows.fnStoreMergesRow.laid W):TabW W:=by
 rw[MakeChecks.laidMetH_plain _ _ _ (by kernel_rfl)]at h;obtain⟨ps,⟨g0_,t0_,cs0_,f0_,p0_,q0_,hg0_,ht0_,hv0_,hd0_,⟨g_,t_,cs_,f_,p_,q_,hg_,ht_,hv_,hd_,_,_⟩,_⟩,_⟩:=h;obtain rfl:=Option.some.inj ((show Tryd.prog.globalNamed "math/bits.deBruijn64tab" =some 3 by kernel_rfl).symm.trans hg_);obtain rfl:=Option.some.inj ((show(Tryd.prog.globals[3]?).map (·.type)=some 125 by kernel_rfl).symm.trans ht_);have hc:=Lib.cells_of_tab (zs:=[0,1,56,2,57,49,28,3,61,58,42,50,38,29,17,4,62,47,59,36,45,43,51,22,53,39,33,30,24,18,12,5,63,55,48,27,60,41,37,16,46,35,44,21,52,32,23,11,54,26,40,15,34,20,31,10,25,14,19,9,13,8,7,6]) Tryd.underlying125 Tryd.underlying5 (by kernel_rfl) (by kernel_rfl) hd_;have hx:=World.var?_cell hg_ hv_ 15;(have hs:cs_[15]?=some (.int .u8 4):=by(have e_:cs_=(cs_.toList).toArray:=by simp);rw[e_,hc];rfl);exact hx.trans hs
set_option maxRecDepth 100000 in
theorem lifted(os:Os)(started:os.Started)(H:Type)(enc:TypeId × Value→H):
    ReturnsInHanded {} Tryd.checked os 3 .any (fun w args=>(Rows.fnStoreMergesSpec.pre enc Tryd.prog Tryd.f3 [] false w args∧laidMetH Tryd.prog Rows.fnStoreMergesRow.laid w)∧sizedMet enc Tryd.prog Tryd.f3 (OpenSpec.ofChange Rows.fnStoreMergesSpec) false w args)
      (Rows.fnStoreMergesSpec.post enc Tryd.prog Tryd.f3 false true false false):=by
 refine returnsInHanded_of_change_and (C:=Tryd.checked) (X:=fun w _=>laidMetH Tryd.prog Rows.fnStoreMergesRow.laid w) (fun _ _ _ hh h=>h.of_heap hh) own started (by kernel_rfl) Tryd.func3
   (ChangeSpec.witness_shaped (enc:=enc) (C:=Tryd.checked) (os:=os) (X:=fun w _=>laidMetH Tryd.prog Rows.fnStoreMergesRow.laid w) false (World.laidAll Tryd.prog os Rows.fnStoreMergesRow.laid) #[.slice none 0 0] 8 (World.laidAll_os _ _ _)
     (World.shaped_of_ZipB (by kernel_rfl) (by kernel_rfl)) (by kernel_rfl) (by kernel_rfl) (by kernel_rfl)
     (by rw[MakeChecks.laidMetH_plain _ _ _ (by kernel_rfl)];exact laidMet_laidAll _ (by kernel_rfl) (by kernel_rfl))) ?_
 intro W base args ds gs before hval0 hW hcnd hsz0 hL _;have hval:∀(j:Nat) t v,Tryd.f3.params[j]?=some t→args[j]?=some v→Value.okWide Tryd.prog W .any base t v:=hval0;have hW':=hW;obtain⟨p,q,hA0,hV,rfl,hfz,hnd⟩:=hW;have hA:DataW.TrodAll enc Tryd.prog W 0 (fun _=>true) true Tryd.f3.params.toList args.toList ds p:=hA0;rw[Tryd.params3]at hA hval;obtain⟨v0,vs0,d0,ds0,p0,q0,hargs,rfl,rfl,h0,r0⟩:=trodAll_cons hA;obtain⟨rfl,rfl,rfl⟩:=trodAll_nil r0;(obtain rfl:args=#[v0]:=by cases args;simp_all);obtain⟨rfl,rfl⟩:=trodVars_none hV;have k0_:=h0;(have lt0:∀x∈p0,x.block<W.heap.size:=by obtain⟨m,hm⟩:=k0_;exact DataW.trod_lt m _ _ _ hm);obtain⟨b0,len0,cap0,rfl⟩:=okWide_slice Tryd.underlying22 (hval 0 22 v0 rfl rfl);obtain⟨fuel0,hf0⟩:=h0;obtain⟨l0,⟨A0,c0,hcs0,hc0,hr0⟩,g0⟩:=(O.opens_slice Tryd.underlying22 (by kernel_rfl) (O.opens_int Tryd.underlying5 (by kernel_rfl))).2 hf0;simp[Value.cells]at hcs0;obtain⟨rfl,rfl,rfl⟩:=hcs0;clear hA0 hval0 hsz0;obtain⟨k,h⟩:=VFnStoreMerges.proof l0 g0;have hTW:=tabW_of_laid hL;(refine(laws_FnStoreMerges.calls (hT:=hTW) k _ _ l0 true W hr0 hc0 h rfl).mono fun e W' hend=>?_);obtain⟨rfl,hbel⟩:=hend;have bel:Below W.heap.size W W':=hbel;exact⟨_,rfl,_,_,_,[],_,[],hW',trodAll_mk1 (shut_bool Tryd.underlying4 _),(trodAll_cons_mk (Below.trod laidOut (by kernel_rfl) (of_decide_eq_true (by kernel_rfl)) k0_ bel lt0) trodAll_mk0),rfl,bel.frame _,fun h=>by cases h⟩
theorem over:Rows.fnStoreMergesRow.holds Tryd.pinned (OpenSpec.ofChange Rows.fnStoreMergesSpec):=
  OpenClaim.holds_of_wide 3 Tryd.f3 rfl rfl rfl rfl rfl rfl rfl ⟨rfl,rfl,rfl,rfl,rfl⟩ rfl rfl rfl rfl rfl (by kernel_rfl) Tryd.func3 (by kernel_rfl)
    (of_decide_eq_true (by kernel_rfl)) (by unfold Func.isWrapper;first|(rw[if_pos (by decide +kernel)];kernel_rfl)|(rw[if_neg (by decide +kernel)];exact⟨rfl,rfl⟩))
    (fun os started H enc _=>lifted os started H enc)
set_option maxRecDepth 100000 in
theorem proved:Rows.FnStoreMergesCardSaid:=
  Claim7.holds_tied_plain_at .later [] [.data,.data,.data,.data,.pinned] true (true, "bdccf8505edf4039caa00a77b5b56df50bf824c16cb3fcf5eca90ab6615d039d") false over (fun _ h=>by cases h) (by kernel_rfl) (fun _ h=>by cases h) fnStoreMerges_row_tie rfl ⟨rfl,rfl⟩ (by kernel_rfl) rfl
    (fun f fn hf hfn=>by
      obtain rfl:f=3:=Option.some.inj ((show Tryd.prog.funcNamed "loop.example/g00172/laws.FnStoreMerges" =some 3 by kernel_rfl).symm.trans hf) |>.symm
      obtain rfl:fn=Tryd.f3:=(Option.some.inj (Tryd.func3.symm.trans hfn)).symm
      exact⟨by kernel_rfl,fun j t ht=>by
        rw[Tryd.params3]at ht
        have hm:t∈[22]:=by simpa using Array.mem_of_getElem? ht
        have hall:([22].all fun u=>!Tryd.prog.wantsStandIn u)=true:=by kernel_rfl
        exact(show Tryd.prog.wantsStandIn t=false by simpa using List.all_eq_true.1 hall t hm)⟩)
    (by kernel_rfl)
#print axioms proved
end Go.Proofs.YthckhdhbmgecfaaDoor.fnStoreMerges
namespace Go.Proofs.YthckhdhbmgecfaaDoor
theorem fnStoreMerges_holds:Rows.FnStoreMergesCardSaid:=fnStoreMerges.proved
end Go.Proofs.YthckhdhbmgecfaaDoor
