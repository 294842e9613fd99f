/- FnExactParsePatch: the law of the program holds at every input: the Go function returns true, and its arguments read afterwards as before.
Conditions: none beyond the given statement's own (what can be read as data, of a size that memory bears). -/
import Derived.Lib.Strings
import Derived.Lib.Bytealg
import Derived.Lib.Join
import Derived.Lib.Split
import Derived.Lib.SplitLaws
import Derived.Lib.ItoaNum
import Derived.Laws.BytesArg
import Derived.Lib.IndexMore
import Derived.Test.YthmmmiknmkpbeaaDoorCards
import Derived.Test.YthmmmiknmkpbeaaDoorTie
import Derived.Lay
import Derived.LaidOnce
import Derived.SevenTiedAt
import Derived.Lib.LaidTab
import Derived.Stop.LaidErr
import Derived.Test.YthmmmiknmkpbeaaDoorRows
import Derived.WalkKit
import Derived.ProofKit
import Derived.OpenShut
import Derived.ShutString
import Derived.ChangeOld
import Derived.Below
import Derived.SizedLaws
import Derived.Carry
import Derived.Test.YthmmmiknmkpbeaaDoorCFnExactParsePatch1
import Derived.Test.YthmmmiknmkpbeaaDoorCFnExactParsePatch2
import Derived.Test.YthmmmiknmkpbeaaDoorCFnExactParsePatch3
section
namespace Go.Proofs.YthmmmiknmkpbeaaDoor.P
open Go.RowKit Go.Proofs.YthmmmiknmkpbeaaDoorW.PrintWords Go.Proofs.YthmmmiknmkpbeaaDoorW.PrintLast Go.Proofs.YthmmmiknmkpbeaaDoorW.PrintMore
attribute [local go_sem] max2_int min2_int max_two min_two max_three min_three max_four min_four
set_option linter.unusedVariables false
set_option linter.unusedSimpArgs false
def laws_heldHunkS.l0 : Nat → List (S44) → Int → Int → Option (Int)
 | 0, _, _, _ => none
 | k + 1, x0, x1, x5 => if x5 < (x0.length : Int) then (if 0 ≤ x5 then (if ((rd_T44 x0 x5).f0) = x1 then (if ((rd_T44 x0 x5).f1) = (wrap64 (x1 + 1)) then ((laws_heldStringS.f k ((rd_T44 x0 x5).f2) (wrap64 ((wrap64 (x1 + 1)) + 1))).bind fun t287 => (if t287 < 0 then (some (-1)) else (laws_heldHunkS.l0 k x0 t287 (wrap64 (x5 + 1))))) else (some (-1))) else (some (-1))) else (none)) else (some x1)
def laws_heldHunkS.f (k : Nat) (l0 : List (S44)) (a1 : Int) : Option (Int) := laws_heldHunkS.l0 k l0 a1 0
set_option maxHeartbeats 8000000 in
set_option maxRecDepth 100000 in
theorem laws_heldHunkS.calls (k : Nat) (A0 : Option Addr) (c0 : Nat) (l0 : List (S44)) (a1 : Int) (r : Int) (w : World) (hr0 : Kd.C k44 w A0 l0.length l0) (hc0 : l0.length ≤ c0) (h : laws_heldHunkS.f k l0 a1 = some r) :
  Calls Tryd.prog 33 #[.slice A0 l0.length c0, .int .i64 a1] w fun e w' => e = .returned (.int .i64 r) ∧ Below w.heap.size w w' := by
 have HR0 := a_ hr0;have HC0 := a_ hc0;clear hr0 hc0;have HB := a_ (Below.refl w.heap.size w);have H : (laws_heldHunkS.l0 k l0 a1 0) = some r := h;clear h;have H' := a_ H;clear H;go_enter Tryd.func33, Tryd.ntmps33;go_wp2;go_loopg [1, 5] k (fun kq v1 v5 w' => ∃ (x1_1 : Int) (x5_1 : Int), v1 = .int .i64 x1_1 ∧ v5 = .int .i64 x5_1 ∧ Aside0 (laws_heldHunkS.l0 kq l0 x1_1 x5_1 = some r) ∧ Aside0 (kq ≤ k) ∧ Aside0 (Below w.heap.size w w'));(case atStart => exact ⟨(a1), (0), ls_, ls_, H', ⟨Nat.le_refl _⟩, ⟨bw_ HB.out⟩⟩)
 case round =>
  clear H';(try clear p2);obtain ⟨x1_1, x5_1, rfl, rfl, HA, HK1, HB⟩ := hrel
  cases gk with
  | zero => exact absurd HA.out (by simp [laws_heldHunkS.l0])
  | succ k1 =>
   have H := HA.out;clear HA;simp only [laws_heldHunkS.l0] at H;by_cases c3 : x5_1 < (l0.length : Int);rotate_left;(·rw [if_neg c3] at H;have c3b0 := decide_eq_false c3;clear c3;obtain rfl := Option.some.inj H;go_wp2;go_ret;exact ⟨by first | rfl | (simp [errW_none, errW_some] <;> rfl) | (simp [*, errW_none, errW_some] <;> rfl), bw_ HB.out⟩);rw [if_pos c3] at H;have c3b0 := decide_eq_true c3;clear c3;obtain ⟨c4, Hq⟩ := if_ H;clear H;have H := Hq;clear Hq;have c4b0 := decide_eq_true c4;clear c4;by_cases c5 : ((rd_T44 l0 x5_1).f0) = x1_1;rotate_left;(·rw [if_neg c5] at H;have c5b0 : (((rd_T44 l0 x5_1).f0) == x1_1) = false := beq_eq_false_iff_ne.mpr c5;have c5b1 : (((rd_T44 l0 x5_1).f0) != x1_1) = true := bne_iff_ne.mpr c5;obtain rfl := Option.some.inj H;have p284 : 0 ≤ (x5_1 : Int) := od_;have q284 : x5_1 < (l0.length : Int) := od_;obtain ⟨ad284, A284_2, c284_2, e284, hx284_0, hx284_1, hx284_2, hl284_2, hi284_2⟩ := at_T44 HR0.out x5_1 p284 q284;cases e284;replace hx284_0 := hc_ HB.out hx284_0;replace hx284_1 := hc_ HB.out hx284_1;replace hx284_2 := hc_ HB.out hx284_2;have HR284_2 := a_ hi284_2;have HC284_2 := a_ hl284_2;clear hi284_2 hl284_2;replace p284 := eq_true p284;replace q284 := eq_true q284;go_wp2;go_ret;exact ⟨by first | rfl | (simp [errW_none, errW_some] <;> rfl) | (simp [*, errW_none, errW_some] <;> rfl), bw_ HB.out⟩);rw [if_pos c5] at H;have c5b0 : (((rd_T44 l0 x5_1).f0) == x1_1) = true := beq_iff_eq.mpr c5;have c5b1 : (((rd_T44 l0 x5_1).f0) != x1_1) = false := bne_eq_false_iff_eq.mpr c5;clear c5;by_cases c6 : ((rd_T44 l0 x5_1).f1) = (wrap64 (x1_1 + 1));rotate_left;(·rw [if_neg c6] at H;have c6b0 : (((rd_T44 l0 x5_1).f1) == (wrap64 (x1_1 + 1))) = false := beq_eq_false_iff_ne.mpr c6;have c6b1 : (((rd_T44 l0 x5_1).f1) != (wrap64 (x1_1 + 1))) = true := bne_iff_ne.mpr c6;obtain rfl := Option.some.inj H;have p284 : 0 ≤ (x5_1 : Int) := od_;have q284 : x5_1 < (l0.length : Int) := od_;obtain ⟨ad284, A284_2, c284_2, e284, hx284_0, hx284_1, hx284_2, hl284_2, hi284_2⟩ := at_T44 HR0.out x5_1 p284 q284;cases e284;replace hx284_0 := hc_ HB.out hx284_0;replace hx284_1 := hc_ HB.out hx284_1;replace hx284_2 := hc_ HB.out hx284_2;have HR284_2 := a_ hi284_2;have HC284_2 := a_ hl284_2;clear hi284_2 hl284_2;replace p284 := eq_true p284;replace q284 := eq_true q284;have p285 : 0 ≤ (x5_1 : Int) := od_;have q285 : x5_1 < (l0.length : Int) := od_;obtain ⟨ad285, A285_2, c285_2, e285, hx285_0, hx285_1, hx285_2, hl285_2, hi285_2⟩ := at_T44 HR0.out x5_1 p285 q285;obtain rfl : ad284 = ad285 := (by injection e285);replace hx285_0 := hc_ HB.out hx285_0;replace hx285_1 := hc_ HB.out hx285_1;replace hx285_2 := hc_ HB.out hx285_2;have HR285_2 := a_ hi285_2;have HC285_2 := a_ hl285_2;clear hi285_2 hl285_2;replace p285 := eq_true p285;replace q285 := eq_true q285;have ea_ := Option.some.inj (hx284_2.symm.trans hx285_2);(injection ea_ with ea_ en_ ec_);subst ea_;subst ec_;clear en_;go_wp2;go_ret;exact ⟨by first | rfl | (simp [errW_none, errW_some] <;> rfl) | (simp [*, errW_none, errW_some] <;> rfl), bw_ HB.out⟩);rw [if_pos c6] at H;have c6b0 : (((rd_T44 l0 x5_1).f1) == (wrap64 (x1_1 + 1))) = true := beq_iff_eq.mpr c6;have c6b1 : (((rd_T44 l0 x5_1).f1) != (wrap64 (x1_1 + 1))) = false := bne_eq_false_iff_eq.mpr c6;clear c6;replace H := Option.bind_eq_some_iff.mp H;obtain ⟨t287, A70, H⟩ := H;(try dsimp only at H);have A7 := a_ A70;clear A70;by_cases c8 : t287 < 0;(·rw [if_pos c8] at H;have c8b0 := decide_eq_true c8;clear c8;obtain rfl := Option.some.inj H;have p284 : 0 ≤ (x5_1 : Int) := od_;have q284 : x5_1 < (l0.length : Int) := od_;obtain ⟨ad284, A284_2, c284_2, e284, hx284_0, hx284_1, hx284_2, hl284_2, hi284_2⟩ := at_T44 HR0.out x5_1 p284 q284;cases e284;replace hx284_0 := hc_ HB.out hx284_0;replace hx284_1 := hc_ HB.out hx284_1;replace hx284_2 := hc_ HB.out hx284_2;have HR284_2 := a_ hi284_2;have HC284_2 := a_ hl284_2;clear hi284_2 hl284_2;replace p284 := eq_true p284;replace q284 := eq_true q284;have p285 : 0 ≤ (x5_1 : Int) := od_;have q285 : x5_1 < (l0.length : Int) := od_;obtain ⟨ad285, A285_2, c285_2, e285, hx285_0, hx285_1, hx285_2, hl285_2, hi285_2⟩ := at_T44 HR0.out x5_1 p285 q285;obtain rfl : ad284 = ad285 := (by injection e285);replace hx285_0 := hc_ HB.out hx285_0;replace hx285_1 := hc_ HB.out hx285_1;replace hx285_2 := hc_ HB.out hx285_2;have HR285_2 := a_ hi285_2;have HC285_2 := a_ hl285_2;clear hi285_2 hl285_2;replace p285 := eq_true p285;replace q285 := eq_true q285;have ea_ := Option.some.inj (hx284_2.symm.trans hx285_2);(injection ea_ with ea_ en_ ec_);subst ea_;subst ec_;clear en_;have p286 : 0 ≤ (x5_1 : Int) := od_;have q286 : x5_1 < (l0.length : Int) := od_;obtain ⟨ad286, A286_2, c286_2, e286, hx286_0, hx286_1, hx286_2, hl286_2, hi286_2⟩ := at_T44 HR0.out x5_1 p286 q286;obtain rfl : ad284 = ad286 := (by injection e286);replace hx286_0 := hc_ HB.out hx286_0;replace hx286_1 := hc_ HB.out hx286_1;replace hx286_2 := hc_ HB.out hx286_2;have HR286_2 := a_ hi286_2;have HC286_2 := a_ hl286_2;clear hi286_2 hl286_2;replace p286 := eq_true p286;replace q286 := eq_true q286;have ea_ := Option.some.inj (hx284_2.symm.trans hx286_2);(injection ea_ with ea_ en_ ec_);subst ea_;subst ec_;clear en_;go_wp2_with (first | ((with_reducible refine gate_callee (f := 53) rfl ?_);refine goesL_ (some 36) rfl rfl Tryd.func53 (by kernel_rfl) rfl #[.slice A284_2 ((rd_T44 l0 x5_1).f2).length c284_2, .int .i64 (wrap64 ((wrap64 (x1_1 + 1)) + 1))] rfl lf_ ?_;(with_reducible refine (laws_heldStringS.calls k1 _ _ ((rd_T44 l0 x5_1).f2) (wrap64 ((wrap64 (x1_1 + 1)) + 1)) t287 _ ?side1 ?side2 A7.out).mono ?_);(case side1 => exact rc_ (Kd.C_below HR286_2.out HB.out));(case side2 => exact HC286_2.out);rintro e w9 ⟨rfl, hb⟩;refine ⟨_, rfl, ?_⟩;replace HB := a_ (below_step (bw_ HB.out) hb);(try clear hb);(try clear hb2);(try clear hk);(try clear hi)));go_ret;exact ⟨by first | rfl | (simp [errW_none, errW_some] <;> rfl) | (simp [*, errW_none, errW_some] <;> rfl), bw_ HB.out⟩);rw [if_neg c8] at H;have c8b0 := decide_eq_false c8;clear c8;have H' := a_ H;clear H;have p284 : 0 ≤ (x5_1 : Int) := od_;have q284 : x5_1 < (l0.length : Int) := od_;obtain ⟨ad284, A284_2, c284_2, e284, hx284_0, hx284_1, hx284_2, hl284_2, hi284_2⟩ := at_T44 HR0.out x5_1 p284 q284;cases e284;replace hx284_0 := hc_ HB.out hx284_0;replace hx284_1 := hc_ HB.out hx284_1;replace hx284_2 := hc_ HB.out hx284_2;have HR284_2 := a_ hi284_2;have HC284_2 := a_ hl284_2;clear hi284_2 hl284_2;replace p284 := eq_true p284;replace q284 := eq_true q284;have p285 : 0 ≤ (x5_1 : Int) := od_;have q285 : x5_1 < (l0.length : Int) := od_;obtain ⟨ad285, A285_2, c285_2, e285, hx285_0, hx285_1, hx285_2, hl285_2, hi285_2⟩ := at_T44 HR0.out x5_1 p285 q285;obtain rfl : ad284 = ad285 := (by injection e285);replace hx285_0 := hc_ HB.out hx285_0;replace hx285_1 := hc_ HB.out hx285_1;replace hx285_2 := hc_ HB.out hx285_2;have HR285_2 := a_ hi285_2;have HC285_2 := a_ hl285_2;clear hi285_2 hl285_2;replace p285 := eq_true p285;replace q285 := eq_true q285;have ea_ := Option.some.inj (hx284_2.symm.trans hx285_2);(injection ea_ with ea_ en_ ec_);subst ea_;subst ec_;clear en_;have p286 : 0 ≤ (x5_1 : Int) := od_;have q286 : x5_1 < (l0.length : Int) := od_;obtain ⟨ad286, A286_2, c286_2, e286, hx286_0, hx286_1, hx286_2, hl286_2, hi286_2⟩ := at_T44 HR0.out x5_1 p286 q286;obtain rfl : ad284 = ad286 := (by injection e286);replace hx286_0 := hc_ HB.out hx286_0;replace hx286_1 := hc_ HB.out hx286_1;replace hx286_2 := hc_ HB.out hx286_2;have HR286_2 := a_ hi286_2;have HC286_2 := a_ hl286_2;clear hi286_2 hl286_2;replace p286 := eq_true p286;replace q286 := eq_true q286;have ea_ := Option.some.inj (hx284_2.symm.trans hx286_2);(injection ea_ with ea_ en_ ec_);subst ea_;subst ec_;clear en_;go_wp2_with (first | ((with_reducible refine gate_callee (f := 53) rfl ?_);refine goesL_ (some 36) rfl rfl Tryd.func53 (by kernel_rfl) rfl #[.slice A284_2 ((rd_T44 l0 x5_1).f2).length c284_2, .int .i64 (wrap64 ((wrap64 (x1_1 + 1)) + 1))] rfl lf_ ?_;(with_reducible refine (laws_heldStringS.calls k1 _ _ ((rd_T44 l0 x5_1).f2) (wrap64 ((wrap64 (x1_1 + 1)) + 1)) t287 _ ?side1 ?side2 A7.out).mono ?_);(case side1 => exact rc_ (Kd.C_below HR286_2.out HB.out));(case side2 => exact HC286_2.out);rintro e w10 ⟨rfl, hb⟩;refine ⟨_, rfl, ?_⟩;replace HB := a_ (below_step (bw_ HB.out) hb);(try clear hb);(try clear hb2);(try clear hk);(try clear hi)));go_roundg k1;(case measure => have := HK1.out;omega);case rel => exact ⟨(t287), (wrap64 (x5_1 + 1)), ls_, ls_, H', ⟨by have := HK1.out;omega⟩, ⟨bw_ HB.out⟩⟩
def laws_heldHunksResult.f (k : Nat) (a0_0 : Int) (a0_1 : Int) (l0_2 : List (S44)) (a1 : Int) : Option (Int) := (laws_heldHunkS.f k l0_2 a1).bind fun t289 => (if t289 < 0 then (some (-1)) else (some t289))
set_option maxHeartbeats 8000000 in
set_option maxRecDepth 100000 in
theorem laws_heldHunksResult.calls (k : Nat) (a0_0 : Int) (a0_1 : Int) (A0_2 : Option Addr) (c0_2 : Nat) (l0_2 : List (S44)) (a1 : Int) (r : Int) (w : World) (hr0_2 : Kd.C k44 w A0_2 l0_2.length l0_2) (hc0_2 : l0_2.length ≤ c0_2) (h : laws_heldHunksResult.f k a0_0 a0_1 l0_2 a1 = some r) :
  Calls Tryd.prog 15 #[.agg #[.int .i64 a0_0, .int .i64 a0_1, .slice A0_2 l0_2.length c0_2], .int .i64 a1] w fun e w' => e = .returned (.int .i64 r) ∧ Below w.heap.size w w' := by
 have hu33 := Tryd.underlying33;have HR0_2 := a_ hr0_2;have HC0_2 := a_ hc0_2;clear hr0_2 hc0_2;have HB := a_ (Below.refl w.heap.size w);have H : ((laws_heldHunkS.f k l0_2 a1).bind fun t289 => (if t289 < 0 then (some (-1)) else (some t289))) = some r := h;clear h;replace H := Option.bind_eq_some_iff.mp H;obtain ⟨t289, A30, H⟩ := H;(try dsimp only at H);have A3 := a_ A30;clear A30;by_cases c4 : t289 < 0;(·rw [if_pos c4] at H;have c4b0 := decide_eq_true c4;clear c4;obtain rfl := Option.some.inj H;go_enter Tryd.func15, Tryd.ntmps15;go_wp2_with (first | ((with_reducible refine gate_dst (N := 2) rfl ?_);refine box_event ?hg (N := 2) ?hd (cs := #[.int .i64 a0_0, .int .i64 a0_1, .slice A0_2 l0_2.length c0_2]) (t := 33) ?hr ?_;(case hd => rfl);(case hg => rfl);(case hr => first | (go_simp;done) | (go_simp;rfl));intro gb288 hg w5 hbox hb;have BK288 := a_ (hbox);have GW288 := a_ ((by rw [hg];exact (below_size (bw_ HB.out)) : w.heap.size ≤ gb288));have GE288 := a_ ((by rw [hg];exact (below_size (bw_ HB.out)) : w.heap.size ≤ gb288));replace HB := a_ (below_step (bw_ HB.out) hb);clear hb hbox hg;have hcz6_0 : w5.cell? ⟨gb288, 0, none⟩ = some (.int .i64 a0_0) := (blk_cell BK288.out 0).trans rfl;have hcz6_1 : w5.cell? ⟨gb288, 1, none⟩ = some (.int .i64 a0_1) := (blk_cell BK288.out 1).trans rfl;have hcz6_2 : w5.cell? ⟨gb288, 2, none⟩ = some (.slice A0_2 l0_2.length c0_2) := (blk_cell BK288.out 2).trans rfl;have hfz6_0 := blk_frozen BK288.out 0;have hfz6_1 := blk_frozen BK288.out 1;have hfz6_2 := blk_frozen BK288.out 2) | ((with_reducible refine gate_callee (f := 33) rfl ?_);refine goesL_ (some 8) rfl rfl Tryd.func33 (by kernel_rfl) rfl #[.slice A0_2 l0_2.length c0_2, .int .i64 a1] rfl lf_ ?_;(with_reducible refine (laws_heldHunkS.calls k _ _ l0_2 a1 t289 _ ?side1 ?side2 A3.out).mono ?_);(case side1 => exact rc_ (Kd.C_below HR0_2.out HB.out));(case side2 => exact HC0_2.out);rintro e w7 ⟨rfl, hb⟩;refine ⟨_, rfl, ?_⟩;replace BK288 := a_ (bb_ BK288.out hb);replace HB := a_ (below_step (bw1_ HB.out GE288.out) hb);(try clear hb);(try clear hb2);(try clear hk);(try clear hi)));go_ret;exact ⟨by first | rfl | (simp [errW_none, errW_some] <;> rfl) | (simp [*, errW_none, errW_some] <;> rfl), bw1_ HB.out GE288.out⟩);rw [if_neg c4] at H;have c4b0 := decide_eq_false c4;clear c4;obtain rfl := Option.some.inj H;go_enter Tryd.func15, Tryd.ntmps15;go_wp2_with (first | ((with_reducible refine gate_dst (N := 2) rfl ?_);refine box_event ?hg (N := 2) ?hd (cs := #[.int .i64 a0_0, .int .i64 a0_1, .slice A0_2 l0_2.length c0_2]) (t := 33) ?hr ?_;(case hd => rfl);(case hg => rfl);(case hr => first | (go_simp;done) | (go_simp;rfl));intro gb288 hg w8 hbox hb;have BK288 := a_ (hbox);have GW288 := a_ ((by rw [hg];exact (below_size (bw_ HB.out)) : w.heap.size ≤ gb288));have GE288 := a_ ((by rw [hg];exact (below_size (bw_ HB.out)) : w.heap.size ≤ gb288));replace HB := a_ (below_step (bw_ HB.out) hb);clear hb hbox hg;have hcz9_0 : w8.cell? ⟨gb288, 0, none⟩ = some (.int .i64 a0_0) := (blk_cell BK288.out 0).trans rfl;have hcz9_1 : w8.cell? ⟨gb288, 1, none⟩ = some (.int .i64 a0_1) := (blk_cell BK288.out 1).trans rfl;have hcz9_2 : w8.cell? ⟨gb288, 2, none⟩ = some (.slice A0_2 l0_2.length c0_2) := (blk_cell BK288.out 2).trans rfl;have hfz9_0 := blk_frozen BK288.out 0;have hfz9_1 := blk_frozen BK288.out 1;have hfz9_2 := blk_frozen BK288.out 2) | ((with_reducible refine gate_callee (f := 33) rfl ?_);refine goesL_ (some 8) rfl rfl Tryd.func33 (by kernel_rfl) rfl #[.slice A0_2 l0_2.length c0_2, .int .i64 a1] rfl lf_ ?_;(with_reducible refine (laws_heldHunkS.calls k _ _ l0_2 a1 t289 _ ?side1 ?side2 A3.out).mono ?_);(case side1 => exact rc_ (Kd.C_below HR0_2.out HB.out));(case side2 => exact HC0_2.out);rintro e w10 ⟨rfl, hb⟩;refine ⟨_, rfl, ?_⟩;replace BK288 := a_ (bb_ BK288.out hb);replace HB := a_ (below_step (bw1_ HB.out GE288.out) hb);(try clear hb);(try clear hb2);(try clear hk);(try clear hi)));go_ret;exact ⟨by first | rfl | (simp [errW_none, errW_some] <;> rfl) | (simp [*, errW_none, errW_some] <;> rfl), bw1_ HB.out GE288.out⟩
def laws_markStringS.l0 : Nat → List ByteArray → Int → Int → Option (Int × List ByteArray)
 | 0, _, _, _ => none
 | k + 1, x0, x1, x5 => if x5 < (x0.length : Int) then ((laws_markText.f k x1).bind fun t280 => (if 0 ≤ x5 then (laws_markStringS.l0 k (x0.set (x5 : Int).toNat t280) (wrap64 (x1 + 1)) (wrap64 (x5 + 1))) else (none))) else (some (x1, x0))
def laws_markStringS.f (k : Nat) (l0 : List ByteArray) (a1 : Int) : Option (Int × List ByteArray) := laws_markStringS.l0 k l0 a1 0
set_option maxHeartbeats 8000000 in
set_option maxRecDepth 100000 in
theorem laws_markStringS.calls (k : Nat) (P0_ : Nat → Prop) (u9000_ : Value) (l0 : List ByteArray) (a1 : Int) (r1 : Int) (r2 : List ByteArray) (w0 w : World) (hB : Below w0.heap.size w0 w) (ho0 : Kd.R Kd.string 9 w w0.heap.size P0_ u9000_ l0) (h : laws_markStringS.f k l0 a1 = some (r1, r2)) :
  Calls Tryd.prog 52 #[u9000_, .int .i64 a1] w fun e w' => e = .returned (.int .i64 r1) ∧ Kd.R Kd.string 9 w' w0.heap.size (fun k_ => (P0_ k_ ∨ w.heap.size ≤ k_)) u9000_ r2 ∧ Below w0.heap.size w0 w' ∧ Kept w w' (fun k_ => P0_ k_) := by
 have HO0 := a_ (show Kd.R Kd.string 9 w w0.heap.size (fun k_ => (P0_ k_ ∨ w.heap.size ≤ k_)) u9000_ l0 from Kd.R_mono ho0 (fun k_ hk => (.inl hk)));have HK := a_ (Kept.refl w (fun k_ => P0_ k_));have HW0 := a_ hB.size;have HB := a_ hB;clear hB;have H : (laws_markStringS.l0 k l0 a1 0) = some (r1, r2) := h;clear h;have H' := a_ H;clear H;go_enter Tryd.func52, Tryd.ntmps52;go_wp2;go_loopg [1, 5] k (fun kq v1 v5 w' => ∃ (x0_1 : List ByteArray) (x1_1 : Int) (x5_1 : Int), v1 = .int .i64 x1_1 ∧ v5 = .int .i64 x5_1 ∧ Aside0 (laws_markStringS.l0 kq x0_1 x1_1 x5_1 = some (r1, r2)) ∧ Aside0 (kq ≤ k) ∧ Aside0 (Kd.R Kd.string 9 w' w0.heap.size (fun k_ => (P0_ k_ ∨ w.heap.size ≤ k_)) u9000_ x0_1) ∧ Aside0 (Kept w w' (fun k_ => P0_ k_)) ∧ Aside0 (Below w0.heap.size w0 w'));(case atStart => exact ⟨(l0), (a1), (0), ls_, ls_, H', ⟨Nat.le_refl _⟩, ⟨rr_ HO0.out⟩, ⟨kp_ HK.out⟩, ⟨bw_ HB.out⟩⟩)
 case round =>
  clear H';(try clear p2);obtain ⟨x0_1, x1_1, x5_1, rfl, rfl, HA, HK1, HO_0, HK, HB⟩ := hrel
  cases gk with
  | zero => exact absurd HA.out (by simp [laws_markStringS.l0])
  | succ k1 =>
   have H := HA.out;clear HA;simp only [laws_markStringS.l0] at H;by_cases c3 : x5_1 < (x0_1.length : Int);rotate_left;(·rw [if_neg c3] at H;have c3b0 := decide_eq_false c3;clear c3;simp only [Option.some.injEq, Prod.mk.injEq] at H;obtain ⟨rfl, rfl⟩ := H;obtain ⟨Ao11, co11, eo11⟩ := Kd.R_slice HO_0.out;subst eo11;go_wp2;go_ret;exact ⟨by first | rfl | (simp [errW_none, errW_some] <;> rfl) | (simp [*, errW_none, errW_some] <;> rfl), rr_ HO_0.out, bw_ HB.out, kp_ HK.out⟩);rw [if_pos c3] at H;have c3b0 := decide_eq_true c3;clear c3;replace H := Option.bind_eq_some_iff.mp H;obtain ⟨t280, A40, H⟩ := H;(try dsimp only at H);have A4 := a_ A40;clear A40;obtain ⟨c5, Hq⟩ := if_ H;clear H;have H := Hq;clear Hq;have c5b0 := decide_eq_true c5;clear c5;obtain ⟨y281, hy281⟩ : ∃ y_ : List ByteArray, y_ = (x0_1.set (x5_1 : Int).toNat t280) := ⟨_, rfl⟩;(replace H : (laws_markStringS.l0 k1 y281 (wrap64 (x1_1 + 1)) (wrap64 (x5_1 + 1))) = some (r1, r2) := yh_ H hy281);have Ny281 := a_ hy281;clear hy281;have H' := a_ H;clear H;obtain ⟨Ao7, co7, eo7⟩ := Kd.R_slice HO_0.out;subst eo7;go_wp2_with (first | ((with_reducible refine gate_callee (f := 67) rfl ?_);refine goesL_ (some 15) rfl rfl Tryd.func67 (by kernel_rfl) rfl #[.int .i64 x1_1] rfl lf_ ?_;(with_reducible refine (laws_markText.calls k1 x1_1 t280 _ A4.out).mono ?_);rintro e w8 ⟨rfl, hb⟩;refine ⟨_, rfl, ?_⟩;replace HO_0 := a_ (Kd.R_below (rr_ HO_0.out) hb);replace HK := a_ (Kept.below (S := (fun k_ => P0_ k_)) (kp_ HK.out) hb);replace HB := a_ (below_step (bw_ HB.out) hb);(try clear hb);(try clear hb2);(try clear hk);(try clear hi);have p6 : 0 ≤ (x5_1 : Int) := od_;have q6 : (x5_1 : Int) < ((x0_1.length : Int) : Int) := od_;obtain ⟨go6, co6, eo6, gb6, gl6, cl6, HG6⟩ := Kd.R_form HO_0.out (by omega);(first | cases eo6 | (injection eo6 with ea_ en_ ec_;(first | subst ea_ | (injection ea_ with ea_;subst ea_));subst ec_;clear en_));have GB6 := a_ gb6;have GG6 := a_ HG6;clear gb6 gl6 HG6;have HMgo6 := a_ (show (P0_ go6 ∨ w.heap.size ≤ go6) from (HO_0.out.1 _ rfl));obtain ⟨hx6_0, hf6_0⟩ := Kd.R_celln (⟨#[]⟩ : ByteArray) HO_0.out (x5_1 : Int) p6 q6;replace p6 := eq_true p6;replace q6 := eq_true q6;obtain ⟨hy9_, hz9_⟩ := Kd.R_celln (⟨#[]⟩ : ByteArray) HO_0.out (x5_1 : Int) od_ od_;have HP9 := Kd.R_putg HO_0.out (x5_1 : Int) t280) | ((with_reducible refine gate_store (t := 9) (p := 16) rfl ?_);refine store_event (t := 9) (p := 16) (v := ?vo_w10) (w1 := (w8.setCell ⟨go6, (x5_1 : Int).toNat, none⟩ (.string t280))) ?hg ?ho ?hn ?hr ?_;(case ho => rfl);(case hg => rfl);(case hn => rfl);(case hr => first | (go_simp;done) | (go_simp;rfl));intro w10 hw;have hg : w8.grownBy w10 (some go6) := (by rw [hw];exact HP9.2);have hp_ : Kd.R Kd.string 9 w10 w0.heap.size (fun k_ => (P0_ k_ ∨ w.heap.size ≤ k_)) (.slice (some ⟨go6, 0, none⟩) x0_1.length co7) y281 := (by rw [hw, Ny281.out];exact HP9.1);clear HP9;replace HB := a_ ((by rw [hw];exact below_set (HB.out) GB6.out : Below w0.heap.size w0 w10));replace HK := a_ (Kept.of_grown (S := (fun k_ => P0_ k_)) hg (kp_ HK.out) (fun k_ e_ => (HO_0.out.1 k_ e_)));replace HO_0 := a_ (hp_);clear hg hw hp_));go_roundg k1;(case measure => have := HK1.out;omega);case rel => exact ⟨(y281), (wrap64 (x1_1 + 1)), (wrap64 (x5_1 + 1)), ls_, ls_, H', ⟨by have := HK1.out;omega⟩, ⟨rr_ HO_0.out⟩, ⟨kp_ HK.out⟩, ⟨bw_ HB.out⟩⟩
theorem mark_inner (k : Nat) (i : Int) (xs : List S44) (ok : Nat → Prop) (g n cap : Nat) (A : Option Addr) (c : Nat) (a1 r1 : Int) (r2 : List ByteArray) (w0 w : World) (hS : Kd.S k44 44 w w0.heap.size ok (.slice (some ⟨g, 0, none⟩) n cap) xs) (h0 : 0 ≤ i) (h1 : i < (n : Int))
    (hc : w.cell? ⟨g, i.toNat * 3 + 2, none⟩ = some (.slice A ((rd_T44 xs i).f2).length c)) (hB : Below w0.heap.size w0 w) (h : laws_markStringS.f k ((rd_T44 xs i).f2) a1 = some (r1, r2)) :
    Calls Tryd.prog 52 #[.slice A ((rd_T44 xs i).f2).length c, .int .i64 a1] w fun e w' => e = .returned (.int .i64 r1) ∧ Kd.S k44 44 w' w0.heap.size ok (.slice (some ⟨g, 0, none⟩) n cap) (xs.set i.toNat (⟨(rd_T44 xs i).f0, (rd_T44 xs i).f1, r2⟩ : S44)) ∧ Below w0.heap.size w0 w' ∧ Kept w w' ok := by
 obtain ⟨oki, cs, hcl, hM, hcc, hoki, hH⟩ := Kd.S_lend hS z44 i h0 h1;obtain ⟨ve, rfl, ge⟩ := k44_openM hM;have hv := hcc 2 _ rfl;have he : ve = .slice A ((rd_T44 xs i).f2).length c := Option.some.inj (hv.symm.trans hc);subst he;refine (laws_markStringS.calls k (fun k_ => some k_ = (Value.slice A ((rd_T44 xs i).f2).length c).ownBlock) _ ((rd_T44 xs i).f2) a1 r1 r2 w0 w hB (Kd.R_tight rfl ge) h).mono (fun e w' hend => ?_);obtain ⟨rfl, hy, hb, hkp⟩ := hend;refine ⟨rfl, ?_, hb, hkp.mono (fun k_ e_ => (hoki k_ (ge.1 k_ e_.symm)).1)⟩;have hH2 := Kd.H_step (w1 := w') hH (fun k_ _ hn hlt => hkp.2 k_ hlt (fun e_ => hn (ge.1 k_ e_.symm)));exact Kd.H_back hH2 (okp := oki) (x' := (⟨(rd_T44 xs i).f0, (rd_T44 xs i).f1, r2⟩ : S44)) (k44_mkM _ _ _ (⟨(rd_T44 xs i).f0, (rd_T44 xs i).f1, r2⟩ : S44) (Kd.R_reok rfl hy (fun k_ e_ => ge.1 k_ e_))) (fun _ hk => hk)
def laws_markHunkS.l0 : Nat → List (S44) → Int → Int → Option (Int × (List (S44)))
  | 0, _, _, _ => none
  | k + 1, x0, x1, x5 => if x5 < (x0.length : Int) then (if 0 ≤ x5 then ((some (x0.set (x5 : Int).toNat (⟨x1, (rd_T44 x0 x5).f1, (rd_T44 x0 x5).f2⟩ : S44) : List (S44))).bind fun y311 => ((some (y311.set (x5 : Int).toNat (⟨(rd_T44 y311 x5).f0, wrap64 (x1 + 1), (rd_T44 y311 x5).f2⟩ : S44) : List (S44))).bind fun y312 => ((laws_markStringS.f k ((rd_T44 y312 x5).f2) (wrap64 ((wrap64 (x1 + 1)) + 1))).bind fun bt314 => (laws_markHunkS.l0 k (y312.set (x5 : Int).toNat (⟨(rd_T44 y312 x5).f0, (rd_T44 y312 x5).f1, bt314.2⟩ : S44)) bt314.1 (wrap64 (x5 + 1)))))) else (none)) else (some (x1, x0))
def laws_markHunkS.f (k : Nat) (l0 : List (S44)) (a1 : Int) : Option (Int × (List (S44))) := laws_markHunkS.l0 k l0 a1 0
set_option maxHeartbeats 8000000 in
set_option maxRecDepth 100000 in
theorem laws_markHunkS.calls (k : Nat) (P0_ : Nat → Prop) (u9000_ : Value) (l0 : List (S44)) (a1 : Int) (r1 : Int) (r2 : List (S44)) (w0 w : World) (hB : Below w0.heap.size w0 w) (ho0 : Kd.S k44 44 w w0.heap.size P0_ u9000_ l0) (h : laws_markHunkS.f k l0 a1 = some (r1, r2)) :
    Calls Tryd.prog 32 #[u9000_, .int .i64 a1] w fun e w' => e = .returned (.int .i64 r1) ∧ Kd.S k44 44 w' w0.heap.size (fun k_ => P0_ k_) u9000_ r2 ∧ Below w0.heap.size w0 w' ∧ Kept w w' (fun k_ => P0_ k_) := by
 have HO0 := a_ (show Kd.S k44 44 w w0.heap.size (fun k_ => P0_ k_) u9000_ l0 from Kd.S_mono ho0 (fun k_ hk => hk));have HK := a_ (Kept.refl w (fun k_ => P0_ k_));have HW0 := a_ hB.size;have HB := a_ hB;clear hB;have H : (laws_markHunkS.l0 k l0 a1 0) = some (r1, r2) := h;clear h;have H' := a_ H;clear H;go_enter Tryd.func32, Tryd.ntmps32;go_wp2;go_loopg [1, 5] k (fun kq v1 v5 w' => ∃ (x0_1 : List (S44)) (x1_1 : Int) (x5_1 : Int), v1 = .int .i64 x1_1 ∧ v5 = .int .i64 x5_1 ∧ Aside0 (laws_markHunkS.l0 kq x0_1 x1_1 x5_1 = some (r1, r2)) ∧ Aside0 (kq ≤ k) ∧ Aside0 (Kd.S k44 44 w' w0.heap.size (fun k_ => P0_ k_) u9000_ x0_1) ∧ Aside0 (Kept w w' (fun k_ => P0_ k_)) ∧ Aside0 (Below w0.heap.size w0 w'));(case atStart => exact ⟨(l0), (a1), (0), ls_, ls_, H', ⟨Nat.le_refl _⟩, ⟨rs_ HO0.out⟩, ⟨kp_ HK.out⟩, ⟨bw_ HB.out⟩⟩)
 case round =>
  clear H';(try clear c2);(try clear p2);obtain ⟨x0_1, x1_1, x5_1, rfl, rfl, HA, HK1, HO_0, HK, HB⟩ := hrel
  cases gk with
  | zero => exact absurd HA.out (by simp [laws_markHunkS.l0])
  | succ k1 =>
   have H := HA.out;clear HA;simp only [laws_markHunkS.l0] at H;by_cases c3 : x5_1 < (x0_1.length : Int);rotate_left;(·rw [if_neg c3] at H;have c3b0 := decide_eq_false c3;clear c3;simp only [Option.some.injEq, Prod.mk.injEq] at H;obtain ⟨rfl, rfl⟩ := H;obtain ⟨Ao14, co14, eo14⟩ := Kd.S_slice HO_0.out;subst eo14;go_wp2;go_ret;exact ⟨by first | rfl | (simp [errW_none, errW_some] <;> rfl) | (simp [*, errW_none, errW_some] <;> rfl), rs_ HO_0.out, bw_ HB.out, kp_ HK.out⟩);rw [if_pos c3] at H;have c3b0 := decide_eq_true c3;clear c3;obtain ⟨c4, Hq⟩ := if_ H;clear H;have H := Hq;clear Hq;have c4b0 := decide_eq_true c4;clear c4;obtain ⟨y311, hy311⟩ : ∃ y_ : List (S44), y_ = (x0_1.set (x5_1 : Int).toNat (⟨x1_1, (rd_T44 x0_1 x5_1).f1, (rd_T44 x0_1 x5_1).f2⟩ : S44)) := ⟨_, rfl⟩;(replace H : ((some (y311.set (x5_1 : Int).toNat (⟨(rd_T44 y311 x5_1).f0, wrap64 (x1_1 + 1), (rd_T44 y311 x5_1).f2⟩ : S44) : List (S44))).bind fun y312 => ((laws_markStringS.f k1 ((rd_T44 y312 x5_1).f2) (wrap64 ((wrap64 (x1_1 + 1)) + 1))).bind fun bt314 => (laws_markHunkS.l0 k1 (y312.set (x5_1 : Int).toNat (⟨(rd_T44 y312 x5_1).f0, (rd_T44 y312 x5_1).f1, bt314.2⟩ : S44)) bt314.1 (wrap64 (x5_1 + 1))))) = some (r1, r2) := yh_ H hy311);have Ny311 := a_ hy311;clear hy311;obtain ⟨y312, hy312⟩ : ∃ y_ : List (S44), y_ = (y311.set (x5_1 : Int).toNat (⟨(rd_T44 y311 x5_1).f0, wrap64 (x1_1 + 1), (rd_T44 y311 x5_1).f2⟩ : S44)) := ⟨_, rfl⟩;(replace H : ((laws_markStringS.f k1 ((rd_T44 y312 x5_1).f2) (wrap64 ((wrap64 (x1_1 + 1)) + 1))).bind fun bt314 => (laws_markHunkS.l0 k1 (y312.set (x5_1 : Int).toNat (⟨(rd_T44 y312 x5_1).f0, (rd_T44 y312 x5_1).f1, bt314.2⟩ : S44)) bt314.1 (wrap64 (x5_1 + 1)))) = some (r1, r2) := yh_ H hy312);have Ny312 := a_ hy312;clear hy312;replace H := Option.bind_eq_some_iff.mp H;obtain ⟨⟨t314, t315⟩, A70, H⟩ := H;have A7 := a_ A70;clear A70;obtain ⟨y316, hy316⟩ : ∃ y_ : List (S44), y_ = (y312.set (x5_1 : Int).toNat (⟨(rd_T44 y312 x5_1).f0, (rd_T44 y312 x5_1).f1, t315⟩ : S44)) := ⟨_, rfl⟩;(replace H : (laws_markHunkS.l0 k1 y316 t314 (wrap64 (x5_1 + 1))) = some (r1, r2) := by rw [hy316];exact H);have Ny316 := a_ hy316;clear hy316;have H' := a_ H;clear H;obtain ⟨Ao8, co8, eo8⟩ := Kd.S_slice HO_0.out;subst eo8;have p5 : 0 ≤ (x5_1 : Int) := od_;have q5 : (x5_1 : Int) < ((x0_1.length : Int) : Int) := od_;obtain ⟨go5, co5, eo5, gb5, gl5, cl5, HG5⟩ := Kd.S_form HO_0.out (by omega);(first | cases eo5 | (injection eo5 with ea_ en_ ec_;(first | subst ea_ | (injection ea_ with ea_;subst ea_));subst ec_;clear en_));have GB5 := a_ gb5;have GG5 := a_ HG5;clear gb5 gl5 HG5;have HMgo5 := a_ (show P0_ go5 from ((Kd.S_R HO_0.out).1 _ rfl));obtain ⟨_, ce5, hcl5, hM5, hcc5, hfr5, _, _⟩ := Kd.S_elem HO_0.out z44 (x5_1 : Int) p5 q5;obtain ⟨ve5_2, rfl, ge5_2⟩ := k44_openM hM5;have hx5_0 : wr.cell? ⟨go5, (x5_1 : Int).toNat * 3, none⟩ = some (.int .i64 ((rd_T44 x0_1 x5_1).f0)) := hcc5 0 _ rfl;have hx5_1 : wr.cell? ⟨go5, (x5_1 : Int).toNat * 3 + 1, none⟩ = some (.int .i64 ((rd_T44 x0_1 x5_1).f1)) := hcc5 1 _ rfl;have hx5_2 : wr.cell? ⟨go5, (x5_1 : Int).toNat * 3 + 2, none⟩ = some (ve5_2) := hcc5 2 _ rfl;have hf5_0 : wr.frozen? ⟨go5, (x5_1 : Int).toNat * 3, none⟩ = false := hfr5 0;have hf5_1 : wr.frozen? ⟨go5, (x5_1 : Int).toNat * 3 + 1, none⟩ = false := hfr5 1;have hf5_2 : wr.frozen? ⟨go5, (x5_1 : Int).toNat * 3 + 2, none⟩ = false := hfr5 2;((try clear hM5);clear hcl5 hcc5 hfr5);replace p5 := eq_true p5;replace q5 := eq_true q5;have HX9 := a_ (show Kd.S k44 44 wr w0.heap.size (fun k_ => ((fun k_ => P0_ k_)) k_ ∧ ¬ ((fun _ => False)) k_) (.slice (some ⟨go5, 0, none⟩) x0_1.length co8) x0_1 from (by (with_reducible repeat (first | apply Kd.S_alloc | apply Kd.S_drewN | apply Kd.S_drew));exact Kd.S_mono HO_0.out (fun k_ hk => ⟨hk, fun e_ => e_⟩)));obtain ⟨oki9, ce9, hcl9, hM9, hcc9, hfr9, hoki9, hH9⟩ := Kd.S_elem HX9.out z44 (x5_1 : Int) od_ (by have h_ : (x5_1 : Int) < ((x0_1.length : Int) : Int) := od_;first | exact h_ | (have e_ := (Kd.S_reads' HO_0.out).1;omega) | simpa using h_);obtain ⟨ve9_2, rfl, ge9_2⟩ := k44_openM hM9;have HP9 := Kd.S_seg hH9 od_ (by have h_ : (x5_1 : Int) < ((x0_1.length : Int) : Int) := od_;first | exact h_ | (have e_ := (Kd.S_reads' HO_0.out).1;omega) | simpa using h_) (seg := [.int .i64 x1_1]) (j := 0) (show 1 ≤ 3 from by decide) (x' := (⟨x1_1, (rd_T44 x0_1 x5_1).f1, (rd_T44 x0_1 x5_1).f2⟩ : S44)) (k44_mkM _ _ _ (⟨x1_1, (rd_T44 x0_1 x5_1).f1, (rd_T44 x0_1 x5_1).f2⟩ : S44) (Kd.R_mono ge9_2 (fun _ h_ => Or.inl h_))) (fun _ hk => hk) (fun k_ hk_ => hk_.elim);have hx9_0 := hcc9 0 _ rfl;(try simp only [show (k44).sz = 3 from rfl, Nat.mul_one, Nat.add_zero] at hx9_0);have hf9_0 := hfr9 0;(try simp only [show (k44).sz = 3 from rfl, Nat.mul_one, Nat.add_zero] at hf9_0);((try clear hM9);clear hcl9 hcc9 hfr9 hoki9 hH9);go_wp2_with (first | ((with_reducible refine gate_store (t := 2) (p := 16) rfl ?_);refine store_event (t := 2) (p := 16) (v := ?vo_w10) (w1 := (wr.setCell ⟨go5, (x5_1 : Int).toNat * 3, none⟩ (.int .i64 x1_1))) ?hg ?ho ?hn ?hr ?_;(case ho => rfl);(case hg => rfl);(case hn => rfl);(case hr => first | (go_simp;done) | (go_simp;rfl));intro w10 hw;have hg : wr.grownBy w10 (some go5) := (by rw [hw];exact HP9.2);have hp_ : Kd.S k44 44 w10 w0.heap.size (fun k_ => P0_ k_) (.slice (some ⟨go5, 0, none⟩) x0_1.length co8) y311 := (by rw [hw, Ny311.out];exact HP9.1);clear HP9;replace HB := a_ ((by rw [hw];exact below_set (HB.out) GB5.out : Below w0.heap.size w0 w10));replace HK := a_ (Kept.of_grown (S := (fun k_ => P0_ k_)) hg (kp_ HK.out) (fun k_ e_ => .inl ((Kd.S_R HO_0.out).1 k_ e_)));replace HO_0 := a_ (hp_);clear hg hw hp_;have p6 : 0 ≤ (x5_1 : Int) := od_;have q6 : (x5_1 : Int) < ((x0_1.length : Int) : Int) := od_;obtain ⟨_, ce6, hcl6, hM6, hcc6, hfr6, _, _⟩ := Kd.S_elem HO_0.out z44 (x5_1 : Int) p6 q6;obtain ⟨ve6_2, rfl, ge6_2⟩ := k44_openM hM6;have hx6_0 : w10.cell? ⟨go5, (x5_1 : Int).toNat * 3, none⟩ = some (.int .i64 ((rd_T44 y311 x5_1).f0)) := hcc6 0 _ rfl;have hx6_1 : w10.cell? ⟨go5, (x5_1 : Int).toNat * 3 + 1, none⟩ = some (.int .i64 ((rd_T44 y311 x5_1).f1)) := hcc6 1 _ rfl;have hx6_2 : w10.cell? ⟨go5, (x5_1 : Int).toNat * 3 + 2, none⟩ = some (ve6_2) := hcc6 2 _ rfl;have hf6_0 : w10.frozen? ⟨go5, (x5_1 : Int).toNat * 3, none⟩ = false := hfr6 0;have hf6_1 : w10.frozen? ⟨go5, (x5_1 : Int).toNat * 3 + 1, none⟩ = false := hfr6 1;have hf6_2 : w10.frozen? ⟨go5, (x5_1 : Int).toNat * 3 + 2, none⟩ = false := hfr6 2;((try clear hM6);clear hcl6 hcc6 hfr6);replace p6 := eq_true p6;replace q6 := eq_true q6;have HX11 := a_ (show Kd.S k44 44 w10 w0.heap.size (fun k_ => ((fun k_ => P0_ k_)) k_ ∧ ¬ ((fun _ => False)) k_) (.slice (some ⟨go5, 0, none⟩) x0_1.length co8) y311 from (by (with_reducible repeat (first | apply Kd.S_alloc | apply Kd.S_drewN | apply Kd.S_drew));exact Kd.S_mono HO_0.out (fun k_ hk => ⟨hk, fun e_ => e_⟩)));obtain ⟨oki11, ce11, hcl11, hM11, hcc11, hfr11, hoki11, hH11⟩ := Kd.S_elem HX11.out z44 (x5_1 : Int) od_ (by have h_ : (x5_1 : Int) < ((x0_1.length : Int) : Int) := od_;first | exact h_ | (have e_ := (Kd.S_reads' HO_0.out).1;omega) | simpa using h_);obtain ⟨ve11_2, rfl, ge11_2⟩ := k44_openM hM11;have HP11 := Kd.S_seg hH11 od_ (by have h_ : (x5_1 : Int) < ((x0_1.length : Int) : Int) := od_;first | exact h_ | (have e_ := (Kd.S_reads' HO_0.out).1;omega) | simpa using h_) (seg := [.int .i64 (wrap64 (x1_1 + 1))]) (j := 1) (show 2 ≤ 3 from by decide) (x' := (⟨(rd_T44 y311 x5_1).f0, wrap64 (x1_1 + 1), (rd_T44 y311 x5_1).f2⟩ : S44)) (k44_mkM _ _ _ (⟨(rd_T44 y311 x5_1).f0, wrap64 (x1_1 + 1), (rd_T44 y311 x5_1).f2⟩ : S44) (Kd.R_mono ge11_2 (fun _ h_ => Or.inl h_))) (fun _ hk => hk) (fun k_ hk_ => hk_.elim);have hx11_1 := hcc11 1 _ rfl;(try simp only [show (k44).sz = 3 from rfl, Nat.mul_one, Nat.add_zero] at hx11_1);have hf11_1 := hfr11 1;(try simp only [show (k44).sz = 3 from rfl, Nat.mul_one, Nat.add_zero] at hf11_1);((try clear hM11);clear hcl11 hcc11 hfr11 hoki11 hH11)) | ((with_reducible refine gate_store (t := 2) (p := 23) rfl ?_);refine store_event (t := 2) (p := 23) (v := ?vo_w12) (w1 := (w10.setCell ⟨go5, (x5_1 : Int).toNat * 3 + 1, none⟩ (.int .i64 (wrap64 (x1_1 + 1))))) ?hg ?ho ?hn ?hr ?_;(case ho => rfl);(case hg => rfl);(case hn => rfl);(case hr => first | (go_simp;done) | (go_simp;rfl));intro w12 hw;have hg : w10.grownBy w12 (some go5) := (by rw [hw];exact HP11.2);have hp_ : Kd.S k44 44 w12 w0.heap.size (fun k_ => P0_ k_) (.slice (some ⟨go5, 0, none⟩) x0_1.length co8) y312 := (by rw [hw, Ny312.out];exact HP11.1);clear HP11;replace HB := a_ ((by rw [hw];exact below_set (HB.out) GB5.out : Below w0.heap.size w0 w12));replace HK := a_ (Kept.of_grown (S := (fun k_ => P0_ k_)) hg (kp_ HK.out) (fun k_ e_ => .inl ((Kd.S_R HO_0.out).1 k_ e_)));replace HO_0 := a_ (hp_);clear hg hw hp_;have p313 : 0 ≤ (x5_1 : Int) := od_;have q313 : x5_1 < (y312.length : Int) := (by have h_ : (x5_1 : Int) < ((x0_1.length : Int) : Int) := od_;first | (have e_ := (Kd.S_reads' HO_0.out).1;omega) | simpa only [Ny311.out, Ny312.out, List.length_set] using h_);have ql313 : ((x5_1 : Int) < ((x0_1.length : Int) : Int)) = True := eq_true od_;obtain ⟨ad313, A313_2, c313_2, e313, hx313_0, hx313_1, hx313_2, hl313_2, hi313_2⟩ := at_T44 (Kd.S_reads' HO_0.out).2.2 x5_1 p313 q313;obtain rfl : (⟨go5, 0, none⟩ : Addr) = ad313 := (by injection e313);obtain ⟨ce313, hce313, hMe313, hcc313⟩ := Kd.S_get HO_0.out z44 x5_1 p313 (by first | exact q313 | exact od_ | (have e_ := (Kd.S_reads' HO_0.out).1;omega));obtain ⟨ve313_2, rfl, ge313_2⟩ := k44_openM hMe313;have hv313_2 := hcc313 2 _ rfl;rw [add_field _ _ 2 (by omega)] at hv313_2;replace hv313_2 := Option.some.inj (hv313_2.symm.trans hx313_2);rw [hv313_2] at ge313_2;have HL313_2 := a_ (show Kd.R Kd.string 9 _ _ _ _ ((rd_T44 y312 x5_1).f2) from ge313_2);clear hv313_2 ge313_2 hcc313 hce313;(first | simp only [add_plain] at hx313_0 | simp only [add_at] at hx313_0 | simp only [Addr.add, Nat.zero_add] at hx313_0 | skip);(first | simp only [add_plain] at hx313_1 | simp only [add_at] at hx313_1 | simp only [Addr.add, Nat.zero_add] at hx313_1 | skip);(first | simp only [add_plain] at hx313_2 | simp only [add_at] at hx313_2 | simp only [Addr.add, Nat.zero_add] at hx313_2 | skip);have HR313_2 := a_ hi313_2;have HC313_2 := a_ hl313_2;clear hi313_2 hl313_2;replace p313 := eq_true p313;replace q313 := eq_true q313) | ((with_reducible refine gate_callee (f := 52) rfl ?_);refine goesL_ (some 32) rfl rfl Tryd.func52 (by kernel_rfl) rfl #[.slice A313_2 ((rd_T44 y312 x5_1).f2).length c313_2, .int .i64 (wrap64 ((wrap64 (x1_1 + 1)) + 1))] rfl lf_ ?_;(with_reducible refine (mark_inner k1 x5_1 y312 (fun k_ => P0_ k_) go5 x0_1.length co8 A313_2 c313_2 (wrap64 ((wrap64 (x1_1 + 1)) + 1)) t314 t315 w0 _ ?side1 ?side2 ?side3 ?side4 ?side5 A7.out).mono ?_);(case side1 => exact (rs_ HO_0.out));(case side2 => exact od_);(case side3 => exact od_);(case side4 => exact hx313_2);(case side5 => exact bw_ HB.out);rintro e w13 ⟨rfl, hS_, hb, hkp⟩;refine ⟨_, rfl, ?_⟩;replace HO_0 := a_ (show Kd.S k44 44 w13 w0.heap.size (fun k_ => P0_ k_) (.slice (some ⟨go5, 0, none⟩) x0_1.length co8) y316 from (by rw [Ny316.out];exact hS_));replace HK := a_ (Kept.then_ (S := (fun k_ => P0_ k_)) (kp_ HK.out) hkp (fun k_ hs_ => .inl hs_));replace HB := a_ hb;clear HL313_2 HR313_2;(try clear hb);(try clear hkp);(try clear hS_)));go_roundg k1;(case measure => have := HK1.out;omega);case rel => exact ⟨(y316), (t314), (wrap64 (x5_1 + 1)), ls_, ls_, H', ⟨by have := HK1.out;omega⟩, ⟨rs_ HO_0.out⟩, ⟨kp_ HK.out⟩, ⟨bw_ HB.out⟩⟩
def laws_markHunksResult.f (k : Nat) (a0_0 : Int) (a0_1 : Int) (l0_2 : List (S44)) (a1 : Int) : Option (Int × (List (S44))) := (laws_markHunkS.f k l0_2 a1).bind fun bt312 => (some (bt312.1, bt312.2))
set_option maxHeartbeats 8000000 in
set_option maxRecDepth 100000 in
theorem laws_markHunksResult.calls (k : Nat) (a0_0 : Int) (a0_1 : Int) (P0_2_ : Nat → Prop) (u9000_ : Value) (l0_2 : List (S44)) (a1 : Int) (r1 : Int) (r2 : List (S44)) (w0 w : World) (hB : Below w0.heap.size w0 w) (ho0_2 : Kd.S k44 44 w w0.heap.size P0_2_ u9000_ l0_2) (h : laws_markHunksResult.f k a0_0 a0_1 l0_2 a1 = some (r1, r2)) :
    Calls Tryd.prog 14 #[.agg #[.int .i64 a0_0, .int .i64 a0_1, u9000_], .int .i64 a1] w fun e w' => e = .returned (.int .i64 r1) ∧ Kd.S k44 44 w' w0.heap.size (fun k_ => P0_2_ k_) u9000_ r2 ∧ Below w0.heap.size w0 w' ∧ Kept w w' (fun k_ => P0_2_ k_) := by
 have hu_ := Tryd.underlying33;have HO0_2 := a_ (show Kd.S k44 44 w w0.heap.size (fun k_ => P0_2_ k_ ∧ k_ < w.heap.size) u9000_ l0_2 from Kd.S_mono (Kd.S_bound ho0_2) (fun k_ hk => ⟨hk.1, hk.2.2.1⟩));have HK := a_ (Kept.refl w (fun k_ => P0_2_ k_));have HW0 := a_ hB.size;have HB := a_ hB;clear hB;have H : ((laws_markHunkS.f k l0_2 a1).bind fun bt312 => (some (bt312.1, bt312.2))) = some (r1, r2) := h;clear h;replace H := Option.bind_eq_some_iff.mp H;obtain ⟨⟨t312, t313⟩, A30, H⟩ := H;(try dsimp only at H);have A3 := a_ A30;clear A30;simp only [Option.some.injEq, Prod.mk.injEq] at H;obtain ⟨rfl, rfl⟩ := H;obtain ⟨Ao4, co4, eo4⟩ := Kd.S_slice HO0_2.out;subst eo4;go_enter Tryd.func14, Tryd.ntmps14;go_wp2_with (first | ((with_reducible refine gate_dst (N := 2) rfl ?_);refine box_event ?hg (N := 2) ?hd (cs := #[.int .i64 a0_0, .int .i64 a0_1, .slice Ao4 l0_2.length co4]) (t := 33) ?hr ?_;(case hd => rfl);(case hg => rfl);(case hr => first | (go_simp;done) | (go_simp;rfl));intro gb311 hg w5 hbox hb;replace HO0_2 := a_ (Kd.S_below (rs_ HO0_2.out) hb);have BK311 := a_ (hbox);have GW311 := a_ ((by rw [hg];exact (by first | exact HK.out.1 | exact (show Kept w _ (fun k_ => P0_2_ k_) from kp_ HK.out).1) : w.heap.size ≤ gb311));replace HK := a_ (Kept.below (S := (fun k_ => P0_2_ k_)) (kp_ HK.out) hb);have GE311 := a_ ((by rw [hg];exact (below_size (bw_ HB.out)) : w0.heap.size ≤ gb311));replace HB := a_ (below_step (bw_ HB.out) hb);clear hb hbox hg;have hcz6_0 : w5.cell? ⟨gb311, 0, none⟩ = some (.int .i64 a0_0) := (blk_cell BK311.out 0).trans rfl;have hcz6_1 : w5.cell? ⟨gb311, 1, none⟩ = some (.int .i64 a0_1) := (blk_cell BK311.out 1).trans rfl;have hcz6_2 : w5.cell? ⟨gb311, 2, none⟩ = some (.slice Ao4 l0_2.length co4) := (blk_cell BK311.out 2).trans rfl;have hfz6_0 := blk_frozen BK311.out 0;have hfz6_1 := blk_frozen BK311.out 1;have hfz6_2 := blk_frozen BK311.out 2) | ((with_reducible refine gate_callee (f := 32) rfl ?_);refine goesL_ (some 8) rfl rfl Tryd.func32 (by kernel_rfl) rfl #[.slice Ao4 l0_2.length co4, .int .i64 a1] rfl lf_ ?_;(with_reducible refine (laws_markHunkS.calls k (fun k_ => P0_2_ k_ ∧ k_ < w.heap.size) (.slice Ao4 l0_2.length co4) l0_2 a1 t312 t313 w0 _ ?side1 ?side2 A3.out).mono ?_);(case side1 => exact bw1_ HB.out GE311.out);(case side2 => exact HO0_2.out);rintro e w7 ⟨rfl, hy0, hb, hkp⟩;refine ⟨_, rfl, ?_⟩;replace HO0_2 := a_ (hy0);replace BK311 := a_ (blk_kept (rb_ BK311.out) hkp (fun hs_ => absurd hs_.2 (Nat.not_lt.2 GW311.out)));replace HK := a_ (Kept.then_ (S := (fun k_ => P0_2_ k_)) (by repeat (first | (with_reducible first | exact HK.out | apply Kept.alloc | apply Kept.drewN | apply Kept.drew | refine Kept.setCell ?_ (.inr GW311.out) _) | exact HK.out)) hkp (fun k_ hs_ => .inl hs_.1));replace HB := a_ (hb);(try clear hb);(try clear hkp);(try clear hy0)));go_ret;exact ⟨by first | rfl | (simp [errW_none, errW_some] <;> rfl) | (simp [*, errW_none, errW_some] <;> rfl), by (with_reducible repeat (first | apply Kd.S_alloc | apply Kd.S_drewN | apply Kd.S_drew));exact Kd.S_mono HO0_2.out (fun _ hk => hk.1), bw1_ HB.out GE311.out, by repeat (first | (with_reducible first | exact HK.out | apply Kept.alloc | apply Kept.drewN | apply Kept.drew | refine Kept.setCell ?_ (.inr GW311.out) _) | exact HK.out)⟩
theorem leafLtP {α : Type} {d : Kd α} {e base m : Nat} {w : World} {v : Value} {xs : List α} (hm : w.heap.size = m) (h : Kd.S d e w base (fun _ => True) v xs) : Kd.S d e w base (fun k => k < m) v xs :=
 Kd.S_mono (Kd.S_bound h) (fun k hk => by have := hk.2.2.1;omega)
theorem arrive {α : Type} {d : Kd α} {e : Nat} {w w' : World} {v : Value} {xs : List α} (h : Kd.S d e w' w.heap.size (fun _ => True) v xs) : ∃ m, w.heap.size = m ∧ Kd.S d e w' w.heap.size (fun k => m ≤ k) v xs :=
 ⟨_, rfl, Kd.S_mono (Kd.S_bound h) (fun k hk => hk.2.1)⟩
def laws_FnExactParsePatch.f (k : Nat) (a0 : ByteArray) : Option (Bool) := if (a0.size : Int) > 1048576 then (some true) else ((spec_ParsePatch.f k a0).bind fun bt290 => ((impl_ParsePatch.f k a0).bind fun bt296 => ((laws_eqHunksResult.f k bt296.1 bt296.2.1 bt296.2.2 bt290.1 bt290.2.1 bt290.2.2).bind fun t302 => (if t302 = true then ((laws_markHunksResult.f k bt296.1 bt296.2.1 bt296.2.2 1).bind fun bt303 => ((laws_heldHunksResult.f k bt296.1 bt296.2.1 bt303.2 1).bind fun t305 => (if t305 < 0 then (some false) else (if t305 = bt303.1 then ((impl_ParsePatch.f k a0).bind fun bt306 => ((laws_eqHunksResult.f k bt306.1 bt306.2.1 bt306.2.2 bt290.1 bt290.2.1 bt290.2.2).bind fun t312 => (if t312 = true then ((laws_heldHunksResult.f k bt296.1 bt296.2.1 bt303.2 1).bind fun t313 => (if t313 < 0 then (some false) else (if t313 = bt303.1 then (some true) else (some false)))) else (some false)))) else (some false))))) else (some false)))))
set_option maxHeartbeats 8000000 in
set_option maxRecDepth 100000 in
theorem laws_FnExactParsePatch.calls (k : Nat) (a0 : ByteArray) (r : Bool) (w : World) (hT : TabW w) (h : laws_FnExactParsePatch.f k a0 = some r) (hlaw : r = true) :
  Calls Tryd.prog 4 #[.string a0] w fun e w' => e = .returned (.bool r) ∧ Below w.heap.size w w' := by
 have HTW := a_ hT;clear hT;have hu33 := Tryd.underlying33;have HB := a_ (Below.refl w.heap.size w);have HLAW := a_ hlaw;clear hlaw;have H : (if (a0.size : Int) > 1048576 then (some true) else ((spec_ParsePatch.f k a0).bind fun bt290 => ((impl_ParsePatch.f k a0).bind fun bt296 => ((laws_eqHunksResult.f k bt296.1 bt296.2.1 bt296.2.2 bt290.1 bt290.2.1 bt290.2.2).bind fun t302 => (if t302 = true then ((laws_markHunksResult.f k bt296.1 bt296.2.1 bt296.2.2 1).bind fun bt303 => ((laws_heldHunksResult.f k bt296.1 bt296.2.1 bt303.2 1).bind fun t305 => (if t305 < 0 then (some false) else (if t305 = bt303.1 then ((impl_ParsePatch.f k a0).bind fun bt306 => ((laws_eqHunksResult.f k bt306.1 bt306.2.1 bt306.2.2 bt290.1 bt290.2.1 bt290.2.2).bind fun t312 => (if t312 = true then ((laws_heldHunksResult.f k bt296.1 bt296.2.1 bt303.2 1).bind fun t313 => (if t313 < 0 then (some false) else (if t313 = bt303.1 then (some true) else (some false)))) else (some false)))) else (some false))))) else (some false)))))) = some r := h;clear h;by_cases c2 : (a0.size : Int) > 1048576;(·rw [if_pos c2] at H;have c2b0 : decide (1048576 < (a0.size : Int)) = true := decide_eq_true c2;have c2b1 : decide (1048576 < a0.size) = true := decide_eq_true (by omega);clear c2;obtain rfl := Option.some.inj H;go_enter Tryd.func4, Tryd.ntmps4;go_wp2;go_ret;exact ⟨by first | rfl | (simp [errW_none, errW_some] <;> rfl) | (simp [*, errW_none, errW_some] <;> rfl), bw_ HB.out⟩);rw [if_neg c2] at H;have c2b0 : decide (1048576 < (a0.size : Int)) = false := decide_eq_false c2;have c2b1 : decide (1048576 < a0.size) = false := decide_eq_false (by omega);clear c2;replace H := Option.bind_eq_some_iff.mp H;obtain ⟨⟨t290, t291, t292⟩, A30, H⟩ := H;(try dsimp only at H);have A3 := a_ A30;clear A30;replace H := Option.bind_eq_some_iff.mp H;obtain ⟨⟨t296, t297, t298⟩, A40, H⟩ := H;(try dsimp only at H);have A4 := a_ A40;clear A40;replace H := Option.bind_eq_some_iff.mp H;obtain ⟨t302, A50, H⟩ := H;(try dsimp only at H);have A5 := a_ A50;clear A50;by_cases c6 : t302 = true;rotate_left;(·replace c6 := Bool.eq_false_iff.mpr c6;subst c6;(have H1 : (some false) = some r := by rw [if_neg (show ¬ (false = true) by decide)] at H;exact H);clear H;have H := H1;clear H1;exact absurd ((Option.some.inj H).trans HLAW.out) (by decide));subst c6;(have H1 : ((laws_markHunksResult.f k t296 t297 t298 1).bind fun bt303 => ((laws_heldHunksResult.f k t296 t297 bt303.2 1).bind fun t305 => (if t305 < 0 then (some false) else (if t305 = bt303.1 then ((impl_ParsePatch.f k a0).bind fun bt306 => ((laws_eqHunksResult.f k bt306.1 bt306.2.1 bt306.2.2 t290 t291 t292).bind fun t312 => (if t312 = true then ((laws_heldHunksResult.f k t296 t297 bt303.2 1).bind fun t313 => (if t313 < 0 then (some false) else (if t313 = bt303.1 then (some true) else (some false)))) else (some false)))) else (some false))))) = some r := by rw [if_pos rfl] at H;exact H);clear H;have H := H1;clear H1;replace H := Option.bind_eq_some_iff.mp H;obtain ⟨⟨t303, t304⟩, A70, H⟩ := H;(try dsimp only at H);have A7 := a_ A70;clear A70;replace H := Option.bind_eq_some_iff.mp H;obtain ⟨t305, A80, H⟩ := H;(try dsimp only at H);have A8 := a_ A80;clear A80;by_cases c9 : t305 < 0;(·rw [if_pos c9] at H;have c9b0 := decide_eq_true c9;clear c9;exact absurd ((Option.some.inj H).trans HLAW.out) (by decide));rw [if_neg c9] at H;have c9b0 := decide_eq_false c9;clear c9;by_cases c10 : t305 = t303;rotate_left;(·rw [if_neg c10] at H;have c10b0 : (t305 == t303) = false := beq_eq_false_iff_ne.mpr c10;have c10b1 : (t305 != t303) = true := bne_iff_ne.mpr c10;exact absurd ((Option.some.inj H).trans HLAW.out) (by decide));rw [if_pos c10] at H;have c10b0 : (t305 == t303) = true := beq_iff_eq.mpr c10;have c10b1 : (t305 != t303) = false := bne_eq_false_iff_eq.mpr c10;clear c10;replace H := Option.bind_eq_some_iff.mp H;obtain ⟨⟨t306, t307, t308⟩, A110, H⟩ := H;(try dsimp only at H);have A11 := a_ A110;clear A110;replace H := Option.bind_eq_some_iff.mp H;obtain ⟨t312, A120, H⟩ := H;(try dsimp only at H);have A12 := a_ A120;clear A120;by_cases c13 : t312 = true;rotate_left;(·replace c13 := Bool.eq_false_iff.mpr c13;subst c13;(have H1 : (some false) = some r := by rw [if_neg (show ¬ (false = true) by decide)] at H;exact H);clear H;have H := H1;clear H1;exact absurd ((Option.some.inj H).trans HLAW.out) (by decide));subst c13;(have H1 : ((laws_heldHunksResult.f k t296 t297 t304 1).bind fun t313 => (if t313 < 0 then (some false) else (if t313 = t303 then (some true) else (some false)))) = some r := by rw [if_pos rfl] at H;exact H);clear H;have H := H1;clear H1;replace H := Option.bind_eq_some_iff.mp H;obtain ⟨t313, A140, H⟩ := H;(try dsimp only at H);have A14 := a_ A140;clear A140;by_cases c15 : t313 < 0;(·rw [if_pos c15] at H;have c15b0 := decide_eq_true c15;clear c15;exact absurd ((Option.some.inj H).trans HLAW.out) (by decide));rw [if_neg c15] at H;have c15b0 := decide_eq_false c15;clear c15;by_cases c16 : t313 = t303;rotate_left;(·rw [if_neg c16] at H;have c16b0 : (t313 == t303) = false := beq_eq_false_iff_ne.mpr c16;have c16b1 : (t313 != t303) = true := bne_iff_ne.mpr c16;exact absurd ((Option.some.inj H).trans HLAW.out) (by decide));rw [if_pos c16] at H;have c16b0 : (t313 == t303) = true := beq_iff_eq.mpr c16;have c16b1 : (t313 != t303) = false := bne_eq_false_iff_eq.mpr c16;clear c16;obtain rfl := Option.some.inj H;go_enter Tryd.func4, Tryd.ntmps4;go_wp2_with (first | ((with_reducible refine gate_callee (f := 11) rfl ?_);refine goesL_ (some 12) rfl rfl Tryd.func11 (by kernel_rfl) rfl #[.string a0] rfl lf_ ?_;(with_reducible refine (spec_ParsePatch.calls k a0 t290 t291 t292 _ A3.out).mono ?_);rintro e w17 ⟨v293, rfl, ho0, hb⟩;refine ⟨_, rfl, ?_⟩;have HO294 := a_ (Kd.S_lower ho0 (below_size (bw_ HB.out)));replace HB := a_ (below_step (bw_ HB.out) hb);(try clear hb);(try clear hb2);(try clear hk);(try clear hi);(try clear ho0)) | ((with_reducible refine gate_dst (N := 3) rfl ?_);refine box_event ?hg (N := 3) ?hd (cs := #[.int .i64 0, .int .i64 0, .slice none 0 0]) (t := 33) ?hr ?_;(case hd => rfl);(case hg => rfl);(case hr => first | (go_simp;done) | (go_simp;rfl));intro gb295 hg w18 hbox hb;replace HO294 := a_ (Kd.S_below (rs_ HO294.out) hb);have BK295 := a_ (hbox);have GW295 := a_ ((by rw [hg];exact (below_size (bw_ HB.out)) : w.heap.size ≤ gb295));have GE295 := a_ ((by rw [hg];exact (below_size (bw_ HB.out)) : w.heap.size ≤ gb295));replace HB := a_ (below_step (bw_ HB.out) hb);clear hb hbox hg;have hcz19_0 : w18.cell? ⟨gb295, 0, none⟩ = some (.int .i64 0) := (blk_cell BK295.out 0).trans rfl;have hcz19_1 : w18.cell? ⟨gb295, 1, none⟩ = some (.int .i64 0) := (blk_cell BK295.out 1).trans rfl;have hcz19_2 : w18.cell? ⟨gb295, 2, none⟩ = some (.slice none 0 0) := (blk_cell BK295.out 2).trans rfl;have hfz19_0 := blk_frozen BK295.out 0;have hfz19_1 := blk_frozen BK295.out 1;have hfz19_2 := blk_frozen BK295.out 2;obtain ⟨Ao20, co20, eo20⟩ := Kd.S_slice HO294.out;subst eo20) | ((with_reducible refine gate_callee (f := 12) rfl ?_);refine goesL_ (some 14) rfl rfl Tryd.func12 (by kernel_rfl) rfl #[.string a0] rfl lf_ ?_;(with_reducible refine (impl_ParsePatch.calls (hT := ?sideT) k a0 t296 t297 t298 _ A4.out).mono ?_);(case sideT => exact TabW.below HTW.out (bw1_ HB.out GE295.out));rintro e w21 ⟨v299, rfl, ho0, hb⟩;refine ⟨_, rfl, ?_⟩;obtain ⟨m2, hm2, ho0⟩ := arrive ho0;have HO300 := a_ (Kd.S_lower (Kd.S_new' ho0 (Kd.S_lt (by (with_reducible repeat (first | apply Kd.S_alloc | apply Kd.S_drewN | apply Kd.S_drew));exact (Kd.S_mono (Kd.S_far (p := ⟨gb295, 2, none⟩) (Kd.S_far (p := ⟨gb295, 1, none⟩) (Kd.S_far (p := ⟨gb295, 0, none⟩) (Kd.S_types HO294.out BK295.out (by decide)) (fun _ hk => hk.2) (.int .i64 t290)) (fun _ hk => hk.2) (.int .i64 t291)) (fun _ hk => hk.2) (.slice Ao20 t292.length co20)) (fun _ h_ => h_.1))))) (below_size (bw1_ HB.out GE295.out)));replace HO294 := a_ (Kd.S_elder' (leafLtP hm2 <| by (with_reducible repeat (first | apply Kd.S_alloc | apply Kd.S_drewN | apply Kd.S_drew));exact (Kd.S_mono (Kd.S_far (p := ⟨gb295, 2, none⟩) (Kd.S_far (p := ⟨gb295, 1, none⟩) (Kd.S_far (p := ⟨gb295, 0, none⟩) (Kd.S_types HO294.out BK295.out (by decide)) (fun _ hk => hk.2) (.int .i64 t290)) (fun _ hk => hk.2) (.int .i64 t291)) (fun _ hk => hk.2) (.slice Ao20 t292.length co20)) (fun _ h_ => h_.1))) (Kd.S_base ho0) hb);replace BK295 := a_ (blk_below (g := gb295) (o := .cells #[.int .i64 t290, .int .i64 t291, .slice Ao20 t292.length co20] 33 (0, 0)) (by (with_reducible repeat (first | refine blk_drewN ?_ _ | refine blk_drew ?_ | refine blk_alloc ?_ _));refine blk_put (cs := #[.int .i64 t290, .int .i64 t291, .slice none 0 0]) ?_ 2 _ rfl;(with_reducible repeat (first | refine blk_drewN ?_ _ | refine blk_drew ?_ | refine blk_alloc ?_ _));refine blk_put (cs := #[.int .i64 t290, .int .i64 0, .slice none 0 0]) ?_ 1 _ rfl;(with_reducible repeat (first | refine blk_drewN ?_ _ | refine blk_drew ?_ | refine blk_alloc ?_ _));refine blk_put (cs := #[.int .i64 0, .int .i64 0, .slice none 0 0]) ?_ 0 _ rfl;(with_reducible repeat (first | refine blk_drewN ?_ _ | refine blk_drew ?_ | refine blk_alloc ?_ _));exact BK295.out) hb);replace HB := a_ (below_step (bw1_ HB.out GE295.out) hb);(try clear hb);(try clear hb2);(try clear hk);(try clear hi);clear hm2;(try clear ho0)) | ((with_reducible refine gate_dst (N := 4) rfl ?_);refine box_event ?hg (N := 4) ?hd (cs := #[.int .i64 0, .int .i64 0, .slice none 0 0]) (t := 33) ?hr ?_;(case hd => rfl);(case hg => rfl);(case hr => first | (go_simp;done) | (go_simp;rfl));intro gb301 hg w22 hbox hb;replace HO294 := a_ (Kd.S_below (rs_ HO294.out) hb);replace HO300 := a_ (Kd.S_below (rs_ HO300.out) hb);have BK301 := a_ (hbox);have GW301 := a_ ((by rw [hg];exact (below_size (bw1_ HB.out GE295.out)) : w.heap.size ≤ gb301));have GE301 := a_ ((by rw [hg];exact (below_size (bw1_ HB.out GE295.out)) : w.heap.size ≤ gb301));replace HB := a_ (below_step (bw1_ HB.out GE295.out) hb);have NB295_301 := a_ ((by rw [hg];exact Nat.ne_of_lt (bl_ BK295.out) : gb295 ≠ gb301));have NB301_295 := a_ ((by rw [hg];exact Nat.ne_of_gt (bl_ BK295.out) : gb301 ≠ gb295));replace BK295 := a_ (bb_ BK295.out hb);clear hb hbox hg;have hnb23 := NB301_295.out;have hnc23 := NB295_301.out;have hcz24_0 : w22.cell? ⟨gb301, 0, none⟩ = some (.int .i64 0) := (blk_cell BK301.out 0).trans rfl;have hcz24_1 : w22.cell? ⟨gb301, 1, none⟩ = some (.int .i64 0) := (blk_cell BK301.out 1).trans rfl;have hcz24_2 : w22.cell? ⟨gb301, 2, none⟩ = some (.slice none 0 0) := (blk_cell BK301.out 2).trans rfl;have hfz24_0 := blk_frozen BK301.out 0;have hfz24_1 := blk_frozen BK301.out 1;have hfz24_2 := blk_frozen BK301.out 2;obtain ⟨Ao25, co25, eo25⟩ := Kd.S_slice HO300.out;subst eo25;have hcz26_0 : w22.cell? ⟨gb295, 0, none⟩ = some (.int .i64 t290) := (blk_cell BK295.out 0).trans rfl;have hcz26_1 : w22.cell? ⟨gb295, 1, none⟩ = some (.int .i64 t291) := (blk_cell BK295.out 1).trans rfl;have hcz26_2 : w22.cell? ⟨gb295, 2, none⟩ = some (.slice Ao20 t292.length co20) := (blk_cell BK295.out 2).trans rfl;have hfz26_0 := blk_frozen BK295.out 0;have hfz26_1 := blk_frozen BK295.out 1;have hfz26_2 := blk_frozen BK295.out 2) | ((with_reducible refine gate_callee (f := 13) rfl ?_);refine goesL_ (some 17) rfl rfl Tryd.func13 (by kernel_rfl) rfl #[.agg #[.int .i64 t296, .int .i64 t297, .slice Ao25 t298.length co25], .agg #[.int .i64 t290, .int .i64 t291, .slice Ao20 t292.length co20]] rfl lf_ ?_;(with_reducible refine (laws_eqHunksResult.calls k t296 t297 _ _ t298 t290 t291 _ _ t292 true _ ?side1 ?side2 ?side3 ?side4 A5.out).mono ?_);(case side1 => refine (Kd.S_reads' (e := 44) (base := w.heap.size) (ok := fun k_ => (m2 ≤ k_ ∧ some k_ ≠ (.slice Ao20 t292.length co20 : Value).ownBlock)) (n := t298.length) (c := co25) ?_).2.2;exact (by (with_reducible repeat (first | apply Kd.S_alloc | apply Kd.S_drewN | apply Kd.S_drew));exact (Kd.S_mono (Kd.S_far (p := ⟨gb301, 2, none⟩) (Kd.S_far (p := ⟨gb301, 1, none⟩) (Kd.S_far (p := ⟨gb301, 0, none⟩) (Kd.S_types HO300.out BK301.out (by decide)) (fun _ hk => hk.2) (.int .i64 t296)) (fun _ hk => hk.2) (.int .i64 t297)) (fun _ hk => hk.2) (.slice Ao25 t298.length co25)) (fun _ h_ => h_.1))));(case side2 => exact (Kd.S_reads' HO300.out).2.1);(case side3 => refine (Kd.S_reads' (e := 44) (base := w.heap.size) (ok := fun k_ => (k_ < m2 ∧ some k_ ≠ (.slice Ao25 t298.length co25 : Value).ownBlock)) (n := t292.length) (c := co20) ?_).2.2;exact (by (with_reducible repeat (first | apply Kd.S_alloc | apply Kd.S_drewN | apply Kd.S_drew));exact (Kd.S_mono (Kd.S_far (p := ⟨gb301, 2, none⟩) (Kd.S_far (p := ⟨gb301, 1, none⟩) (Kd.S_far (p := ⟨gb301, 0, none⟩) (Kd.S_types HO294.out BK301.out (by decide)) (fun _ hk => hk.2) (.int .i64 t296)) (fun _ hk => hk.2) (.int .i64 t297)) (fun _ hk => hk.2) (.slice Ao25 t298.length co25)) (fun _ h_ => h_.1))));(case side4 => exact (Kd.S_reads' HO294.out).2.1);rintro e w27 ⟨rfl, hb⟩;refine ⟨_, rfl, ?_⟩;replace HO294 := a_ (Kd.S_below (by (with_reducible repeat (first | apply Kd.S_alloc | apply Kd.S_drewN | apply Kd.S_drew));exact (Kd.S_mono (Kd.S_far (p := ⟨gb301, 2, none⟩) (Kd.S_far (p := ⟨gb301, 1, none⟩) (Kd.S_far (p := ⟨gb301, 0, none⟩) (Kd.S_types HO294.out BK301.out (by decide)) (fun _ hk => hk.2) (.int .i64 t296)) (fun _ hk => hk.2) (.int .i64 t297)) (fun _ hk => hk.2) (.slice Ao25 t298.length co25)) (fun _ h_ => h_.1))) hb);replace HO300 := a_ (Kd.S_below (by (with_reducible repeat (first | apply Kd.S_alloc | apply Kd.S_drewN | apply Kd.S_drew));exact (Kd.S_mono (Kd.S_far (p := ⟨gb301, 2, none⟩) (Kd.S_far (p := ⟨gb301, 1, none⟩) (Kd.S_far (p := ⟨gb301, 0, none⟩) (Kd.S_types HO300.out BK301.out (by decide)) (fun _ hk => hk.2) (.int .i64 t296)) (fun _ hk => hk.2) (.int .i64 t297)) (fun _ hk => hk.2) (.slice Ao25 t298.length co25)) (fun _ h_ => h_.1))) hb);replace BK295 := a_ (blk_below (g := gb295) (o := .cells #[.int .i64 t290, .int .i64 t291, .slice Ao20 t292.length co20] 33 (0, 0)) (by (with_reducible repeat (first | refine blk_drewN ?_ _ | refine blk_drew ?_ | refine blk_alloc ?_ _));refine blk_far ?_ NB295_301.out _;(with_reducible repeat (first | refine blk_drewN ?_ _ | refine blk_drew ?_ | refine blk_alloc ?_ _));refine blk_far ?_ NB295_301.out _;(with_reducible repeat (first | refine blk_drewN ?_ _ | refine blk_drew ?_ | refine blk_alloc ?_ _));refine blk_far ?_ NB295_301.out _;(with_reducible repeat (first | refine blk_drewN ?_ _ | refine blk_drew ?_ | refine blk_alloc ?_ _));exact BK295.out) hb);replace BK301 := a_ (blk_below (g := gb301) (o := .cells #[.int .i64 t296, .int .i64 t297, .slice Ao25 t298.length co25] 33 (0, 0)) (by (with_reducible repeat (first | refine blk_drewN ?_ _ | refine blk_drew ?_ | refine blk_alloc ?_ _));refine blk_put (cs := #[.int .i64 t296, .int .i64 t297, .slice none 0 0]) ?_ 2 _ rfl;(with_reducible repeat (first | refine blk_drewN ?_ _ | refine blk_drew ?_ | refine blk_alloc ?_ _));refine blk_put (cs := #[.int .i64 t296, .int .i64 0, .slice none 0 0]) ?_ 1 _ rfl;(with_reducible repeat (first | refine blk_drewN ?_ _ | refine blk_drew ?_ | refine blk_alloc ?_ _));refine blk_put (cs := #[.int .i64 0, .int .i64 0, .slice none 0 0]) ?_ 0 _ rfl;(with_reducible repeat (first | refine blk_drewN ?_ _ | refine blk_drew ?_ | refine blk_alloc ?_ _));exact BK301.out) hb);replace HB := a_ (below_step (bw2_ HB.out GE295.out GE301.out) hb);(try clear hb);(try clear hb2);(try clear hk);(try clear hi);have hcz28_0 : w27.cell? ⟨gb301, 0, none⟩ = some (.int .i64 t296) := (blk_cell BK301.out 0).trans rfl;have hcz28_1 : w27.cell? ⟨gb301, 1, none⟩ = some (.int .i64 t297) := (blk_cell BK301.out 1).trans rfl;have hcz28_2 : w27.cell? ⟨gb301, 2, none⟩ = some (.slice Ao25 t298.length co25) := (blk_cell BK301.out 2).trans rfl;have hfz28_0 := blk_frozen BK301.out 0;have hfz28_1 := blk_frozen BK301.out 1;have hfz28_2 := blk_frozen BK301.out 2) | ((with_reducible refine gate_callee (f := 14) rfl ?_);refine goesL_ (some 21) rfl rfl Tryd.func14 (by kernel_rfl) rfl #[.agg #[.int .i64 t296, .int .i64 t297, .slice Ao25 t298.length co25], .int .i64 1] rfl lf_ ?_;(with_reducible refine (laws_markHunksResult.calls k t296 t297 (fun k_ => ((m2 ≤ k_ ∧ some k_ ≠ (.slice Ao20 t292.length co20 : Value).ownBlock) ∧ k_ ≠ gb295) ∧ k_ ≠ gb301) (.slice Ao25 t298.length co25) t298 1 t303 t304 w _ ?side1 ?side2 A7.out).mono ?_);(case side1 => exact bw2_ HB.out GE295.out GE301.out);(case side2 => exact Kd.S_types (Kd.S_types HO300.out (rb_ BK295.out) (by decide)) (rb_ BK301.out) (by decide));rintro e w29 ⟨rfl, hy0, hb, hkp⟩;refine ⟨_, rfl, ?_⟩;replace HO294 := a_ (Kd.S_mono (ok' := fun k_ => some k_ ≠ (.slice Ao25 t298.length co25 : Value).ownBlock) (Kd.S_keptB (HO294.out) hkp (fun k_ hk_ hs_ => absurd hk_.1 (Nat.not_lt.2 hs_.1.1.1))) (fun k_ hk_ => hk_.1.2));replace BK295 := a_ (blk_kept (rb_ BK295.out) hkp (fun hs_ => hs_.1.2 rfl));replace HO300 := a_ (Kd.S_mono hy0 (fun _ hk => hk.1.1.2));replace BK301 := a_ (blk_kept (rb_ BK301.out) hkp (fun hs_ => hs_.2 rfl));replace HB := a_ (hb);(try clear hb);(try clear hkp);(try clear hy0);have hcz30_0 : w29.cell? ⟨gb301, 0, none⟩ = some (.int .i64 t296) := (blk_cell BK301.out 0).trans rfl;have hcz30_1 : w29.cell? ⟨gb301, 1, none⟩ = some (.int .i64 t297) := (blk_cell BK301.out 1).trans rfl;have hcz30_2 : w29.cell? ⟨gb301, 2, none⟩ = some (.slice Ao25 t298.length co25) := (blk_cell BK301.out 2).trans rfl;have hfz30_0 := blk_frozen BK301.out 0;have hfz30_1 := blk_frozen BK301.out 1;have hfz30_2 := blk_frozen BK301.out 2) | ((with_reducible refine gate_callee (f := 15) rfl ?_);refine goesL_ (some 24) rfl rfl Tryd.func15 (by kernel_rfl) rfl #[.agg #[.int .i64 t296, .int .i64 t297, .slice Ao25 t304.length co25], .int .i64 1] rfl (by (try simp only [List.map_toArray, List.map_cons, List.map_nil]);first | done | (rw [show t304.length = t298.length from (Kd.S_reads' HO300.out).1.symm] <;> rfl) | rfl | (simp only [List.length_drop, List.length_take];rfl)) ?_;(with_reducible refine (laws_heldHunksResult.calls k t296 t297 _ _ t304 1 t305 _ ?side1 ?side2 A8.out).mono ?_);(case side1 => exact rc_ (Kd.S_reads' HO300.out).2.2);(case side2 => rw [show t304.length = t298.length from (Kd.S_reads' HO300.out).1.symm];exact (Kd.S_reads' HO300.out).2.1);rintro e w31 ⟨rfl, hb⟩;refine ⟨_, rfl, ?_⟩;replace HO294 := a_ (Kd.S_below (rs_ HO294.out) hb);replace HO300 := a_ (Kd.S_below (rs_ HO300.out) hb);replace BK295 := a_ (bb_ BK295.out hb);replace BK301 := a_ (bb_ BK301.out hb);replace HB := a_ (below_step (bw2_ HB.out GE295.out GE301.out) hb);(try clear hb);(try clear hb2);(try clear hk);(try clear hi)) | ((with_reducible refine gate_callee (f := 12) rfl ?_);refine goesL_ (some 31) rfl rfl Tryd.func12 (by kernel_rfl) rfl #[.string a0] rfl lf_ ?_;(with_reducible refine (impl_ParsePatch.calls (hT := ?sideT) k a0 t306 t307 t308 _ A11.out).mono ?_);(case sideT => exact TabW.below HTW.out (bw2_ HB.out GE295.out GE301.out));rintro e w32 ⟨v309, rfl, ho0, hb⟩;refine ⟨_, rfl, ?_⟩;have HO310 := a_ (Kd.S_lower (Kd.S_new' (Kd.S_new' ho0 (Kd.S_lt (rs_ HO294.out))) (Kd.S_lt (rs_ HO300.out))) (below_size (bw2_ HB.out GE295.out GE301.out)));replace HO294 := a_ (Kd.S_elder' (rs_ HO294.out) (Kd.S_base ho0) hb);replace HO300 := a_ (Kd.S_elder' (rs_ HO300.out) (Kd.S_base ho0) hb);replace BK295 := a_ (bb_ BK295.out hb);replace BK301 := a_ (bb_ BK301.out hb);replace HB := a_ (below_step (bw2_ HB.out GE295.out GE301.out) hb);(try clear hb);(try clear hb2);(try clear hk);(try clear hi);(try clear ho0)) | ((with_reducible refine gate_dst (N := 7) rfl ?_);refine box_event ?hg (N := 7) ?hd (cs := #[.int .i64 0, .int .i64 0, .slice none 0 0]) (t := 33) ?hr ?_;(case hd => rfl);(case hg => rfl);(case hr => first | (go_simp;done) | (go_simp;rfl));intro gb311 hg w33 hbox hb;replace HO294 := a_ (Kd.S_below (rs_ HO294.out) hb);replace HO300 := a_ (Kd.S_below (rs_ HO300.out) hb);replace HO310 := a_ (Kd.S_below (rs_ HO310.out) hb);have BK311 := a_ (hbox);have GW311 := a_ ((by rw [hg];exact (below_size (bw2_ HB.out GE295.out GE301.out)) : w.heap.size ≤ gb311));have GE311 := a_ ((by rw [hg];exact (below_size (bw2_ HB.out GE295.out GE301.out)) : w.heap.size ≤ gb311));replace HB := a_ (below_step (bw2_ HB.out GE295.out GE301.out) hb);have NB295_311 := a_ ((by rw [hg];exact Nat.ne_of_lt (bl_ BK295.out) : gb295 ≠ gb311));have NB311_295 := a_ ((by rw [hg];exact Nat.ne_of_gt (bl_ BK295.out) : gb311 ≠ gb295));replace BK295 := a_ (bb_ BK295.out hb);have NB301_311 := a_ ((by rw [hg];exact Nat.ne_of_lt (bl_ BK301.out) : gb301 ≠ gb311));have NB311_301 := a_ ((by rw [hg];exact Nat.ne_of_gt (bl_ BK301.out) : gb311 ≠ gb301));replace BK301 := a_ (bb_ BK301.out hb);clear hb hbox hg;have hnb34 := NB311_295.out;have hnc34 := NB295_311.out;have hnb35 := NB311_301.out;have hnc35 := NB301_311.out;have hcz36_0 : w33.cell? ⟨gb311, 0, none⟩ = some (.int .i64 0) := (blk_cell BK311.out 0).trans rfl;have hcz36_1 : w33.cell? ⟨gb311, 1, none⟩ = some (.int .i64 0) := (blk_cell BK311.out 1).trans rfl;have hcz36_2 : w33.cell? ⟨gb311, 2, none⟩ = some (.slice none 0 0) := (blk_cell BK311.out 2).trans rfl;have hfz36_0 := blk_frozen BK311.out 0;have hfz36_1 := blk_frozen BK311.out 1;have hfz36_2 := blk_frozen BK311.out 2;obtain ⟨Ao37, co37, eo37⟩ := Kd.S_slice HO310.out;subst eo37;have hcz38_0 : w33.cell? ⟨gb295, 0, none⟩ = some (.int .i64 t290) := (blk_cell BK295.out 0).trans rfl;have hcz38_1 : w33.cell? ⟨gb295, 1, none⟩ = some (.int .i64 t291) := (blk_cell BK295.out 1).trans rfl;have hcz38_2 : w33.cell? ⟨gb295, 2, none⟩ = some (.slice Ao20 t292.length co20) := (blk_cell BK295.out 2).trans rfl;have hfz38_0 := blk_frozen BK295.out 0;have hfz38_1 := blk_frozen BK295.out 1;have hfz38_2 := blk_frozen BK295.out 2) | ((with_reducible refine gate_callee (f := 13) rfl ?_);refine goesL_ (some 34) rfl rfl Tryd.func13 (by kernel_rfl) rfl #[.agg #[.int .i64 t306, .int .i64 t307, .slice Ao37 t308.length co37], .agg #[.int .i64 t290, .int .i64 t291, .slice Ao20 t292.length co20]] rfl lf_ ?_;(with_reducible refine (laws_eqHunksResult.calls k t306 t307 _ _ t308 t290 t291 _ _ t292 true _ ?side1 ?side2 ?side3 ?side4 A12.out).mono ?_);(case side1 => refine (Kd.S_reads' (e := 44) (base := w.heap.size) (ok := fun k_ => ((True ∧ some k_ ≠ (.slice Ao20 t292.length co20 : Value).ownBlock) ∧ some k_ ≠ (.slice Ao25 t298.length co25 : Value).ownBlock)) (n := t308.length) (c := co37) ?_).2.2;exact (by (with_reducible repeat (first | apply Kd.S_alloc | apply Kd.S_drewN | apply Kd.S_drew));exact (Kd.S_mono (Kd.S_far (p := ⟨gb311, 2, none⟩) (Kd.S_far (p := ⟨gb311, 1, none⟩) (Kd.S_far (p := ⟨gb311, 0, none⟩) (Kd.S_types HO310.out BK311.out (by decide)) (fun _ hk => hk.2) (.int .i64 t306)) (fun _ hk => hk.2) (.int .i64 t307)) (fun _ hk => hk.2) (.slice Ao37 t308.length co37)) (fun _ h_ => h_.1))));(case side2 => exact (Kd.S_reads' HO310.out).2.1);(case side3 => refine (Kd.S_reads' (e := 44) (base := w.heap.size) (ok := fun k_ => (some k_ ≠ (.slice Ao25 t298.length co25 : Value).ownBlock ∧ some k_ ≠ (.slice Ao37 t308.length co37 : Value).ownBlock)) (n := t292.length) (c := co20) ?_).2.2;exact (by (with_reducible repeat (first | apply Kd.S_alloc | apply Kd.S_drewN | apply Kd.S_drew));exact (Kd.S_mono (Kd.S_far (p := ⟨gb311, 2, none⟩) (Kd.S_far (p := ⟨gb311, 1, none⟩) (Kd.S_far (p := ⟨gb311, 0, none⟩) (Kd.S_types HO294.out BK311.out (by decide)) (fun _ hk => hk.2) (.int .i64 t306)) (fun _ hk => hk.2) (.int .i64 t307)) (fun _ hk => hk.2) (.slice Ao37 t308.length co37)) (fun _ h_ => h_.1))));(case side4 => exact (Kd.S_reads' HO294.out).2.1);rintro e w39 ⟨rfl, hb⟩;refine ⟨_, rfl, ?_⟩;replace HO294 := a_ (Kd.S_below (by (with_reducible repeat (first | apply Kd.S_alloc | apply Kd.S_drewN | apply Kd.S_drew));exact (Kd.S_mono (Kd.S_far (p := ⟨gb311, 2, none⟩) (Kd.S_far (p := ⟨gb311, 1, none⟩) (Kd.S_far (p := ⟨gb311, 0, none⟩) (Kd.S_types HO294.out BK311.out (by decide)) (fun _ hk => hk.2) (.int .i64 t306)) (fun _ hk => hk.2) (.int .i64 t307)) (fun _ hk => hk.2) (.slice Ao37 t308.length co37)) (fun _ h_ => h_.1))) hb);replace HO300 := a_ (Kd.S_below (by (with_reducible repeat (first | apply Kd.S_alloc | apply Kd.S_drewN | apply Kd.S_drew));exact (Kd.S_mono (Kd.S_far (p := ⟨gb311, 2, none⟩) (Kd.S_far (p := ⟨gb311, 1, none⟩) (Kd.S_far (p := ⟨gb311, 0, none⟩) (Kd.S_types HO300.out BK311.out (by decide)) (fun _ hk => hk.2) (.int .i64 t306)) (fun _ hk => hk.2) (.int .i64 t307)) (fun _ hk => hk.2) (.slice Ao37 t308.length co37)) (fun _ h_ => h_.1))) hb);replace HO310 := a_ (Kd.S_below (by (with_reducible repeat (first | apply Kd.S_alloc | apply Kd.S_drewN | apply Kd.S_drew));exact (Kd.S_mono (Kd.S_far (p := ⟨gb311, 2, none⟩) (Kd.S_far (p := ⟨gb311, 1, none⟩) (Kd.S_far (p := ⟨gb311, 0, none⟩) (Kd.S_types HO310.out BK311.out (by decide)) (fun _ hk => hk.2) (.int .i64 t306)) (fun _ hk => hk.2) (.int .i64 t307)) (fun _ hk => hk.2) (.slice Ao37 t308.length co37)) (fun _ h_ => h_.1))) hb);replace BK295 := a_ (blk_below (g := gb295) (o := .cells #[.int .i64 t290, .int .i64 t291, .slice Ao20 t292.length co20] 33 (0, 0)) (by (with_reducible repeat (first | refine blk_drewN ?_ _ | refine blk_drew ?_ | refine blk_alloc ?_ _));refine blk_far ?_ NB295_311.out _;(with_reducible repeat (first | refine blk_drewN ?_ _ | refine blk_drew ?_ | refine blk_alloc ?_ _));refine blk_far ?_ NB295_311.out _;(with_reducible repeat (first | refine blk_drewN ?_ _ | refine blk_drew ?_ | refine blk_alloc ?_ _));refine blk_far ?_ NB295_311.out _;(with_reducible repeat (first | refine blk_drewN ?_ _ | refine blk_drew ?_ | refine blk_alloc ?_ _));exact BK295.out) hb);replace BK301 := a_ (blk_below (g := gb301) (o := .cells #[.int .i64 t296, .int .i64 t297, .slice Ao25 t298.length co25] 33 (0, 0)) (by (with_reducible repeat (first | refine blk_drewN ?_ _ | refine blk_drew ?_ | refine blk_alloc ?_ _));refine blk_far ?_ NB301_311.out _;(with_reducible repeat (first | refine blk_drewN ?_ _ | refine blk_drew ?_ | refine blk_alloc ?_ _));refine blk_far ?_ NB301_311.out _;(with_reducible repeat (first | refine blk_drewN ?_ _ | refine blk_drew ?_ | refine blk_alloc ?_ _));refine blk_far ?_ NB301_311.out _;(with_reducible repeat (first | refine blk_drewN ?_ _ | refine blk_drew ?_ | refine blk_alloc ?_ _));exact BK301.out) hb);replace BK311 := a_ (blk_below (g := gb311) (o := .cells #[.int .i64 t306, .int .i64 t307, .slice Ao37 t308.length co37] 33 (0, 0)) (by (with_reducible repeat (first | refine blk_drewN ?_ _ | refine blk_drew ?_ | refine blk_alloc ?_ _));refine blk_put (cs := #[.int .i64 t306, .int .i64 t307, .slice none 0 0]) ?_ 2 _ rfl;(with_reducible repeat (first | refine blk_drewN ?_ _ | refine blk_drew ?_ | refine blk_alloc ?_ _));refine blk_put (cs := #[.int .i64 t306, .int .i64 0, .slice none 0 0]) ?_ 1 _ rfl;(with_reducible repeat (first | refine blk_drewN ?_ _ | refine blk_drew ?_ | refine blk_alloc ?_ _));refine blk_put (cs := #[.int .i64 0, .int .i64 0, .slice none 0 0]) ?_ 0 _ rfl;(with_reducible repeat (first | refine blk_drewN ?_ _ | refine blk_drew ?_ | refine blk_alloc ?_ _));exact BK311.out) hb);replace HB := a_ (below_step (bw3_ HB.out GE295.out GE301.out GE311.out) hb);(try clear hb);(try clear hb2);(try clear hk);(try clear hi);have hcz40_0 : w39.cell? ⟨gb301, 0, none⟩ = some (.int .i64 t296) := (blk_cell BK301.out 0).trans rfl;have hcz40_1 : w39.cell? ⟨gb301, 1, none⟩ = some (.int .i64 t297) := (blk_cell BK301.out 1).trans rfl;have hcz40_2 : w39.cell? ⟨gb301, 2, none⟩ = some (.slice Ao25 t298.length co25) := (blk_cell BK301.out 2).trans rfl;have hfz40_0 := blk_frozen BK301.out 0;have hfz40_1 := blk_frozen BK301.out 1;have hfz40_2 := blk_frozen BK301.out 2) | ((with_reducible refine gate_callee (f := 15) rfl ?_);refine goesL_ (some 38) rfl rfl Tryd.func15 (by kernel_rfl) rfl #[.agg #[.int .i64 t296, .int .i64 t297, .slice Ao25 t304.length co25], .int .i64 1] rfl (by (try simp only [List.map_toArray, List.map_cons, List.map_nil]);first | done | (rw [show t304.length = t298.length from (Kd.S_reads' HO300.out).1.symm] <;> rfl) | rfl | (simp only [List.length_drop, List.length_take];rfl)) ?_;(with_reducible refine (laws_heldHunksResult.calls k t296 t297 _ _ t304 1 t313 _ ?side1 ?side2 A14.out).mono ?_);(case side1 => exact rc_ (Kd.S_reads' HO300.out).2.2);(case side2 => rw [show t304.length = t298.length from (Kd.S_reads' HO300.out).1.symm];exact (Kd.S_reads' HO300.out).2.1);rintro e w41 ⟨rfl, hb⟩;refine ⟨_, rfl, ?_⟩;replace HO294 := a_ (Kd.S_below (rs_ HO294.out) hb);replace HO300 := a_ (Kd.S_below (rs_ HO300.out) hb);replace HO310 := a_ (Kd.S_below (rs_ HO310.out) hb);replace BK295 := a_ (bb_ BK295.out hb);replace BK301 := a_ (bb_ BK301.out hb);replace BK311 := a_ (bb_ BK311.out hb);replace HB := a_ (below_step (bw3_ HB.out GE295.out GE301.out GE311.out) hb);(try clear hb);(try clear hb2);(try clear hk);(try clear hi)));go_ret;exact ⟨by first | rfl | (simp [errW_none, errW_some] <;> rfl) | (simp [*, errW_none, errW_some] <;> rfl), bw3_ HB.out GE295.out GE301.out GE311.out⟩
end Go.Proofs.YthmmmiknmkpbeaaDoor.P
end
section
set_option linter.unusedVariables false
namespace Go.Proofs.YthmmmiknmkpbeaaDoor.P
open Go.RowKit Go.Proofs.YthmmmiknmkpbeaaDoorW.PrintWords Go.Proofs.YthmmmiknmkpbeaaDoorW.PrintLast
namespace UFnExactParsePatch
def Pure : Prop := ∀ (a0 : ByteArray), (a0.size ≤ 9223372036854775807) → ∃ k, laws_FnExactParsePatch.f k a0 = some true
end UFnExactParsePatch
end Go.Proofs.YthmmmiknmkpbeaaDoor.P
end
section
set_option linter.unusedVariables false
set_option linter.unusedSimpArgs false
namespace Go.Proofs.YthmmmiknmkpbeaaDoor.P
open Go.RowKit Go.Proofs.YthmmmiknmkpbeaaDoorW.PrintWords Go.Proofs.YthmmmiknmkpbeaaDoorW.PrintLast
theorem wid {x : Int} (h0 : -9223372036854775808 ≤ x) (h1 : x ≤ 9223372036854775807) : wrap64 x = x := by
 unfold wrap64;omega
theorem wsucc {i n : Nat} (h : i < n) (hn : n ≤ 9223372036854775807) : wrap64 ((i : Int) + 1) = ((i + 1 : Nat) : Int) := by
 rw [wid (by omega) (by omega)];rfl
theorem Ev_if {α : Type} {c : Prop} [Decidable c] {a b : Nat → Option α} {r : α} (hp : c → Ev a r) (hn : ¬ c → Ev b r) : Ev (fun k => if c then a k else b k) r := by
 by_cases h : c;(·exact (hp h).congr (fun k => if_pos h));exact (hn h).congr (fun k => if_neg h)
theorem Ev_pos {α : Type} {c : Prop} [Decidable c] {a b : Nat → Option α} {r : α} (hc : c) (h : Ev a r) : Ev (fun k => if c then a k else b k) r := h.congr (fun k => if_pos hc)
theorem Ev_neg {α : Type} {c : Prop} [Decidable c] {a b : Nat → Option α} {r : α} (hc : ¬ c) (h : Ev b r) : Ev (fun k => if c then a k else b k) r := h.congr (fun k => if_neg hc)
theorem Ev_call {α β : Type} {g : Nat → Option α} {f : Nat → α → Option β} {a : α} {r : β} (h : Ev g a) (k : Ev (fun n => f n a) r) : Ev (fun n => (g n).bind (f n)) r := Ev.bind h k
theorem Ev_const {α β : Type} {g : Option α} {f : Nat → α → Option β} {a : α} {r : β} (h : g = some a) (k : Ev (fun n => f n a) r) : Ev (fun n => g.bind (f n)) r :=
  Ev.bind (g := fun _ => g) ⟨0, fun _ _ => h⟩ k
theorem Ev_eq {α : Type} {g : Nat → Option α} {r r' : α} (h : Ev g r) (e : r = r') : Ev g r' := e ▸ h
theorem Ev_val {α : Type} {r r' : α} (h : r = r') : Ev (fun _ => some r) r' := ⟨0, fun _ _ => by rw [h]⟩
theorem rd_nat {α : Type} (d : α) {xs : List α} {i : Nat} (h : i < xs.length) : rdOf d xs (i : Int) = xs[i] := by
 unfold rdOf;rw [Int.toNat_natCast, List.getD_eq_getElem?_getD, List.getElem?_eq_getElem h];rfl
theorem bt_nat {s : ByteArray} {i : Nat} (h : i < s.data.toList.length) : bt s (i : Int) = ((s.data.toList[i]).toNat : Int) := by
 (have h' : i < s.size := by simpa using h);unfold bt;rw [dif_pos (by rw [Int.toNat_natCast];exact h')];simp [ByteArray.getElem_eq_getElem_data]
theorem data_eq {a b : ByteArray} : a.toList = b.toList ↔ a = b := by
 rw [ByteArray.toList_eq, ByteArray.toList_eq];constructor;rotate_left;(·rintro rfl;rfl);intro h;cases a;cases b;simpa using h
theorem toList_nil {a : ByteArray} : a.toList = ([] : List UInt8) ↔ a.data.toList = [] := by rw [ByteArray.toList_eq]
theorem size_data (a : ByteArray) : a.data.toList.length = a.size := by simp
theorem drop_at {α : Type} {xs : List α} {i : Nat} (h : i < xs.length) : xs.drop i = xs[i] :: xs.drop (i + 1) := List.drop_eq_getElem_cons h
def total : List ByteArray → Nat
  | [] => 0
  | x :: l => x.size + total l
end Go.Proofs.YthmmmiknmkpbeaaDoor.P
end
section
set_option linter.unusedVariables false
set_option linter.unusedSimpArgs false
namespace Go.Proofs.YthmmmiknmkpbeaaDoor.P
open Go.RowKit
theorem index_low (l : List UInt8) (c : UInt8) : -1 ≤ Lib.indexByte l c := by
 induction l with
 | nil => simp [Lib.indexByte]
 | cons b l ih =>
  unfold Lib.indexByte;split;(·omega);split;(·omega);omega
theorem index_mem (l : List UInt8) (c : UInt8) : Lib.indexByte l c ≥ 0 ↔ c ∈ l := by
 induction l with
 | nil => simp [Lib.indexByte]
 | cons b l ih =>
  have hl := index_low l c;unfold Lib.indexByte;by_cases h : b = c;(·subst h;simp);(have h2 : (b == c) = false := by simpa using h);rw [h2, List.mem_cons];(have h3 : ¬ c = b := fun e => h e.symm);by_cases h4 : Lib.indexByte l c = -1;(·(have h5 : (Lib.indexByte l c == -1) = true := by simpa using h4);rw [h5];(have : ¬ c ∈ l := fun hm => by have := ih.2 hm;omega);simp [h3, this]);(have h5 : (Lib.indexByte l c == -1) = false := by simpa using h4);rw [h5];have : c ∈ l := ih.1 (by omega);simp [this];omega
def lineEnd : List UInt8 → Nat
  | [] => 0
  | c :: l => if c = 10 then 0 else lineEnd l + 1
theorem lineEnd_early (l : List UInt8) : lineEnd l < l.length - 1 ↔ 10 ∈ l.dropLast := by
 induction l with
 | nil => simp [lineEnd]
 | cons c l ih =>
  cases l with
  | nil =>
   simp [lineEnd]
  | cons d l =>
   unfold lineEnd;by_cases h : c = 10;(·subst h;simp);rw [if_neg h, List.dropLast_cons_cons, List.mem_cons];(have h2 : ¬ (10 : UInt8) = c := fun e => h e.symm);simp only [h2, false_or];rw [← ih];simp only [List.length_cons];omega
theorem suffix_last (l : List UInt8) : Lib.hasSuffix l [10] = true ↔ ∃ r, l = r ++ [10] := by
 unfold Lib.hasSuffix;rw [List.isSuffixOf_iff_suffix];constructor;(·rintro ⟨r, h⟩;exact ⟨r, h.symm⟩);rintro ⟨r, h⟩;exact ⟨r, h.symm⟩
end Go.Proofs.YthmmmiknmkpbeaaDoor.P
end
section
set_option linter.unusedVariables false
set_option linter.unusedSimpArgs false
namespace Go.Proofs.YthmmmiknmkpbeaaDoor.P
open Go.RowKit Go.Proofs.YthmmmiknmkpbeaaDoorW.PrintWords Go.Proofs.YthmmmiknmkpbeaaDoorW.PrintLast
theorem ended_loop (s : ByteArray) (hs : s.size ≤ 9223372036854775807) : ∀ (d i : Nat), s.size - i = d → i ≤ s.size → Ev (fun k => spec_l1Ended.l0 k s (i : Int)) (((i + lineEnd (s.data.toList.drop i) : Nat)) : Int) := by
 intro d
 induction d with
 | zero =>
  intro i hd hi;refine Ev.step (fun k => by rw [spec_l1Ended.l0]) (Ev_neg (by omega) (Ev_val ?_));rw [List.drop_eq_nil_of_le (by rw [size_data];omega)];simp only [lineEnd];omega
 | succ d ih =>
  intro i hd hi;(have hlt : i < s.data.toList.length := by rw [size_data];omega);refine Ev.step (fun k => by rw [spec_l1Ended.l0]) (Ev_pos (by omega) (Ev_pos (by omega) ?_));rw [bt_nat hlt, drop_at hlt, wsucc (n := s.size) (by omega) hs];refine Ev_if (fun h => Ev_val ?_) (fun h => Ev_eq (ih (i + 1) (by omega) (by omega)) ?_);rotate_left;(·(have : ¬ s.data.toList[i] = 10 := fun e => h (by rw [e];rfl));rw [lineEnd, if_neg this];omega);(have : s.data.toList[i] = 10 := by apply UInt8.toNat_inj.1;(have h2 : s.data.toList[i].toNat = 10 := by omega);exact h2);rw [lineEnd, if_pos this];rfl
theorem ended_tells (s : ByteArray) (hs : s.size ≤ 9223372036854775807) : Ev (fun k => spec_l1Ended.f k s) ((lineEnd s.data.toList : Nat) : Int) := by
 unfold spec_l1Ended.f;have h := ended_loop s hs _ 0 rfl (by omega);rw [List.drop_zero, Nat.zero_add] at h;exact h
theorem isLine_tells (s : ByteArray) (hs : s.size ≤ 9223372036854775807) : impl_isLine.f s = some (decide (¬ (s.data.toList = [] ∨ 10 ∈ s.data.toList.dropLast))) := by
 unfold impl_isLine.f;by_cases h : s.data.toList = [];(·rw [if_pos (toList_nil.2 h)];simp [h]);(have h0 : s.data.toList.length ≠ 0 := fun e => h (List.length_eq_zero_iff.1 e));rw [size_data] at h0;rw [if_neg (fun e => h (toList_nil.1 e)), wid (by omega) (by omega), if_pos (by omega), if_pos (by omega)];(have he : (s.extract 0 ((s.size : Int) - 1).toNat).data.toList = s.data.toList.dropLast := by rw [← ByteArray.toList_eq, Lib.extract_toList, List.drop_zero, List.dropLast_eq_take, size_data];congr 1;omega);unfold strings_Contains.f;simp only [Option.bind_some];rw [he];congr 1;have hi := index_mem s.data.toList.dropLast 10;by_cases hm : 10 ∈ s.data.toList.dropLast;(·have : (0 : Int) ≤ Lib.indexByte s.data.toList.dropLast 10 := hi.2 hm;simp [hm, this]);(have : ¬ (0 : Int) ≤ Lib.indexByte s.data.toList.dropLast 10 := fun e => hm (hi.1 e));simp only [this, hm, h];simp
theorem isWhole_tells (s : ByteArray) (hs : s.size ≤ 9223372036854775807) : impl_isWhole.f s = some (Lib.hasSuffix s.data.toList [10]) := by
 unfold impl_isWhole.f strings_HasSuffix.f;rw [if_pos hs];rfl
end Go.Proofs.YthmmmiknmkpbeaaDoor.P
end
section
namespace Go.Proofs.YthmmmiknmkpbeaaDoor.P
open Go.RowKit
theorem wsucc' {i : Nat} (hn : i < 9223372036854775807) : wrap64 ((i : Int) + 1) = ((i + 1 : Nat) : Int) := by
 rw [wid (by omega) (by omega)];omega
end Go.Proofs.YthmmmiknmkpbeaaDoor.P
end
section
set_option linter.unusedVariables false
namespace Go.Proofs.YthmmmiknmkpbeaaDoor.P
open Go.RowKit Go.Proofs.YthmmmiknmkpbeaaDoorW.PrintWords Go.Proofs.YthmmmiknmkpbeaaDoorW.PrintLast
theorem in_tells (x y z : Int) : spec_l1In.f x y z = some (decide (y ≤ x ∧ x ≤ z)) := by
 unfold spec_l1In.f;split;(·rename_i h;(have h2 : y ≤ x := by omega);simp [h2]);rename_i h;(have h2 : ¬ y ≤ x := by omega);simp [h2]
theorem within_tells (x y z : Int) : impl_within.f x y z = some (decide (y ≤ x ∧ x ≤ z)) := by
 unfold impl_within.f;split;(·rename_i h;(have h2 : y ≤ x := by omega);simp [h2]);rename_i h;(have h2 : ¬ y ≤ x := by omega);simp [h2]
end Go.Proofs.YthmmmiknmkpbeaaDoor.P
end
section
set_option linter.unusedVariables false
set_option linter.unusedSimpArgs false
namespace Go.Proofs.YthmmmiknmkpbeaaDoor.P
open Go.RowKit Go.Proofs.YthmmmiknmkpbeaaDoorW.PrintWords Go.Proofs.YthmmmiknmkpbeaaDoorW.PrintLast
theorem eq_loop (xs : List ByteArray) (hl : xs.length ≤ 9223372036854775807) : ∀ (d i : Nat), xs.length - i = d → i ≤ xs.length → Ev (fun k => laws_eqStringS.l0 k xs xs (i : Int)) true := by
 intro d
 induction d with
 | zero => intro i hd hi;exact Ev.step (fun k => by rw [laws_eqStringS.l0]) (Ev_neg (by omega) (Ev.now _))
 | succ d ih =>
  intro i hd hi;(have hlt : i < xs.length := by omega);refine Ev.step (fun k => by rw [laws_eqStringS.l0]) (Ev_pos (by omega) (Ev_pos (by omega) (Ev_pos (by omega) (Ev_pos rfl ?_))));rw [wsucc hlt hl];exact ih (i + 1) (by omega) (by omega)
theorem eq_tells (xs : List ByteArray) (hl : xs.length ≤ 9223372036854775807) : Ev (fun k => laws_eqStringS.f k xs xs) true := by
 unfold laws_eqStringS.f;exact Ev_pos rfl (eq_loop xs hl _ 0 rfl (by omega))
def Small (xs : List ByteArray) : Prop := (∀ x ∈ xs, x.size ≤ 9223372036854775807) ∧ xs.length ≤ 1048576 ∧ total xs ≤ 1048576
theorem Small.eq {xs : List ByteArray} (h : Small xs) : Ev (fun k => laws_eqStringS.f k xs xs) true := eq_tells xs (by have := h.2.1;omega)
end Go.Proofs.YthmmmiknmkpbeaaDoor.P
end
section
set_option linter.unusedVariables false
namespace Go.Proofs.YthmmmiknmkpbeaaDoor.P
def GL (l : List ByteArray) : Prop := l.length ≤ 9223372036854775807 ∧ ∀ x ∈ l, x.size ≤ 9223372036854775807
def lw (l : List ByteArray) : Nat := l.length + total l
theorem lw_small {x : List ByteArray} (h : ∀ a ∈ x, a.size ≤ 9223372036854775807) (hw : lw x ≤ 1048576) : Small x := ⟨h, by unfold lw at hw;omega, by unfold lw at hw;omega⟩
end Go.Proofs.YthmmmiknmkpbeaaDoor.P
end
section
set_option linter.unusedVariables false
set_option linter.unusedSimpArgs false
namespace Go.Proofs.YthmmmiknmkpbeaaDoor.P
open Go.RowKit Go.Proofs.YthmmmiknmkpbeaaDoorW.PrintWords Go.Proofs.YthmmmiknmkpbeaaDoorW.PrintLast
def mk (s : ByteArray) : Int := bt s 0
def tl (s : ByteArray) : List UInt8 := s.data.toList.drop 1
def hbad (s : ByteArray) : Prop := s.size < 2 ∨ ¬ (mk s = 32 ∨ mk s = 45 ∨ mk s = 43) ∨ 10 ∈ (tl s).dropLast
instance (s : ByteArray) : Decidable (hbad s) := by unfold hbad;infer_instance
theorem tl_ext (s : ByteArray) : (s.extract 1 s.size).data.toList = tl s := by
 rw [← ByteArray.toList_eq, Lib.extract_toList];unfold tl;rw [List.take_of_length_le (by rw [List.length_drop, size_data];omega)]
theorem tl_len (s : ByteArray) : (tl s).length = s.size - 1 := by
 unfold tl;rw [List.length_drop, size_data]
theorem ext_size (s : ByteArray) : (s.extract 1 s.size).size = s.size - 1 := by
 rw [← size_data, tl_ext, tl_len]
theorem sline_j (s : ByteArray) (hs : s.size ≤ 9223372036854775807) (h2 : ¬ s.size < 2) (b : Bool) : Ev (fun k => spec_l3Line.j0 k s b) (if b = true ∨ 10 ∈ (tl s).dropLast then 1 else 0) := by
 refine Ev.step (fun k => by rw [spec_l3Line.j0]) (Ev_if (fun h => Ev_val ?_) (fun h => Ev_pos (by omega) ?_));(·rw [if_pos (.inl h)]);refine Ev_call (ended_tells _ (by rw [ext_size];omega)) ?_;rw [tl_ext, wid (by omega) (by omega)];have e := lineEnd_early (tl s);rw [tl_len] at e;refine Ev_if (fun g => Ev_val ?_) (fun g => Ev_val ?_);(·rw [if_pos (.inr (e.1 (by omega)))]);rw [if_neg];rintro (e2 | e2);(·exact h e2);have := e.2 e2;omega
theorem sline_tells (s : ByteArray) (hs : s.size ≤ 9223372036854775807) : Ev (fun k => spec_l3Line.f k s) (if hbad s then 1 else 0) := by
 unfold spec_l3Line.f;refine Ev_if (fun h => ?_) (fun h => ?_);(·rw [if_pos (.inl (by omega))];exact Ev.step (fun k => by rw [spec_l3Line.j0]) (Ev_pos rfl (Ev.now _)));(have h2 : ¬ s.size < 2 := by omega);(have go : ∀ b : Bool, (b = true ↔ ¬ (mk s = 32 ∨ mk s = 45 ∨ mk s = 43)) → Ev (fun k => spec_l3Line.j0 k s b) (if hbad s then 1 else 0) := by intro b hb;refine Ev_eq (sline_j s hs h2 b) ?_;(have : (b = true ∨ 10 ∈ (tl s).dropLast) ↔ hbad s := by unfold hbad;rw [hb];constructor;(·exact fun e => .inr e);rintro (e | e);(·exact absurd e h2);exact e);by_cases g : hbad s;(·rw [if_pos g, if_pos (this.2 g)]);rw [if_neg g, if_neg (fun e => g (this.1 e))]);refine Ev_pos (by omega) (Ev_if (fun a => go _ ?_) (fun a => Ev_if (fun b => go _ ?_) (fun b => go _ ?_)));(·have : mk s = 32 := a;simp [this]);(·have : mk s = 45 := b;simp [this]);have a' : ¬ mk s = 32 := a;have b' : ¬ mk s = 45 := b;show (mk s != 43) = true ↔ _;simp [a', b']
def HB (l : List ByteArray) : Bool := l.any (fun s => decide (hbad s))
theorem HB_cons (s : ByteArray) (l : List ByteArray) : HB (s :: l) = (decide (hbad s) || HB l) := rfl
theorem slines_loop (a b : Int) (l : List ByteArray) (hg : GL l) : ∀ (d i : Nat), l.length - i = d → i ≤ l.length → Ev (fun k => spec_l3Lines.l0 k (i : Int) a b l) (if HB (l.drop i) = true then 1 else 0) := by
 intro d
 induction d with
 | zero =>
  intro i hd hi;refine Ev.step (fun k => by rw [spec_l3Lines.l0]) (Ev_neg (by omega) (Ev_val ?_));rw [List.drop_eq_nil_of_le (by omega)];rfl
 | succ d ih =>
  intro i hd hi;(have hlt : i < l.length := by omega);refine Ev.step (fun k => by rw [spec_l3Lines.l0]) (Ev_pos (by omega) (Ev_pos (by omega) ?_));rw [rd_nat _ hlt, wsucc hlt hg.1, drop_at hlt, HB_cons];refine Ev_call (sline_tells _ (hg.2 _ (List.getElem_mem hlt))) ?_;by_cases h : hbad l[i];(·rw [if_pos h, decide_eq_true h, Bool.true_or, if_pos rfl];exact Ev_neg (by omega) (Ev.now _));rw [if_neg h, decide_eq_false h, Bool.false_or];exact Ev_pos rfl (ih (i + 1) (by omega) (by omega))
theorem slines_tells (a b : Int) {l : List ByteArray} (hg : GL l) : Ev (fun k => spec_l3Lines.f k a b l) (if HB l = true then 1 else 0) := by
 have := slines_loop a b l hg _ 0 rfl (by omega);rw [List.drop_zero] at this;exact this
def hA : List ByteArray → Nat
  | [] => 0
  | s :: l => (if mk s = 43 then 0 else 1) + hA l
def hB : List ByteArray → Nat
  | [] => 0
  | s :: l => (if mk s = 45 then 0 else 1) + hB l
def hS : List ByteArray → Nat
  | [] => 0
  | s :: l => (if mk s = 32 then 1 else 0) + hS l
theorem hA_le : ∀ l, hA l ≤ l.length := by
 intro l
 induction l with
 | nil => simp [hA]
 | cons s l ih => simp only [hA, List.length_cons];split <;> omega
theorem hB_le : ∀ l, hB l ≤ l.length := by
 intro l
 induction l with
 | nil => simp [hB]
 | cons s l ih => simp only [hB, List.length_cons];split <;> omega
theorem hS_le : ∀ l, hS l ≤ l.length := by
 intro l
 induction l with
 | nil => simp [hS]
 | cons s l ih => simp only [hS, List.length_cons];split <;> omega
theorem HB_at {l : List ByteArray} (h : HB l = false) {i : Nat} (hi : i < l.length) : ¬ hbad l[i] := by
 unfold HB at h;rw [List.any_eq_false] at h;have := h l[i] (List.getElem_mem hi);simpa using this
theorem good_pos {s : ByteArray} (h : ¬ hbad s) : 0 < s.size := by
 unfold hbad at h;omega
theorem ssizes_loop (a b : Int) (l : List ByteArray) (hl : l.length ≤ 1048576) (hg : HB l = false) : ∀ (d i x y : Nat), l.length - i = d → i ≤ l.length → x ≤ i → y ≤ i → Ev (fun k => spec_l3Sizes.l0 k (x : Int) (y : Int) (i : Int) a b l) (((x + hA (l.drop i) : Nat) : Int), ((y + hB (l.drop i) : Nat) : Int)) := by
 intro d
 induction d with
 | zero =>
  intro i x y hd hi hx hy;refine Ev.step (fun k => by rw [spec_l3Sizes.l0]) (Ev_neg (by omega) (Ev_val ?_));rw [List.drop_eq_nil_of_le (by omega)];rfl
 | succ d ih =>
  intro i x y hd hi hx hy;(have hlt : i < l.length := by omega);have hp := good_pos (HB_at hg hlt);refine Ev.step (fun k => by rw [spec_l3Sizes.l0]) (Ev_pos (by omega) (Ev_pos (by omega) ?_));rw [rd_nat _ hlt, wsucc hlt (by omega), drop_at hlt, wsucc' (i := x) (by omega), wsucc' (i := y) (by omega)];simp only [hA, hB];refine Ev_pos (by omega) (Ev_if (fun h => ?_) (fun h => ?_));(·have h' : mk l[i] = 43 := h;(have h'' : ¬ mk l[i] = 45 := by rw [h'];omega);rw [if_pos h', if_neg h''];exact Ev_neg h'' (Ev_eq (ih (i + 1) x (y + 1) (by omega) (by omega) (by omega) (by omega)) (by congr 2 <;> omega)));have h' : ¬ mk l[i] = 43 := h;rw [if_neg h'];refine Ev_if (fun g => ?_) (fun g => ?_);(·have g' : mk l[i] = 45 := g;rw [if_pos g'];exact Ev_eq (ih (i + 1) (x + 1) y (by omega) (by omega) (by omega) (by omega)) (by congr 2 <;> omega));have g' : ¬ mk l[i] = 45 := g;rw [if_neg g'];exact Ev_eq (ih (i + 1) (x + 1) (y + 1) (by omega) (by omega) (by omega) (by omega)) (by congr 2 <;> omega)
theorem ssizes_tells (a b : Int) {l : List ByteArray} (hl : l.length ≤ 1048576) (hg : HB l = false) : Ev (fun k => spec_l3Sizes.f k a b l) (((hA l : Nat) : Int), ((hB l : Nat) : Int)) := by
 have := ssizes_loop a b l hl hg _ 0 0 0 rfl (by omega) (by omega) (by omega);rw [List.drop_zero, Nat.zero_add, Nat.zero_add] at this;exact this
theorem isizes_loop (l : List ByteArray) (hl : l.length ≤ 1048576) (hx : ∀ x ∈ l, x.size ≤ 9223372036854775807) : ∀ (d i x y : Nat), l.length - i = d → i ≤ l.length → x ≤ i → y ≤ i → Ev (fun k => impl_sizesOf.l0 k (x : Int) (y : Int) l (l.length : Int) (i : Int)) (if HB (l.drop i) = true then (0, 0, false) else (((x + hA (l.drop i) : Nat) : Int), ((y + hB (l.drop i) : Nat) : Int), true)) := by
 intro d
 induction d with
 | zero =>
  intro i x y hd hi hx hy;refine Ev.step (fun k => by rw [impl_sizesOf.l0]) (Ev_neg (by omega) (Ev_val ?_));rw [List.drop_eq_nil_of_le (by omega)];rfl
 | succ d ih =>
  intro i x y hd hi hx' hy';(have hlt : i < l.length := by omega);have hsz := hx l[i] (List.getElem_mem hlt);refine Ev.step (fun k => by rw [impl_sizesOf.l0]) (Ev_pos (by omega) (Ev_pos (by omega) (Ev_pos (by omega) ?_)));rw [rd_nat _ hlt, drop_at hlt, HB_cons];(have bad : hbad l[i] → ∀ b : Bool, b = true → Ev (fun k => impl_sizesOf.j1 k (x : Int) (y : Int) l[i] l (l.length : Int) (i : Int) b) (if (decide (hbad l[i]) || HB (l.drop (i + 1))) = true then (0, 0, false) else (((x + hA (l[i] :: l.drop (i + 1)) : Nat) : Int), ((y + hB (l[i] :: l.drop (i + 1)) : Nat) : Int), true)) := by intro h b hb;rw [decide_eq_true h, Bool.true_or, if_pos rfl];exact Ev.step (fun k => by rw [impl_sizesOf.j1]) (Ev_pos hb (Ev.now _)));refine Ev_if (fun h => ?_) (fun h => ?_);(·refine bad (.inl ?_) _ rfl;have := toList_nil.1 h;rw [← size_data, this];exact Nat.zero_lt_two);(have hne : 0 < l[i].size := by (have h0 : l[i].data.toList.length ≠ 0 := fun e => h (toList_nil.2 (List.length_eq_zero_iff.1 e)));rw [size_data] at h0;omega);refine Ev_pos (by omega) (Ev_const (isLine_tells _ (by rw [ext_size];omega)) ?_);rw [tl_ext];by_cases hb : tl l[i] = [] ∨ 10 ∈ (tl l[i]).dropLast;(·refine bad ?_ _ (by simp [hb]);(rcases hb with hb | hb);rotate_left;(·exact .inr (.inr hb));left;have := congrArg List.length hb;rw [tl_len] at this;simp at this;omega);(have hs2 : ¬ l[i].size < 2 := by intro e;apply hb;left;apply List.length_eq_zero_iff.1;rw [tl_len];omega);rw [show (!decide (¬ (tl l[i] = [] ∨ 10 ∈ (tl l[i]).dropLast))) = false by simp [hb]];refine Ev.step (fun k => by rw [impl_sizesOf.j1]) (Ev_neg (by simp) (Ev_pos (by omega) ?_));rw [wsucc hlt (by omega), wsucc' (i := x) (by omega), wsucc' (i := y) (by omega)];(have good : (mk l[i] = 32 ∨ mk l[i] = 45 ∨ mk l[i] = 43) → decide (hbad l[i]) = false := by intro e;apply decide_eq_false;rintro (e2 | e2 | e2);(·exact hs2 e2);(·exact e2 e);exact hb (.inr e2));simp only [hA, hB];refine Ev_if (fun g => ?_) (fun g => Ev_if (fun g2 => ?_) (fun g2 => Ev_if (fun g3 => ?_) (fun g3 => Ev_val ?_)));(·have g' : mk l[i] = 32 := g;rw [good (.inl g'), Bool.false_or, if_neg (show ¬ mk l[i] = 43 by rw [g'];omega), if_neg (show ¬ mk l[i] = 45 by rw [g'];omega)];refine Ev_eq (ih (i + 1) (x + 1) (y + 1) (by omega) (by omega) (by omega) (by omega)) ?_;rw [Nat.add_assoc, Nat.add_assoc]);(·have g' : mk l[i] = 45 := g2;rw [good (.inr (.inl g')), Bool.false_or, if_neg (show ¬ mk l[i] = 43 by rw [g'];omega), if_pos g'];refine Ev_eq (ih (i + 1) (x + 1) y (by omega) (by omega) (by omega) (by omega)) ?_;rw [Nat.add_assoc, Nat.zero_add]);(·have g' : mk l[i] = 43 := g3;rw [good (.inr (.inr g')), Bool.false_or, if_pos g', if_neg (show ¬ mk l[i] = 45 by rw [g'];omega)];refine Ev_eq (ih (i + 1) x (y + 1) (by omega) (by omega) (by omega) (by omega)) ?_;rw [Nat.add_assoc, Nat.zero_add]);·have : hbad l[i] := .inr (.inl (by rintro (e | e | e);exact g e;exact g2 e;exact g3 e));rw [decide_eq_true this, Bool.true_or, if_pos rfl]
theorem isizes_tells (a b : Int) {l : List ByteArray} (hl : l.length ≤ 1048576) (hx : ∀ x ∈ l, x.size ≤ 9223372036854775807) : Ev (fun k => impl_sizesOf.f k a b l) (if HB l = true then (0, 0, false) else (((hA l : Nat) : Int), ((hB l : Nat) : Int), true)) := by
 have := isizes_loop l hl hx _ 0 0 0 rfl (by omega) (by omega) (by omega);rw [List.drop_zero, Nat.zero_add, Nat.zero_add] at this;exact this
theorem eqh_tells (a b : Int) {l : List ByteArray} (h : Small l) : Ev (fun k => laws_eqHunk.f k a b l a b l) true := by
 unfold laws_eqHunk.f;exact Ev_pos rfl (Ev_pos rfl (Ev_call h.eq (Ev_pos rfl (Ev.now _))))
theorem rdh_nat {l : List S44} {i : Nat} (h : i < l.length) : rd_T44 l (i : Int) = l[i] := by
 unfold rd_T44;rw [Int.toNat_natCast, List.getD_eq_getElem?_getD, List.getElem?_eq_getElem h];rfl
def hw : List S44 → Nat
  | [] => 0
  | c :: l => lw c.f2 + hw l
theorem hw_at : ∀ (l : List S44) (i : Nat) (h : i < l.length), lw l[i].f2 ≤ hw l := by
 intro l
 induction l with
 | nil => intro i h;exact absurd h (by simp)
 | cons c l ih =>
  intro i h
  cases i with
  | zero => simp only [List.getElem_cons_zero, hw];omega
  | succ i => simp only [List.getElem_cons_succ, hw];have := ih i (by simpa using h);omega
def SmallH (l : List S44) : Prop := (∀ c ∈ l, ∀ a ∈ c.f2, a.size ≤ 9223372036854775807) ∧ l.length ≤ 1048576 ∧ hw l ≤ 1048576
theorem SmallH.at {l : List S44} (h : SmallH l) {i : Nat} (hi : i < l.length) : Small l[i].f2 :=
  lw_small (h.1 l[i] (List.getElem_mem hi)) (by have := hw_at l i hi;have := h.2.2;omega)
theorem ichanges_loop (l : List ByteArray) (hl : l.length ≤ 1048576) (hg : HB l = false) : ∀ (d i : Nat), l.length - i = d → i ≤ l.length → Ev (fun k => impl_Hunk_changes.l0 k l (l.length : Int) (i : Int)) (decide (hS (l.drop i) ≠ (l.drop i).length)) := by
 intro d
 induction d with
 | zero =>
  intro i hd hi;refine Ev.step (fun k => by rw [impl_Hunk_changes.l0]) (Ev_neg (by omega) (Ev_val ?_));rw [List.drop_eq_nil_of_le (by omega)];rfl
 | succ d ih =>
  intro i hd hi;(have hlt : i < l.length := by omega);have hp := good_pos (HB_at hg hlt);refine Ev.step (fun k => by rw [impl_Hunk_changes.l0]) (Ev_pos (by omega) (Ev_pos (by omega) (Ev_pos (by omega) ?_)));rw [rd_nat _ hlt, wsucc hlt (by omega), drop_at hlt];refine Ev_pos (by omega) (Ev_if (fun h => ?_) (fun h => Ev_val ?_));(·have h' : mk l[i] = 32 := h;refine Ev_eq (ih (i + 1) (by omega) (by omega)) ?_;rw [decide_eq_decide];simp only [hS, if_pos h', List.length_cons];omega);have h' : ¬ mk l[i] = 32 := h;have := hS_le (l.drop (i + 1));symm;apply decide_eq_true;simp only [hS, if_neg h', List.length_cons];omega
theorem ichanges_tells (a b : Int) {l : List ByteArray} (hl : l.length ≤ 1048576) (hg : HB l = false) : Ev (fun k => impl_Hunk_changes.f k a b l) (decide (hS l ≠ l.length)) := by
 have := ichanges_loop l hl hg _ 0 rfl (by omega);rw [List.drop_zero] at this;exact this
def HF : List S44 → Int → Int → Int
  | [], _, _ => 0
  | h :: l, i, j => if h.f2.length > 200 then 2 else if HB h.f2 = true ∨ hS h.f2 = h.f2.length then 1 else if ¬ ((0 ≤ h.f0 ∧ h.f0 ≤ 100) ∧ (0 ≤ h.f1 ∧ h.f1 ≤ 100)) then 3 else if h.f0 < i ∨ h.f0 - i ≠ h.f1 - j then 1 else HF l (h.f0 + hA h.f2) (h.f1 + hB h.f2)
theorem HF_cons (h : S44) (l : List S44) (i j : Int) : HF (h :: l) i j = if h.f2.length > 200 then 2 else if HB h.f2 = true ∨ hS h.f2 = h.f2.length then 1 else if ¬ ((0 ≤ h.f0 ∧ h.f0 ≤ 100) ∧ (0 ≤ h.f1 ∧ h.f1 ≤ 100)) then 3 else if h.f0 < i ∨ h.f0 - i ≠ h.f1 - j then 1 else HF l (h.f0 + hA h.f2) (h.f1 + hB h.f2) := rfl
theorem shf_tail (l : List S44) (i j : Int) (n : Nat) (hi0 : 0 ≤ i) (hi1 : i ≤ 300) (hj0 : 0 ≤ j) (hj1 : j ≤ 300) (h : S44) (h2 : h.f2.length ≤ 200) {r : Int}
    (nx : ∀ i' j', 0 ≤ i' → i' ≤ 300 → 0 ≤ j' → j' ≤ 300 → i' = h.f0 + hA h.f2 → j' = h.f1 + hB h.f2 → Ev (fun k => spec_l3Fault.l0 k l i' j' ((n + 1 : Nat) : Int)) r) (hn : n ≤ 1048576) :
    ∀ (d m x : Nat), h.f2.length - m = d → m ≤ h.f2.length → HB h.f2 = false → x ≤ m →
    Ev (fun k => spec_l3Fault.l1 k l i j (n : Int) ((hA h.f2 : Nat) : Int) ((hB h.f2 : Nat) : Int) (x : Int) (m : Int) h.f0 h.f1 h.f2)
      (if x + hS (h.f2.drop m) = h.f2.length then 1 else if ¬ ((0 ≤ h.f0 ∧ h.f0 ≤ 100) ∧ (0 ≤ h.f1 ∧ h.f1 ≤ 100)) then 3 else if h.f0 < i ∨ h.f0 - i ≠ h.f1 - j then 1 else r) := by
 intro d
 induction d with
 | zero =>
  intro m x hd hm hg hx;refine Ev.step (fun k => by rw [spec_l3Fault.l1]) (Ev_neg (by omega) ?_);(have e : hS (h.f2.drop m) = 0 := by rw [List.drop_eq_nil_of_le (by omega)];rfl);rw [e];refine Ev_if (fun g => Ev_val ?_) (fun g => ?_);(·rw [if_pos (by omega)]);rw [if_neg (by omega)];(have bad : ∀ b : Bool, b = true → ¬ ((0 ≤ h.f0 ∧ h.f0 ≤ 100) ∧ (0 ≤ h.f1 ∧ h.f1 ≤ 100)) → Ev (fun k => spec_l3Fault.j2 k l i j (n : Int) ((hA h.f2 : Nat) : Int) ((hB h.f2 : Nat) : Int) b h.f0 h.f1 h.f2) (if ¬ ((0 ≤ h.f0 ∧ h.f0 ≤ 100) ∧ (0 ≤ h.f1 ∧ h.f1 ≤ 100)) then 3 else if h.f0 < i ∨ h.f0 - i ≠ h.f1 - j then 1 else r) := by intro b hb hn;rw [if_pos hn];exact Ev.step (fun k => by rw [spec_l3Fault.j2]) (Ev_pos hb (Ev.now _)));refine Ev_const (in_tells _ _ _) (Ev_if (fun h1 => ?_) (fun h1 => bad _ rfl (fun e => h1 (decide_eq_true e.1))));refine Ev_const (in_tells _ _ _) ?_;by_cases hr : 0 ≤ h.f1 ∧ h.f1 ≤ 100;rotate_left;(·rw [decide_eq_false hr];exact bad _ rfl (fun e => hr e.2));have h0 := of_decide_eq_true h1;rw [decide_eq_true hr, if_neg (fun e => e ⟨h0, hr⟩)];have la := hA_le h.f2;have lb := hB_le h.f2;refine Ev.step (fun k => by rw [spec_l3Fault.j2]) (Ev_neg (by simp) (Ev_if (fun g1 => Ev_val ?_) (fun g1 => ?_)));(·rw [if_pos (.inl g1)]);rw [wid (x := h.f0 - i) (by omega) (by omega), wid (x := h.f1 - j) (by omega) (by omega), wid (x := h.f0 + _) (by omega) (by omega), wid (x := h.f1 + _) (by omega) (by omega), wsucc' (by omega)];refine Ev_if (fun g2 => ?_) (fun g2 => Ev_val ?_);rotate_left;(·rw [if_pos (.inr g2)]);rw [if_neg (by rintro (e | e);exact g1 e;exact e g2)];exact nx _ _ (by omega) (by omega) (by omega) (by omega) rfl rfl
 | succ d ih =>
  intro m x hd hm hg hx;(have hlt : m < h.f2.length := by omega);have hp := good_pos (HB_at hg hlt);refine Ev.step (fun k => by rw [spec_l3Fault.l1]) (Ev_pos (by omega) (Ev_pos (by omega) ?_));rw [rd_nat _ hlt, wsucc hlt (by omega), drop_at hlt, wsucc' (i := x) (by omega)];refine Ev_pos (by omega) (Ev_if (fun g => ?_) (fun g => ?_));(·have g' : mk h.f2[m] = 32 := g;(have e : x + hS (h.f2[m] :: h.f2.drop (m + 1)) = (x + 1) + hS (h.f2.drop (m + 1)) := by simp only [hS, if_pos g'];omega);rw [e];exact ih (m + 1) (x + 1) (by omega) (by omega) hg (by omega));have g' : ¬ mk h.f2[m] = 32 := g;(have e : x + hS (h.f2[m] :: h.f2.drop (m + 1)) = x + hS (h.f2.drop (m + 1)) := by simp only [hS, if_neg g'];omega);rw [e];exact ih (m + 1) x (by omega) (by omega) hg (by omega)
theorem shf_loop {l : List S44} (hl : SmallH l) : ∀ (d n : Nat) (i j : Int), l.length - n = d → n ≤ l.length → 0 ≤ i → i ≤ 300 → 0 ≤ j → j ≤ 300 → Ev (fun k => spec_l3Fault.l0 k l i j (n : Int)) (HF (l.drop n) i j) := by
 intro d
 induction d with
 | zero =>
  intro n i j hd hn _ _ _ _;refine Ev.step (fun k => by rw [spec_l3Fault.l0]) (Ev_neg (by omega) (Ev_val ?_));rw [List.drop_eq_nil_of_le (by omega)];rfl
 | succ d ih =>
  intro n i j hd hn hi0 hi1 hj0 hj1;(have hlt : n < l.length := by omega);have hs := hl.at hlt;have hll := hl.2.1;refine Ev.step (fun k => by rw [spec_l3Fault.l0]) (Ev_pos (by omega) (Ev_pos (by omega) ?_));rw [rdh_nat hlt, drop_at hlt, HF_cons];refine Ev_if (fun h => Ev_val ?_) (fun h => ?_);(·rw [if_pos (by omega)]);rw [if_neg (by omega)];refine Ev_call (slines_tells _ _ ⟨by have := hs.2.1;omega, hs.1⟩) ?_;by_cases hb : HB l[n].f2 = true;(·rw [if_pos hb, if_pos (.inl hb)];exact Ev_neg (by omega) (Ev.now _));(have hg : HB l[n].f2 = false := by simpa using hb);rw [if_neg hb];refine Ev_pos rfl (Ev_call (ssizes_tells _ _ hs.2.1 hg) ?_)
  have e := shf_tail l i j n hi0 hi1 hj0 hj1 l[n] (by omega) (r := HF (l.drop (n + 1)) (l[n].f0 + hA l[n].f2) (l[n].f1 + hB l[n].f2))
    (fun i' j' a0 a1 b0 b1 ei ej => by rw [← ei, ← ej];exact ih (n + 1) i' j' (by omega) (by omega) a0 a1 b0 b1) (by omega) _ 0 0 rfl (by omega) hg (by omega)
  refine Ev_eq e ?_;rw [List.drop_zero, Nat.zero_add];by_cases hq : hS l[n].f2 = l[n].f2.length;(·rw [if_pos hq, if_pos (.inr hq)]);rw [if_neg hq, if_neg (show ¬ (HB l[n].f2 = true ∨ hS l[n].f2 = l[n].f2.length) by rintro (e | e);exact hb e;exact hq e)]
def HKF (l : List S44) : Int := if l.length > 100 then 2 else HF l 0 0
theorem shf_tells {l : List S44} (hl : SmallH l) : Ev (fun k => spec_HunksFault.f k l) (HKF l) := by
 unfold spec_HunksFault.f HKF;refine Ev_if (fun h => Ev_val ?_) (fun h => ?_);(·rw [if_pos (by omega)]);rw [if_neg (by omega)];have := shf_loop hl _ 0 0 0 rfl (by omega) (by omega) (by omega) (by omega) (by omega);rw [List.drop_zero] at this;exact Ev_call (by unfold spec_l3Fault.f;exact this) (Ev.now _)
theorem ihf_loop {l : List S44} (hl : SmallH l) : ∀ (d n : Nat) (i j : Int), l.length - n = d → n ≤ l.length → 0 ≤ i → i ≤ 300 → 0 ≤ j → j ≤ 300 → Ev (fun k => impl_HunksFault.l0 k i j l (l.length : Int) (n : Int)) (HF (l.drop n) i j) := by
 intro d
 induction d with
 | zero =>
  intro n i j hd hn _ _ _ _;refine Ev.step (fun k => by rw [impl_HunksFault.l0]) (Ev_neg (by omega) (Ev_val ?_));rw [List.drop_eq_nil_of_le (by omega)];rfl
 | succ d ih =>
  intro n i j hd hn hi0 hi1 hj0 hj1;(have hlt : n < l.length := by omega);have hs := hl.at hlt;have hll := hl.2.1;refine Ev.step (fun k => by rw [impl_HunksFault.l0]) (Ev_pos (by omega) (Ev_pos (by omega) (Ev_pos (by omega) ?_)));rw [rdh_nat hlt, drop_at hlt, HF_cons];refine Ev_if (fun h => Ev_val ?_) (fun h => ?_);(·rw [if_pos (by omega)]);rw [if_neg (by omega)];refine Ev_call (isizes_tells _ _ hs.2.1 hs.1) ?_
  have bad1 : ∀ x y : Int, HB l[n].f2 = true ∨ hS l[n].f2 = l[n].f2.length → ∀ b : Bool, b = true → Ev (fun k => impl_HunksFault.j1 k i j x y l (l.length : Int) (n : Int) b l[n].f0 l[n].f1 l[n].f2)
      (if HB l[n].f2 = true ∨ hS l[n].f2 = l[n].f2.length then 1 else if ¬ ((0 ≤ l[n].f0 ∧ l[n].f0 ≤ 100) ∧ (0 ≤ l[n].f1 ∧ l[n].f1 ≤ 100)) then 3 else if l[n].f0 < i ∨ l[n].f0 - i ≠ l[n].f1 - j then 1 else HF (l.drop (n + 1)) (l[n].f0 + hA l[n].f2) (l[n].f1 + hB l[n].f2)) := by
    intro x y h b hb
    rw [if_pos h]
    exact Ev.step (fun k => by rw [impl_HunksFault.j1]) (Ev_pos hb (Ev.now _))
  by_cases hb : HB l[n].f2 = true;(·rw [if_pos hb];exact Ev_neg (by simp) (bad1 _ _ (.inl hb) _ rfl));(have hg : HB l[n].f2 = false := by simpa using hb);rw [if_neg hb];refine Ev_pos rfl (Ev_call (ichanges_tells _ _ hs.2.1 hg) ?_);by_cases hq : hS l[n].f2 = l[n].f2.length;(·exact bad1 _ _ (.inr hq) _ (by simp [hq]));rw [if_neg (by rintro (e | e);exact hb e;exact hq e)];refine Ev.step (fun k => by rw [impl_HunksFault.j1]) (Ev_neg (by simp [hq]) ?_);(have bad : ∀ x y : Int, ∀ b : Bool, b = true → ¬ ((0 ≤ l[n].f0 ∧ l[n].f0 ≤ 100) ∧ (0 ≤ l[n].f1 ∧ l[n].f1 ≤ 100)) → Ev (fun k => impl_HunksFault.j2 k i j x y l (l.length : Int) (n : Int) b l[n].f0 l[n].f1 l[n].f2) (if ¬ ((0 ≤ l[n].f0 ∧ l[n].f0 ≤ 100) ∧ (0 ≤ l[n].f1 ∧ l[n].f1 ≤ 100)) then 3 else if l[n].f0 < i ∨ l[n].f0 - i ≠ l[n].f1 - j then 1 else HF (l.drop (n + 1)) (l[n].f0 + hA l[n].f2) (l[n].f1 + hB l[n].f2)) := by intro x y b hb hn;rw [if_pos hn];exact Ev.step (fun k => by rw [impl_HunksFault.j2]) (Ev_pos hb (Ev.now _)));refine Ev_const (within_tells _ _ _) (Ev_if (fun h1 => ?_) (fun h1 => bad _ _ _ rfl (fun e => h1 (decide_eq_true e.1))));refine Ev_const (within_tells _ _ _) ?_;by_cases hr : 0 ≤ l[n].f1 ∧ l[n].f1 ≤ 100;rotate_left;(·rw [decide_eq_false hr];exact bad _ _ _ rfl (fun e => hr e.2));have h0 := of_decide_eq_true h1;rw [decide_eq_true hr, if_neg (fun e => e ⟨h0, hr⟩)];have la := hA_le l[n].f2;have lb := hB_le l[n].f2;refine Ev.step (fun k => by rw [impl_HunksFault.j2]) (Ev_neg (by simp) (Ev_if (fun g1 => Ev_val ?_) (fun g1 => ?_)));(·rw [if_pos (.inl g1)]);rw [wid (x := l[n].f0 - i) (by omega) (by omega), wid (x := l[n].f1 - j) (by omega) (by omega), wid (x := l[n].f0 + ((hA l[n].f2 : Nat) : Int)) (by omega) (by omega), wid (x := l[n].f1 + ((hB l[n].f2 : Nat) : Int)) (by omega) (by omega), wsucc' (by omega)];refine Ev_if (fun g2 => ?_) (fun g2 => Ev_val ?_);rotate_left;(·rw [if_pos (.inr (fun e => g2 e.symm))]);rw [if_neg (by rintro (e | e);exact g1 e;exact e g2.symm)];exact ih (n + 1) _ _ (by omega) (by omega) (by omega) (by omega) (by omega) (by omega)
theorem ihf_tells {l : List S44} (hl : SmallH l) : Ev (fun k => impl_HunksFault.f k l) (HKF l) := by
 unfold impl_HunksFault.f HKF;refine Ev_if (fun h => Ev_val ?_) (fun h => ?_);(·rw [if_pos (by omega)]);rw [if_neg (by omega)];have := ihf_loop hl _ 0 0 0 rfl (by omega) (by omega) (by omega) (by omega) (by omega);rw [List.drop_zero] at this;exact this
theorem eqhs_loop (xs : List S44) (hs : SmallH xs) : ∀ (d i : Nat), xs.length - i = d → i ≤ xs.length → Ev (fun k => laws_eqHunkS.l0 k xs xs (i : Int)) true := by
 have hl := hs.2.1;intro d
 induction d with
 | zero => intro i hd hi;exact Ev.step (fun k => by rw [laws_eqHunkS.l0]) (Ev_neg (by omega) (Ev.now _))
 | succ d ih =>
  intro i hd hi;(have hlt : i < xs.length := by omega);have hk := hs.at hlt;refine Ev.step (fun k => by rw [laws_eqHunkS.l0]) (Ev_pos (by omega) (Ev_pos (by omega) (Ev_pos (by omega) ?_)));rw [rdh_nat hlt, wsucc hlt (by omega)];exact Ev_call (eqh_tells _ _ hk) (Ev_pos rfl (ih (i + 1) (by omega) (by omega)))
theorem eqhs_tells {xs : List S44} (hs : SmallH xs) : Ev (fun k => laws_eqHunkS.f k xs xs) true := by
 unfold laws_eqHunkS.f;exact Ev_pos rfl (eqhs_loop xs hs _ 0 rfl (by omega))
def pieces : List UInt8 → List UInt8 → List (List UInt8)
  | cur, [] => [cur]
  | cur, b :: l => if b = 10 then (cur ++ [b]) :: pieces [] l else pieces (cur ++ [b]) l
def linesL : List UInt8 → List UInt8 → List (List UInt8)
  | cur, [] => if cur = [] then [] else [cur]
  | cur, b :: l => if b = 10 then (cur ++ [b]) :: linesL [] l else linesL (cur ++ [b]) l
def toB (l : List UInt8) : ByteArray := ⟨l.toArray⟩
theorem toB_data (s : ByteArray) : toB s.data.toList = s := by cases s;simp [toB]
theorem data_toB (l : List UInt8) : (toB l).data.toList = l := by simp [toB]
def LNB (s : ByteArray) : List ByteArray := (linesL [] s.data.toList).map toB
theorem extract_data (s : ByteArray) (a b : Nat) : (s.extract a b).data.toList = (s.data.toList.drop a).take (b - a) := by
 rw [ByteArray.data_extract, Array.toList_extract, List.extract_eq_take_drop]
theorem extract_toB (s : ByteArray) (a b : Nat) : s.extract a b = toB ((s.data.toList.drop a).take (b - a)) := by
 rw [← extract_data, toB_data]
def ahead (cur : List UInt8) : List (List UInt8) → List (List UInt8)
  | [] => [cur]
  | x :: r => (cur ++ x) :: r
theorem pieces_ne (cur l : List UInt8) : pieces cur l ≠ [] := by
 induction l generalizing cur with
 | nil => simp [pieces]
 | cons b l ih =>
  rw [pieces];split;(·simp);exact ih _
theorem ahead_ahead (a b : List UInt8) {xs : List (List UInt8)} (h : xs ≠ []) : ahead a (ahead b xs) = ahead (a ++ b) xs := by
 cases xs with
 | nil => exact absurd rfl h
 | cons x r => simp [ahead]
theorem pieces_cur (cur l : List UInt8) : pieces cur l = ahead cur (pieces [] l) := by
 induction l generalizing cur with
 | nil => simp [pieces, ahead]
 | cons b l ih =>
  rw [pieces, pieces];by_cases h : b = 10;(·rw [if_pos h, if_pos h];simp [ahead]);rw [if_neg h, if_neg h, ih (cur ++ [b]), ih ([] ++ [b]), ahead_ahead _ _ (pieces_ne _ _)];rfl
theorem splitK_cons (b : UInt8) (l : List UInt8) (h : b ≠ 10) (k : Nat) : Lib.splitK [10] 1 k (b :: l) = ahead [b] (Lib.splitK [10] 1 k l) := by
 cases k with
 | zero => rfl
 | succ k =>
  have hge := index_low l 10;(have e : Lib.indexByte (b :: l) 10 = if Lib.indexByte l 10 < 0 then -1 else Lib.indexByte l 10 + 1 := by rw [Lib.indexByte];simp only [beq_iff_eq, h, if_false];by_cases q : Lib.indexByte l 10 = -1;(·rw [if_pos q, if_pos (by omega)]);rw [if_neg q, if_neg (by omega)]);rw [Lib.splitK, Lib.splitK, Lib.index_one, Lib.index_one, e];by_cases hn : Lib.indexByte l 10 < 0;(·(have e2 : Lib.indexByte l 10 = -1 := by omega);rw [if_pos hn, e2, if_pos (beq_self_eq_true _), if_pos (beq_self_eq_true _)];rfl);rw [if_neg hn, if_neg (fun q => by have := beq_iff_eq.1 q;omega), if_neg (fun q => by have := beq_iff_eq.1 q;omega)];obtain ⟨o, ho⟩ : ∃ o : Nat, Lib.indexByte l 10 = (o : Int) := ⟨(Lib.indexByte l 10).toNat, by omega⟩;rw [ho];(have e3 : ((o : Int) + 1).toNat = o + 1 := by omega);(have e4 : ((o : Int)).toNat = o := by omega);rw [e3, e4];rfl
theorem splitK_pieces (l : List UInt8) : Lib.splitK [10] 1 (l.count 10) l = pieces [] l := by
 induction l with
 | nil => rfl
 | cons b l ih =>
  rw [pieces];by_cases h : b = 10;rotate_left;(·rw [if_neg h, List.count_cons_of_ne (fun e => h e), splitK_cons b l h, ih];exact (pieces_cur [b] l).symm);subst h;rw [if_pos rfl, List.count_cons_self, Lib.splitK, Lib.index_one];(have e : Lib.indexByte (10 :: l) 10 = 0 := by rw [Lib.indexByte];simp);rw [e, if_neg (by decide)];show _ :: Lib.splitK [10] 1 (l.count 10) l = _;rw [ih];rfl
theorem pieces_lines (cur l : List UInt8) : ∃ p ps, pieces cur l = ps ++ [p] ∧ linesL cur l = if p = [] then ps else ps ++ [p] := by
 induction l generalizing cur with
 | nil =>
  refine ⟨cur, [], rfl, ?_⟩;simp [linesL]
 | cons b l ih =>
  rw [pieces, linesL];by_cases h : b = 10;rotate_left;(·rw [if_neg h, if_neg h];exact ih _);rw [if_pos h, if_pos h];obtain ⟨p, ps, e1, e2⟩ := ih [];refine ⟨p, (cur ++ [b]) :: ps, by rw [e1];rfl, ?_⟩;rw [e2];split <;> rfl
theorem linesOf_tells (s : ByteArray) (hs : s.size ≤ 1048576) : impl_linesOf.f s = some (LNB s) := by
 (have e1 : strings_SplitAfter.f s (⟨#[10]⟩ : ByteArray) = some ((pieces [] s.data.toList).map toB) := by unfold strings_SplitAfter.f;(have : strings_genSplit.f s (⟨#[10]⟩ : ByteArray) (((⟨#[10]⟩ : ByteArray).size : Nat) : Int) (-1) = some ((pieces [] s.data.toList).map toB) := by unfold strings_genSplit.f;show (if s.size < 4294967281 ∧ (1 : Int) = 1 ∧ (-1 : Int) = -1 then some (Lib.splitB ⟨⟨[10]⟩⟩ 1 (Lib.countB s ⟨⟨[10]⟩⟩) s) else none) = _;rw [if_pos ⟨by omega, rfl, rfl⟩];congr 1;have h := Lib.splitB_data ⟨⟨[10]⟩⟩ 1 (Lib.countB s ⟨⟨[10]⟩⟩) s;have e0 : Lib.countB s ⟨⟨[10]⟩⟩ = s.data.toList.count 10 := Lib.count_one 10 s.data.toList;rw [e0] at h ⊢;have h2 := h.trans (splitK_pieces s.data.toList);rw [← h2, List.map_map];have : (toB ∘ fun x : ByteArray => x.data.toList) = id := funext toB_data;rw [this, List.map_id]);rw [this];rfl);unfold impl_linesOf.f;rw [e1];obtain ⟨p, ps, e2, e3⟩ := pieces_lines [] s.data.toList;show (if 0 ≤ wrap64 ((((pieces [] s.data.toList).map toB).length : Int) - 1) then _ else none) = _;(have hl : ((pieces [] s.data.toList).map toB).length = ps.length + 1 := by rw [e2];simp)
 have hle : ps.length ≤ s.size := by
  have h1 : ∀ (cur l : List UInt8), (pieces cur l).length ≤ l.length + 1 := by
   intro cur l
   induction l generalizing cur with
   | nil => simp [pieces]
   | cons b l ih =>
    rw [pieces];split;(·have := ih [];simp only [List.length_cons];omega);have := ih (cur ++ [b]);simp only [List.length_cons];omega
  have := h1 [] s.data.toList;rw [List.length_map] at hl;rw [hl, size_data] at this;omega
 rw [hl];(have ew : wrap64 (((ps.length + 1 : Nat) : Int) - 1) = (ps.length : Int) := by rw [wid (by omega) (by omega)];omega);rw [ew, if_pos (by omega), if_pos (by omega)];(have hlt : ps.length < ((pieces [] s.data.toList).map toB).length := by omega);rw [rd_nat _ hlt];(have hget : ((pieces [] s.data.toList).map toB)[ps.length] = toB p := by simp [e2]);rw [hget];(have hq : (toB p).toList = ([] : List UInt8) ↔ p = [] := by rw [toList_nil, data_toB]);unfold LNB;rw [e3];by_cases hp : p = [];rotate_left;(·rw [if_neg (fun e => hp (hq.1 e)), if_neg hp, e2]);rw [if_pos (hq.2 hp), if_pos (by omega), if_pos hp, e2];(have : ((ps.length : Int)).toNat = ps.length := by omega);rw [this];simp
theorem lines_len (cur l : List UInt8) : (linesL cur l).length ≤ l.length + 1 := by
 induction l generalizing cur with
 | nil => rw [linesL];split <;> simp
 | cons b l ih =>
  rw [linesL];split;(·have := ih [];simp only [List.length_cons];omega);have := ih (cur ++ [b]);simp only [List.length_cons];omega
end Go.Proofs.YthmmmiknmkpbeaaDoor.P
end
section
set_option linter.unusedVariables false
set_option linter.unusedSimpArgs false
namespace Go.Proofs.YthmmmiknmkpbeaaDoor.P
open Go.RowKit Go.Proofs.YthmmmiknmkpbeaaDoorW.PrintWords Go.Proofs.YthmmmiknmkpbeaaDoorW.PrintLast
abbrev Hk := S44
abbrev dg (n : Nat) : List UInt8 := Lib.decDigits n
theorem dg_small {n : Nat} (h : n < 10) : dg n = [UInt8.ofNat (48 + n)] := Lib.decDigits_one h
theorem dg_big {n : Nat} (h : ¬ n < 10) : dg n = dg (n / 10) ++ [UInt8.ofNat (48 + n % 10)] := by
 show Lib.decDigits n = _;rw [Lib.decDigits, dif_neg h]
theorem u8_nat {n : Nat} (h : n < 256) : (UInt8.ofNat n).toNat = n := by
 rw [UInt8.toNat_ofNat'];omega
theorem dg_dig (n : Nat) : ∀ x ∈ dg n, 48 ≤ x.toNat ∧ x.toNat ≤ 57 := by
 induction n using Nat.strongRecOn with
 | _ n ih =>
  intro x hx;by_cases h : n < 10;(·rw [dg_small h, List.mem_singleton] at hx;rw [hx, u8_nat (by omega)];omega);rw [dg_big h, List.mem_append, List.mem_singleton] at hx;(rcases hx with hx | hx);(·exact ih (n / 10) (by omega) x hx);rw [hx, u8_nat (by omega)];omega
theorem dg_ne (n : Nat) : dg n ≠ [] := by
 by_cases h : n < 10;(·rw [dg_small h];simp);rw [dg_big h];simp
def nv (l : List UInt8) : Nat := l.foldl (fun a x => a * 10 + (x.toNat - 48)) 0
theorem nv_snoc (m : List UInt8) (x : UInt8) : nv (m ++ [x]) = nv m * 10 + (x.toNat - 48) := by
 unfold nv;rw [List.foldl_append];rfl
theorem nv_dg (n : Nat) : nv (dg n) = n := by
 induction n using Nat.strongRecOn with
 | _ n ih =>
  by_cases h : n < 10;rotate_left;(·rw [dg_big h, nv_snoc, ih (n / 10) (by omega), u8_nat (by omega)];omega);rw [dg_small h, show [UInt8.ofNat (48 + n)] = [] ++ [UInt8.ofNat (48 + n)] from rfl, nv_snoc, u8_nat (by omega)];show 0 * 10 + _ = _;omega
theorem dg_inj {m n : Nat} (h : dg m = dg n) : m = n := by rw [← nv_dg m, h, nv_dg]
def Num (l : List UInt8) : Prop := (∀ x ∈ l, 48 ≤ x.toNat ∧ x.toNat ≤ 57) ∧ l ≠ [] ∧ (l.length = 1 ∨ l.head? ≠ some 48)
theorem snoc_cases {α : Type} (l : List α) : l = [] ∨ ∃ m x, l = m ++ [x] := by
 (rcases List.eq_nil_or_concat l with h | ⟨m, x, h⟩);(·exact .inl h);exact .inr ⟨m, x, by rw [h];simp⟩
theorem nv_pos : ∀ (k : Nat) (l : List UInt8), l.length = k → (∀ x ∈ l, 48 ≤ x.toNat ∧ x.toNat ≤ 57) → l ≠ [] → l.head? ≠ some 48 → 1 ≤ nv l := by
 intro k
 induction k with
 | zero => intro l h _ h2 _;exact absurd (List.length_eq_zero_iff.1 h) h2
 | succ k ih =>
  intro l hk hd hne hh;(rcases snoc_cases l with h | ⟨m, x, rfl⟩);(·exact absurd h hne);rw [nv_snoc];by_cases hm : m = [];rotate_left
  ·have := ih m (by simpa using hk) (fun y hy => hd y (by simp [hy])) hm (by
     cases m with
     | nil => exact absurd rfl hm
     | cons y m => simpa using hh)
   omega
  subst hm;have h1 := hd x (by simp)
  have h2 : x.toNat ≠ 48 := fun e => hh (by
    rw [List.nil_append, List.head?_cons]
    congr 1
    exact UInt8.toNat_inj.1 e)
  omega
theorem dg_nv : ∀ (k : Nat) (l : List UInt8), l.length = k → Num l → dg (nv l) = l := by
 intro k
 induction k with
 | zero => intro l h g;exact absurd (List.length_eq_zero_iff.1 h) g.2.1
 | succ k ih =>
  intro l hk ⟨hd, hne, hh⟩;(rcases snoc_cases l with h | ⟨m, x, rfl⟩);(·exact absurd h hne);have h1 := hd x (by simp);have ex : UInt8.ofNat (48 + (x.toNat - 48)) = x := UInt8.toNat_inj.1 (by rw [u8_nat (by omega)];omega);rw [nv_snoc];by_cases hm : m = [];(·subst hm;rw [show nv ([] : List UInt8) * 10 + (x.toNat - 48) = x.toNat - 48 from by show 0 * 10 + _ = _;omega, dg_small (by omega), ex];rfl);(have hl : m.length = k := by simpa using hk);(have hd2 : ∀ y ∈ m, 48 ≤ y.toNat ∧ y.toNat ≤ 57 := fun y hy => hd y (by simp [hy]))
  have hh2 : m.head? ≠ some 48 := by
   cases m with
   | nil => exact absurd rfl hm
   | cons y m =>
    (rcases hh with h | h);(·simp at h);simpa using h
  have hp := nv_pos _ m rfl hd2 hm hh2;rw [dg_big (by omega), show (nv m * 10 + (x.toNat - 48)) / 10 = nv m by omega, show (nv m * 10 + (x.toNat - 48)) % 10 = x.toNat - 48 by omega, ih m hl ⟨hd2, hm, .inr hh2⟩, ex]
theorem dg_head (n : Nat) : (dg n).length = 1 ∨ (dg n).head? ≠ some 48 := by
 induction n using Nat.strongRecOn with
 | _ n ih =>
  by_cases h : n < 10;(·rw [dg_small h];simp);right;rw [dg_big h]
  have e : (dg (n / 10) ++ [UInt8.ofNat (48 + n % 10)]).head? = (dg (n / 10)).head? := by
   cases h2 : dg (n / 10) with
   | nil => exact absurd h2 (dg_ne _)
   | cons y m => rfl
  rw [e];(rcases ih (n / 10) (by omega) with h1 | h1);rotate_left;(·exact h1);by_cases h3 : n / 10 < 10;rotate_left;(·(have e9 : (dg (n / 10)).length = (dg (n / 10 / 10)).length + 1 := by rw [dg_big h3, List.length_append, List.length_singleton]);have := List.length_pos_iff.2 (dg_ne (n / 10 / 10));omega);rw [dg_small h3, List.head?_cons];intro e;(injection e with e);have := congrArg UInt8.toNat e;rw [u8_nat (by omega)] at this;simp at this;omega
theorem dg_num (n : Nat) : Num (dg n) := ⟨dg_dig n, dg_ne n, dg_head n⟩
theorem nv_lt : ∀ (k : Nat) (l : List UInt8), l.length = k → (∀ x ∈ l, 48 ≤ x.toNat ∧ x.toNat ≤ 57) → nv l < 10 ^ k := by
 intro k
 induction k with
 | zero => intro l h _;rw [List.length_eq_zero_iff.1 h];decide
 | succ k ih =>
  intro l hk hd;(rcases snoc_cases l with h | ⟨m, x, rfl⟩);(·rw [h] at hk;simp at hk);have := ih m (by simpa using hk) (fun y hy => hd y (by simp [hy]));have h1 := hd x (by simp);rw [nv_snoc, Nat.pow_succ];omega
theorem dg_len {n : Nat} (h : n ≤ 9999) : (dg n).length ≤ 4 := by
 by_cases h1 : n < 10;(·rw [dg_small h1];simp);rw [dg_big h1, List.length_append];by_cases h2 : n / 10 < 10;(·rw [dg_small h2];simp);rw [dg_big h2, List.length_append];by_cases h3 : n / 10 / 10 < 10;(·rw [dg_small h3];simp);rw [dg_big h3, dg_small (by omega)];simp
theorem Num_le {l : List UInt8} (h : Num l) (hl : l.length ≤ 4) : nv l ≤ 9999 := by
 have := nv_lt _ l rfl h.1;have : 10 ^ l.length ≤ 10 ^ 4 := Nat.pow_le_pow_right (by omega) hl;omega
def hdT (p a q b : Nat) : List UInt8 := [64, 64, 32, 45] ++ (dg p ++ 44 :: (dg a ++ 32 :: 43 :: (dg q ++ 44 :: (dg b ++ [32, 64, 64, 10]))))
def lnT (s : ByteArray) : List UInt8 := if s.data.toList.getLast? = some 10 then s.data.toList else s.data.toList ++ [10, 92, 10]
def lsT : List ByteArray → List UInt8
  | [] => []
  | s :: l => lnT s ++ lsT l
theorem cut_uniq {c : UInt8} {x y : List UInt8} : ∀ {u v : List UInt8}, c ∉ u → c ∉ v → u ++ c :: x = v ++ c :: y → u = v ∧ x = y := by
 intro u
 induction u with
 | nil =>
  intro v _ hv h
  cases v with
  | nil => exact ⟨rfl, (List.cons.inj h).2⟩
  | cons z v => exact absurd (List.cons.inj h).1 (fun e => hv (by rw [e];simp))
 | cons w u ih =>
  intro v hu hv h
  cases v with
  | nil => exact absurd (List.cons.inj h).1 (fun e => hu (by rw [e];simp))
  | cons z v =>
   obtain ⟨e1, e2⟩ := List.cons.inj h;obtain ⟨e3, e4⟩ := ih (fun e => hu (by simp [e])) (fun e => hv (by simp [e])) e2;exact ⟨by rw [e1, e3], e4⟩
theorem dg_no {n : Nat} {c : UInt8} (h : c.toNat < 48 ∨ 57 < c.toNat) : c ∉ dg n := fun e => by have := dg_dig n c e;omega
theorem hdT_app (p a q b : Nat) (r : List UInt8) : hdT p a q b ++ r = 64 :: 64 :: 32 :: 45 :: (dg p ++ 44 :: (dg a ++ 32 :: 43 :: (dg q ++ 44 :: (dg b ++ 32 :: 64 :: 64 :: 10 :: r)))) := by
 unfold hdT;simp
theorem hdT_inj {p a q b p' a' q' b' : Nat} {r r' : List UInt8} (h : hdT p a q b ++ r = hdT p' a' q' b' ++ r') : p = p' ∧ a = a' ∧ q = q' ∧ b = b' ∧ r = r' := by
 rw [hdT_app, hdT_app] at h;(injection h with _ h);(injection h with _ h);(injection h with _ h);(injection h with _ h);obtain ⟨e1, h⟩ := cut_uniq (dg_no (by decide)) (dg_no (by decide)) h;obtain ⟨e2, h⟩ := cut_uniq (dg_no (by decide)) (dg_no (by decide)) h;(injection h with _ h);obtain ⟨e3, h⟩ := cut_uniq (dg_no (by decide)) (dg_no (by decide)) h;obtain ⟨e4, h⟩ := cut_uniq (dg_no (by decide)) (dg_no (by decide)) h;(injection h with _ h);(injection h with _ h);(injection h with _ h);exact ⟨dg_inj e1, dg_inj e2, dg_inj e3, dg_inj e4, h⟩
theorem hdT_len (p a q b : Nat) : 12 ≤ (hdT p a q b).length := by
 have h1 := List.length_pos_iff.2 (dg_ne p);have h2 := List.length_pos_iff.2 (dg_ne a);have h3 := List.length_pos_iff.2 (dg_ne q);have h4 := List.length_pos_iff.2 (dg_ne b);have e := congrArg List.length (hdT_app p a q b []);simp only [List.append_nil, List.length_cons, List.length_append, List.length_nil] at e;omega
def HdIs (l : List UInt8) (p a q b : Nat) (r : List UInt8) : Prop := p ≤ 9999 ∧ a ≤ 9999 ∧ q ≤ 9999 ∧ b ≤ 9999 ∧ l = hdT p a q b ++ r
def nl : List UInt8 → Option (List UInt8 × List UInt8)
  | [] => none
  | x :: l => if x = 10 then some ([10], l) else (nl l).map fun p => (x :: p.1, p.2)
theorem nl_some : ∀ {l x r : List UInt8}, nl l = some (x, r) → l = x ++ r ∧ ∃ y, x = y ++ [10] ∧ 10 ∉ y := by
 intro l
 induction l with
 | nil => intro x r h;cases h
 | cons c l ih =>
  intro x r h;rw [nl] at h;split at h;(·rename_i hc;(injection h with h);(injection h with h1 h2);subst h1 h2 hc;exact ⟨rfl, [], rfl, by simp⟩);rename_i hc;obtain ⟨⟨x', r'⟩, h1, h2⟩ := Option.map_eq_some_iff.1 h;(injection h2 with h2 h3);subst h2 h3;obtain ⟨e, y, ey, hy⟩ := ih h1;exact ⟨by rw [e];rfl, c :: y, by rw [ey];rfl, by simp [hy];exact fun e => hc e.symm⟩
theorem nl_of (y r : List UInt8) (h : 10 ∉ y) : nl (y ++ 10 :: r) = some (y ++ [10], r) := by
 induction y with
 | nil => rfl
 | cons c y ih =>
  (have hc : ¬ c = 10 := fun e => h (by simp [e]));rw [List.cons_append, nl, if_neg hc, ih (fun e => h (by simp [e]))];rfl
theorem nl_none : ∀ {l : List UInt8}, nl l = none → 10 ∉ l := by
 intro l
 induction l with
 | nil => intro _;simp
 | cons c l ih =>
  intro h;rw [nl] at h;split at h;(·cases h);rename_i hc;have := ih (Option.map_eq_none_iff.1 h);simp [this];exact fun e => hc e.symm
theorem linesL_nl : ∀ (l cur : List UInt8), linesL cur l = match nl l with
    | none => if cur ++ l = [] then [] else [cur ++ l]
    | some (x, r) => (cur ++ x) :: linesL [] r := by
 intro l
 induction l with
 | nil => intro cur;rw [linesL, nl];simp
 | cons c l ih =>
  intro cur;rw [linesL, nl];by_cases hc : c = 10;(·subst hc;rw [if_pos rfl, if_pos rfl]);rw [if_neg hc, if_neg hc, ih]
  cases nl l with
  | none => simp
  | some p => simp
def tk (l : List UInt8) : Option (ByteArray × List UInt8) :=
  match nl l with
  | none => none
  | some (x, r) => if r.take 2 = [92, 10] then (if hbad (toB x.dropLast) then none else some (toB x.dropLast, r.drop 2)) else (if hbad (toB x) then none else some (toB x, r))
theorem tk_some {l : List UInt8} {y : ByteArray} {r : List UInt8} (h : tk l = some (y, r)) : l = lnT y ++ r ∧ ¬ hbad y := by
 unfold tk at h;split at h;(·cases h);rename_i x r' e;obtain ⟨e1, z, ez, hz⟩ := nl_some e;split at h;rotate_left;(·split at h;(·cases h);rename_i hb;(injection h with h);(injection h with h1 h2);subst h1 h2;refine ⟨?_, hb⟩;unfold lnT;rw [if_pos (by rw [data_toB, ez];simp), data_toB, e1]);rename_i ht;split at h;(·cases h);rename_i hb;(injection h with h);(injection h with h1 h2);subst h1 h2;refine ⟨?_, hb⟩;(have hx : x.dropLast = z := by rw [ez];simp);rw [hx];(have : ¬ (toB z).data.toList.getLast? = some 10 := by rw [data_toB];intro e;exact hz (List.mem_of_getLast? e));unfold lnT;rw [if_neg this, data_toB, e1, ez];(conv => lhs;rw [← List.take_append_drop 2 r', ht]);simp
theorem mk_cons {s : ByteArray} {a : UInt8} {d : List UInt8} (h : s.data.toList = a :: d) : mk s = (a.toNat : Int) := by
 (have hlt : 0 < s.data.toList.length := by rw [h];simp);have := bt_nat hlt;rw [show (((0 : Nat)) : Int) = 0 from rfl] at this;unfold mk;rw [this];congr 2;simp [h]
def rb : Nat → Int → Int → List UInt8 → Option (List ByteArray × List UInt8)
  | 0, _, _, _ => none
  | f + 1, o, n, l => if o > 0 ∨ n > 0 then (match tk l with
      | none => none
      | some (y, r) => (rb f (if mk y = 43 then o else o - 1) (if mk y = 45 then n else n - 1) r).map fun p => (y :: p.1, p.2))
    else if o < 0 ∨ n < 0 then none else some ([], l)
theorem rb_some : ∀ {f : Nat} {o n : Int} {l r : List UInt8} {x : List ByteArray}, rb f o n l = some (x, r) → l = lsT x ++ r ∧ o = hA x ∧ n = hB x ∧ HB x = false := by
 intro f
 induction f with
 | zero => intro o n l r x h;cases h
 | succ f ih =>
  intro o n l r x h;rw [rb] at h;split at h;rotate_left;(·split at h;(·cases h);(injection h with h);(injection h with h1 h2);subst h1 h2;refine ⟨rfl, ?_, ?_, rfl⟩;(·simp only [hA];omega);simp only [hB];omega);split at h;(·cases h);rename_i y r' e;obtain ⟨⟨x', r2⟩, h1, h2⟩ := Option.map_eq_some_iff.1 h;(injection h2 with h2 h3);subst h2 h3;obtain ⟨e1, hb⟩ := tk_some e;obtain ⟨i1, i2, i3, i4⟩ := ih h1;refine ⟨by rw [e1, i1, lsT];simp, ?_, ?_, ?_⟩;(·rw [hA];split at i2 <;> simp_all <;> omega);(·rw [hB];split at i3 <;> simp_all <;> omega);rw [HB_cons, decide_eq_false hb, i4];rfl
open Classical in
noncomputable def rh (l : List UInt8) : Option (Hk × List UInt8) :=
  if h : ∃ z : Nat × Nat × Nat × Nat × List UInt8, HdIs l z.1 z.2.1 z.2.2.1 z.2.2.2.1 z.2.2.2.2 then
    (rb (l.length + 1) (h.choose.2.1 : Nat) (h.choose.2.2.2.1 : Nat) h.choose.2.2.2.2).map fun y => (⟨(h.choose.1 : Nat), (h.choose.2.2.1 : Nat), y.1⟩, y.2)
  else none
theorem rh_none {l : List UInt8} (h : ∀ p a q b r, ¬ HdIs l p a q b r) : rh l = none := by
 unfold rh;rw [dif_neg (fun ⟨z, hz⟩ => h _ _ _ _ _ hz)]
theorem rh_is {l : List UInt8} {p a q b : Nat} {r : List UInt8} (h : HdIs l p a q b r) : rh l = (rb (l.length + 1) (a : Nat) (b : Nat) r).map fun y => (⟨(p : Nat), (q : Nat), y.1⟩, y.2) := by
 have he : ∃ z : Nat × Nat × Nat × Nat × List UInt8, HdIs l z.1 z.2.1 z.2.2.1 z.2.2.2.1 z.2.2.2.2 := ⟨(p, a, q, b, r), h⟩;have hc := he.choose_spec;unfold rh;rw [dif_pos he];obtain ⟨e1, e2, e3, e4, e5⟩ := hdT_inj (hc.2.2.2.2.symm.trans h.2.2.2.2);rw [e1, e2, e3, e4, e5]
theorem rh_cases (l : List UInt8) : (∃ p a q b r, HdIs l p a q b r) ∨ ∀ p a q b r, ¬ HdIs l p a q b r := by
 by_cases h : ∃ p a q b r, HdIs l p a q b r;(·exact .inl h);exact .inr fun p a q b r e => h ⟨p, a, q, b, r, e⟩
theorem rh_some {l : List UInt8} {h : Hk} {r : List UInt8} (e : rh l = some (h, r)) : l = hdT h.f0.toNat (hA h.f2) h.f1.toNat (hB h.f2) ++ (lsT h.f2 ++ r) ∧ HB h.f2 = false ∧ 0 ≤ h.f0 ∧ 0 ≤ h.f1 := by
 (rcases rh_cases l with ⟨p, a, q, b, r', hd⟩ | hn);rotate_left;(·rw [rh_none hn] at e;cases e);rw [rh_is hd] at e;obtain ⟨⟨x, r2⟩, h1, h2⟩ := Option.map_eq_some_iff.1 e;(injection h2 with h2 h3);subst h2 h3;obtain ⟨i1, i2, i3, i4⟩ := rb_some h1;(have ea : a = hA x := by omega);(have eb : b = hB x := by omega);refine ⟨?_, i4, by simp, by simp⟩;rw [hd.2.2.2.2, i1, ea, eb];simp
theorem lsT_len : ∀ x : List ByteArray, HB x = false → 2 * x.length ≤ (lsT x).length ∧ total x ≤ (lsT x).length := by
 intro x
 induction x with
 | nil => intro _;simp [lsT, total]
 | cons s x ih =>
  intro hx;rw [HB_cons, Bool.or_eq_false_iff] at hx;have h : ¬ hbad s := of_decide_eq_false hx.1;(have hs : 2 ≤ s.size := Classical.byContradiction fun q => h (.inl (by omega)));have := ih hx.2;(have h2 : s.size ≤ (lnT s).length := by have := size_data s;unfold lnT;split;(·omega);rw [List.length_append];omega);rw [lsT, total, List.length_append, List.length_cons];omega
noncomputable def pr : Nat → List Hk → List UInt8 → Bool × List Hk
  | 0, acc, _ => (false, acc)
  | f + 1, acc, l => if l = [] then (true, acc) else match rh l with
    | none => (false, acc)
    | some (h, r) => pr f (acc ++ [h]) r
noncomputable def PPT (s : ByteArray) : Int × Int × List Hk := if s.size > 8000 then (2, 0, []) else
  if (pr (s.size + 1) [] s.data.toList).1 = true then (if HKF (pr (s.size + 1) [] s.data.toList).2 = 0 then (0, 0, (pr (s.size + 1) [] s.data.toList).2) else (HKF (pr (s.size + 1) [] s.data.toList).2, 0, []))
  else (5, ((pr (s.size + 1) [] s.data.toList).2.length : Nat), [])
end Go.Proofs.YthmmmiknmkpbeaaDoor.P
end
section
set_option linter.unusedVariables false
set_option linter.unusedSimpArgs false
namespace Go.Proofs.YthmmmiknmkpbeaaDoor.P
open Go.RowKit Go.Proofs.YthmmmiknmkpbeaaDoorW.PrintWords Go.Proofs.YthmmmiknmkpbeaaDoorW.PrintLast
theorem mtext_loop : ∀ (n : Nat) (s : ByteArray), n + s.size ≤ 4611686018427387904 → ∃ t, Ev (fun k => laws_markText.l0 k (n : Int) s) t := by
 intro n
 induction n using Nat.strongRecOn with
 | _ n ih =>
  intro s hs;by_cases h : n = 0;(·subst h;exact ⟨_, Ev.step (fun k => by rw [laws_markText.l0]) (Ev_neg (by omega) (Ev_pos (by omega) (Ev.now _)))⟩);(have hq : Int.tdiv (n : Int) 10 = ((n / 10 : Nat) : Int) := by rw [Int.tdiv_eq_ediv_of_nonneg (by omega)];omega);(have hsz : (strOfNums [(wrap64 (48 + (Int.tmod (n : Int) 10))) % 256] ++ s).size = 1 + s.size := by rw [ByteArray.size_append, strOfNums_size];rfl);obtain ⟨t, ht⟩ := ih (n / 10) (by omega) (strOfNums [(wrap64 (48 + (Int.tmod (n : Int) 10))) % 256] ++ s) (by rw [hsz];omega);refine ⟨t, Ev.step (fun k => by rw [laws_markText.l0]) (Ev_pos (by omega) ?_)⟩;refine Ev_const rfl ?_;refine Ev_pos (by rw [strOfNums_size];simp;omega) ?_;rw [hq, wid (by omega) (by omega)];exact ht
theorem mtext_some (n : Nat) (hn : n ≤ 4611686018427387904) : ∃ t, Ev (fun k => laws_markText.f k (n : Int)) t := by
 unfold laws_markText.f;by_cases h : n = 0;(·subst h;exact ⟨_, Ev_pos (by omega) (Ev.now _)⟩);obtain ⟨t, ht⟩ := mtext_loop n (⟨#[]⟩ : ByteArray) (by simp [ByteArray.size];exact hn);exact ⟨t, Ev_neg (by omega) ht⟩
noncomputable def mtx (n : Nat) : ByteArray := @Classical.epsilon ByteArray ⟨⟨#[]⟩⟩ (fun t => Ev (fun k => laws_markText.f k (n : Int)) t)
theorem mtx_tells (n : Nat) (hn : n ≤ 4611686018427387904) : Ev (fun k => laws_markText.f k (n : Int)) (mtx n) := @Classical.epsilon_spec _ _ (mtext_some n hn)
noncomputable def mks : Nat → Nat → List ByteArray
  | _, 0 => []
  | n, d + 1 => mtx n :: mks (n + 1) d
theorem mks_length : ∀ (d n : Nat), (mks n d).length = d
  | 0, _ => rfl
  | d + 1, n => by rw [mks, List.length_cons, mks_length d (n + 1)]
theorem mark_loop (L : Nat) (hL : L ≤ 1000000000) : ∀ (d i n : Nat) (x : List ByteArray), L - i = d → i ≤ L → x.length = L → n + d ≤ 4611686018427387904 →
    Ev (fun k => laws_markStringS.l0 k x (n : Int) (i : Int)) (((n + d : Nat) : Int), x.take i ++ mks n d) := by
 intro d
 induction d with
 | zero =>
  intro i n x hd hi hx hn;refine Ev.step (fun k => by rw [laws_markStringS.l0]) (Ev_neg (by omega) (Ev_val ?_));rw [mks, List.append_nil, List.take_of_length_le (by omega)];rfl
 | succ d ih =>
  intro i n x hd hi hx hn;refine Ev.step (fun k => by rw [laws_markStringS.l0]) (Ev_pos (by omega) ?_);refine Ev_call (mtx_tells n (by omega)) ?_;refine Ev_pos (by omega) ?_;rw [wsucc' (i := n) (by omega), wsucc' (i := i) (by omega), Int.toNat_natCast];refine Ev_eq (ih (i + 1) (n + 1) (x.set i (mtx n)) (by omega) (by omega) (by rw [List.length_set];exact hx) (by omega)) ?_;rw [mks, List.take_succ_eq_append_getElem (by rw [List.length_set];omega), List.getElem_set_self, List.take_set_of_le (by omega), List.append_assoc, show n + 1 + d = n + (d + 1) by omega];rfl
theorem mark_tells (x : List ByteArray) (n : Nat) (hx : x.length ≤ 1000000000) (hn : n ≤ 4611686017427387904) : Ev (fun k => laws_markStringS.f k x (n : Int)) (((n + x.length : Nat) : Int), mks n x.length) := by
 unfold laws_markStringS.f;have h := mark_loop x.length hx _ 0 n x rfl (by omega) rfl (by omega);rw [List.take_zero, List.nil_append, Nat.sub_zero] at h;exact h
theorem held_loop : ∀ (d n : Nat) (p : List ByteArray), p.length + d ≤ 1000000000 → n + d ≤ 4611686018427387904 → Ev (fun k => laws_heldStringS.l0 k (p ++ mks n d) (n : Int) (p.length : Int)) ((n + d : Nat) : Int) := by
 intro d
 induction d with
 | zero =>
  intro n p hp hn;refine Ev.step (fun k => by rw [laws_heldStringS.l0]) ?_;exact Ev_neg (by rw [mks, List.append_nil];omega) (Ev.now _)
 | succ d ih =>
  intro n p hp hn;(have hl : (p ++ mks n (d + 1)).length = p.length + (d + 1) := by rw [List.length_append, mks_length]);refine Ev.step (fun k => by rw [laws_heldStringS.l0]) (Ev_pos (by omega) (Ev_pos (by omega) ?_));refine Ev_call (mtx_tells n (by omega)) ?_;(have hg : rdOf ByteArray.empty (p ++ mks n (d + 1)) (p.length : Int) = mtx n := by rw [rd_nat _ (by omega), List.getElem_append_right (by omega)];simp [mks]);rw [hg, wsucc' (i := n) (by omega), wsucc' (i := p.length) (by omega)];refine Ev_pos rfl ?_;have h := ih (n + 1) (p ++ [mtx n]) (by simp;omega) (by omega);rw [List.append_assoc, List.length_append, List.length_singleton] at h;rw [show n + (d + 1) = n + 1 + d by omega, mks];exact h
theorem held_tells (n d : Nat) (hd : d ≤ 1000000000) (hn : n ≤ 4611686017427387904) : Ev (fun k => laws_heldStringS.f k (mks n d) (n : Int)) ((n + d : Nat) : Int) := by
 unfold laws_heldStringS.f;exact held_loop d n [] (by simp;exact hd) (by omega)
noncomputable def mkh : Nat → List S44 → List S44
  | _, [] => []
  | n, c :: l => ⟨(n : Int), ((n + 1 : Nat) : Int), mks (n + 2) c.f2.length⟩ :: mkh (n + 2 + c.f2.length) l
def hs : Nat → List S44 → Nat
  | n, [] => n
  | n, c :: l => hs (n + 2 + c.f2.length) l
theorem hs_ge : ∀ (l : List S44) (n : Nat), n ≤ hs n l := by
 intro l
 induction l with
 | nil => intro n;exact Nat.le_refl _
 | cons c l ih => intro n;rw [hs];have := ih (n + 2 + c.f2.length);omega
theorem hs_le : ∀ (l : List S44) (n : Nat), (∀ c ∈ l, c.f2.length ≤ 1048576) → hs n l ≤ n + l.length * 1048578 := by
 intro l
 induction l with
 | nil => intro n h;simp [hs]
 | cons c l ih =>
  intro n h;rw [hs];have h1 := h c (by simp);have := ih (n + 2 + c.f2.length) (fun x hx => h x (by simp [hx]));simp only [List.length_cons];omega
theorem set_mid {α : Type} (p : List α) (c v : α) (r : List α) : (p ++ c :: r).set p.length v = p ++ v :: r := by
 rw [List.set_append_right _ _ (Nat.le_refl _), Nat.sub_self];rfl
theorem rdh_mid (p : List S44) (c : S44) (r : List S44) : rd_T44 (p ++ c :: r) (p.length : Int) = c := by
 rw [rdh_nat (by simp)];simp
theorem markhs_loop : ∀ (l p : List S44) (n : Nat), p.length + l.length ≤ 1048576 → (∀ c ∈ l, c.f2.length ≤ 1048576) → hs n l ≤ 4611686017427387000 →
    Ev (fun k => laws_markHunkS.l0 k (p ++ l) (n : Int) (p.length : Int)) (((hs n l : Nat) : Int), p ++ mkh n l) := by
 intro l
 induction l with
 | nil =>
  intro p n hp hc hn;refine Ev.step (fun k => by rw [laws_markHunkS.l0]) ?_;refine Ev_neg (by rw [List.append_nil];omega) (Ev_val ?_);rw [hs, mkh]
 | cons c l ih =>
  intro p n hp hc hn;have h0 := hs_ge (c :: l) n;have h1 := hs_ge l (n + 2 + c.f2.length);rw [hs] at hn;have hc0 := hc c (by simp);simp only [List.length_cons] at hp;refine Ev.step (fun k => by rw [laws_markHunkS.l0]) ?_;refine Ev_pos (by rw [List.length_append, List.length_cons];omega) (Ev_pos (by omega) ?_);refine Ev_const rfl ?_;rw [Int.toNat_natCast, rdh_mid, set_mid];refine Ev_const rfl ?_;rw [rdh_mid, set_mid, rdh_mid, wsucc' (i := n) (by omega), wsucc' (i := n + 1) (by omega), wsucc' (i := p.length) (by omega)];refine Ev_call (mark_tells c.f2 (n + 1 + 1) (by omega) (by omega)) ?_;rw [set_mid];have e := ih (p ++ [⟨(n : Int), ((n + 1 : Nat) : Int), mks (n + 2) c.f2.length⟩]) (n + 2 + c.f2.length) (by simp;omega) (fun x hx => hc x (by simp [hx])) (by omega);rw [List.append_assoc, List.length_append, List.append_assoc] at e;exact e
theorem markhs_tells {l : List S44} (h : SmallH l) : Ev (fun k => laws_markHunkS.f k l 1) (((hs 1 l : Nat) : Int), mkh 1 l) := by
 unfold laws_markHunkS.f;(have hc : ∀ c ∈ l, c.f2.length ≤ 1048576 := fun c hc => by obtain ⟨i, hi, rfl⟩ := List.mem_iff_getElem.1 hc;exact (h.at hi).2.1);have h1 := hs_le l 1 hc;have h2 := h.2.1;exact markhs_loop l [] 1 (by simp;omega) hc (by have : l.length * 1048578 ≤ 1048576 * 1048578 := Nat.mul_le_mul_right _ h2;omega)
theorem heldhs_loop : ∀ (l p : List S44) (n : Nat), p.length + l.length ≤ 1048576 → (∀ c ∈ l, c.f2.length ≤ 1048576) → hs n l ≤ 4611686017427387000 →
    Ev (fun k => laws_heldHunkS.l0 k (p ++ mkh n l) (n : Int) (p.length : Int)) ((hs n l : Nat) : Int) := by
 intro l
 induction l with
 | nil =>
  intro p n hp hc hn;refine Ev.step (fun k => by rw [laws_heldHunkS.l0]) ?_;rw [mkh, hs];exact Ev_neg (by rw [List.append_nil];omega) (Ev_val rfl)
 | cons c l ih =>
  intro p n hp hc hn;have h0 := hs_ge (c :: l) n;have h1 := hs_ge l (n + 2 + c.f2.length);rw [hs] at hn;have hc0 := hc c (by simp);simp only [List.length_cons] at hp;rw [mkh];refine Ev.step (fun k => by rw [laws_heldHunkS.l0]) ?_;refine Ev_pos (by rw [List.length_append, List.length_cons];omega) (Ev_pos (by omega) ?_);rw [rdh_mid, wsucc' (i := n) (by omega), wsucc' (i := n + 1) (by omega), wsucc' (i := p.length) (by omega)];refine Ev_pos rfl (Ev_pos rfl (Ev_call (held_tells (n + 1 + 1) c.f2.length (by omega) (by omega)) (Ev_neg (by omega) ?_)));have e := ih (p ++ [⟨(n : Int), ((n + 1 : Nat) : Int), mks (n + 2) c.f2.length⟩]) (n + 2 + c.f2.length) (by simp;omega) (fun x hx => hc x (by simp [hx])) (by omega);rw [List.append_assoc, List.length_append] at e;exact e
theorem heldhs_tells {l : List S44} (h : SmallH l) : Ev (fun k => laws_heldHunkS.f k (mkh 1 l) 1) ((hs 1 l : Nat) : Int) := by
 unfold laws_heldHunkS.f;(have hc : ∀ c ∈ l, c.f2.length ≤ 1048576 := fun c hc => by obtain ⟨i, hi, rfl⟩ := List.mem_iff_getElem.1 hc;exact (h.at hi).2.1);have h1 := hs_le l 1 hc;have h2 := h.2.1;exact heldhs_loop l [] 1 (by simp;omega) hc (by have : l.length * 1048578 ≤ 1048576 * 1048578 := Nat.mul_le_mul_right _ h2;omega)
def Dig (x : UInt8) : Prop := 48 ≤ x.toNat ∧ x.toNat ≤ 57
def NoDig (l : List UInt8) : Prop := ∀ c r, l = c :: r → ¬ Dig c
theorem dig_uniq {x y : List UInt8} (hx : NoDig x) (hy : NoDig y) : ∀ {u v : List UInt8}, (∀ c ∈ u, Dig c) → (∀ c ∈ v, Dig c) → u ++ x = v ++ y → u = v ∧ x = y := by
 intro u
 induction u with
 | nil =>
  intro v _ hv h
  cases v with
  | nil => exact ⟨rfl, h⟩
  | cons z v => exact absurd (hv z (by simp)) (hx z (v ++ y) h)
 | cons w u ih =>
  intro v hu hv h
  cases v with
  | nil => exact absurd (hu w (by simp)) (hy w (u ++ x) h.symm)
  | cons z v =>
   obtain ⟨e1, e2⟩ := List.cons.inj h;obtain ⟨e3, e4⟩ := ih (fun c hc => hu c (by simp [hc])) (fun c hc => hv c (by simp [hc])) e2;exact ⟨by rw [e1, e3], e4⟩
theorem noDig_cons {c : UInt8} {r : List UInt8} (h : c.toNat < 48 ∨ 57 < c.toNat) : NoDig (c :: r) := fun d s e => by
  have : c = d := (List.cons.inj e).1
  subst this
  unfold Dig
  omega
theorem word_tells (s : ByteArray) (hs : s.size ≤ 1048576) (e : Nat) (he : e ≤ s.size) (w : ByteArray) (hw : w.size ≤ 1000) :
    spec_l3Word.f s (e : Int) w = some (if (s.data.toList.drop e).take w.size = w.data.toList then ((e + w.size : Nat) : Int) else -1) := by
 have el := size_data s;have ew := size_data w;unfold spec_l3Word.f;rw [if_neg (by omega), wid (x := (e : Int) + (w.size : Int)) (by omega) (by omega)];by_cases h : (e : Int) + (w.size : Int) > (s.size : Int);(·rw [if_pos h, if_neg];intro q;have := congrArg List.length q;rw [List.length_take, List.length_drop, el, ew] at this;omega);rw [if_neg h, if_pos (by omega), if_pos (by omega), if_pos (by omega)];(have e1 : (s.extract ((e : Int)).toNat (((e : Int) + (w.size : Int))).toNat) = toB ((s.data.toList.drop e).take w.size) := by rw [extract_toB];congr 2;omega);rw [e1];(have e2 : ((toB ((s.data.toList.drop e).take w.size)).toList = w.toList) ↔ (s.data.toList.drop e).take w.size = w.data.toList := by rw [ByteArray.toList_eq, ByteArray.toList_eq, data_toB]);by_cases h2 : (s.data.toList.drop e).take w.size = w.data.toList;rotate_left;(·rw [if_neg (fun q => h2 (e2.1 q)), if_neg h2]);rw [if_pos (e2.2 h2), if_pos h2];rfl
def nres (l : List UInt8) (e m : Nat) : Int × Int := if m = 0 then (0, -1) else if m > 4 then (0, -1) else if m > 1 ∧ l.head? = some 48 then (0, -1) else ((nv (l.take m) : Nat), ((e + m : Nat) : Int))
theorem nv_take {l : List UInt8} {m : Nat} (h : m < l.length) : nv (l.take (m + 1)) = nv (l.take m) * 10 + (l[m].toNat - 48) := by
 rw [List.take_succ_eq_append_getElem h, nv_snoc]
theorem num_loop (s : ByteArray) (hs : s.size ≤ 1048576) (e : Nat) (he : e ≤ s.size) : ∀ (d m : Nat), 5 - m = d → m ≤ 5 → m ≤ (s.data.toList.drop e).length → (∀ c ∈ (s.data.toList.drop e).take m, Dig c) →
    ∃ m', m' ≤ 5 ∧ m' ≤ (s.data.toList.drop e).length ∧ (∀ c ∈ (s.data.toList.drop e).take m', Dig c) ∧ (m' = 5 ∨ NoDig ((s.data.toList.drop e).drop m')) ∧ Ev (fun k => spec_l3Number.l0 k s ((e + m : Nat) : Int) ((nv ((s.data.toList.drop e).take m) : Nat) : Int) (e : Int)) (nres (s.data.toList.drop e) e m') := by
 have el := size_data s;generalize hl : s.data.toList.drop e = l;(have ll : l.length = s.size - e := by rw [← hl, List.length_drop, el]);(have at_ : ∀ i (h : i < l.length), bt s ((e + i : Nat) : Int) = (l[i].toNat : Int) := fun i h => by rw [bt_nat (by omega)];congr 2;simp only [← hl, List.getElem_drop]);(have stop : ∀ m, m ≤ 5 → m ≤ l.length → Ev (fun k => if ((e + m : Nat) : Int) = (e : Int) then (some ((0 : Int), (-1 : Int))) else (if (wrap64 (((e + m : Nat) : Int) - (e : Int))) > 4 then (some (0, (-1))) else (if (wrap64 (((e + m : Nat) : Int) - (e : Int))) > 1 then (if 0 ≤ (e : Int) then (if (e : Int) < (s.size : Int) then (if (bt s (e : Int)) = 48 then (some (0, (-1))) else (some (((nv (l.take m) : Nat) : Int), ((e + m : Nat) : Int)))) else (none)) else (none)) else (some (((nv (l.take m) : Nat) : Int), ((e + m : Nat) : Int)))))) (nres l e m) := fun m hm hml => by rw [wid (by omega) (by omega)];by_cases h0 : m = 0;(·exact Ev_eq (Ev_pos (by omega) (Ev.now _)) (by unfold nres;rw [if_pos h0]));refine Ev_neg (by omega) ?_;by_cases h4 : m > 4;(·exact Ev_eq (Ev_pos (by omega) (Ev.now _)) (by unfold nres;rw [if_neg h0, if_pos h4]));refine Ev_neg (by omega) ?_;by_cases h1 : m > 1;rotate_left;(·exact Ev_eq (Ev_neg (by omega) (Ev.now _)) (by unfold nres;rw [if_neg h0, if_neg h4, if_neg (fun q => h1 q.1)]));have hb := at_ 0 (by omega);rw [Nat.add_zero] at hb;(have hh : l.head? = some l[0] := by rw [List.head?_eq_getElem?, List.getElem?_eq_getElem (by omega)]);refine Ev_pos (by omega) (Ev_pos (by omega) (Ev_pos (by omega) ?_));rw [hb];by_cases h8 : l[0] = 48;(·exact Ev_eq (Ev_pos (by rw [h8];rfl) (Ev.now _)) (by unfold nres;rw [if_neg h0, if_neg h4, if_pos ⟨h1, by rw [hh, h8]⟩]));exact Ev_eq (Ev_neg (fun q => h8 (UInt8.toNat_inj.1 (by show _ = 48;omega))) (Ev.now _)) (by unfold nres;rw [if_neg h0, if_neg h4, if_neg (fun q => h8 (Option.some.inj (hh.symm.trans q.2)))]));intro d
 induction d with
 | zero =>
  intro m hd hm hml hdg;(have h5 : m = 5 := by omega);refine ⟨m, hm, hml, hdg, .inl h5, Ev.step (fun k => by rw [spec_l3Number.l0]) ?_⟩;have hst := stop m hm hml;by_cases h1 : ((e + m : Nat) : Int) < (s.size : Int);(·refine Ev_pos h1 (Ev_pos (by omega) (Ev_if (fun _ => Ev_if (fun _ => Ev_neg (by rw [wid (by omega) (by omega)];omega) hst) (fun _ => hst)) (fun _ => hst))));exact Ev_neg h1 hst
 | succ d ih =>
  intro m hd hm hml hdg;have hst := stop m hm hml;by_cases h1 : ((e + m : Nat) : Int) < (s.size : Int);rotate_left;(·refine ⟨m, hm, hml, hdg, .inr ?_, Ev.step (fun k => by rw [spec_l3Number.l0]) (Ev_neg h1 hst)⟩;have : l.drop m = [] := List.drop_eq_nil_of_le (by omega);rw [this];intro c r q;cases q);(have hlt : m < l.length := by omega);have hb := at_ m hlt;by_cases hD : Dig l[m];rotate_left;(·refine ⟨m, hm, hml, hdg, .inr ?_, Ev.step (fun k => by rw [spec_l3Number.l0]) ?_⟩;rotate_left;(·unfold Dig at hD;rw [hb];refine Ev_pos h1 (Ev_pos (by omega) (Ev_if (fun _ => Ev_if (fun _ => absurd (by omega) hD) (fun _ => hst)) (fun _ => hst))));rw [List.drop_eq_getElem_cons hlt];intro c r q;rw [← (List.cons.inj q).1];exact hD)
  obtain ⟨m', i1, i2, i3, i4, i5⟩ := ih (m + 1) (by omega) (by omega) (by omega) (fun c hc => by
    rw [List.take_succ_eq_append_getElem hlt, List.mem_append, List.mem_singleton] at hc
    rcases hc with hc | hc
    · exact hdg c hc
    · rw [hc];exact hD)
  refine ⟨m', i1, i2, i3, i4, Ev.step (fun k => by rw [spec_l3Number.l0]) ?_⟩;unfold Dig at hD;have hv : nv (l.take m) < 10 ^ m := nv_lt m _ (by rw [List.length_take];omega) hdg;have hp : 10 ^ m ≤ 10 ^ 5 := Nat.pow_le_pow_right (by omega) (by omega);rw [hb];refine Ev_pos h1 (Ev_pos (by omega) (Ev_pos (by omega) (Ev_pos (by omega) (Ev_pos (by rw [wid (by omega) (by omega)];omega) ?_))));(have e1 : wrap64 ((wrap64 (((nv (l.take m) : Nat) : Int) * 10)) + (((l[m].toNat : Int) - 48) % 256)) = ((nv (l.take (m + 1)) : Nat) : Int) := by rw [nv_take hlt, wid (x := ((nv (l.take m) : Nat) : Int) * 10) (by omega) (by omega), wid (by omega) (by omega)];omega);rw [e1, wid (x := ((e + m : Nat) : Int) + 1) (by omega) (by omega)];exact i5
theorem num_tells (s : ByteArray) (hs : s.size ≤ 1048576) (e : Nat) (he : e ≤ s.size) :
    (∃ v r, v ≤ 9999 ∧ s.data.toList.drop e = dg v ++ r ∧ NoDig r ∧ Ev (fun k => spec_l3Number.f k s (e : Int)) ((v : Nat), ((s.size - r.length : Nat) : Int))) ∨
    (Ev (fun k => spec_l3Number.f k s (e : Int)) (0, -1) ∧ ∀ v r, v ≤ 9999 → NoDig r → s.data.toList.drop e ≠ dg v ++ r) := by
 obtain ⟨m, h1, h2, h3, h4, h5⟩ := num_loop s hs e he 5 0 rfl (by omega) (by omega) (fun c hc => by simp at hc);have el := size_data s;(have ll : (s.data.toList.drop e).length = s.size - e := by rw [List.length_drop, el]);generalize s.data.toList.drop e = l at *;(have hf : ∀ R, Ev (fun k => spec_l3Number.l0 k s ((e + 0 : Nat) : Int) ((nv (l.take 0) : Nat) : Int) (e : Int)) R → Ev (fun k => spec_l3Number.f k s (e : Int)) R := fun R h => h);have h6 := hf _ h5;(have full : ∀ v r, v ≤ 9999 → NoDig r → l = dg v ++ r → m = (dg v).length ∧ l.take m = dg v := fun v r hv hr e1 => by have hlen := dg_len hv;have hd := dg_dig v;(rcases h4 with h4 | h4);rotate_left;(·have e2 := dig_uniq h4 hr h3 hd (by rw [List.take_append_drop];exact e1);refine ⟨?_, e2.1⟩;have := congrArg List.length e2.1;rw [List.length_take] at this;omega);exfalso;(have h7 : ∀ c ∈ l.take 5, Dig c := by rw [← h4];exact h3);(have h8 : (dg v).length < l.length := by omega);(have h9 : l[(dg v).length] ∈ l.take 5 := by rw [List.mem_iff_getElem];exact ⟨(dg v).length, by rw [List.length_take];omega, by rw [List.getElem_take]⟩);have h10 := h7 _ h9;(have h11 : l.drop (dg v).length = r := by rw [e1, List.drop_left]);rw [List.drop_eq_getElem_cons h8] at h11;exact hr _ _ h11.symm h10);by_cases hn : m = 0 ∨ m > 4 ∨ (m > 1 ∧ l.head? = some 48)
 ·right;refine ⟨?_, ?_⟩;(·(have : nres l e m = (0, -1) := by unfold nres;(rcases hn with h | h | h);(·rw [if_pos h]);(·rw [if_neg (by omega), if_pos h]);rw [if_neg (by omega)];split;(·rfl);first | rfl | rw [if_pos h]);rw [this] at h6;exact h6);intro v r hv hr e1;obtain ⟨f1, f2⟩ := full v r hv hr e1;have g1 := dg_len hv;have g2 := List.length_pos_iff.2 (dg_ne v);(rcases hn with h | h | ⟨h, h'⟩);(·omega);(·omega);(rcases dg_head v with q | q);(·omega);refine q ?_;rw [← f2]
  cases l with
  | nil => cases h'
  | cons c l =>
   obtain ⟨m', rfl⟩ : ∃ z, m = z + 1 := ⟨m - 1, by omega⟩;simpa using h'
 left
 have hN : Num (l.take m) := by
  refine ⟨h3, fun q => ?_, ?_⟩;(·have := congrArg List.length q;rw [List.length_take, List.length_nil] at this;omega);by_cases h1' : m > 1;rotate_left;(·left;rw [List.length_take];omega);right;intro q;refine hn (.inr (.inr ⟨h1', ?_⟩))
  cases l with
  | nil => simp at q
  | cons c l =>
   obtain ⟨m', rfl⟩ : ∃ z, m = z + 1 := ⟨m - 1, by omega⟩;simpa using q
 (have hlen : (l.take m).length = m := by rw [List.length_take];omega);have hv := Num_le hN (by omega);have hdg := dg_nv _ _ rfl hN;(have hr : NoDig (l.drop m) := by (rcases h4 with h4 | h4);(·omega);exact h4);refine ⟨nv (l.take m), l.drop m, hv, ?_, hr, ?_⟩;(·rw [hdg, List.take_append_drop]);(have e9 : nres l e m = (((nv (l.take m) : Nat) : Int), ((s.size - (l.drop m).length : Nat) : Int)) := by unfold nres;rw [if_neg (by omega), if_neg (by omega), if_neg (fun q => hn (.inr (.inr q))), List.length_drop];congr 2;omega);rw [e9] at h6;exact h6
theorem pos_drop {s : ByteArray} {e : Nat} (he : e ≤ s.size) {u r : List UInt8} (h : s.data.toList.drop e = u ++ r) : s.data.toList.drop (s.size - r.length) = r ∧ e + u.length = s.size - r.length ∧ r.length ≤ s.size := by
 have el := size_data s;have hl := congrArg List.length h;rw [List.length_drop, List.length_append, el] at hl;(have e1 : s.size - r.length = e + u.length := by omega);refine ⟨?_, by omega, by omega⟩;rw [e1, ← List.drop_drop, h, List.drop_left]
theorem word_l (s : ByteArray) (hs : s.size ≤ 1048576) (e : Nat) (he : e ≤ s.size) (w : ByteArray) (hw : w.size ≤ 1000) :
    (∃ r, s.data.toList.drop e = w.data.toList ++ r ∧ spec_l3Word.f s (e : Int) w = some ((s.size - r.length : Nat) : Int)) ∨ ((∀ r, s.data.toList.drop e ≠ w.data.toList ++ r) ∧ spec_l3Word.f s (e : Int) w = some (-1)) := by
 rw [word_tells s hs e he w hw];have ew := size_data w;by_cases h : (s.data.toList.drop e).take w.size = w.data.toList;rotate_left;(·right;refine ⟨fun r q => h ?_, by rw [if_neg h]⟩;rw [q, ← ew, List.take_left]);left;(have h1 : s.data.toList.drop e = w.data.toList ++ (s.data.toList.drop e).drop w.size := by rw [← h, List.take_append_drop]);refine ⟨_, h1, ?_⟩;have := pos_drop he h1;rw [if_pos h];congr 2;omega
def MKS : List ByteArray := [(⟨#[64, 64, 32, 45]⟩ : ByteArray), (⟨#[44]⟩ : ByteArray), (⟨#[32, 43]⟩ : ByteArray), (⟨#[44]⟩ : ByteArray), (⟨#[32, 64, 64, 10]⟩ : ByteArray)]
theorem first_step (s : ByteArray) (hs : s.size ≤ 1048576) (e : Nat) (he : e ≤ s.size) (i : Nat) (hi : i < 4) (w : ByteArray) (hw : w.size ≤ 1000) (hm : rdOf ByteArray.empty MKS (i : Int) = w) (out : List Int) (ho : out.length ≤ 10) :
    (∃ v r, v ≤ 9999 ∧ s.data.toList.drop e = w.data.toList ++ (dg v ++ r) ∧ NoDig r ∧ ∀ R, Ev (fun k => spec_l3First.l0 k s ((s.size - r.length : Nat) : Int) MKS (out ++ [((v : Nat) : Int)]) ((i + 1 : Nat) : Int)) R → Ev (fun k => spec_l3First.l0 k s (e : Int) MKS out (i : Int)) R) ∨
    ((∀ v r, v ≤ 9999 → NoDig r → s.data.toList.drop e ≠ w.data.toList ++ (dg v ++ r)) ∧ Ev (fun k => spec_l3First.l0 k s (e : Int) MKS out (i : Int)) ([], -1)) := by
 have hlen : MKS.length = 5 := rfl;(rcases word_l s hs e he w hw with ⟨r1, h1, hf⟩ | ⟨h1, hf⟩);rotate_left;(·right;refine ⟨fun v r hv hr q => h1 _ q, Ev.step (fun k => by rw [spec_l3First.l0]) ?_⟩;rw [hm];exact Ev_pos (by omega) (Ev_pos (by omega) (Ev_pos (by omega) (Ev_const hf (Ev_pos (by omega) (Ev.now _))))));obtain ⟨d1, d2, d3⟩ := pos_drop he h1;(rcases num_tells s hs (s.size - r1.length) (by omega) with ⟨v, r, hv, h2, hr, hn⟩ | ⟨hn, h2⟩);(·left;rw [d1] at h2;refine ⟨v, r, hv, by rw [h1, h2], hr, fun R h => Ev.step (fun k => by rw [spec_l3First.l0]) ?_⟩;rw [hm];refine Ev_pos (by omega) (Ev_pos (by omega) (Ev_pos (by omega) (Ev_const hf (Ev_neg (by omega) (Ev_neg (by omega) (Ev_call hn (Ev_neg (by omega) (Ev_pos (by omega) ?_))))))));rw [wid (x := (i : Int) + 1) (by omega) (by omega)];exact h);right;rw [d1] at h2;refine ⟨fun v r hv hr q => ?_, Ev.step (fun k => by rw [spec_l3First.l0]) ?_⟩;(·rw [h1] at q;exact h2 v r hv hr (List.append_cancel_left q));rw [hm];exact Ev_pos (by omega) (Ev_pos (by omega) (Ev_pos (by omega) (Ev_const hf (Ev_neg (by omega) (Ev_neg (by omega) (Ev_call hn (Ev_pos (by omega) (Ev.now _))))))))
theorem first_end (s : ByteArray) (hs : s.size ≤ 1048576) (e : Nat) (he : e ≤ s.size) (out : List Int) :
    (∃ r, s.data.toList.drop e = [32, 64, 64, 10] ++ r ∧ Ev (fun k => spec_l3First.l0 k s (e : Int) MKS out 4) (out, ((s.size - r.length : Nat) : Int))) ∨ ((∀ r, s.data.toList.drop e ≠ [32, 64, 64, 10] ++ r) ∧ Ev (fun k => spec_l3First.l0 k s (e : Int) MKS out 4) ([], -1)) := by
 have hm : rdOf ByteArray.empty MKS 4 = (⟨#[32, 64, 64, 10]⟩ : ByteArray) := rfl;(rcases word_l s hs e he (⟨#[32, 64, 64, 10]⟩ : ByteArray) (by decide) with ⟨r, h1, hf⟩ | ⟨h1, hf⟩);(·left;refine ⟨r, h1, Ev.step (fun k => by rw [spec_l3First.l0]) ?_⟩;rw [hm];exact Ev_pos (by omega) (Ev_pos (by omega) (Ev_pos (by decide) (Ev_const hf (Ev_neg (by omega) (Ev_pos rfl (Ev.now _)))))));right;refine ⟨h1, Ev.step (fun k => by rw [spec_l3First.l0]) ?_⟩;rw [hm];exact Ev_pos (by omega) (Ev_pos (by omega) (Ev_pos (by decide) (Ev_const hf (Ev_pos (by omega) (Ev.now _)))))
theorem hd_form {l : List UInt8} {p a q b : Nat} {r : List UInt8} (h : HdIs l p a q b r) : l = [64, 64, 32, 45] ++ (dg p ++ ([44] ++ (dg a ++ ([32, 43] ++ (dg q ++ ([44] ++ (dg b ++ ([32, 64, 64, 10] ++ r)))))))) := by
 rw [h.2.2.2.2, hdT_app];rfl
theorem nd44 (r : List UInt8) : NoDig ([44] ++ r) := noDig_cons (by decide)
theorem nd32 (r : List UInt8) : NoDig ([32, 43] ++ r) := noDig_cons (by decide)
theorem ndE (r : List UInt8) : NoDig ([32, 64, 64, 10] ++ r) := noDig_cons (by decide)
theorem dg_same {v v' : Nat} {r r' : List UInt8} (h : dg v ++ r = dg v' ++ r') (hr : NoDig r) (hr' : NoDig r') : v = v' ∧ r = r' := by
 obtain ⟨e1, e2⟩ := dig_uniq hr hr' (dg_dig v) (dg_dig v') h;exact ⟨dg_inj e1, e2⟩
theorem fst_tells (s : ByteArray) (hs : s.size ≤ 1048576) (e : Nat) (he : e ≤ s.size) :
    (∃ p a q b r, HdIs (s.data.toList.drop e) p a q b r ∧ Ev (fun k => spec_l3First.f k s (e : Int)) ([(p : Int), (a : Int), (q : Int), (b : Int)], ((s.size - r.length : Nat) : Int))) ∨
    ((∀ p a q b r, ¬ HdIs (s.data.toList.drop e) p a q b r) ∧ Ev (fun k => spec_l3First.f k s (e : Int)) ([], -1)) := by
 (have hf : ∀ R, Ev (fun k => spec_l3First.l0 k s (e : Int) MKS [] ((0 : Nat) : Int)) R → Ev (fun k => spec_l3First.f k s (e : Int)) R := fun R h => h);(rcases first_step s hs e he 0 (by omega) (⟨#[64, 64, 32, 45]⟩ : ByteArray) (by decide) rfl [] (by simp) with ⟨p, r1, hp, h1, n1, g1⟩ | ⟨h1, g1⟩);rotate_left;(·right;exact ⟨fun p' a' q' b' r hd => h1 _ _ hd.1 (nd44 _) (hd_form hd), hf _ g1⟩);(have k1 : s.data.toList.drop e = ([64, 64, 32, 45] ++ dg p) ++ r1 := by rw [List.append_assoc];exact h1);obtain ⟨d1, _, b1⟩ := pos_drop he k1;(rcases first_step s hs (s.size - r1.length) (by omega) 1 (by omega) (⟨#[44]⟩ : ByteArray) (by decide) rfl [(p : Int)] (by simp) with ⟨a, r2, ha, h2, n2, g2⟩ | ⟨h2, g2⟩);rotate_left;(·right;rw [d1] at h2;refine ⟨fun p' a' q' b' r hd => ?_, hf _ (g1 _ g2)⟩;have e0 := hd_form hd;rw [h1] at e0;obtain ⟨_, e1⟩ := dg_same (List.append_cancel_left e0) n1 (nd44 _);exact h2 _ _ hd.2.1 (nd32 _) e1);rw [d1] at h2;(have k2 : s.data.toList.drop (s.size - r1.length) = ([44] ++ dg a) ++ r2 := by rw [d1, List.append_assoc];exact h2);obtain ⟨d2, _, b2⟩ := pos_drop (by omega) k2;(rcases first_step s hs (s.size - r2.length) (by omega) 2 (by omega) (⟨#[32, 43]⟩ : ByteArray) (by decide) rfl [(p : Int), (a : Int)] (by simp) with ⟨q, r3, hq, h3, n3, g3⟩ | ⟨h3, g3⟩);rotate_left;(·right;rw [d2] at h3;refine ⟨fun p' a' q' b' r hd => ?_, hf _ (g1 _ (g2 _ g3))⟩;have e0 := hd_form hd;rw [h1] at e0;obtain ⟨_, e1⟩ := dg_same (List.append_cancel_left e0) n1 (nd44 _);rw [h2] at e1;obtain ⟨_, e2⟩ := dg_same (List.append_cancel_left e1) n2 (nd32 _);exact h3 _ _ hd.2.2.1 (nd44 _) e2);rw [d2] at h3;(have k3 : s.data.toList.drop (s.size - r2.length) = ([32, 43] ++ dg q) ++ r3 := by rw [d2, List.append_assoc];exact h3);obtain ⟨d3, _, b3⟩ := pos_drop (by omega) k3;(rcases first_step s hs (s.size - r3.length) (by omega) 3 (by omega) (⟨#[44]⟩ : ByteArray) (by decide) rfl [(p : Int), (a : Int), (q : Int)] (by simp) with ⟨b, r4, hb, h4, n4, g4⟩ | ⟨h4, g4⟩);rotate_left;(·right;rw [d3] at h4;refine ⟨fun p' a' q' b' r hd => ?_, hf _ (g1 _ (g2 _ (g3 _ g4)))⟩;have e0 := hd_form hd;rw [h1] at e0;obtain ⟨_, e1⟩ := dg_same (List.append_cancel_left e0) n1 (nd44 _);rw [h2] at e1;obtain ⟨_, e2⟩ := dg_same (List.append_cancel_left e1) n2 (nd32 _);rw [h3] at e2;obtain ⟨_, e3⟩ := dg_same (List.append_cancel_left e2) n3 (nd44 _);exact h4 _ _ hd.2.2.2.1 (ndE _) e3);rw [d3] at h4;(have k4 : s.data.toList.drop (s.size - r3.length) = ([44] ++ dg b) ++ r4 := by rw [d3, List.append_assoc];exact h4);obtain ⟨d4, _, b4⟩ := pos_drop (by omega) k4;(rcases first_end s hs (s.size - r4.length) (by omega) [(p : Int), (a : Int), (q : Int), (b : Int)] with ⟨r, h5, g5⟩ | ⟨h5, g5⟩);(·left;rw [d4] at h5;refine ⟨p, a, q, b, r, ⟨hp, ha, hq, hb, ?_⟩, hf _ (g1 _ (g2 _ (g3 _ (g4 _ g5))))⟩;rw [h1, h2, h3, h4, h5, hdT_app];rfl);right;rw [d4] at h5;refine ⟨fun p' a' q' b' r hd => ?_, hf _ (g1 _ (g2 _ (g3 _ (g4 _ g5))))⟩;have e0 := hd_form hd;rw [h1] at e0;obtain ⟨_, e1⟩ := dg_same (List.append_cancel_left e0) n1 (nd44 _);rw [h2] at e1;obtain ⟨_, e2⟩ := dg_same (List.append_cancel_left e1) n2 (nd32 _);rw [h3] at e2;obtain ⟨_, e3⟩ := dg_same (List.append_cancel_left e2) n3 (nd44 _);rw [h4] at e3;obtain ⟨_, e4⟩ := dg_same (List.append_cancel_left e3) n4 (ndE _);exact h5 _ e4
theorem cutT {s sep : List UInt8} (h : (Lib.cut s sep).2.2 = true) : s = (Lib.cut s sep).1 ++ (sep ++ (Lib.cut s sep).2.1) := by
 unfold Lib.cut at h ⊢;by_cases h0 : 0 ≤ Lib.index s sep;rotate_left;(·rw [if_neg h0] at h;cases h);rw [if_pos h0];(rcases Lib.index_spec s sep with ⟨e, _⟩ | ⟨i, e, hi, ho, _⟩);(·omega);dsimp only;rw [e, Int.toNat_natCast];unfold Lib.occAt at ho;obtain ⟨t, ht⟩ := List.isPrefixOf_iff_prefix.1 ho;(have h1 : s.drop (i + sep.length) = t := by rw [← List.drop_drop, ← ht, List.drop_left]);rw [h1, ht, List.take_append_drop]
theorem cutN {s sep : List UInt8} (h : (Lib.cut s sep).2.2 = false) : (Lib.cut s sep).2.1 = [] := by
 unfold Lib.cut at h ⊢;by_cases h0 : 0 ≤ Lib.index s sep;rotate_left;(·rw [if_neg h0]);rw [if_pos h0] at h;cases h
theorem cutF {u v sep : List UInt8} {c : UInt8} (hc : c ∉ u) : Lib.cut (u ++ (c :: sep ++ v)) (c :: sep) = (u, v, true) := by
 (have hi : Lib.index (u ++ (c :: sep ++ v)) (c :: sep) = (u.length : Nat) := by refine Lib.index_first (by simp) ?_ (fun j hj => ?_);(·unfold Lib.occAt;rw [List.drop_left, List.isPrefixOf_iff_prefix];exact ⟨v, rfl⟩);unfold Lib.occAt;rw [Bool.eq_false_iff];intro q;obtain ⟨t, ht⟩ := List.isPrefixOf_iff_prefix.1 q;rw [List.drop_append_of_le_length (by omega), List.drop_eq_getElem_cons hj] at ht;have : c = u[j] := (List.cons.inj ht).1;exact hc (by rw [this];exact List.getElem_mem hj));unfold Lib.cut;rw [hi, if_pos (by omega), Int.toNat_natCast, List.take_left];congr 2;rw [← List.drop_drop, List.drop_left, List.drop_left]
theorem parse_dig : ∀ (l : List UInt8) (acc : Nat), (∀ x ∈ l, Dig x) → (acc + 1) * 10 ^ l.length ≤ 100000000000000000 → Lib.parseUint10 acc l = .ok (l.foldl (fun a x => a * 10 + (x.toNat - 48)) acc) := by
 intro l
 induction l with
 | nil => intro acc _ _;rfl
 | cons c l ih =>
  intro acc hd hb;have hc := hd c (by simp);unfold Dig at hc;have hp : 1 ≤ 10 ^ l.length := Nat.one_le_pow _ _ (by decide);rw [List.length_cons, Nat.pow_succ] at hb;(have h1 : (acc + 1) * 10 ≤ 100000000000000000 := by have : (acc + 1) * 10 * 1 ≤ (acc + 1) * 10 * 10 ^ l.length := Nat.mul_le_mul_left _ hp;(have e : (acc + 1) * (10 ^ l.length * 10) = (acc + 1) * 10 * 10 ^ l.length := by rw [Nat.mul_comm (10 ^ l.length) 10, Nat.mul_assoc]);omega);(have h2 : (acc * 10 + (c.toNat - 48) + 1) * 10 ^ l.length ≤ 100000000000000000 := by have : (acc * 10 + (c.toNat - 48) + 1) * 10 ^ l.length ≤ ((acc + 1) * 10) * 10 ^ l.length := Nat.mul_le_mul_right _ (by omega);(have e : (acc + 1) * (10 ^ l.length * 10) = (acc + 1) * 10 * 10 ^ l.length := by rw [Nat.mul_comm (10 ^ l.length) 10, Nat.mul_assoc]);omega);rw [Lib.parseUint10, if_pos hc, if_neg (by omega), if_neg (by omega), ih _ (fun x hx => hd x (by simp [hx])) h2];rfl
theorem rn_of {v : Nat} (hv : v ≤ 9999) : RN (toB (dg v)) = ((v : Int), true) := by
 have hd := dg_dig v;have hn := dg_ne v;have hl := dg_len hv;have hval := nv_dg v
 have hp : Lib.parseIntB 64 (dg v) = .ok (v : Int) := by
  rw [Lib.parseIntB_64]
  have hm : Lib.parseMag (dg v) = .ok v := by
   unfold Lib.parseMag
   rw [if_neg hn, parse_dig _ 0 hd (by
     have : 10 ^ (dg v).length ≤ 10 ^ 4 := Nat.pow_le_pow_right (by omega) hl
     omega)]
   congr 1
  generalize dg v = l at *
  cases l with
  | nil => exact absurd rfl hn
  | cons c r =>
   have hc := hd c (by simp);unfold Lib.atoiAll;dsimp only;rw [if_neg (by omega), hm];dsimp only;rw [if_neg (by omega), if_neg (by omega), if_neg (by omega)]
 unfold RN;rw [data_toB, hp];dsimp only;(have hs : (toB (dg v)).size ≤ 4 := by rw [← size_data, data_toB];exact hl);rw [if_pos hs, if_pos (by omega)];(have e : (⟨(Lib.itoa (v : Int)).toArray⟩ : ByteArray) = toB (dg v) := by unfold Lib.itoa;rw [if_neg (by omega), Int.toNat_natCast];rfl);rw [decide_eq_true e]
theorem rn_true {t : ByteArray} (h : (RN t).2 = true) : ∃ v : Nat, v ≤ 9999 ∧ t = toB (dg v) ∧ (RN t).1 = (v : Int) := by
 unfold RN at h ⊢
 cases hp : Lib.parseIntB 64 t.data.toList with
 | range => rw [hp] at h;cases h
 | ok z =>
  rw [hp] at h;dsimp only at h ⊢;split at h;rotate_left;(·cases h);rename_i h4;split at h;rotate_left;(·cases h);rename_i h0;have e := of_decide_eq_true h;obtain ⟨v, rfl⟩ : ∃ v : Nat, z = (v : Int) := ⟨z.toNat, by omega⟩;(have e2 : (⟨(Lib.itoa (v : Int)).toArray⟩ : ByteArray) = toB (dg v) := by unfold Lib.itoa;rw [if_neg (by omega), Int.toNat_natCast];rfl);rw [e2] at e;refine ⟨v, ?_, e.symm, rfl⟩;(have hl : (dg v).length ≤ 4 := by (have : (toB (dg v)).size ≤ 4 := by rw [e];exact h4);rwa [← size_data, data_toB] at this);have := Num_le (dg_num v) hl;rwa [nv_dg] at this
 | _ => rw [hp] at h;cases h
def RP (l : List UInt8) : Int × Int × Bool := ((RN (toB (Lib.cut l [44]).1)).1, (RN (toB (Lib.cut l [44]).2.1)).1, (RN (toB (Lib.cut l [44]).1)).2 && (RN (toB (Lib.cut l [44]).2.1)).2)
theorem cut_len1 (l w : List UInt8) : (Lib.cut l w).1.length ≤ l.length ∧ (Lib.cut l w).2.1.length ≤ l.length := by
 unfold Lib.cut;split;(·exact ⟨by rw [List.length_take];omega, by rw [List.length_drop];omega⟩);exact ⟨Nat.le_refl _, Nat.zero_le _⟩
theorem toB_size' (p : List UInt8) : (toB p).size = p.length := by rw [← size_data, data_toB]
theorem scut (l w : List UInt8) (hl : l.length ≤ 1048576) : strings_Cut.f (toB l) (toB w) = some (toB (Lib.cut l w).1, toB (Lib.cut l w).2.1, (Lib.cut l w).2.2) := by
 unfold strings_Cut.f;rw [if_pos (by rw [toB_size'];omega), data_toB, data_toB];rfl
theorem rnf (t : ByteArray) (h : t.size ≤ 1048576) : impl_readNumber.f t = some (RN t) := by
 unfold impl_readNumber.f;rw [if_pos (by omega)]
theorem rp_f (l : List UInt8) (hl : l.length ≤ 1048576) : impl_readPair.f (toB l) = some (RP l) := by
 have hc := cut_len1 l [44];unfold impl_readPair.f;rw [show (⟨#[44]⟩ : ByteArray) = toB [44] from rfl, scut l [44] hl];simp only [Option.bind_some];rw [rnf _ (by rw [toB_size'];omega), rnf _ (by rw [toB_size'];omega)];simp only [Option.bind_some];unfold RP
 cases (RN (toB (Lib.cut l [44]).1)).2 with
 | true => rw [if_pos rfl];rfl
 | false => rw [if_neg (by simp)];rfl
theorem rp_of {a b : Nat} (ha : a ≤ 9999) (hb : b ≤ 9999) : RP (dg a ++ 44 :: dg b) = ((a : Int), (b : Int), true) := by
 have hc : Lib.cut (dg a ++ 44 :: dg b) [44] = (dg a, dg b, true) := cutF (sep := []) (dg_no (by decide));unfold RP;rw [hc];dsimp only;rw [rn_of ha, rn_of hb];rfl
theorem rp_true {l : List UInt8} (h : (RP l).2.2 = true) : ∃ a b : Nat, a ≤ 9999 ∧ b ≤ 9999 ∧ l = dg a ++ 44 :: dg b := by
 unfold RP at h;dsimp only at h;rw [Bool.and_eq_true] at h;obtain ⟨a, ha, ea, _⟩ := rn_true h.1;obtain ⟨b, hb, eb, _⟩ := rn_true h.2;(have ea' : (Lib.cut l [44]).1 = dg a := by have := congrArg (fun z : ByteArray => z.data.toList) ea;simpa only [data_toB] using this);(have eb' : (Lib.cut l [44]).2.1 = dg b := by have := congrArg (fun z : ByteArray => z.data.toList) eb;simpa only [data_toB] using this);refine ⟨a, b, ha, hb, ?_⟩
 cases hc : (Lib.cut l [44]).2.2 with
 | true =>
  have := cutT hc;rw [ea', eb'] at this;exact this
 | false =>
  have := cutN hc;rw [eb'] at this;exact absurd this (dg_ne b)
def CP (w l : List UInt8) : List UInt8 × Bool := if w.isPrefixOf l then (l.drop w.length, true) else (l, false)
def CS (w l : List UInt8) : List UInt8 × Bool := if w.isSuffixOf l then (l.take (l.length - w.length), true) else (l, false)
theorem beq_toB (x y : List UInt8) : ((toB x).toList == (toB y).toList) = decide (x = y) := by
 rw [ByteArray.toList_eq, ByteArray.toList_eq, data_toB, data_toB];rw [Bool.eq_iff_iff];simp
theorem cp_f (w l : List UInt8) (hl : l.length ≤ 1048576) : strings_CutPrefix.f (toB l) (toB w) = some (toB (CP w l).1, (CP w l).2) := by
 unfold strings_CutPrefix.f stringslite_CutPrefix.f stringslite_HasPrefix.f CP;rw [toB_size', toB_size'];by_cases h : (l.length : Int) ≥ (w.length : Int);rotate_left;(·rw [if_neg h];(have hp : ¬ w.isPrefixOf l = true := fun q => by obtain ⟨t, ht⟩ := List.isPrefixOf_iff_prefix.1 q;have := congrArg List.length ht;rw [List.length_append] at this;omega);simp only [Option.bind_some];rw [if_neg hp, if_neg (by simp)];rfl);rw [if_pos h, if_pos (by omega), if_pos (by omega)];(have e1 : (toB l).extract 0 (((w.length : Int))).toNat = toB (l.take w.length) := by rw [extract_toB, data_toB, List.drop_zero, Int.toNat_natCast, Nat.sub_zero]);(have e2 : (toB l).extract (((w.length : Int))).toNat l.length = toB (l.drop w.length) := by rw [extract_toB, data_toB, Int.toNat_natCast, List.take_of_length_le (by rw [List.length_drop];omega)]);rw [e1, beq_toB];simp only [Option.bind_some];by_cases hp : w.isPrefixOf l = true;rotate_left;(·(have h3 : ¬ l.take w.length = w := fun q => hp (List.isPrefixOf_iff_prefix.2 ⟨l.drop w.length, by have := List.take_append_drop w.length l;rw [q] at this;exact this⟩));rw [if_neg hp, decide_eq_false h3, if_neg (by simp)];rfl);obtain ⟨t, ht⟩ := List.isPrefixOf_iff_prefix.1 hp;(have h3 : l.take w.length = w := by rw [← ht, List.take_left]);rw [if_pos hp, decide_eq_true h3, if_pos rfl, if_pos (by omega), if_pos (by omega), e2];rfl
theorem cs_f (w l : List UInt8) (hl : l.length ≤ 1048576) : strings_CutSuffix.f (toB l) (toB w) = some (toB (CS w l).1, (CS w l).2) := by
 unfold strings_CutSuffix.f stringslite_CutSuffix.f stringslite_HasSuffix.f CS;rw [toB_size', toB_size'];by_cases h : (l.length : Int) ≥ (w.length : Int);rotate_left;(·rw [if_neg h];(have hp : ¬ w.isSuffixOf l = true := fun q => by obtain ⟨t, ht⟩ := List.isSuffixOf_iff_suffix.1 q;have := congrArg List.length ht;rw [List.length_append] at this;omega);simp only [Option.bind_some];rw [if_neg hp, if_neg (by simp)];rfl);(have ew : wrap64 ((l.length : Int) - (w.length : Int)) = ((l.length - w.length : Nat) : Int) := by rw [wid (by omega) (by omega)];omega);rw [if_pos h, ew, if_pos (by omega), if_pos (by omega)];(have e1 : (toB l).extract (((l.length - w.length : Nat) : Int)).toNat l.length = toB (l.drop (l.length - w.length)) := by rw [extract_toB, data_toB, Int.toNat_natCast, List.take_of_length_le (by rw [List.length_drop];omega)]);(have e2 : (toB l).extract 0 (((l.length - w.length : Nat) : Int)).toNat = toB (l.take (l.length - w.length)) := by rw [extract_toB, data_toB, List.drop_zero, Int.toNat_natCast, Nat.sub_zero]);rw [e1, beq_toB];simp only [Option.bind_some];by_cases hp : w.isSuffixOf l = true;rotate_left;(·(have h3 : ¬ l.drop (l.length - w.length) = w := fun q => hp (List.isSuffixOf_iff_suffix.2 ⟨l.take (l.length - w.length), by have := List.take_append_drop (l.length - w.length) l;rw [q] at this;exact this⟩));rw [if_neg hp, decide_eq_false h3, if_neg (by simp)];rfl);obtain ⟨t, ht⟩ := List.isSuffixOf_iff_suffix.1 hp;(have h3 : l.drop (l.length - w.length) = w := by (have e : l.length - w.length = t.length := by rw [← ht, List.length_append];omega);rw [e, ← ht, List.drop_left]);rw [if_pos hp, decide_eq_true h3, if_pos rfl, if_pos (by omega), if_pos (by omega), e2];rfl
theorem cp_len (w l : List UInt8) : (CP w l).1.length ≤ l.length := by
 unfold CP;split;(·rw [List.length_drop];omega);exact Nat.le_refl _
theorem cs_len (w l : List UInt8) : (CS w l).1.length ≤ l.length := by
 unfold CS;split;(·rw [List.length_take];omega);exact Nat.le_refl _
theorem cp_true {w l : List UInt8} (h : (CP w l).2 = true) : l = w ++ (CP w l).1 := by
 unfold CP at h ⊢;by_cases hp : w.isPrefixOf l = true;rotate_left;(·rw [if_neg hp] at h;cases h);obtain ⟨t, ht⟩ := List.isPrefixOf_iff_prefix.1 hp;rw [if_pos hp];dsimp only;rw [← ht, List.drop_left]
theorem cs_true {w l : List UInt8} (h : (CS w l).2 = true) : l = (CS w l).1 ++ w := by
 unfold CS at h ⊢;by_cases hp : w.isSuffixOf l = true;rotate_left;(·rw [if_neg hp] at h;cases h);obtain ⟨t, ht⟩ := List.isSuffixOf_iff_suffix.1 hp;rw [if_pos hp];dsimp only;(have e : l.length - w.length = t.length := by rw [← ht, List.length_append];omega);rw [e, ← ht, List.take_left]
theorem cp_of (w r : List UInt8) : CP w (w ++ r) = (r, true) := by
 unfold CP;rw [if_pos (List.isPrefixOf_iff_prefix.2 ⟨r, rfl⟩), List.drop_left]
theorem cs_of (w r : List UInt8) : CS w (r ++ w) = (r, true) := by
 unfold CS;rw [if_pos (List.isSuffixOf_iff_suffix.2 ⟨r, rfl⟩), List.length_append, Nat.add_sub_cancel, List.take_left]
theorem ihead_tells (x : List UInt8) (hx : x.length ≤ 1048576) :
    (∃ p a q b : Nat, p ≤ 9999 ∧ a ≤ 9999 ∧ q ≤ 9999 ∧ b ≤ 9999 ∧ x = hdT p a q b ∧ impl_readHead.f (toB x) = some ((p : Int), (q : Int), [], (a : Int), (b : Int), true)) ∨
    ((∀ p a q b : Nat, p ≤ 9999 → a ≤ 9999 → q ≤ 9999 → b ≤ 9999 → x ≠ hdT p a q b) ∧ ∃ i j o n, impl_readHead.f (toB x) = some (i, j, [], o, n, false)) := by
 generalize hA : CP [64, 64, 32, 45] x = A;generalize hB : CS [32, 64, 64, 10] A.1 = B;generalize hC : Lib.cut B.1 [32, 43] = C;(have lA : A.1.length ≤ x.length := by rw [← hA];exact cp_len _ _);(have lB : B.1.length ≤ A.1.length := by rw [← hB];exact cs_len _ _);(have lC : C.1.length ≤ B.1.length ∧ C.2.1.length ≤ B.1.length := by rw [← hC];exact cut_len1 _ _);have f1 := cp_f [64, 64, 32, 45] x hx;rw [hA] at f1;have f2 := cs_f [32, 64, 64, 10] A.1 (by omega);rw [hB] at f2;have f3 := scut B.1 [32, 43] (by omega);rw [hC] at f3;have f4 := rp_f C.1 (by omega);have f5 := rp_f C.2.1 (by omega);(have hf : impl_readHead.f (toB x) = some ((RP C.1).1, (RP C.2.1).1, [], (RP C.1).2.1, (RP C.2.1).2.1, A.2 && (B.2 && (C.2.2 && ((RP C.1).2.2 && (RP C.2.1).2.2)))) := by unfold impl_readHead.f;rw [show (⟨#[64, 64, 32, 45]⟩ : ByteArray) = toB [64, 64, 32, 45] from rfl, f1];simp only [Option.bind_some];rw [show (⟨#[32, 64, 64, 10]⟩ : ByteArray) = toB [32, 64, 64, 10] from rfl, f2];simp only [Option.bind_some];rw [show (⟨#[32, 43]⟩ : ByteArray) = toB [32, 43] from rfl, f3];simp only [Option.bind_some];rw [f4, f5];simp only [Option.bind_some];cases A.2 <;> cases B.2 <;> cases C.2.2 <;> cases (RP C.1).2.2 <;> rfl);rw [hf];by_cases hall : (A.2 && (B.2 && (C.2.2 && ((RP C.1).2.2 && (RP C.2.1).2.2)))) = true;(·left;have h0 := hall;simp only [Bool.and_eq_true] at h0;obtain ⟨h1, h2, h3, h4, h5⟩ := h0;obtain ⟨p, a, hp, ha, e4⟩ := rp_true h4;obtain ⟨q, b, hq, hb, e5⟩ := rp_true h5;have e1 := cp_true (w := [64, 64, 32, 45]) (l := x) (by rw [hA];exact h1);have e2 := cs_true (w := [32, 64, 64, 10]) (l := A.1) (by rw [hB];exact h2);have e3 := cutT (s := B.1) (sep := [32, 43]) (by rw [hC];exact h3);rw [hA] at e1;rw [hB] at e2;rw [hC] at e3;refine ⟨p, a, q, b, hp, ha, hq, hb, ?_, ?_⟩;rotate_left;(·rw [hall, e4, e5, rp_of hp ha, rp_of hq hb]);rw [e1, e2, e3, e4, e5];unfold hdT;simp);right;have hall' : (A.2 && (B.2 && (C.2.2 && ((RP C.1).2.2 && (RP C.2.1).2.2)))) = false := Bool.eq_false_iff.2 hall;refine ⟨fun p a q b hp ha hq hb e => hall ?_, _, _, _, _, by rw [hall']⟩;(have e1 : A = ((dg p ++ 44 :: dg a) ++ ([32, 43] ++ (dg q ++ 44 :: dg b)) ++ [32, 64, 64, 10], true) := by rw [← hA, e, show hdT p a q b = [64, 64, 32, 45] ++ ((dg p ++ 44 :: dg a) ++ ([32, 43] ++ (dg q ++ 44 :: dg b)) ++ [32, 64, 64, 10]) by unfold hdT;simp, cp_of]);(have e2 : B = ((dg p ++ 44 :: dg a) ++ ([32, 43] ++ (dg q ++ 44 :: dg b)), true) := by rw [← hB, e1, cs_of]);(have hno : (32 : UInt8) ∉ dg p ++ 44 :: dg a := by intro q;(rcases List.mem_append.1 q with q | q);(·exact dg_no (by decide) q);(rcases List.mem_cons.1 q with q | q);(·exact absurd q (by decide));exact dg_no (by decide) q);(have e3 : C = (dg p ++ 44 :: dg a, dg q ++ 44 :: dg b, true) := by rw [← hC, e2];exact cutF (sep := [43]) hno);rw [e1, e2, e3];dsimp only;rw [rp_of hp ha, rp_of hq hb];rfl
theorem lineEnd_none : ∀ {l : List UInt8}, nl l = none → lineEnd l = l.length := by
 intro l
 induction l with
 | nil => intro _;rfl
 | cons c l ih =>
  intro h;rw [nl] at h;split at h;(·cases h);rename_i hc;rw [lineEnd, if_neg hc, ih (Option.map_eq_none_iff.1 h), List.length_cons]
theorem lineEnd_some : ∀ {l x r : List UInt8}, nl l = some (x, r) → lineEnd l + 1 = x.length := by
 intro l
 induction l with
 | nil => intro x r h;cases h
 | cons c l ih =>
  intro x r h;rw [nl] at h;split at h;rotate_left;(·rename_i hc;obtain ⟨⟨x', r'⟩, h1, h2⟩ := Option.map_eq_some_iff.1 h;(injection h2 with h2 h3);rw [lineEnd, if_neg hc, ← h2, List.length_cons, ih h1]);rename_i hc;(injection h with h);(injection h with h1 h2);rw [lineEnd, if_pos hc, ← h1];rfl
theorem tk_less {l : List UInt8} {y : ByteArray} {r : List UInt8} (h : tk l = some (y, r)) : r.length + 2 ≤ l.length ∧ y.size + r.length ≤ l.length ∧ 2 ≤ y.size := by
 obtain ⟨e, hb⟩ := tk_some h;(have hs : 2 ≤ y.size := Classical.byContradiction fun q => hb (.inl (by omega)));(have h2 : y.size ≤ (lnT y).length := by have := size_data y;unfold lnT;split;(·omega);rw [List.length_append];omega);have := congrArg List.length e;rw [List.length_append] at this;omega
theorem wr_end {e n : Nat} (h : e + n ≤ 8000) : wrap64 ((e : Int) + (n : Int)) = ((e + n : Nat) : Int) := by
 rw [wid (by omega) (by omega)];rfl
theorem wr_next {m : Nat} (h : m + 1 ≤ 8000) : wrap64 ((m : Int) + 1) = ((m + 1 : Nat) : Int) := by
 rw [wid (by omega) (by omega)];rfl
theorem wr_two {m : Nat} (h : m ≤ 8000) : wrap64 ((m : Int) + 2) = ((m + 2 : Nat) : Int) := by
 rw [wid (by omega) (by omega)];rfl
theorem sread_step (s : ByteArray) (hs : s.size ≤ 8000) (p q : Int) (e : Nat) (he : e ≤ s.size) (o n : Int) (ls : List ByteArray) (hls : ls.length ≤ 8000) (ho : o > 0 ∨ n > 0) (o0 : -10000 ≤ o) (o1 : o ≤ 10000) (n0 : -10000 ≤ n) (n1 : n ≤ 10000) :
    (tk (s.data.toList.drop e) = none → Ev (fun k => spec_l3Read.l0 k s (e : Int) o n p q ls) (p, q, ls, -1)) ∧
    (∀ y r, tk (s.data.toList.drop e) = some (y, r) → ∀ R, Ev (fun k => spec_l3Read.l0 k s ((s.size - r.length : Nat) : Int) (if mk y = 43 then o else o - 1) (if mk y = 45 then n else n - 1) p q (ls ++ [y])) R → Ev (fun k => spec_l3Read.l0 k s (e : Int) o n p q ls) R) := by
  have el := size_data s
  have ll : (s.data.toList.drop e).length = s.size - e := by rw [List.length_drop, el]
  -- into the flagged part
  have enter : ∀ R, Ev (fun k => spec_l3Read.j1 k s (e : Int) o n true p q ls) R → Ev (fun k => spec_l3Read.l0 k s (e : Int) o n p q ls) R := fun R h => by
    refine Ev.step (fun k => by rw [spec_l3Read.l0]) ?_
    by_cases h1 : o > 0
    · exact Ev_pos h1 h
    · refine Ev_neg h1 ?_
      rw [decide_eq_true (show n > 0 by omega)]
      exact h
  have e1 : (s.extract ((e : Int)).toNat s.size) = toB (s.data.toList.drop e) := by
    rw [extract_toB, Int.toNat_natCast, List.take_of_length_le (by omega)]
  have hend := ended_tells (toB (s.data.toList.drop e)) (by rw [← size_data, data_toB];omega)
  rw [data_toB] at hend
  -- a line that is read
  have line : ∀ (y : ByteArray) (end_ : Nat), end_ ≤ 8000 → y.size ≤ 8000 → (hbad y → Ev (fun k => spec_l3Read.j2 k s (end_ : Int) o n y p q ls) (p, q, ls, -1)) ∧
      (¬ hbad y → ∀ R, Ev (fun k => spec_l3Read.l0 k s (end_ : Int) (if mk y = 43 then o else o - 1) (if mk y = 45 then n else n - 1) p q (ls ++ [y])) R → Ev (fun k => spec_l3Read.j2 k s (end_ : Int) o n y p q ls) R) := fun y end_ hend_ hy => by
    have hl := sline_tells y (by omega)
    refine ⟨fun hb => Ev.step (fun k => by rw [spec_l3Read.j2]) ?_, fun hb R h => Ev.step (fun k => by rw [spec_l3Read.j2]) ?_⟩
    · rw [if_pos hb] at hl
      exact Ev_call hl (Ev_neg (by omega) (Ev.now _))
    · rw [if_neg hb] at hl
      have hp := good_pos hb
      refine Ev_call hl (Ev_pos rfl (Ev_pos (by omega) ?_))
      rw [wid (x := o - 1) (by omega) (by omega), wid (x := n - 1) (by omega) (by omega)]
      by_cases h43 : mk y = 43
      · have h45 : ¬ mk y = 45 := by omega
        rw [if_pos h43, if_neg h45] at h
        exact Ev_pos h43 (Ev_neg h45 (Ev_pos (by omega) h))
      · rw [if_neg h43] at h
        by_cases h45 : mk y = 45
        · rw [if_pos h45] at h
          exact Ev_neg h43 (Ev_pos h45 (Ev_pos (by omega) h))
        · rw [if_neg h45] at h
          exact Ev_neg h43 (Ev_neg h45 (Ev_pos (by omega) h))
  cases hn : nl (s.data.toList.drop e) with
  | none =>
    have ht : tk (s.data.toList.drop e) = none := by unfold tk;rw [hn]
    refine ⟨fun _ => enter _ (Ev.step (fun k => by rw [spec_l3Read.j1]) ?_), fun y r h => by rw [ht] at h;cases h⟩
    rw [e1]
    rw [lineEnd_none hn] at hend
    refine Ev_pos rfl (Ev_pos (by omega) (Ev_pos (by omega) (Ev_call hend (Ev_pos ?_ (Ev.now _)))))
    rw [wid (by omega) (by omega)]
    omega
  | some xr =>
    obtain ⟨x, r⟩ := xr
    obtain ⟨hx, z, hz, hz2⟩ := nl_some hn
    have hle := lineEnd_some hn
    obtain ⟨d1, d2, d3⟩ := pos_drop he hx
    have hxl : 1 ≤ x.length := by rw [hz];simp
    have hE : e + lineEnd (s.data.toList.drop e) + 1 = s.size - r.length := by omega
    have hM : e + lineEnd (s.data.toList.drop e) + 1 ≤ 8000 := by omega
    have e2 : s.extract ((e : Int)).toNat (((s.size - r.length : Nat) : Int)).toNat = toB x := by
      rw [extract_toB, Int.toNat_natCast, Int.toNat_natCast, hx, show s.size - r.length - e = x.length by omega, List.take_left]
    have hxs : (toB x).size = x.length := by rw [← size_data, data_toB]
    have hW := word_tells s (by omega) (s.size - r.length) (by omega) (⟨#[92, 10]⟩ : ByteArray) (by decide)
    rw [d1] at hW
    have z2 : (⟨#[92, 10]⟩ : ByteArray).size = 2 := rfl
    have zd : (⟨#[92, 10]⟩ : ByteArray).data.toList = [92, 10] := rfl
    rw [z2, zd] at hW
    by_cases h2 : r.take 2 = [92, 10]
    · rw [if_pos h2] at hW
      have hr2 : 2 ≤ r.length := by
        have := congrArg List.length h2
        rw [List.length_take] at this
        simp at this
        omega
      have tkv : tk (s.data.toList.drop e) = if hbad (toB x.dropLast) then none else some (toB x.dropLast, r.drop 2) := by unfold tk;rw [hn];exact if_pos h2
      have e3 : (toB x).extract 0 (((lineEnd (s.data.toList.drop e) : Nat) : Int)).toNat = toB x.dropLast := by
        rw [extract_toB, data_toB, List.drop_zero, Int.toNat_natCast, List.dropLast_eq_take, show lineEnd (s.data.toList.drop e) - 0 = x.length - 1 by omega]
      have hK : s.size - (r.drop 2).length = s.size - r.length + 2 := by rw [List.length_drop];omega
      have go : ∀ R, Ev (fun k => spec_l3Read.j2 k s ((s.size - (r.drop 2).length : Nat) : Int) o n (toB x.dropLast) p q ls) R → Ev (fun k => spec_l3Read.l0 k s (e : Int) o n p q ls) R := fun R h => by
        refine enter _ (Ev.step (fun k => by rw [spec_l3Read.j1]) ?_)
        rw [e1]
        refine Ev_pos rfl (Ev_pos (by omega) (Ev_pos (by omega) (Ev_call hend ?_)))
        rw [wr_end (by omega), wr_next hM, hE, e2, e3, wr_two (by omega), ← hK, hxs]
        exact Ev_neg (by omega) (Ev_pos (by omega) (Ev_pos (by omega) (Ev_const hW (Ev_pos (by omega) (Ev_pos (by omega) (Ev_pos (by omega) h))))))
      have hyl : (toB x.dropLast).size ≤ 8000 := by rw [← size_data, data_toB, List.length_dropLast];omega
      have hL := line (toB x.dropLast) (s.size - (r.drop 2).length) (by omega) hyl
      rw [tkv]
      by_cases hb : hbad (toB x.dropLast)
      · rw [if_pos hb]
        exact ⟨fun _ => go _ (hL.1 hb), fun y r' h => by cases h⟩
      · rw [if_neg hb]
        refine ⟨fun h => (by cases h), fun y r' h R hR => ?_⟩
        injection h with h
        injection h with h3 h4
        subst h3 h4
        exact go _ (hL.2 hb R hR)
    · rw [if_neg h2] at hW
      have tkv : tk (s.data.toList.drop e) = if hbad (toB x) then none else some (toB x, r) := by unfold tk;rw [hn];exact if_neg h2
      have go : ∀ R, Ev (fun k => spec_l3Read.j2 k s ((s.size - r.length : Nat) : Int) o n (toB x) p q ls) R → Ev (fun k => spec_l3Read.l0 k s (e : Int) o n p q ls) R := fun R h => by
        refine enter _ (Ev.step (fun k => by rw [spec_l3Read.j1]) ?_)
        rw [e1]
        refine Ev_pos rfl (Ev_pos (by omega) (Ev_pos (by omega) (Ev_call hend ?_)))
        rw [wr_end (by omega), wr_next hM, hE, e2]
        exact Ev_neg (by omega) (Ev_pos (by omega) (Ev_pos (by omega) (Ev_const hW (Ev_neg (by omega) h))))
      have hL := line (toB x) (s.size - r.length) (by omega) (by omega)
      rw [tkv]
      by_cases hb : hbad (toB x)
      · rw [if_pos hb]
        exact ⟨fun _ => go _ (hL.1 hb), fun y r' h => by cases h⟩
      · rw [if_neg hb]
        refine ⟨fun h => (by cases h), fun y r' h R hR => ?_⟩
        injection h with h
        injection h with h3 h4
        subst h3 h4
        exact go _ (hL.2 hb R hR)
theorem sread_loop (s : ByteArray) (hs : s.size ≤ 8000) (p q : Int) : ∀ (f e : Nat) (o n : Int) (ls : List ByteArray), e ≤ s.size → s.size - e < f → ls.length ≤ e → -(e : Int) ≤ o → o ≤ 9999 → -(e : Int) ≤ n → n ≤ 9999 →
    (∀ x r, rb f o n (s.data.toList.drop e) = some (x, r) → Ev (fun k => spec_l3Read.l0 k s (e : Int) o n p q ls) (p, q, ls ++ x, ((s.size - r.length : Nat) : Int))) ∧
    (rb f o n (s.data.toList.drop e) = none → ∃ ls', Ev (fun k => spec_l3Read.l0 k s (e : Int) o n p q ls) (p, q, ls', -1)) := by
 have el := size_data s;intro f
 induction f with
 | zero => intro e o n ls he hf;omega
 | succ f ih =>
  intro e o n ls he hf hls o0 o1 n0 n1;(have ll : (s.data.toList.drop e).length = s.size - e := by rw [List.length_drop, el]);rw [rb];by_cases ho : o > 0 ∨ n > 0
  ·rw [if_pos ho];obtain ⟨s1, s2⟩ := sread_step s hs p q e he o n ls (by omega) ho (by omega) (by omega) (by omega) (by omega)
   cases ht : tk (s.data.toList.drop e) with
   | none => exact ⟨fun x r h => (by cases h), fun _ => ⟨ls, s1 ht⟩⟩
   | some yr =>
    obtain ⟨y, r⟩ := yr;obtain ⟨t1, t2, t3⟩ := tk_less ht;obtain ⟨d1, _, _⟩ := pos_drop he (tk_some ht).1;have hI := ih (s.size - r.length) (if mk y = 43 then o else o - 1) (if mk y = 45 then n else n - 1) (ls ++ [y]) (by omega) (by omega) (by rw [List.length_append, List.length_singleton];omega) (by split <;> omega) (by split <;> omega) (by split <;> omega) (by split <;> omega);rw [d1] at hI;dsimp only;refine ⟨fun x r' h => ?_, fun h => ?_⟩;rotate_left;(·obtain ⟨ls', hl⟩ := hI.2 (Option.map_eq_none_iff.1 h);exact ⟨ls', s2 y r ht _ hl⟩);obtain ⟨⟨x1, r1⟩, h1, h2⟩ := Option.map_eq_some_iff.1 h;(injection h2 with h2 h3);subst h2 h3;have := s2 y r ht _ (hI.1 _ _ h1);rw [List.append_assoc] at this;exact this
  rw [if_neg ho];(have out : ∀ R, Ev (fun k => if o < 0 then (some (p, q, ls, (-1 : Int))) else (if n < 0 then (some (p, q, ls, (-1))) else (some (p, q, ls, (e : Int))))) R → Ev (fun k => spec_l3Read.l0 k s (e : Int) o n p q ls) R := fun R h => by refine Ev.step (fun k => by rw [spec_l3Read.l0]) (Ev_neg (by omega) ?_);rw [decide_eq_false (show ¬ n > 0 by omega)];exact Ev.step (fun k => by rw [spec_l3Read.j1]) (Ev_neg (by simp) h));by_cases hn : o < 0 ∨ n < 0;(·rw [if_pos hn];refine ⟨fun x r h => (by cases h), fun _ => ⟨ls, out _ ?_⟩⟩;by_cases h0 : o < 0;(·exact Ev_pos h0 (Ev.now _));exact Ev_neg h0 (Ev_pos (by omega) (Ev.now _)));rw [if_neg hn];refine ⟨fun x r h => ?_, fun h => by cases h⟩;(injection h with h);(injection h with h1 h2);subst h1 h2;refine out _ (Ev_neg (by omega) (Ev_neg (by omega) (Ev_val ?_)));rw [List.append_nil, ll];congr 4;omega
theorem sread_tells (s : ByteArray) (hs : s.size ≤ 8000) (e : Nat) (he : e ≤ s.size) :
    (∀ h r, rh (s.data.toList.drop e) = some (h, r) → Ev (fun k => spec_l3Read.f k s (e : Int)) (h.f0, h.f1, h.f2, ((s.size - r.length : Nat) : Int))) ∧
    (rh (s.data.toList.drop e) = none → ∃ a b l, Ev (fun k => spec_l3Read.f k s (e : Int)) (a, b, l, -1)) := by
 have el := size_data s;(have ll : (s.data.toList.drop e).length = s.size - e := by rw [List.length_drop, el]);(rcases fst_tells s (by omega) e he with ⟨p, a, q, b, r, hd, hf⟩ | ⟨hd, hf⟩);rotate_left;(·rw [rh_none hd];refine ⟨fun h r e1 => (by cases e1), fun _ => ⟨0, 0, [], ?_⟩⟩;unfold spec_l3Read.f;exact Ev_call hf (Ev_pos (by omega) (Ev.now _)));rw [rh_is hd];obtain ⟨d1, d2, d3⟩ := pos_drop he hd.2.2.2.2;have h12 := hdT_len p a q b;obtain ⟨hp, ha, hq, hb, _⟩ := hd;have hI := sread_loop s hs (p : Int) (q : Int) ((s.data.toList.drop e).length + 1) (s.size - r.length) (a : Int) (b : Int) [] (by omega) (by omega) (by simp) (by omega) (by omega) (by omega) (by omega);rw [d1] at hI;(have go : ∀ R, Ev (fun k => spec_l3Read.l0 k s ((s.size - r.length : Nat) : Int) (a : Int) (b : Int) (p : Int) (q : Int) []) R → Ev (fun k => spec_l3Read.f k s (e : Int)) R := fun R h => by unfold spec_l3Read.f;exact Ev_call hf (Ev_neg (by omega) (Ev_pos (by simp) (Ev_pos (by simp) (Ev_pos (by simp) (Ev_pos (by simp) h))))));refine ⟨fun h r' e1 => ?_, fun e1 => ?_⟩;rotate_left;(·obtain ⟨ls', hl⟩ := hI.2 (Option.map_eq_none_iff.1 e1);exact ⟨_, _, ls', go _ hl⟩);obtain ⟨⟨x, r2⟩, h1, h2⟩ := Option.map_eq_some_iff.1 e1;(injection h2 with h2 h3);subst h2 h3;exact go _ (hI.1 _ _ h1)
theorem rh_less {l : List UInt8} {h : Hk} {r : List UInt8} (e : rh l = some (h, r)) : r.length + 12 + (lsT h.f2).length ≤ l.length := by
 obtain ⟨e1, _⟩ := rh_some e;have := congrArg List.length e1;rw [List.length_append, List.length_append] at this;have := hdT_len h.f0.toNat (hA h.f2) h.f1.toNat (hB h.f2);omega
theorem lw_lsT {x : List ByteArray} (h : HB x = false) : lw x ≤ 2 * (lsT x).length := by
 have := lsT_len x h;unfold lw;omega
def Rd (acc : List Hk) (m : Nat) : Prop := acc.length ≤ m ∧ hw acc ≤ 2 * m ∧ ∀ c ∈ acc, ∀ a ∈ c.f2, a.size ≤ 8000
theorem Rd.small {acc : List Hk} {m : Nat} (h : Rd acc m) (hm : m ≤ 8000) : SmallH acc := ⟨fun c hc a ha => by have := h.2.2 c hc a ha;omega, by have := h.1;omega, by have := h.2.1;omega⟩
theorem hw_snoc (x : List Hk) (c : Hk) : hw (x ++ [c]) = hw x + lw c.f2 := by
 induction x with
 | nil => simp [hw]
 | cons d x ih => rw [List.cons_append, hw, hw, ih];omega
theorem Rd.next {acc : List Hk} {h : Hk} {l r : List UInt8} {m : Nat} (ha : Rd acc m) (e : rh l = some (h, r)) (hl : l.length ≤ 8000) : Rd (acc ++ [h]) (m + (l.length - r.length)) := by
 have h1 := rh_less e;obtain ⟨_, hb, _⟩ := rh_some e;have h2 := lw_lsT hb;have h3 := lsT_len h.f2 hb;obtain ⟨a1, a2, a3⟩ := ha;refine ⟨by rw [List.length_append, List.length_singleton];omega, by rw [hw_snoc];omega, fun c hc a hm => ?_⟩;(rcases List.mem_append.1 hc with hc | hc);(·exact a3 c hc a hm);rw [List.mem_singleton] at hc;subst hc
 have : a.size ≤ total c.f2 := by
  have all : ∀ (l : List ByteArray), a ∈ l → a.size ≤ total l := by
   intro l
   induction l with
   | nil => intro q;exact absurd q (by simp)
   | cons b l ih =>
    intro q;rw [total];(rcases List.mem_cons.1 q with rfl | q);(·omega);have := ih q;omega
  exact all _ hm
 omega
theorem spp_loop (s : ByteArray) (hs : s.size ≤ 8000) : ∀ (f e : Nat) (acc : List Hk), e ≤ s.size → s.size - e < f → Rd acc e →
    Ev (fun k => spec_ParsePatch.l0 k s acc (e : Int)) (if (pr f acc (s.data.toList.drop e)).1 = true then (if HKF (pr f acc (s.data.toList.drop e)).2 = 0 then (0, 0, (pr f acc (s.data.toList.drop e)).2) else (HKF (pr f acc (s.data.toList.drop e)).2, 0, [])) else (5, ((pr f acc (s.data.toList.drop e)).2.length : Nat), [])) := by
 have el := size_data s;intro f
 induction f with
 | zero => intro e acc he hf;omega
 | succ f ih =>
  intro e acc he hf ha;(have ll : (s.data.toList.drop e).length = s.size - e := by rw [List.length_drop, el]);refine Ev.step (fun k => by rw [spec_ParsePatch.l0]) ?_;rw [pr];by_cases h0 : s.data.toList.drop e = [];(·rw [if_pos h0];(have h1 : e = s.size := by have := congrArg List.length h0;rw [ll] at this;simp at this;omega);refine Ev_neg (by omega) (Ev_call (shf_tells (ha.small (by omega))) ?_);dsimp only;rw [if_pos rfl];exact Ev_if (fun h => Ev_val (by rw [if_pos h])) (fun h => Ev_val (by rw [if_neg h])));rw [if_neg h0];(have h1 : e < s.size := by have := List.length_pos_iff.2 h0;omega);obtain ⟨t1, t2⟩ := sread_tells s hs e he
  cases hr : rh (s.data.toList.drop e) with
  | none =>
   obtain ⟨a, b, l, hl⟩ := t2 hr;exact Ev_pos (by omega) (Ev_call hl (Ev_pos (by show (-1 : Int) < 0;decide) (Ev.now _)))
  | some hh =>
   obtain ⟨h, r⟩ := hh;have hless := rh_less hr;(have e9 : s.data.toList.drop e = (hdT h.f0.toNat (hA h.f2) h.f1.toNat (hB h.f2) ++ lsT h.f2) ++ r := by rw [List.append_assoc];exact (rh_some hr).1);obtain ⟨d1, _, _⟩ := pos_drop he e9;have hn := ha.next hr (by omega);have hI := ih (s.size - r.length) (acc ++ [h]) (by omega) (by omega) (by rw [show s.size - r.length = e + ((s.data.toList.drop e).length - r.length) by omega];exact hn);rw [d1] at hI;exact Ev_pos (by omega) (Ev_call (t1 h r hr) (Ev_neg (by show ¬ (((s.size - r.length : Nat) : Int) < 0);omega) (Ev_pos (by have := ha.1;omega) hI)))
theorem spp_tells (s : ByteArray) : Ev (fun k => spec_ParsePatch.f k s) (PPT s) := by
 unfold spec_ParsePatch.f PPT;by_cases h : s.size > 8000;(·rw [if_pos h];exact Ev_pos (by omega) (Ev.now _));rw [if_neg h];refine Ev_neg (by omega) ?_;have := spp_loop s (by omega) (s.size + 1) 0 [] (by omega) (by omega) ⟨by simp, by simp [hw], fun c hc => absurd hc (by simp)⟩;rw [List.drop_zero] at this;exact this
def LN (l : List UInt8) : List ByteArray := (linesL [] l).map toB
theorem LN_none {l : List UInt8} (h : nl l = none) : LN l = if l = [] then [] else [toB l] := by
 unfold LN;rw [linesL_nl, h];dsimp only;rw [List.nil_append];split <;> rfl
theorem LN_some {l x r : List UInt8} (h : nl l = some (x, r)) : LN l = toB x :: LN r := by
 unfold LN;rw [linesL_nl, h];rfl
theorem LN_nil {l : List UInt8} : LN l = [] ↔ l = [] := by
 cases h : nl l with
 | none =>
  rw [LN_none h];by_cases h0 : l = [];(·rw [if_pos h0];simp [h0]);rw [if_neg h0];simp [h0]
 | some xr =>
  obtain ⟨x, r⟩ := xr;rw [LN_some h];constructor;(·intro e;cases e);intro e;rw [e] at h;cases h
theorem LN_len (l : List UInt8) : (LN l).length ≤ l.length + 1 := by
 unfold LN;rw [List.length_map];exact lines_len [] l
theorem suf_mem {y : List UInt8} {z : List UInt8} (h : y = z ++ [10]) : Lib.hasSuffix y [10] = true := (suffix_last y).2 ⟨z, h⟩
theorem suf_not {y : List UInt8} (h : 10 ∉ y) : Lib.hasSuffix y [10] = false := Bool.eq_false_iff.2 (fun q => by
  obtain ⟨r, e⟩ := (suffix_last y).1 q
  exact h (by rw [e];simp))
theorem iw (x : List UInt8) (hx : x.length ≤ 1048576) : impl_isWhole.f (toB x) = some (Lib.hasSuffix x [10]) := by
 have := isWhole_tells (toB x) (by rw [toB_size'];omega);rwa [data_toB] at this
theorem rb_neg : ∀ (f : Nat) (o n : Int) (l : List UInt8), o < 0 ∨ n < 0 → rb f o n l = none := by
 intro f
 induction f with
 | zero => intro o n l _;rfl
 | succ f ih =>
  intro o n l h;rw [rb];split;rotate_left;(·first | rfl | rw [if_pos h]);split;(·rfl);rename_i y r e;rw [ih _ _ _ (by split <;> split <;> omega)];rfl
theorem mk_toB {c : UInt8} {l : List UInt8} : mk (toB (c :: l)) = (c.toNat : Int) := mk_cons (data_toB _)
theorem beq_list (x y : List UInt8) : ((toB x).toList == y) = decide (x = y) := by
 rw [ByteArray.toList_eq, data_toB, Bool.eq_iff_iff];simp
theorem LN_mark (r : List UInt8) : (r.take 2 = [92, 10] → LN r = toB [92, 10] :: LN (r.drop 2)) ∧ (r.take 2 ≠ [92, 10] → ∀ y t, LN r = y :: t → ¬ y = toB [92, 10]) := by
 constructor;(·intro h;(have e : r = [92] ++ 10 :: r.drop 2 := by (conv => lhs;rw [← List.take_append_drop 2 r, h]);rfl);(have hn : nl r = some ([92] ++ [10], r.drop 2) := by (conv => lhs;rw [e]);exact nl_of [92] _ (by decide));rw [LN_some hn];rfl);intro h y t e he;(have inj : ∀ u : List UInt8, toB u = toB [92, 10] → u = [92, 10] := fun u q => by have := congrArg (fun z : ByteArray => z.data.toList) q;simpa only [data_toB] using this)
 cases hn : nl r with
 | none =>
  rw [LN_none hn] at e;split at e;(·cases e);have e1 := (List.cons.inj e).1;have := inj r (e1.trans he);exact h (by rw [this];rfl)
 | some xr =>
  obtain ⟨x, r'⟩ := xr;rw [LN_some hn] at e;have e1 := (List.cons.inj e).1;have := inj x (e1.trans he);have h2 := (nl_some hn).1;rw [this] at h2;exact h (by rw [h2];rfl)
theorem tk_marks {l x r : List UInt8} (h : nl l = some (x, r)) : (¬ (mk (toB x) = 32 ∨ mk (toB x) = 45 ∨ mk (toB x) = 43) → tk l = none) ∧
    ((mk (toB x) = 32 ∨ mk (toB x) = 45 ∨ mk (toB x) = 43) → 2 ≤ x.length ∧ mk (toB x.dropLast) = mk (toB x) ∧
      tk l = if r.take 2 = [92, 10] then (if x.length = 2 then none else some (toB x.dropLast, r.drop 2)) else some (toB x, r)) := by
 obtain ⟨hx, z, hz, hz2⟩ := nl_some h;(have hdl : x.dropLast = z := by rw [hz];simp);(have tkv : tk l = if r.take 2 = [92, 10] then (if hbad (toB x.dropLast) then none else some (toB x.dropLast, r.drop 2)) else (if hbad (toB x) then none else some (toB x, r)) := by unfold tk;rw [h]);constructor
 ·intro hm;have b1 : hbad (toB x) := .inr (.inl hm)
  have b2 : hbad (toB x.dropLast) := by
   rw [hdl]
   cases z with
   | nil => exact .inl (by decide)
   | cons c z =>
    refine .inr (.inl ?_);rw [hz] at hm;rw [List.cons_append, mk_toB] at hm;rw [mk_toB];exact hm
  rw [tkv, if_pos b1, if_pos b2];split <;> rfl
 intro hm
 cases z with
 | nil =>
  rw [hz] at hm;rw [List.nil_append, mk_toB] at hm;exact absurd hm (by decide)
 | cons c z =>
  (have hc : (c.toNat : Int) = 32 ∨ (c.toNat : Int) = 45 ∨ (c.toNat : Int) = 43 := by rw [hz, List.cons_append, mk_toB] at hm;exact hm);(have hxl : x.length = z.length + 2 := by rw [hz];simp);(have hmd : mk (toB x.dropLast) = mk (toB x) := by rw [hdl, hz, List.cons_append, mk_toB, mk_toB]);refine ⟨by omega, hmd, ?_⟩;(have g1 : ¬ hbad (toB x) := by rintro (q | q | q);(·rw [toB_size'] at q;omega);(·exact q hm);unfold tl at q;rw [data_toB, hz] at q;simp only [List.cons_append, List.drop_succ_cons, List.drop_zero, List.dropLast_concat] at q;exact hz2 (by simp [q]));(have g2 : hbad (toB x.dropLast) ↔ x.length = 2 := by constructor;rotate_left;(·intro q;left;rw [toB_size', hdl];have : z = [] := List.length_eq_zero_iff.1 (by omega);rw [this];simp);rintro (q | q | q);(·rw [toB_size', hdl] at q;simp at q;omega);(·exact absurd (by rw [hmd];exact hm) q);unfold tl at q;rw [data_toB, hdl] at q;simp only [List.drop_succ_cons, List.drop_zero] at q;exact absurd ((List.dropLast_sublist z).subset q) (fun w => hz2 (List.mem_cons_of_mem c w)));rw [tkv, if_neg g1];by_cases h2 : x.length = 2;(·rw [if_pos h2, if_pos (g2.2 h2)]);rw [if_neg h2, if_neg (fun q => h2 (g2.1 q))]
theorem iread_step {L : List ByteArray} (hL : L.length ≤ 9000) (p q : Int) {l : List UInt8} (hl : l.length ≤ 8000) (at_ : Nat) (hat : at_ ≤ L.length) (hLN : L.drop at_ = LN l) (o n : Int) (ls : List ByteArray) (hls : ls.length ≤ 8000)
    (ho : o > 0 ∨ n > 0) (o0 : 0 ≤ o) (o1 : o ≤ 9999) (n0 : 0 ≤ n) (n1 : n ≤ 9999) :
    (tk l = none → Ev (fun k => impl_readHunk.l0 k L o n (at_ : Int) p q ls) (0, 0, [], 0, false)) ∧
    (∀ y r, tk l = some (y, r) → ((if mk y = 43 then o else o - 1) < 0 ∨ (if mk y = 45 then n else n - 1) < 0) → Ev (fun k => impl_readHunk.l0 k L o n (at_ : Int) p q ls) (0, 0, [], 0, false)) ∧
    (∀ y r, tk l = some (y, r) → ¬ ((if mk y = 43 then o else o - 1) < 0 ∨ (if mk y = 45 then n else n - 1) < 0) → ∃ at', at_ < at' ∧ at' ≤ L.length ∧ L.drop at' = LN r ∧
      ∀ R, Ev (fun k => impl_readHunk.l0 k L (if mk y = 43 then o else o - 1) (if mk y = 45 then n else n - 1) (at' : Int) p q (ls ++ [y])) R → Ev (fun k => impl_readHunk.l0 k L o n (at_ : Int) p q ls) R) := by
  have enter : ∀ R, Ev (fun k => impl_readHunk.j1 k L o n (at_ : Int) true p q ls) R → Ev (fun k => impl_readHunk.l0 k L o n (at_ : Int) p q ls) R := fun R h => by
    refine Ev.step (fun k => by rw [impl_readHunk.l0]) ?_
    by_cases h1 : o > 0
    · exact Ev_pos h1 h
    · refine Ev_neg h1 ?_
      rw [decide_eq_true (show n > 0 by omega)]
      exact h
  have fail2 : Ev (fun k => impl_readHunk.j2 k L o n (at_ : Int) true p q ls) (0, 0, [], 0, false) := Ev.step (fun k => by rw [impl_readHunk.j2]) (Ev_pos rfl (Ev.now _))
  cases hn : nl l with
  | none =>
    have ht : tk l = none := by unfold tk;rw [hn]
    refine ⟨fun _ => enter _ (Ev.step (fun k => by rw [impl_readHunk.j1]) (Ev_pos rfl ?_)), fun y r h => (by rw [ht] at h;cases h), fun y r h => (by rw [ht] at h;cases h)⟩
    rw [LN_none hn] at hLN
    by_cases h0 : l = []
    · rw [if_pos h0] at hLN
      have h1 : at_ = L.length := by
        have := congrArg List.length hLN
        rw [List.length_drop] at this
        simp at this
        omega
      exact Ev_pos (by omega) fail2
    · rw [if_neg h0] at hLN
      have h1 : at_ < L.length := by
        have := congrArg List.length hLN
        rw [List.length_drop] at this
        simp at this
        omega
      have h2 : L[at_] = toB l := by
        rw [List.drop_eq_getElem_cons h1] at hLN
        exact (List.cons.inj hLN).1
      have hw := iw l (by omega)
      rw [suf_not (nl_none hn)] at hw
      refine Ev_neg (by omega) (Ev_pos (by omega) (Ev_pos (by omega) ?_))
      rw [rd_nat _ h1, h2]
      exact Ev_const hw fail2
  | some xr =>
    obtain ⟨x, r⟩ := xr
    obtain ⟨hx, z, hz, hz2⟩ := nl_some hn
    obtain ⟨m1, m2⟩ := tk_marks hn
    rw [LN_some hn] at hLN
    have h1 : at_ < L.length := by
      have := congrArg List.length hLN
      rw [List.length_drop] at this
      simp at this
      omega
    have h2 : L[at_] = toB x ∧ L.drop (at_ + 1) = LN r := by
      rw [List.drop_eq_getElem_cons h1] at hLN
      exact ⟨(List.cons.inj hLN).1, (List.cons.inj hLN).2⟩
    have hlx := congrArg List.length hx
    rw [List.length_append] at hlx
    have hx1 : 1 ≤ x.length := by rw [hz];simp
    have hw := iw x (by omega)
    rw [suf_mem hz] at hw
    have hmk : bt (toB x) 0 = mk (toB x) := rfl
    have into : ∀ R, Ev (fun k => if (bt (toB x) 0) = 32 then (impl_readHunk.j3 k L (o - 1) (n - 1) (at_ : Int) (toB x) p q ls) else (if (bt (toB x) 0) = 45 then (impl_readHunk.j3 k L (o - 1) n (at_ : Int) (toB x) p q ls) else (if (bt (toB x) 0) = 43 then (impl_readHunk.j3 k L o (n - 1) (at_ : Int) (toB x) p q ls) else (some (0, 0, ([] : List ByteArray), 0, false))))) R →
        Ev (fun k => impl_readHunk.l0 k L o n (at_ : Int) p q ls) R := fun R h => by
      refine enter _ (Ev.step (fun k => by rw [impl_readHunk.j1]) (Ev_pos rfl (Ev_neg (by omega) (Ev_pos (by omega) (Ev_pos (by omega) ?_)))))
      rw [rd_nat _ h1, h2.1]
      refine Ev_const hw (Ev.step (fun k => by rw [impl_readHunk.j2]) (Ev_neg (by simp) (Ev_pos (by omega) (Ev_pos (by omega) ?_))))
      rw [rd_nat _ h1, h2.1, wid (x := o - 1) (by omega) (by omega), wid (x := n - 1) (by omega) (by omega)]
      exact Ev_pos (by rw [toB_size'];omega) h
    by_cases hm : mk (toB x) = 32 ∨ mk (toB x) = 45 ∨ mk (toB x) = 43
    · obtain ⟨k1, k2, k3⟩ := m2 hm
      -- to the common part
      have cnt : ∀ R, Ev (fun k => impl_readHunk.j3 k L (if mk (toB x) = 43 then o else o - 1) (if mk (toB x) = 45 then n else n - 1) (at_ : Int) (toB x) p q ls) R → Ev (fun k => impl_readHunk.l0 k L o n (at_ : Int) p q ls) R := fun R h => by
        refine into R ?_
        rw [hmk]
        rcases hm with q1 | q1 | q1
        · rw [if_neg (by omega), if_neg (by omega)] at h
          exact Ev_pos q1 h
        · rw [if_neg (by omega), if_pos q1] at h
          exact Ev_neg (by omega) (Ev_pos q1 h)
        · rw [if_pos q1, if_neg (by omega)] at h
          exact Ev_neg (by omega) (Ev_neg (by omega) (Ev_pos q1 h))
      have ob : -1 ≤ (if mk (toB x) = 43 then o else o - 1) ∧ (if mk (toB x) = 43 then o else o - 1) ≤ 9999 := by split <;> omega
      have nb : -1 ≤ (if mk (toB x) = 45 then n else n - 1) ∧ (if mk (toB x) = 45 then n else n - 1) ≤ 9999 := by split <;> omega
      generalize ho' : (if mk (toB x) = 43 then o else o - 1) = o' at cnt ob
      generalize hn' : (if mk (toB x) = 45 then n else n - 1) = n' at cnt nb
      have neg : o' < 0 ∨ n' < 0 → Ev (fun k => impl_readHunk.l0 k L o n (at_ : Int) p q ls) (0, 0, [], 0, false) := fun h => by
        refine cnt _ (Ev.step (fun k => by rw [impl_readHunk.j3]) ?_)
        by_cases h3 : o' < 0
        · exact Ev_pos h3 (Ev.step (fun k => by rw [impl_readHunk.j4]) (Ev_pos rfl (Ev.now _)))
        · refine Ev_neg h3 (Ev.step (fun k => by rw [impl_readHunk.j4]) ?_)
          rw [decide_eq_true (show n' < 0 by omega)]
          exact Ev_pos rfl (Ev.now _)
      have ok4 : ¬ (o' < 0 ∨ n' < 0) → ∀ R, Ev (fun k => impl_readHunk.j5 k L o' n' ((at_ + 1 : Nat) : Int) (toB x) (decide (r.take 2 = [92, 10])) p q ls) R → Ev (fun k => impl_readHunk.l0 k L o n (at_ : Int) p q ls) R := fun h R hR => by
        refine cnt _ (Ev.step (fun k => by rw [impl_readHunk.j3]) (Ev_neg (by omega) ?_))
        rw [wid (x := (at_ : Int) + 1) (by omega) (by omega), decide_eq_false (show ¬ n' < 0 by omega)]
        refine Ev.step (fun k => by rw [impl_readHunk.j4]) (Ev_neg (by simp) ?_)
        obtain ⟨g1, g2⟩ := LN_mark r
        by_cases h3 : (at_ : Int) + 1 < (L.length : Int)
        · have h4 : at_ + 1 < L.length := by omega
          refine Ev_pos h3 (Ev_pos (by omega) ?_)
          have h5 := h2.2
          rw [List.drop_eq_getElem_cons h4] at h5
          have e7 : rdOf ByteArray.empty L ((at_ : Int) + 1) = L[at_ + 1] := by
            have := rd_nat ByteArray.empty h4
            exact this
          rw [e7]
          by_cases h6 : r.take 2 = [92, 10]
          · have h7 := g1 h6
            rw [h7] at h5
            rw [(List.cons.inj h5).1, beq_list, decide_eq_true rfl]
            rw [decide_eq_true h6] at hR
            exact hR
          · have h7 := g2 h6 _ _ h5.symm
            have h8 : (L[at_ + 1].toList == ([92, 10] : List UInt8)) = false := by
              rw [Bool.eq_false_iff]
              intro w
              have w2 : L[at_ + 1].toList = [92, 10] := by simpa using w
              apply h7
              apply data_eq.1
              rw [w2, ByteArray.toList_eq, data_toB]
            rw [h8]
            rw [decide_eq_false h6] at hR
            exact hR
        · have h4 : L.drop (at_ + 1) = [] := List.drop_eq_nil_of_le (by omega)
          rw [h2.2] at h4
          have h5 := LN_nil.1 h4
          rw [h5, decide_eq_false (by simp)] at hR
          exact Ev_neg h3 hR
      have sx : (toB x).size = x.length := toB_size' x
      by_cases h6 : r.take 2 = [92, 10]
      · rw [if_pos h6] at k3
        have e6 : (toB x).extract 0 (((x.length - 1 : Nat) : Int)).toNat = toB x.dropLast := by
          rw [extract_toB, data_toB, List.drop_zero, Int.toNat_natCast, List.dropLast_eq_take, Nat.sub_zero]
        have w6 : wrap64 ((x.length : Int) - 1) = ((x.length - 1 : Nat) : Int) := by
          rw [wid (by omega) (by omega)]
          omega
        have dl : (toB x.dropLast).size = x.length - 1 := by rw [toB_size', List.length_dropLast]
        by_cases h7 : x.length = 2
        · rw [if_pos h7] at k3
          rw [k3]
          refine ⟨fun _ => ?_, fun y r' h => (by cases h), fun y r' h => (by cases h)⟩
          by_cases hneg : o' < 0 ∨ n' < 0
          · exact neg hneg
          · refine ok4 hneg _ ?_
            rw [decide_eq_true h6]
            refine Ev.step (fun k => by rw [impl_readHunk.j5]) (Ev_pos rfl ?_)
            rw [sx, w6, e6, dl]
            exact Ev_pos (by omega) (Ev_pos (by omega) (Ev_pos (by omega) (Ev.now _)))
        · rw [if_neg h7] at k3
          rw [k3]
          refine ⟨fun h => (by cases h), fun y r' h hneg => ?_, fun y r' h hneg => ?_⟩
          · injection h with h
            injection h with h3 h4
            subst h3 h4
            rw [k2, ho', hn'] at hneg
            exact neg hneg
          · injection h with h
            injection h with h3 h4
            subst h3 h4
            rw [k2, ho', hn'] at hneg ⊢
            have h7' := (LN_mark r).1 h6
            have h8 : at_ + 1 < L.length := by
              have := congrArg List.length h2.2
              rw [List.length_drop, h7', List.length_cons] at this
              omega
            refine ⟨at_ + 2, by omega, by omega, ?_, fun R hR => ok4 hneg _ ?_⟩
            · have := h2.2
              rw [h7', List.drop_eq_getElem_cons h8] at this
              exact (List.cons.inj this).2
            · rw [decide_eq_true h6]
              refine Ev.step (fun k => by rw [impl_readHunk.j5]) (Ev_pos rfl ?_)
              rw [sx, w6, e6, dl]
              refine Ev_pos (by omega) (Ev_pos (by omega) (Ev_neg (by omega) (Ev_pos (by omega) ?_)))
              rw [wid (x := ((at_ + 1 : Nat) : Int) + 1) (by omega) (by omega)]
              exact hR
      · rw [if_neg h6] at k3
        rw [k3]
        refine ⟨fun h => (by cases h), fun y r' h hneg => ?_, fun y r' h hneg => ?_⟩
        · injection h with h
          injection h with h3 h4
          subst h3 h4
          rw [ho', hn'] at hneg
          exact neg hneg
        · injection h with h
          injection h with h3 h4
          subst h3 h4
          rw [ho', hn'] at hneg ⊢
          refine ⟨at_ + 1, by omega, by omega, h2.2, fun R hR => ok4 hneg _ ?_⟩
          rw [decide_eq_false h6]
          refine Ev.step (fun k => by rw [impl_readHunk.j5]) (Ev_neg (by simp) ?_)
          rw [sx]
          exact Ev_neg (by omega) (Ev_pos (by omega) hR)
    · have ht := m1 hm
      rw [ht]
      refine ⟨fun _ => into _ ?_, fun y r h => (by cases h), fun y r h => (by cases h)⟩
      rw [hmk]
      exact Ev_neg (fun w => hm (.inl w)) (Ev_neg (fun w => hm (.inr (.inl w))) (Ev_neg (fun w => hm (.inr (.inr w))) (Ev.now _)))
theorem iread_loop {L : List ByteArray} (hL : L.length ≤ 9000) (p q : Int) : ∀ (f : Nat) (l : List UInt8) (at_ : Nat) (o n : Int) (ls : List ByteArray), l.length ≤ 8000 → l.length < f → at_ ≤ L.length → L.drop at_ = LN l → ls.length + l.length ≤ 8000 → 0 ≤ o → o ≤ 9999 → 0 ≤ n → n ≤ 9999 →
    (∀ x r, rb f o n l = some (x, r) → ∃ at', at' ≤ L.length ∧ L.drop at' = LN r ∧ Ev (fun k => impl_readHunk.l0 k L o n (at_ : Int) p q ls) (p, q, ls ++ x, (at' : Int), true)) ∧
    (rb f o n l = none → Ev (fun k => impl_readHunk.l0 k L o n (at_ : Int) p q ls) (0, 0, [], 0, false)) := by
 intro f
 induction f with
 | zero => intro l at_ o n ls _ hf;omega
 | succ f ih =>
  intro l at_ o n ls hl hf hat hLN hls o0 o1 n0 n1;rw [rb];by_cases ho : o > 0 ∨ n > 0;rotate_left;(·rw [if_neg ho, if_neg (by omega)];refine ⟨fun x r h => ?_, fun h => (by cases h)⟩;(injection h with h);(injection h with h1 h2);subst h1 h2;refine ⟨at_, hat, hLN, Ev.step (fun k => by rw [impl_readHunk.l0]) (Ev_neg (by omega) ?_)⟩;rw [decide_eq_false (show ¬ n > 0 by omega), List.append_nil];exact Ev.step (fun k => by rw [impl_readHunk.j1]) (Ev_neg (by simp) (Ev.now _)));rw [if_pos ho];obtain ⟨s1, s2, s3⟩ := iread_step hL p q hl at_ hat hLN o n ls (by omega) ho o0 o1 n0 n1
  cases ht : tk l with
  | none => exact ⟨fun x r h => (by cases h), fun _ => s1 ht⟩
  | some yr =>
   obtain ⟨y, r⟩ := yr;obtain ⟨t1, t2, t3⟩ := tk_less ht;dsimp only;by_cases hneg : (if mk y = 43 then o else o - 1) < 0 ∨ (if mk y = 45 then n else n - 1) < 0;(·rw [rb_neg _ _ _ _ hneg];exact ⟨fun x r h => (by cases h), fun _ => s2 y r ht hneg⟩);obtain ⟨at', a1, a2, a3, a4⟩ := s3 y r ht hneg;have hI := ih r at' (if mk y = 43 then o else o - 1) (if mk y = 45 then n else n - 1) (ls ++ [y]) (by omega) (by omega) a2 a3 (by rw [List.length_append, List.length_singleton];omega) (by omega) (by split <;> omega) (by omega) (by split <;> omega);refine ⟨fun x r' h => ?_, fun h => ?_⟩;rotate_left;(·exact a4 _ (hI.2 (Option.map_eq_none_iff.1 h)));obtain ⟨⟨x1, r1⟩, h1, h2⟩ := Option.map_eq_some_iff.1 h;(injection h2 with h2 h3);subst h2 h3;obtain ⟨at2, b1, b2, b3⟩ := hI.1 _ _ h1;have := a4 _ b3;rw [List.append_assoc] at this;exact ⟨at2, b1, b2, this⟩
theorem hdT_line (p a q b : Nat) : ∃ z, hdT p a q b = z ++ [10] ∧ 10 ∉ z := by
 refine ⟨[64, 64, 32, 45] ++ (dg p ++ 44 :: (dg a ++ 32 :: 43 :: (dg q ++ 44 :: (dg b ++ [32, 64, 64])))), by unfold hdT;simp, ?_⟩;have h1 := @dg_no p 10 (by decide);have h2 := @dg_no a 10 (by decide);have h3 := @dg_no q 10 (by decide);have h4 := @dg_no b 10 (by decide);simp [h1, h2, h3, h4]
theorem iread_tells {l : List UInt8} (hl : l.length ≤ 8000) (h0 : l ≠ []) :
    (∀ h r, rh l = some (h, r) → ∃ at', at' ≤ (LN l).length ∧ (LN l).drop at' = LN r ∧ Ev (fun k => impl_readHunk.f k (LN l)) (h.f0, h.f1, h.f2, (at' : Int), true)) ∧
    (rh l = none → ∃ a b c d, Ev (fun k => impl_readHunk.f k (LN l)) (a, b, c, d, false)) := by
  have hlen := LN_len l
  -- the first line
  have fst : ∃ x t, LN l = toB x :: t ∧ x.length ≤ 8000 ∧ ((∃ r, nl l = some (x, r) ∧ t = LN r) ∨ (nl l = none ∧ x = l)) := by
    cases hn : nl l with
    | none => exact ⟨l, [], by rw [LN_none hn, if_neg h0], hl, .inr ⟨rfl, rfl⟩⟩
    | some xr =>
      obtain ⟨x, r⟩ := xr
      have := congrArg List.length (nl_some hn).1
      rw [List.length_append] at this
      exact ⟨x, LN r, LN_some hn, by omega, .inl ⟨r, rfl, rfl⟩⟩
  obtain ⟨x, t, hLN, hx, hc⟩ := fst
  have hpos : 0 < (LN l).length := by rw [hLN];simp
  have h00 : rdOf ByteArray.empty (LN l) 0 = toB x := by rw [hLN];rfl
  have hd_iff : ∀ p a q b r, HdIs l p a q b r → x = hdT p a q b ∧ nl l = some (x, r) := fun p a q b r hd => by
    obtain ⟨z, hz, hz2⟩ := hdT_line p a q b
    have e : l = z ++ 10 :: r := by rw [hd.2.2.2.2, hz];simp
    have hn : nl l = some (z ++ [10], r) := by rw [e];exact nl_of z r hz2
    rcases hc with ⟨r', h1, h2⟩ | ⟨h1, h2⟩
    · rw [h1] at hn
      injection hn with hn
      injection hn with e1 e2
      rw [h1, e1, e2, hz]
      exact ⟨rfl, rfl⟩
    · rw [h1] at hn
      cases hn
  rcases ihead_tells x (by omega) with ⟨p, a, q, b, hp, ha, hq, hb, ex, hf⟩ | ⟨hno, i, j, o, n, hf⟩
  · have hn : ∃ r, nl l = some (x, r) ∧ t = LN r := by
      rcases hc with h | ⟨h1, h2⟩
      · exact h
      · exfalso
        obtain ⟨z, hz, _⟩ := hdT_line p a q b
        refine nl_none h1 ?_
        rw [← h2, ex, hz]
        simp
    obtain ⟨r, hn, ht⟩ := hn
    have hd : HdIs l p a q b r := ⟨hp, ha, hq, hb, by rw [← ex];exact (nl_some hn).1⟩
    have hr := congrArg List.length (nl_some hn).1
    rw [List.length_append] at hr
    have hx1 : 1 ≤ x.length := by
      obtain ⟨z, hz, _⟩ := hdT_line p a q b
      rw [ex, hz]
      simp
    rw [rh_is hd]
    have hI := iread_loop (L := LN l) (by omega) (p : Int) (q : Int) (l.length + 1) r 1 (a : Int) (b : Int) [] (by omega) (by omega) (by omega) (by rw [hLN];exact ht) (by simp;omega) (by omega) (by omega) (by omega) (by omega)
    have go : ∀ R, Ev (fun k => impl_readHunk.l0 k (LN l) (a : Int) (b : Int) 1 (p : Int) (q : Int) []) R → Ev (fun k => impl_readHunk.f k (LN l)) R := fun R h => by
      unfold impl_readHunk.f
      rw [h00]
      exact Ev_pos (by omega) (Ev_const hf (Ev_pos rfl h))
    refine ⟨fun h r' e1 => ?_, fun e1 => ⟨_, _, _, _, go _ (hI.2 (Option.map_eq_none_iff.1 e1))⟩⟩
    obtain ⟨⟨y, r2⟩, h1, h2⟩ := Option.map_eq_some_iff.1 e1
    injection h2 with h2 h3
    subst h2 h3
    obtain ⟨at', b1, b2, b3⟩ := hI.1 _ _ h1
    exact ⟨at', b1, b2, go _ b3⟩
  · rw [rh_none (fun p a q b r hd => hno p a q b hd.1 hd.2.1 hd.2.2.1 hd.2.2.2.1 (hd_iff p a q b r hd).1)]
    refine ⟨fun h r e1 => (by cases e1), fun _ => ⟨0, 0, [], 0, ?_⟩⟩
    unfold impl_readHunk.f
    rw [h00]
    exact Ev_pos (by omega) (Ev_const hf (Ev_neg (by simp) (Ev.now _)))
theorem ipp_loop : ∀ (f : Nat) (l : List UInt8) (m : Nat) (acc : List Hk), l.length ≤ 8000 → l.length < f → m + l.length ≤ 8000 → Rd acc m →
    Ev (fun k => impl_ParsePatch.l0 k acc (LN l)) (if (pr f acc l).1 = true then (if HKF (pr f acc l).2 = 0 then (0, 0, (pr f acc l).2) else (HKF (pr f acc l).2, 0, [])) else (5, ((pr f acc l).2.length : Nat), [])) := by
 intro f
 induction f with
 | zero => intro l m acc hl hf;omega
 | succ f ih =>
  intro l m acc hl hf hm ha;refine Ev.step (fun k => by rw [impl_ParsePatch.l0]) ?_;rw [pr];by_cases h0 : l = [];(·rw [if_pos h0];have h1 : LN l = [] := LN_nil.2 h0;refine Ev_neg (by rw [h1];simp) (Ev_call (ihf_tells (ha.small (by omega))) ?_);dsimp only;rw [if_pos rfl];exact Ev_if (fun h => Ev_val (by rw [if_pos h])) (fun h => Ev_val (by rw [if_neg h])));rw [if_neg h0];have hp : (LN l).length > 0 := List.length_pos_iff.2 (fun q => h0 (LN_nil.1 q));obtain ⟨t1, t2⟩ := iread_tells hl h0
  cases hr : rh l with
  | none =>
   obtain ⟨a, b, c, d, hl'⟩ := t2 hr;exact Ev_pos (by omega) (Ev_call hl' (Ev_neg (by simp) (Ev.now _)))
  | some hh =>
   obtain ⟨h, r⟩ := hh;have hless := rh_less hr;obtain ⟨at', b1, b2, b3⟩ := t1 h r hr;have hn := ha.next hr (by omega);have hI := ih r (m + (l.length - r.length)) (acc ++ [h]) (by omega) (by omega) (by omega) hn;refine Ev_pos (by omega) (Ev_call b3 (Ev_pos rfl (Ev_pos (by have := ha.1;omega) (Ev_pos (by show (0 : Int) ≤ (at' : Int);omega) (Ev_pos (by show (at' : Int) ≤ ((LN l).length : Int);omega) ?_)))));rw [Int.toNat_natCast, b2];exact hI
theorem ipp_tells (s : ByteArray) : Ev (fun k => impl_ParsePatch.f k s) (PPT s) := by
 have el := size_data s;unfold impl_ParsePatch.f PPT;by_cases h : s.size > 8000;(·rw [if_pos h];exact Ev_pos (by omega) (Ev.now _));rw [if_neg h];refine Ev_neg (by omega) (Ev_const (linesOf_tells s (by omega)) ?_);exact ipp_loop (s.size + 1) s.data.toList 0 [] (by omega) (by omega) (by omega) ⟨by simp, by simp [hw], fun c hc => absurd hc (by simp)⟩
theorem Rd.up {acc : List Hk} {m n : Nat} (h : Rd acc m) (hn : m ≤ n) : Rd acc n := ⟨by have := h.1;omega, by have := h.2.1;omega, h.2.2⟩
theorem pr_rd : ∀ (f : Nat) (l : List UInt8) (m : Nat) (acc : List Hk), m + l.length ≤ 8000 → Rd acc m → Rd (pr f acc l).2 8000 := by
 intro f
 induction f with
 | zero => intro l m acc hm ha;exact ha.up (by omega)
 | succ f ih =>
  intro l m acc hm ha;rw [pr];split;(·exact ha.up (by omega));split;(·exact ha.up (by omega));rename_i h r hr;have hless := rh_less hr;exact ih r (m + (l.length - r.length)) _ (by omega) (ha.next hr (by omega))
theorem PPT_small (s : ByteArray) : SmallH (PPT s).2.2 := by
 have el := size_data s;have nil : SmallH ([] : List Hk) := ⟨fun c hc => absurd hc (by simp), by simp, by simp [hw]⟩;unfold PPT;split;(·exact nil);rename_i h;split;rotate_left;(·exact nil);split;(·exact (pr_rd _ _ 0 [] (by omega) ⟨by simp, by simp [hw], fun c hc => absurd hc (by simp)⟩).small (by omega));exact nil
theorem eqhr_tells (a b : Int) {l : List S44} (hs : SmallH l) : Ev (fun k => laws_eqHunksResult.f k a b l a b l) true := by
 unfold laws_eqHunksResult.f;exact Ev_pos rfl (Ev_pos rfl (Ev_call (eqhs_tells hs) (Ev_pos rfl (Ev.now _))))
end Go.Proofs.YthmmmiknmkpbeaaDoor.P
end
section
set_option linter.unusedVariables false
namespace Go.Proofs.YthmmmiknmkpbeaaDoor.P.VFnExactParsePatch
open Go.RowKit Go.Proofs.YthmmmiknmkpbeaaDoorW.PrintWords Go.Proofs.YthmmmiknmkpbeaaDoorW.PrintLast
theorem proof : UFnExactParsePatch.Pure := by
 intro a0 g0;apply Ev.rounds;unfold laws_FnExactParsePatch.f;by_cases hb : (a0.size : Int) > 1048576;(·exact Ev_pos hb (Ev.now _));refine Ev_neg hb ?_;have hr := PPT_small a0;have hs := spp_tells a0;have hi := ipp_tells a0;generalize PPT a0 = R at hr hs hi;have heq := eqhr_tells R.1 R.2.1 hr;(have hm : Ev (fun k => laws_markHunksResult.f k R.1 R.2.1 R.2.2 1) (((_root_.Go.Proofs.YthmmmiknmkpbeaaDoor.P.hs 1 R.2.2 : Nat) : Int), mkh 1 R.2.2) := by unfold laws_markHunksResult.f;exact Ev_call (markhs_tells hr) (Ev.now _));(have hh : Ev (fun k => laws_heldHunksResult.f k R.1 R.2.1 (mkh 1 R.2.2) 1) ((_root_.Go.Proofs.YthmmmiknmkpbeaaDoor.P.hs 1 R.2.2 : Nat) : Int) := by unfold laws_heldHunksResult.f;exact Ev_call (heldhs_tells hr) (Ev_neg (by omega) (Ev.now _)));refine Ev_call hs (Ev_call hi (Ev_call heq (Ev_pos rfl (Ev_call hm (Ev_call hh (Ev_neg (by omega) (Ev_pos rfl ?_)))))));exact Ev_call hi (Ev_call heq (Ev_pos rfl (Ev_call hh (Ev_neg (by omega) (Ev_pos rfl (Ev.now _))))))
end Go.Proofs.YthmmmiknmkpbeaaDoor.P.VFnExactParsePatch
end
namespace Go.Proofs.YthmmmiknmkpbeaaDoor.fnExactParsePatch
open Go.ChangeShapes Go.WideShapes Go.ChangeAt Go.RowKit
open Go.ChangeMaps (open_string shut_string)
open Go.Proofs.YthmmmiknmkpbeaaDoor.P Go.Proofs.YthmmmiknmkpbeaaDoor.P.UFnExactParsePatch Go.Proofs.YthmmmiknmkpbeaaDoorW.PrintWords
set_option linter.unusedVariables false
theorem own : ownKnob Tryd.prog.godebug = none := by kernel_rfl
theorem pow_of_laid {W : World} (h : laidMet Tryd.prog Rows.fnExactParsePatchRow.laid W) : Lib.TabIs Tryd.prog W "internal/strconv.uint64pow10" .u64 Lib.pow10Tab := by
 rw [show Lib.pow10Tab = [1, 10, 100, 1000, 10000, 100000, 1000000, 10000000, 100000000, 1000000000, 10000000000, 100000000000, 1000000000000, 10000000000000, 100000000000000, 1000000000000000, 10000000000000000, 100000000000000000, 1000000000000000000, 10000000000000000000] by kernel_rfl];exact Lib.tabIs_of_head (g := 0) (t := 111) (e := 101) (zs := [1, 10, 100, 1000, 10000, 100000, 1000000, 10000000, 100000000, 1000000000, 10000000000, 100000000000, 1000000000000, 10000000000000, 100000000000000, 1000000000000000, 10000000000000000, 100000000000000000, 1000000000000000000, 10000000000000000000]) (by kernel_rfl) (by kernel_rfl) Tryd.underlying111 Tryd.underlying101 (by kernel_rfl) (by kernel_rfl) (laidMet.tail (laidMet.tail h))
theorem row_err (u : TypeId) (h : Tryd.prog.typeName? 3 u = some "*errors.errorString") : u = 142 :=
  typeName_ptr_named (nm := "errors.errorString") (by rw [show "*" ++ "errors.errorString" = "*errors.errorString" by decide];kernel_rfl) (by kernel_rfl) (by decide) u (by rw [show "*" ++ "errors.errorString" = "*errors.errorString" by decide];exact h)
theorem syn_of_laid {W : World} (h : laidMet Tryd.prog Rows.fnExactParsePatchRow.laid W) : ∃ t p, W.var? Tryd.prog "strconv.ErrSyntax" = some #[.iface t p] := by
 obtain ⟨a0, s0, hv0, -, -, -⟩ := laid_sentinel (laidMet.tail (laidMet.tail (laidMet.tail (laidMet.tail (laidMet.tail h))))) (g := 6) (ti := 53) (by kernel_rfl) (by kernel_rfl) Tryd.underlying53 row_err Tryd.underlying142 Tryd.underlying144 rfl rfl Tryd.underlying9 (by kernel_rfl) (by kernel_rfl);exact ⟨_, _, hv0⟩
theorem rng_of_laid {W : World} (h : laidMet Tryd.prog Rows.fnExactParsePatchRow.laid W) : ∃ t p, W.var? Tryd.prog "strconv.ErrRange" = some #[.iface t p] := by
 obtain ⟨a0, s0, hv0, -, -, -⟩ := laid_sentinel (laidMet.tail (laidMet.tail (laidMet.tail (laidMet.tail h)))) (g := 7) (ti := 53) (by kernel_rfl) (by kernel_rfl) Tryd.underlying53 row_err Tryd.underlying142 Tryd.underlying144 rfl rfl Tryd.underlying9 (by kernel_rfl) (by kernel_rfl);exact ⟨_, _, hv0⟩
theorem max_of_shape {W : World} (h : W.ShapedOpen Tryd.prog) : ∃ m, W.cell? ⟨1, 0, none⟩ = some (.int .i64 m) := cell_of_shapedOpen_int (zero := #[.int .i64 0]) (t := 3) h (of_decide_eq_true (by kernel_rfl)) (by kernel_rfl) rfl (by kernel_rfl) (by kernel_rfl) Tryd.underlying3
theorem tabW_of_laid {W : World} (h : laidMetH Tryd.prog Rows.fnExactParsePatchRow.laid W) (hsh : W.ShapedOpen Tryd.prog) : TabW W := by
 rw [MakeChecks.laidMetH_plain _ _ _ (by kernel_rfl)] at h;exact ⟨pow_of_laid h, syn_of_laid h, rng_of_laid h, max_of_shape hsh⟩
set_option maxRecDepth 100000 in
theorem main_ (H : Type) (enc : TypeId × Value → H) (W : World) (base : Nat) (args : Array Value) (ds gs : List (DataW H)) (before : List MemPlace) (hSh : W.ShapedOpen Tryd.prog)
    (hval0 : ∀ (j : Nat) t v, Tryd.f4.params[j]? = some t → args[j]? = some v → Value.okWide Tryd.prog W .any base t v)
    (hW : DataW.Whole enc Tryd.prog Tryd.f4.params.toList Rows.fnExactParsePatchSpec.vars false W args.toList ds gs before) (hL : laidMetH Tryd.prog Rows.fnExactParsePatchRow.laid W) :
    Calls Tryd.prog 4 args W fun e W' => ∃ v, e = .returned v ∧ Rows.fnExactParsePatchSpec.post enc Tryd.prog Tryd.f4 false true false false W args v W' := by
 have hval : ∀ (j : Nat) t v, Tryd.f4.params[j]? = some t → args[j]? = some v → Value.okWide Tryd.prog W .any base t v := hval0;have hW' := hW;obtain ⟨p, q, hA0, hV, rfl, hfz, hnd⟩ := hW;have hA : DataW.TrodAll enc Tryd.prog W 0 (fun _ => true) true Tryd.f4.params.toList args.toList ds p := hA0;rw [Tryd.params4] at hA hval;obtain ⟨v0, vs0, d0, ds0, p0, q0, hargs, rfl, rfl, h0, r0⟩ := trodAll_cons hA;obtain ⟨rfl, rfl, rfl⟩ := trodAll_nil r0;(obtain rfl : args = #[v0] := by cases args;simp_all);obtain ⟨rfl, rfl⟩ := trodVars_none hV;obtain ⟨a0, rfl, rfl, rfl, y0⟩ := open_string Tryd.underlying9 (hval 0 9 v0 rfl rfl) h0;clear hA0 hval0;obtain ⟨k, h⟩ := VFnExactParsePatch.proof a0 y0;have hTW := tabW_of_laid hL hSh;(refine (laws_FnExactParsePatch.calls (hT := hTW) k a0 true W  h rfl).mono fun e W' hend => ?_);obtain ⟨rfl, hbel⟩ := hend;have bel : Below W.heap.size W W' := hbel;exact ⟨_, rfl, _, _, _, [], _, [], hW', trodAll_mk1 (shut_bool Tryd.underlying4 _), (trodAll_cons_mk (shut_string Tryd.underlying9 y0) trodAll_mk0), rfl, bel.frame _, fun h => by cases h⟩
set_option maxRecDepth 100000 in
theorem lifted (os : Os) (started : os.Started) (H : Type) (enc : TypeId × Value → H) :
    ReturnsInHanded {} Tryd.checked os 4 .any (fun w args => (Rows.fnExactParsePatchSpec.pre enc Tryd.prog Tryd.f4 [] false w args ∧ laidMetH Tryd.prog Rows.fnExactParsePatchRow.laid w) ∧ sizedMet enc Tryd.prog Tryd.f4 (OpenSpec.ofChange Rows.fnExactParsePatchSpec) false w args)
      (Rows.fnExactParsePatchSpec.post enc Tryd.prog Tryd.f4 false true false false) := by
 refine returnsInHanded_of_calls (C := Tryd.checked) own started (by kernel_rfl)
   (ChangeSpec.witness_shaped (enc := enc) (C := Tryd.checked) (os := os) (X := fun w _ => laidMetH Tryd.prog Rows.fnExactParsePatchRow.laid w) false (World.laidAll Tryd.prog os Rows.fnExactParsePatchRow.laid) #[.string ByteArray.empty] 8 (World.laidAll_os _ _ _)
     (World.shaped_of_ZipB (by kernel_rfl) (by kernel_rfl)) (by kernel_rfl) (by kernel_rfl) (by kernel_rfl)
     (by rw [MakeChecks.laidMetH_plain _ _ _ (by kernel_rfl)];exact laidMet_laidAll _ (by kernel_rfl) (by kernel_rfl))) ?_
 intro w tape i _ hSh _ hok hpre hholds;obtain ⟨_, _, _, fn', hfn', _, _, _, _, hval0⟩ := hok;obtain rfl : fn' = Tryd.f4 := Option.some.inj (hfn'.symm.trans Tryd.func4);obtain ⟨⟨⟨ds, gs, before, hw, hcnd⟩, hx⟩, hz⟩ := hpre;have hW := DataW.Whole.of_heap (w' := w.forCall tape i) (by rfl) hw;have hL : laidMetH Tryd.prog Rows.fnExactParsePatchRow.laid (w.forCall tape i) := laidMetH.of_heap (w' := w.forCall tape i) (by rfl) hx;exact (main_ H enc (w.forCall tape i) w.heap.size i.args ds gs before hSh hval0 hW hL).mono fun e W' ⟨v, he, hp⟩ => by subst he;exact ChangeSpec.post_blind hp
theorem over : Rows.fnExactParsePatchRow.holds Tryd.pinned (OpenSpec.ofChange Rows.fnExactParsePatchSpec) :=
  OpenClaim.holds_of_wide 4 Tryd.f4 rfl rfl rfl rfl rfl rfl rfl ⟨rfl, rfl, rfl, rfl, rfl⟩ rfl rfl rfl rfl rfl (by kernel_rfl) Tryd.func4 (by kernel_rfl)
    (of_decide_eq_true (by kernel_rfl)) (by unfold Func.isWrapper;first | (rw [if_pos (by decide +kernel)];kernel_rfl) | (rw [if_neg (by decide +kernel)];exact ⟨rfl, rfl⟩))
    (fun os started H enc _ => lifted os started H enc)
set_option maxRecDepth 100000 in
theorem proved : Rows.FnExactParsePatchCardSaid :=
  Claim7.holds_tied_plain_at .later [] [.data, .data, .data, .data, .sentinel, .sentinel, .pinned] true (true, "31317ebd05df009fd42cbbb086a7c8b24c9d89e1f419c1c9f9ff916c3f79651f") true over (fun _ h => by cases h) (by kernel_rfl) (fun _ h => by cases h) fnExactParsePatch_row_tie rfl ⟨rfl, rfl⟩ (by kernel_rfl) rfl
    (fun f fn hf hfn => by
      obtain rfl : f = 4 := Option.some.inj ((show Tryd.prog.funcNamed "loop.example/g00172/laws.FnExactParsePatch" = some 4 by kernel_rfl).symm.trans hf) |>.symm
      obtain rfl : fn = Tryd.f4 := (Option.some.inj (Tryd.func4.symm.trans hfn)).symm
      exact ⟨by kernel_rfl, fun j t ht => by
        rw [Tryd.params4] at ht
        have hm : t ∈ [9] := by simpa using Array.mem_of_getElem? ht
        have hall : ([9].all fun u => !Tryd.prog.wantsStandIn u) = true := by kernel_rfl
        exact (show Tryd.prog.wantsStandIn t = false by simpa using List.all_eq_true.1 hall t hm)⟩)
    (by kernel_rfl)
#print axioms proved
end Go.Proofs.YthmmmiknmkpbeaaDoor.fnExactParsePatch
namespace Go.Proofs.YthmmmiknmkpbeaaDoor
theorem fnExactParsePatch_holds : Rows.FnExactParsePatchCardSaid := fnExactParsePatch.proved
end Go.Proofs.YthmmmiknmkpbeaaDoor
