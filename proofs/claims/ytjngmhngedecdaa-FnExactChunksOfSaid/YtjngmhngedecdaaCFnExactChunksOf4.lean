/- Part 4 of the proof of FnExactChunksOf: words, the Go functions' contracts, what they compute, and the law on plain values. Words that the kit's print.sh wrote for this seat are among it, as far as they are used. -/
import Derived.Test.YtjngmhngedecdaaCFnExactChunksOf1
import Derived.Test.YtjngmhngedecdaaCFnExactChunksOf2
import Derived.Test.YtjngmhngedecdaaCFnExactChunksOf3
section
namespace Go.Proofs.Ytjngmhngedecdaa.P
open Go.RowKit Go.Proofs.YtjngmhngedecdaaW.PrintWords Go.Proofs.YtjngmhngedecdaaW.PrintLast Go.Proofs.YtjngmhngedecdaaW.PrintMore
attribute [local go_sem] max2_int min2_int max_two min_two max_three min_three max_four min_four
set_option linter.unusedVariables false
set_option linter.unusedSimpArgs false
def impl_chunkOf.f (k : Nat) (l0 : List ByteArray) (l1 : List ByteArray) (l2 : List ByteArray) : Option (Int × List ByteArray × List ByteArray × List ByteArray) := (impl_kindOf.f k l0 l1 l2).bind fun t1071 => ((slices_CloneS.f l0).bind fun t1072 => ((slices_CloneS.f l1).bind fun t1075 => ((slices_CloneS.f l2).bind fun t1078 => (some (t1071, t1072, t1075, t1078)))))
theorem impl_chunkOf.mono : ∀ a0 a1 a2 k, LeO (impl_chunkOf.f k a0 a1 a2) (impl_chunkOf.f (k + 1) a0 a1 a2) := by
 intro a0 a1 a2 k;unfold impl_chunkOf.f
 repeat' first
   | (with_reducible exact impl_kindOf.mono _ _ _ _)
   | (with_reducible exact LeO.refl _)
   | (with_reducible exact LeO.none _)
   | (with_reducible refine LeO.ite ?_ ?_)
   | (with_reducible refine LeO.bind ?_ (fun _ => ?_))
   | exact impl_kindOf.mono _ _ _ _
   | exact LeO.none _
   | refine LeO.ite ?_ ?_
   | refine LeO.bind ?_ (fun _ => ?_)
set_option maxHeartbeats 8000000 in
set_option maxRecDepth 100000 in
theorem impl_chunkOf.calls (k : Nat) (A0 : Option Addr) (c0 : Nat) (l0 : List ByteArray) (A1 : Option Addr) (c1 : Nat) (l1 : List ByteArray) (A2 : Option Addr) (c2 : Nat) (l2 : List ByteArray) (r1 : Int) (r2 : List ByteArray) (r3 : List ByteArray) (r4 : List ByteArray) (w : World) (hr0 : Kd.C Kd.string w A0 l0.length l0) (hc0 : l0.length ≤ c0) (hr1 : Kd.C Kd.string w A1 l1.length l1) (hc1 : l1.length ≤ c1) (hr2 : Kd.C Kd.string w A2 l2.length l2) (hc2 : l2.length ≤ c2) (h : impl_chunkOf.f k l0 l1 l2 = some (r1, r2, r3, r4)) :
  Calls Try.prog 127 #[.slice A0 l0.length c0, .slice A1 l1.length c1, .slice A2 l2.length c2] w fun e w' => ∃ v1_ v2_ v3_ : Value, e = .returned (.agg #[.int .i64 r1, v1_, v2_, v3_]) ∧ Kd.R Kd.string 9 w' w.heap.size (fun k_ => some k_ ≠ (v2_ : Value).ownBlock ∧ some k_ ≠ (v3_ : Value).ownBlock) v1_ r2 ∧ Kd.R Kd.string 9 w' w.heap.size (fun k_ => some k_ ≠ (v1_ : Value).ownBlock ∧ some k_ ≠ (v3_ : Value).ownBlock) v2_ r3 ∧ Kd.R Kd.string 9 w' w.heap.size (fun k_ => some k_ ≠ (v1_ : Value).ownBlock ∧ some k_ ≠ (v2_ : Value).ownBlock) v3_ r4 ∧ Below w.heap.size w w' := by
 have hu58 := Try.underlying58;have HR0 := Aside0.mk hr0;have HC0 := Aside0.mk hc0;clear hr0 hc0;have HR1 := Aside0.mk hr1;have HC1 := Aside0.mk hc1;clear hr1 hc1;have HR2 := Aside0.mk hr2;have HC2 := Aside0.mk hc2;clear hr2 hc2;have HB := Aside0.mk (Below.refl w.heap.size w);have H : ((impl_kindOf.f k l0 l1 l2).bind fun t1071 => ((slices_CloneS.f l0).bind fun t1072 => ((slices_CloneS.f l1).bind fun t1075 => ((slices_CloneS.f l2).bind fun t1078 => (some (t1071, t1072, t1075, t1078)))))) = some (r1, r2, r3, r4) := h;clear h;replace H := Option.bind_eq_some_iff.mp H;obtain ⟨t1071, A40, H⟩ := H;replace H : ((slices_CloneS.f l0).bind fun t1072 => ((slices_CloneS.f l1).bind fun t1075 => ((slices_CloneS.f l2).bind fun t1078 => (some (t1071, t1072, t1075, t1078))))) = some (r1, r2, r3, r4) := H;have A4 := Aside0.mk A40;clear A40;replace H := Option.bind_eq_some_iff.mp H;obtain ⟨t1072, A50, H⟩ := H;replace H : ((slices_CloneS.f l1).bind fun t1075 => ((slices_CloneS.f l2).bind fun t1078 => (some (t1071, t1072, t1075, t1078)))) = some (r1, r2, r3, r4) := H;have A5 := Aside0.mk A50;clear A50;replace H := Option.bind_eq_some_iff.mp H;obtain ⟨t1075, A60, H⟩ := H;replace H : ((slices_CloneS.f l2).bind fun t1078 => (some (t1071, t1072, t1075, t1078))) = some (r1, r2, r3, r4) := H;have A6 := Aside0.mk A60;clear A60;replace H := Option.bind_eq_some_iff.mp H;obtain ⟨t1078, A70, H⟩ := H;replace H : (some (t1071, t1072, t1075, t1078)) = some (r1, r2, r3, r4) := H;have A7 := Aside0.mk A70;clear A70;simp only [Option.some.injEq, Prod.mk.injEq] at H;obtain ⟨rfl, rfl, rfl, rfl⟩ := H;go_enter Try.func127, Try.ntmps127;go_wp2_with (first | ((with_reducible refine gate_dst (N := 6) rfl ?_);refine box_event ?hg (N := 6) ?hd (cs := #[.int .i64 0, .slice none 0 0, .slice none 0 0, .slice none 0 0]) (t := 58) ?hr ?_;(case hd => rfl);(case hg => rfl);(case hr => first | (go_simp;done) | (go_simp;rfl));intro gb1070 hg w8 hbox hb;have n0_ := Aside0.mk (below_step (bw_ HB.out) hb);have n1_ := Aside0.mk (hbox);have n2_ := Aside0.mk ((by rw [hg];exact (below_size (bw_ HB.out)) : w.heap.size ≤ gb1070));have n3_ := Aside0.mk ((by rw [hg];exact (below_size (bw_ HB.out)) : w.heap.size ≤ gb1070));clear HB;have HB := n0_;have BK1070 := n1_;have GW1070 := n2_;have GE1070 := n3_;clear n0_ n1_ n2_ n3_;clear hb hbox hg) | ((with_reducible refine gate_callee (f := 81) rfl ?_);refine goesL_ (some 10) rfl rfl Try.func81 (by kernel_rfl) rfl #[.slice A0 l0.length c0, .slice A1 l1.length c1, .slice A2 l2.length c2] rfl lf_ ?_;(with_reducible refine (impl_kindOf.calls k _ _ l0 _ _ l1 _ _ l2 t1071 _ ?side1 ?side2 ?side3 ?side4 ?side5 ?side6 A4.out).mono ?_);(case side1 => exact rc_ (Kd.C_below HR0.out HB.out));(case side2 => exact HC0.out);(case side3 => exact rc_ (Kd.C_below HR1.out HB.out));(case side4 => exact HC1.out);(case side5 => exact rc_ (Kd.C_below HR2.out HB.out));(case side6 => exact HC2.out);rintro e w' ⟨rfl, ⟨nd, rfl⟩⟩;refine ⟨_, rfl, ?_⟩;(try (rw [drewN_self w8];generalize hq_ : World.drewN w8 _ = w8;have n0_ : Aside0 (w8.heap[gb1070]? = some (.cells #[.int .i64 0, .slice none 0 0, .slice none 0 0, .slice none 0 0] 58 (0, 0))) := ⟨by rw [← hq_];exact (rb_ BK1070.out)⟩;have n1_ : Aside0 (Below w.heap.size w w8) := ⟨by rw [← hq_];exact (bw1_ HB.out GE1070.out)⟩;clear BK1070 HB hq_;have BK1070 := n0_;have HB := n1_;clear n0_ n1_))) | ((with_reducible refine gate_callee (f := 143) rfl ?_);refine goesL_ (some 12) rfl rfl Try.func143 (by kernel_rfl) rfl #[.slice A0 l0.length c0] rfl lf_ ?_;(with_reducible refine (slices_CloneS.calls _ _ l0 t1072 _ ?side1 ?side2 A5.out).mono ?_);(case side1 => exact rc_ (Kd.C_below HR0.out HB.out));(case side2 => exact HC0.out);rintro e w9 ⟨v1073, rfl, ho0, hb⟩;refine ⟨_, rfl, ?_⟩;have n0_ := Aside0.mk (Kd.R_lower ho0 (below_size (bw1_ HB.out GE1070.out)));have n1_ := Aside0.mk (blk_below (g := gb1070) (o := .cells #[.int .i64 0, .slice none 0 0, .slice none 0 0, .slice none 0 0] 58 (0, 0)) (rb_ BK1070.out) hb);have n2_ := Aside0.mk (below_step (bw1_ HB.out GE1070.out) hb);clear BK1070;clear HB;have HO1074 := n0_;have BK1070 := n1_;have HB := n2_;clear n0_ n1_ n2_;(try clear hb);(try clear hb2);(try clear hk);(try clear hi);(try clear ho0)) | ((with_reducible refine gate_callee (f := 143) rfl ?_);refine goesL_ (some 14) rfl rfl Try.func143 (by kernel_rfl) rfl #[.slice A1 l1.length c1] rfl lf_ ?_;(with_reducible refine (slices_CloneS.calls _ _ l1 t1075 _ ?side1 ?side2 A6.out).mono ?_);(case side1 => exact rc_ (Kd.C_below HR1.out HB.out));(case side2 => exact HC1.out);rintro e w10 ⟨v1076, rfl, ho0, hb⟩;refine ⟨_, rfl, ?_⟩;have n0_ := Aside0.mk (Kd.R_elder' (rr_ HO1074.out) (Kd.R_base ho0) hb);have n1_ := Aside0.mk (Kd.R_lower (Kd.R_new' ho0 (Kd.R_lt (rr_ HO1074.out))) (below_size (bw1_ HB.out GE1070.out)));have n2_ := Aside0.mk (blk_below (g := gb1070) (o := .cells #[.int .i64 0, .slice none 0 0, .slice none 0 0, .slice none 0 0] 58 (0, 0)) (rb_ BK1070.out) hb);have n3_ := Aside0.mk (below_step (bw1_ HB.out GE1070.out) hb);clear HO1074;clear BK1070;clear HB;have HO1074 := n0_;have HO1077 := n1_;have BK1070 := n2_;have HB := n3_;clear n0_ n1_ n2_ n3_;(try clear hb);(try clear hb2);(try clear hk);(try clear hi);(try clear ho0)) | ((with_reducible refine gate_callee (f := 143) rfl ?_);refine goesL_ (some 16) rfl rfl Try.func143 (by kernel_rfl) rfl #[.slice A2 l2.length c2] rfl lf_ ?_;(with_reducible refine (slices_CloneS.calls _ _ l2 t1078 _ ?side1 ?side2 A7.out).mono ?_);(case side1 => exact rc_ (Kd.C_below HR2.out HB.out));(case side2 => exact HC2.out);rintro e w11 ⟨v1079, rfl, ho0, hb⟩;refine ⟨_, rfl, ?_⟩;have n0_ := Aside0.mk (Kd.R_elder' (rr_ HO1074.out) (Kd.R_base ho0) hb);have n1_ := Aside0.mk (Kd.R_elder' (rr_ HO1077.out) (Kd.R_base ho0) hb);have n2_ := Aside0.mk (Kd.R_lower (Kd.R_new' (Kd.R_new' ho0 (Kd.R_lt (rr_ HO1074.out))) (Kd.R_lt (rr_ HO1077.out))) (below_size (bw1_ HB.out GE1070.out)));have n3_ := Aside0.mk (blk_below (g := gb1070) (o := .cells #[.int .i64 0, .slice none 0 0, .slice none 0 0, .slice none 0 0] 58 (0, 0)) (rb_ BK1070.out) hb);have n4_ := Aside0.mk (below_step (bw1_ HB.out GE1070.out) hb);clear HO1074;clear HO1077;clear BK1070;clear HB;have HO1074 := n0_;have HO1077 := n1_;have HO1080 := n2_;have BK1070 := n3_;have HB := n4_;clear n0_ n1_ n2_ n3_ n4_;(try clear hb);(try clear hb2);(try clear hk);(try clear hi);(try clear ho0);obtain ⟨Ao12, co12, eo12⟩ := Kd.R_slice HO1080.out;subst eo12;obtain ⟨Ao13, co13, eo13⟩ := Kd.R_slice HO1077.out;subst eo13;obtain ⟨Ao14, co14, eo14⟩ := Kd.R_slice HO1074.out;subst eo14;have hcz15_0 : w11.cell? ⟨gb1070, 0, none⟩ = some (.int .i64 0) := (blk_cell BK1070.out 0).trans rfl;have hcz15_1 : w11.cell? ⟨gb1070, 1, none⟩ = some (.slice none 0 0) := (blk_cell BK1070.out 1).trans rfl;have hcz15_2 : w11.cell? ⟨gb1070, 2, none⟩ = some (.slice none 0 0) := (blk_cell BK1070.out 2).trans rfl;have hcz15_3 : w11.cell? ⟨gb1070, 3, none⟩ = some (.slice none 0 0) := (blk_cell BK1070.out 3).trans rfl;have hfz15_0 := blk_frozen BK1070.out 0;have hfz15_1 := blk_frozen BK1070.out 1;have hfz15_2 := blk_frozen BK1070.out 2;have hfz15_3 := blk_frozen BK1070.out 3));refine bodyPost_ret (results_cell_row rfl _ _ gb1070 58 #[.int .i64 t1071, .slice Ao14 t1072.length co14, .slice Ao13 t1075.length co13, .slice Ao12 t1078.length co12] (0, 0) _ rfl (by (with_reducible repeat (first | refine blk_drewN ?_ _ | refine blk_drew ?_ | refine blk_alloc ?_ _));refine blk_put (cs := #[.int .i64 t1071, .slice Ao14 t1072.length co14, .slice Ao13 t1075.length co13, .slice none 0 0]) ?_ 3 _ rfl;(with_reducible repeat (first | refine blk_drewN ?_ _ | refine blk_drew ?_ | refine blk_alloc ?_ _));refine blk_put (cs := #[.int .i64 t1071, .slice Ao14 t1072.length co14, .slice none 0 0, .slice none 0 0]) ?_ 2 _ rfl;(with_reducible repeat (first | refine blk_drewN ?_ _ | refine blk_drew ?_ | refine blk_alloc ?_ _));refine blk_put (cs := #[.int .i64 t1071, .slice none 0 0, .slice none 0 0, .slice none 0 0]) ?_ 1 _ rfl;(with_reducible repeat (first | refine blk_drewN ?_ _ | refine blk_drew ?_ | refine blk_alloc ?_ _));refine blk_put (cs := #[.int .i64 0, .slice none 0 0, .slice none 0 0, .slice none 0 0]) ?_ 0 _ rfl;(with_reducible repeat (first | refine blk_drewN ?_ _ | refine blk_drew ?_ | refine blk_alloc ?_ _));exact BK1070.out) Try.underlying58 rfl (by kernel_rfl)) rfl ?_;exact ⟨_, _, _, by first | rfl | (simp [errW_none, errW_some] <;> rfl) | (simp [*, errW_none, errW_some] <;> rfl), by (with_reducible repeat (first | apply Kd.R_alloc | apply Kd.R_drewN | apply Kd.R_drew));exact Kd.R_mono (Kd.R_far (p := ⟨gb1070, 3, none⟩) (Kd.R_far (p := ⟨gb1070, 2, none⟩) (Kd.R_far (p := ⟨gb1070, 1, none⟩) (Kd.R_far (p := ⟨gb1070, 0, none⟩) (Kd.R_types HO1074.out BK1070.out (by decide)) (fun _ hk => hk.2) (.int .i64 t1071)) (fun _ hk => hk.2) (.slice Ao14 t1072.length co14)) (fun _ hk => hk.2) (.slice Ao13 t1075.length co13)) (fun _ hk => hk.2) (.slice Ao12 t1078.length co12)) (fun _ hk => ⟨hk.1.1.2, hk.1.2⟩), by (with_reducible repeat (first | apply Kd.R_alloc | apply Kd.R_drewN | apply Kd.R_drew));exact Kd.R_mono (Kd.R_far (p := ⟨gb1070, 3, none⟩) (Kd.R_far (p := ⟨gb1070, 2, none⟩) (Kd.R_far (p := ⟨gb1070, 1, none⟩) (Kd.R_far (p := ⟨gb1070, 0, none⟩) (Kd.R_types HO1077.out BK1070.out (by decide)) (fun _ hk => hk.2) (.int .i64 t1071)) (fun _ hk => hk.2) (.slice Ao14 t1072.length co14)) (fun _ hk => hk.2) (.slice Ao13 t1075.length co13)) (fun _ hk => hk.2) (.slice Ao12 t1078.length co12)) (fun _ hk => ⟨hk.1.1.2, hk.1.2⟩), by (with_reducible repeat (first | apply Kd.R_alloc | apply Kd.R_drewN | apply Kd.R_drew));exact Kd.R_mono (Kd.R_far (p := ⟨gb1070, 3, none⟩) (Kd.R_far (p := ⟨gb1070, 2, none⟩) (Kd.R_far (p := ⟨gb1070, 1, none⟩) (Kd.R_far (p := ⟨gb1070, 0, none⟩) (Kd.R_types HO1080.out BK1070.out (by decide)) (fun _ hk => hk.2) (.int .i64 t1071)) (fun _ hk => hk.2) (.slice Ao14 t1072.length co14)) (fun _ hk => hk.2) (.slice Ao13 t1075.length co13)) (fun _ hk => hk.2) (.slice Ao12 t1078.length co12)) (fun _ hk => ⟨hk.1.1.2, hk.1.2⟩), bw1_ HB.out GE1070.out⟩
end Go.Proofs.Ytjngmhngedecdaa.P
end
section
namespace Go.Proofs.Ytjngmhngedecdaa.P
open Go.RowKit Go.Proofs.YtjngmhngedecdaaW.PrintWords Go.Proofs.YtjngmhngedecdaaW.PrintLast Go.Proofs.YtjngmhngedecdaaW.PrintMore
attribute [local go_sem] max2_int min2_int max_two min_two max_three min_three max_four min_four
set_option linter.unusedVariables false
set_option linter.unusedSimpArgs false
mutual
def impl_commons.l0 : Nat → List ByteArray → List ByteArray → List (List Int) → Int → Int → Option ((List (List Int)))
 | 0, _, _, _, _, _ => none
 | k + 1, x0, x1, x5, x14, x15 => if x15 < x14 then (if 0 ≤ (wrap64 ((x1.length : Int) + 1)) then (if (wrap64 ((x1.length : Int) + 1) : Int).toNat ≤ 35184372088832 then (if 0 ≤ x15 then (if x15 < (x5.length : Int) then (impl_commons.l0 k x0 x1 (x5.set (x15 : Int).toNat (List.replicate (wrap64 ((x1.length : Int) + 1) : Int).toNat 0)) x14 (wrap64 (x15 + 1))) else (none)) else (none)) else (none)) else (none)) else (impl_commons.l1 k x0 x1 x5 (wrap64 ((x0.length : Int) - 1)))
def impl_commons.l1 : Nat → List ByteArray → List ByteArray → List (List Int) → Int → Option ((List (List Int)))
 | 0, _, _, _, _ => none
 | k + 1, x0, x1, x5, x7 => if x7 ≥ 0 then (impl_commons.l2 k x0 x1 x5 x7 (wrap64 ((x1.length : Int) - 1))) else (some x5)
def impl_commons.l2 : Nat → List ByteArray → List ByteArray → List (List Int) → Int → Int → Option ((List (List Int)))
 | 0, _, _, _, _, _ => none
 | k + 1, x0, x1, x5, x7, x8 => if x8 ≥ 0 then (if 0 ≤ x7 then (if x7 < (x5.length : Int) then (if 0 ≤ (wrap64 (x7 + 1)) then (if (wrap64 (x7 + 1)) < (x5.length : Int) then (if 0 ≤ x8 then (if x8 < ((rd_L13 x5 (wrap64 (x7 + 1))).length : Int) then (if 0 ≤ (wrap64 (x8 + 1)) then (if (wrap64 (x8 + 1)) < ((rd_L13 x5 x7).length : Int) then (if x8 < ((rd_L13 x5 x7).length : Int) then ((some (x5.set (x7 : Int).toNat ((rd_L13 x5 x7).set (x8 : Int).toNat (mx (rd (rd_L13 x5 (wrap64 (x7 + 1))) x8) (rd (rd_L13 x5 x7) (wrap64 (x8 + 1))))) : List (List Int))).bind fun y951 => (if x7 < (x0.length : Int) then (if x8 < (x1.length : Int) then (if (rdOf ByteArray.empty x0 x7).toList = (rdOf ByteArray.empty x1 x8).toList then (if (wrap64 (x8 + 1)) < ((rd_L13 y951 (wrap64 (x7 + 1))).length : Int) then (if x8 < ((rd_L13 y951 x7).length : Int) then (impl_commons.l2 k x0 x1 (y951.set (x7 : Int).toNat ((rd_L13 y951 x7).set (x8 : Int).toNat (wrap64 ((rd (rd_L13 y951 (wrap64 (x7 + 1))) (wrap64 (x8 + 1))) + 1)))) x7 (wrap64 (x8 - 1))) else (none)) else (none)) else (impl_commons.l2 k x0 x1 y951 x7 (wrap64 (x8 - 1)))) else (none)) else (none))) else (none)) else (none)) else (none)) else (none)) else (none)) else (none)) else (none)) else (none)) else (none)) else (impl_commons.l1 k x0 x1 x5 (wrap64 (x7 - 1)))
end
def impl_commons.f (k : Nat) (l0 : List ByteArray) (l1 : List ByteArray) : Option ((List (List Int))) := if 0 ≤ (wrap64 ((l0.length : Int) + 1)) then (if (wrap64 ((l0.length : Int) + 1) : Int).toNat ≤ 11728124029610 then ((some (List.replicate (wrap64 ((l0.length : Int) + 1) : Int).toNat [] : List (List Int))).bind fun y937 => (impl_commons.l0 k l0 l1 y937 (y937.length : Int) 0)) else (none)) else (none)
theorem impl_commons.mono_l : ∀ k, (∀ y0 y1 y2 y3 y4, LeO (impl_commons.l0 k y0 y1 y2 y3 y4) (impl_commons.l0 (k + 1) y0 y1 y2 y3 y4)) ∧ (∀ y0 y1 y2 y3, LeO (impl_commons.l1 k y0 y1 y2 y3) (impl_commons.l1 (k + 1) y0 y1 y2 y3)) ∧ (∀ y0 y1 y2 y3 y4, LeO (impl_commons.l2 k y0 y1 y2 y3 y4) (impl_commons.l2 (k + 1) y0 y1 y2 y3 y4))
 | 0 => ⟨fun _ _ _ _ _ r h => by simp [impl_commons.l0] at h, fun _ _ _ _ r h => by simp [impl_commons.l1] at h, fun _ _ _ _ _ r h => by simp [impl_commons.l2] at h⟩
 | k + 1 => by
  obtain ⟨ih0, ih1, ih2⟩ := impl_commons.mono_l k
  refine ⟨?_, ?_, ?_⟩
  ·intro y0 y1 y2 y3 y4
   unfold impl_commons.l0
   repeat' first
   | (with_reducible exact ih0 _ _ _ _ _)
   | (with_reducible exact ih1 _ _ _ _)
   | (with_reducible exact ih2 _ _ _ _ _)
   | (with_reducible exact LeO.refl _)
   | (with_reducible exact LeO.none _)
   | (with_reducible refine LeO.ite ?_ ?_)
   | (with_reducible refine LeO.bind ?_ (fun _ => ?_))
   | exact ih0 _ _ _ _ _
   | exact ih1 _ _ _ _
   | exact ih2 _ _ _ _ _
   | exact LeO.none _
   | refine LeO.ite ?_ ?_
   | refine LeO.bind ?_ (fun _ => ?_)
  ·intro y0 y1 y2 y3
   unfold impl_commons.l1
   repeat' first
   | (with_reducible exact ih0 _ _ _ _ _)
   | (with_reducible exact ih1 _ _ _ _)
   | (with_reducible exact ih2 _ _ _ _ _)
   | (with_reducible exact LeO.refl _)
   | (with_reducible exact LeO.none _)
   | (with_reducible refine LeO.ite ?_ ?_)
   | (with_reducible refine LeO.bind ?_ (fun _ => ?_))
   | exact ih0 _ _ _ _ _
   | exact ih1 _ _ _ _
   | exact ih2 _ _ _ _ _
   | exact LeO.none _
   | refine LeO.ite ?_ ?_
   | refine LeO.bind ?_ (fun _ => ?_)
  ·intro y0 y1 y2 y3 y4
   unfold impl_commons.l2
   repeat' first
   | (with_reducible exact ih0 _ _ _ _ _)
   | (with_reducible exact ih1 _ _ _ _)
   | (with_reducible exact ih2 _ _ _ _ _)
   | (with_reducible exact LeO.refl _)
   | (with_reducible exact LeO.none _)
   | (with_reducible refine LeO.ite ?_ ?_)
   | (with_reducible refine LeO.bind ?_ (fun _ => ?_))
   | exact ih0 _ _ _ _ _
   | exact ih1 _ _ _ _
   | exact ih2 _ _ _ _ _
   | exact LeO.none _
   | refine LeO.ite ?_ ?_
   | refine LeO.bind ?_ (fun _ => ?_)
theorem impl_commons.mono : ∀ a0 a1 k, LeO (impl_commons.f k a0 a1) (impl_commons.f (k + 1) a0 a1) := by
 intro a0 a1 k;obtain ⟨ih0, ih1, ih2⟩ := impl_commons.mono_l k;unfold impl_commons.f
 repeat' first
   | (with_reducible exact ih0 _ _ _ _ _)
   | (with_reducible exact ih1 _ _ _ _)
   | (with_reducible exact ih2 _ _ _ _ _)
   | (with_reducible exact LeO.refl _)
   | (with_reducible exact LeO.none _)
   | (with_reducible refine LeO.ite ?_ ?_)
   | (with_reducible refine LeO.bind ?_ (fun _ => ?_))
   | exact ih0 _ _ _ _ _
   | exact ih1 _ _ _ _
   | exact ih2 _ _ _ _ _
   | exact LeO.none _
   | refine LeO.ite ?_ ?_
   | refine LeO.bind ?_ (fun _ => ?_)
def impl_commons.T13 : Bool × List (List Nat × List Nat) := (true, [([], []), ([], []), ([0, 1], [0, 1]), ([2], [2]), ([], []), ([], []), ([], []), ([6], [6]), ([5, 7], [5, 7]), ([8], [8]), ([], []), ([9, 10], [9, 10]), ([11], [11]), ([], []), ([], []), ([13, 14], [13, 14]), ([15], [15]), ([], []), ([17], [17]), ([16, 18], [16, 18]), ([19], [19]), ([12, 20], [12, 20]), ([3, 4, 0, 1, 2, 3, 4, 5, 6, 7, 8, 9, 10, 11, 12, 13, 14, 15, 16, 17, 18, 19, 20, 21], [3, 4]), ([22, 21, 0, 1, 2, 3, 4, 5, 6, 7, 8, 9, 10, 11, 12, 13, 14, 15, 16, 17, 18, 19, 20, 21], [21, 22])])
def impl_commons.B13 : List Nat := [0, 0, 3, 7, 0, 0, 0, 64, 224, 480, 0, 2016, 4064, 0, 0, 24576, 57344, 0, 131072, 516096, 1040384, 2097120, 4194303, 8388607]
theorem impl_commons.tab13 : rtab .any (opsOf Try.f142 13) = impl_commons.T13 := by kernel_rfl
theorem impl_commons.bits13 : waitsOk impl_commons.T13.2 impl_commons.B13 = true := by kernel_rfl
def impl_commons.T14 : Bool × List (List Nat × List Nat) := (true, [([], []), ([], []), ([0, 1], [0, 1]), ([2], [2]), ([], []), ([], []), ([4, 5], [4, 5]), ([6], [6]), ([3, 7], [3, 7])])
def impl_commons.B14 : List Nat := [0, 0, 3, 7, 0, 0, 48, 112, 255]
theorem impl_commons.tab14 : rtab .any (opsOf Try.f142 14) = impl_commons.T14 := by kernel_rfl
theorem impl_commons.bits14 : waitsOk impl_commons.T14.2 impl_commons.B14 = true := by kernel_rfl
def impl_commons.T15 : Bool × List (List Nat × List Nat) := (true, [([], []), ([], []), ([0, 1], [0, 1]), ([2], [2]), ([], []), ([], []), ([], []), ([6], [6]), ([5, 7], [5, 7]), ([8], [8]), ([], []), ([10], [10]), ([9, 11], [9, 11]), ([12], [12]), ([13], [13]), ([3, 4, 0, 1, 2, 3, 4, 5, 6, 7, 8, 9, 10, 11, 12, 13, 14], [3, 4]), ([15, 14, 0, 1, 2, 3, 4, 5, 6, 7, 8, 9, 10, 11, 12, 13, 14], [14, 15])])
def impl_commons.B15 : List Nat := [0, 0, 3, 7, 0, 0, 0, 64, 224, 480, 0, 1024, 4064, 8160, 16352, 32767, 65535]
theorem impl_commons.tab15 : rtab .any (opsOf Try.f142 15) = impl_commons.T15 := by kernel_rfl
theorem impl_commons.bits15 : waitsOk impl_commons.T15.2 impl_commons.B15 = true := by kernel_rfl
set_option maxHeartbeats 8000000 in
set_option maxRecDepth 100000 in
theorem impl_commons.calls (k : Nat) (A0 : Option Addr) (c0 : Nat) (l0 : List ByteArray) (A1 : Option Addr) (c1 : Nat) (l1 : List ByteArray) (r : List (List Int)) (w : World) (hr0 : Kd.C Kd.string w A0 l0.length l0) (hc0 : l0.length ≤ c0) (hr1 : Kd.C Kd.string w A1 l1.length l1) (hc1 : l1.length ≤ c1) (h : impl_commons.f k l0 l1 = some r) :
  Calls Try.prog 142 #[.slice A0 l0.length c0, .slice A1 l1.length c1] w fun e w' => ∃ v0_ : Value, e = .returned (v0_) ∧ Kd.S (Kd.slice 2 (Kd.int .i64)) 130 w' w.heap.size (fun _ => True) v0_ r ∧ Below w.heap.size w w' := by
 have HR0 := Aside0.mk hr0;have HC0 := Aside0.mk hc0;clear hr0 hc0;have HR1 := Aside0.mk hr1;have HC1 := Aside0.mk hc1;clear hr1 hc1;have HB := Aside0.mk (Below.refl w.heap.size w);have H : (if 0 ≤ (wrap64 ((l0.length : Int) + 1)) then (if (wrap64 ((l0.length : Int) + 1) : Int).toNat ≤ 11728124029610 then ((some (List.replicate (wrap64 ((l0.length : Int) + 1) : Int).toNat [] : List (List Int))).bind fun y937 => (impl_commons.l0 k l0 l1 y937 (y937.length : Int) 0)) else (none)) else (none)) = some r := h;clear h;obtain ⟨ji3, hji3⟩ : ∃ j_ : Int, (wrap64 ((l0.length : Int) + 1)) = j_ := ⟨_, rfl⟩;(replace H : (if 0 ≤ (ji3) then (if (ji3 : Int).toNat ≤ 11728124029610 then ((some (List.replicate (ji3 : Int).toNat [] : List (List Int))).bind fun y937 => (impl_commons.l0 k l0 l1 y937 (y937.length : Int) 0)) else (none)) else (none)) = some r := by first | (rw [hji3] at H;exact H) | (simp only [hji3] at H ⊢;exact H));have hji3w : (IntKind.i64.wrap ((l0.length : Int) + 1)) = ji3 := (i64_w _).trans hji3;by_cases c4 : 0 ≤ (ji3)
 ·rw [if_pos c4] at H;have c4b0 := eq_true c4;have c4b1 : decide (0 ≤ (ji3)) = true := decide_eq_true c4;clear c4;by_cases c5 : (ji3 : Int).toNat ≤ 11728124029610
  ·rw [if_pos c5] at H;have c5b0 := eq_true c5;have c5b1 : decide ((ji3 : Int).toNat ≤ 11728124029610) = true := decide_eq_true c5;clear c5;obtain ⟨y937, hy937⟩ : ∃ y_ : List (List Int), y_ = (List.replicate (ji3 : Int).toNat []) := ⟨_, rfl⟩;(replace H : (impl_commons.l0 k l0 l1 y937 (y937.length : Int) 0) = some r := by first | (rw [hy937];with_reducible exact H) | (have H2_ := (Option.bind_some _ _).symm.trans H;rw [hy937];with_reducible exact H2_) | (have H2_ := (Option.bind_some _ _).symm.trans H;with_reducible exact H2_) | with_reducible exact H | (rw [hy937];exact H) | exact H);have Ny937 := Aside0.mk hy937;clear hy937;have H' := Aside0.mk H;clear H;go_enter Try.func142, Try.ntmps142;go_wp2_with (first | ((with_reducible refine gate_dst (N := 12) rfl ?_);refine Kd.S_make (Kd.slice 2 (Kd.int .i64)) _ 130 rfl (N := 12) rfl 164 _ _ rfl ji3 rfl rfl Try.underlying164 (.slice none 0 0) 24 info130 rfl (by decide) (by omega) [] (ok := fun _ => True) (okp := fun _ => True) ⟨_, rfl, Kd.R_nil _ _ _ _ _⟩ (fun _ hk => hk) trivial od_ (Nat.le_trans (Nat.mul_le_mul_right _ (od_ : ji3.toNat ≤ 11728124029610)) (by omega)) (Below.refl _ _) (Nat.le_refl _) ?_;intro v938 w6 ho7 hb hg_ hnew_;clear hg_ hnew_;(first | rw [← Ny937.out] at ho7 | (simp only [Int.reduceToNat] at ho7;rw [← Ny937.out] at ho7));have n0_ := Aside0.mk (Kd.S_lower ho7 (below_size (bw_ HB.out)));have n1_ := Aside0.mk (below_step (bw_ HB.out) hb);clear HB;have HO939 := n0_;have HB := n1_;clear n0_ n1_;clear hb ho7;obtain ⟨Ao8, co8, eo8⟩ := Kd.S_slice HO939.out;subst eo8));go_loopg [15] k (fun kq v15 w' => ∃ (x5_1 : List (List Int)) (x15_1 : Int), v15 = .int .i64 x15_1 ∧ Aside0 (impl_commons.l0 kq l0 l1 x5_1 (y937.length : Int) x15_1 = some r) ∧ Aside0 (kq ≤ k) ∧ Aside0 (Kd.S (Kd.slice 2 (Kd.int .i64)) 130 w' w.heap.size (fun _ => True) (.slice Ao8 y937.length co8) x5_1) ∧ Aside0 (Below w.heap.size w w'));(case atStart => exact ⟨(y937), (0), ls_, H', ⟨Nat.le_refl _⟩, ⟨rs_ HO939.out⟩, ⟨bw_ HB.out⟩⟩)
   case round =>
    clear H'
    try clear c1
    try clear p2
    try clear c4
    try clear c4b0
    try clear c4b1
    try clear c5
    try clear c5b0
    try clear c5b1
    try clear p6
    obtain ⟨x5_1, x15_1, rfl, HA, HK1, HO_5, HB⟩ := hrel
    have hl5_1 := (Kd.S_reads' HO_5.out).1
    rw [hl5_1] at HO_5
    (try simp only [hl5_1])
    cases gk with
    | zero => exact absurd HA.out (by simp [impl_commons.l0])
    | succ k1 =>
     have H := HA.out
     clear HA
     simp only [impl_commons.l0] at H
     by_cases c9 : x15_1 < (y937.length : Int)
     ·rw [if_pos c9] at H
      have c9b0 : decide (x15_1 < (y937.length : Int)) = true := decide_eq_true c9
      clear c9
      obtain ⟨ji10, hji10⟩ : ∃ j_ : Int, (wrap64 ((l1.length : Int) + 1)) = j_ := ⟨_, rfl⟩
      replace H : (if 0 ≤ (ji10) then (if (ji10 : Int).toNat ≤ 35184372088832 then (if 0 ≤ x15_1 then (if x15_1 < (x5_1.length : Int) then (impl_commons.l0 k1 l0 l1 (x5_1.set (x15_1 : Int).toNat (List.replicate (ji10 : Int).toNat 0)) (y937.length : Int) (wrap64 (x15_1 + 1))) else (none)) else (none)) else (none)) else (none)) = some r := by first | (rw [hji10] at H;exact H) | (simp only [hji10] at H ⊢;exact H)
      have hji10w : (IntKind.i64.wrap ((l1.length : Int) + 1)) = ji10 := (i64_w _).trans hji10
      by_cases c11 : 0 ≤ (ji10)
      ·rw [if_pos c11] at H
       have c11b0 := eq_true c11
       have c11b1 : decide (0 ≤ (ji10)) = true := decide_eq_true c11
       clear c11
       by_cases c12 : (ji10 : Int).toNat ≤ 35184372088832
       ·rw [if_pos c12] at H
        have c12b0 := eq_true c12
        have c12b1 : decide ((ji10 : Int).toNat ≤ 35184372088832) = true := decide_eq_true c12
        clear c12
        obtain ⟨y940, hy940⟩ : ∃ y_ : List Int, y_ = (List.replicate (ji10 : Int).toNat 0) := ⟨_, rfl⟩
        replace H : (if 0 ≤ x15_1 then (if x15_1 < (x5_1.length : Int) then (impl_commons.l0 k1 l0 l1 (x5_1.set (x15_1 : Int).toNat y940) (y937.length : Int) (wrap64 (x15_1 + 1))) else (none)) else (none)) = some r := by first | (rw [hy940];with_reducible exact H) | (have H2_ := (Option.bind_some _ _).symm.trans H;rw [hy940];with_reducible exact H2_) | (have H2_ := (Option.bind_some _ _).symm.trans H;with_reducible exact H2_) | with_reducible exact H | (rw [hy940];exact H) | exact H
        have Ny940 := Aside0.mk hy940
        clear hy940
        by_cases c13 : 0 ≤ x15_1
        ·rw [if_pos c13] at H
         have c13b0 : decide (0 ≤ x15_1) = true := decide_eq_true c13
         clear c13
         by_cases c14 : x15_1 < (x5_1.length : Int)
         ·rw [if_pos c14] at H
          have c14b0 : decide (x15_1 < (x5_1.length : Int)) = true := decide_eq_true c14
          clear c14
          obtain ⟨y943, hy943⟩ : ∃ y_ : List (List Int), y_ = (x5_1.set (x15_1 : Int).toNat y940) := ⟨_, rfl⟩
          replace H : (impl_commons.l0 k1 l0 l1 y943 (y937.length : Int) (wrap64 (x15_1 + 1))) = some r := by first | (rw [hy943];with_reducible exact H) | (have H2_ := (Option.bind_some _ _).symm.trans H;rw [hy943];with_reducible exact H2_) | (have H2_ := (Option.bind_some _ _).symm.trans H;with_reducible exact H2_) | with_reducible exact H | (rw [hy943];exact H) | exact H
          have Ny943 := Aside0.mk hy943
          clear hy943
          have H' := Aside0.mk H
          clear H
          go_wp2_with (first | ((with_reducible refine gate_dst (N := 23) rfl ?_);refine Kd.R_make (Kd.int .i64) _ 2 rfl (N := 23) rfl 130 _ _ rfl ji10 rfl rfl Try.underlying130 (.int .i64 0) 8 info2 rfl (by decide) (by omega) 0 (ok := fun _ => True) (okp := fun _ => True) rfl (fun _ hk => hk) trivial od_ (Nat.le_trans (Nat.mul_le_mul_right _ (od_ : ji10.toNat ≤ 35184372088832)) (by omega)) (Below.refl _ _) (Nat.le_refl _) ?_;intro v941 w16 ho17 hb hg_ hnew_;clear hg_ hnew_;(first | rw [← Ny940.out] at ho17 | (simp only [Int.reduceToNat] at ho17;rw [← Ny940.out] at ho17));have n0_ := Aside0.mk (Kd.S_elder' (rs_ HO_5.out) (Kd.R_base ho17) hb);have n1_ := Aside0.mk (Kd.R_lower ho17 (below_size (bw_ HB.out)));have n2_ := Aside0.mk (below_step (bw_ HB.out) hb);clear HO_5;clear HB;have HO_5 := n0_;have HO942 := n1_;have HB := n2_;clear n0_ n1_ n2_;clear hb ho17;have p15 : 0 ≤ (x15_1 : Int) := od_;have q15 : (x15_1 : Int) < ((x5_1.length : Int) : Int) := od_;obtain ⟨go15, co15, eo15, gb15, gl15, cl15, HG15⟩ := Kd.S_form HO_5.out (by omega);(first | cases eo15 | (injection eo15 with ea_ en_ ec_;(first | subst ea_ | (injection ea_ with ea_;subst ea_));subst ec_;clear en_));have GB15 := Aside0.mk gb15;have GG15 := Aside0.mk HG15;clear gb15 gl15 HG15;obtain ⟨_, ce15, hcl15, hM15, hcc15, hfr15, _, _⟩ := Kd.S_elem HO_5.out [] (x15_1 : Int) p15 q15;obtain ⟨ve15_0, rfl, ge15_0⟩ := hM15;have hx15_0 := hcc15 0 _ rfl;have hf15_0 := hfr15 0;(try simp only [show ((Kd.slice 2 (Kd.int .i64))).sz = 1 from rfl, Nat.mul_one, Nat.add_zero] at hx15_0);(try simp only [show ((Kd.slice 2 (Kd.int .i64))).sz = 1 from rfl, Nat.mul_one, Nat.add_zero] at hf15_0);((try clear hM15);clear hcl15 hcc15 hfr15);replace p15 := eq_true p15;replace q15 := eq_true q15;obtain ⟨Ao18, co18, eo18⟩ := Kd.R_slice HO942.out;subst eo18;have n_ := Aside0.mk (Kd.S_mono (ok' := (fun k_ => some k_ ≠ (.slice Ao18 y940.length co18 : Value).ownBlock)) HO_5.out (fun k_ hk => hk.2));clear HO_5;have HO_5 := n_;clear n_;have HX19 := Aside0.mk (show Kd.S (Kd.slice 2 (Kd.int .i64)) 130 w16 w.heap.size (fun k_ => ((fun _ => True)) k_ ∧ ¬ ((fun k_ => some k_ = (.slice Ao18 y940.length co18 : Value).ownBlock)) k_) (.slice (some ⟨go15, 0, none⟩) x5_1.length co8) x5_1 from (by (with_reducible repeat (first | apply Kd.S_alloc | apply Kd.S_drewN | apply Kd.S_drew));exact Kd.S_mono HO_5.out (fun k_ hk => ⟨trivial, fun e_ => hk e_⟩)));obtain ⟨oki19, ce19, hcl19, hM19, hcc19, hfr19, hoki19, hH19⟩ := Kd.S_elem HX19.out [] (x15_1 : Int) od_ (by have h_ : (x15_1 : Int) < ((x5_1.length : Int) : Int) := od_;first | exact h_ | (have e_ := (Kd.S_reads' HO_5.out).1;omega) | simpa using h_);obtain ⟨ve19_0, rfl, ge19_0⟩ := hM19;have HP19 := Kd.S_seg hH19 od_ (by have h_ : (x15_1 : Int) < ((x5_1.length : Int) : Int) := od_;first | exact h_ | (have e_ := (Kd.S_reads' HO_5.out).1;omega) | simpa using h_) (seg := [.slice Ao18 y940.length co18]) (j := 0) (show 1 ≤ 1 from by decide) (x' := y940) (Kd.M_row (Kd.R_mono (Kd.R_tight rfl (Kd.R_mono (ok' := fun k_ => ((fun _ => True)) k_ ∧ k_ ≠ go15) (Kd.R_apart' (HO942.out) (Kd.S_typed HO_5.out) (by decide)) (fun k_ hk => ⟨trivial, fun e_ => (hk.2) (by rw [e_];rfl)⟩))) (fun _ h_ => Or.inr (h_)))) (fun _ hk => hk) (fun k_ hk_ => ((Kd.R_mono (ok' := fun k_ => ((fun _ => True)) k_ ∧ k_ ≠ go15) (Kd.R_apart' (HO942.out) (Kd.S_typed HO_5.out) (by decide)) (fun k_ hk => ⟨trivial, fun e_ => (hk.2) (by rw [e_];rfl)⟩))).1 k_ hk_.symm);have hx19_0 := hcc19 0 _ rfl;(try simp only [show ((Kd.slice 2 (Kd.int .i64))).sz = 1 from rfl, Nat.mul_one, Nat.add_zero] at hx19_0);have hf19_0 := hfr19 0;(try simp only [show ((Kd.slice 2 (Kd.int .i64))).sz = 1 from rfl, Nat.mul_one, Nat.add_zero] at hf19_0);((try clear hM19);clear hcl19 hcc19 hfr19 hoki19 hH19);(try simp only [show ((Kd.slice 2 (Kd.int .i64))).sz = 1 from rfl, Nat.mul_one, Nat.add_zero] at HP19)) | ((with_reducible refine gate_store (t := 130) (p := 24) rfl ?_);refine store_event (t := 130) (p := 24) (v := ?vo_w20) (w1 := (w16.setCell ⟨go15, (x15_1 : Int).toNat, none⟩ (.slice Ao18 y940.length co18))) ?hg ?ho ?hn ?hr ?_;(case ho => rfl);(case hg => rfl);(case hn => rfl);(case hr => first | (go_simp;done) | (go_simp;rfl));intro w20 hw;have hg : w16.grownBy w20 (some go15) := (by rw [hw];exact HP19.2);have hp_ : Kd.S (Kd.slice 2 (Kd.int .i64)) 130 w20 w.heap.size (fun _ => True) (.slice (some ⟨go15, 0, none⟩) x5_1.length co8) y943 := (by rw [hw, Ny943.out];exact HP19.1);clear HP19;have n0_ := Aside0.mk (hp_);have n1_ := Aside0.mk ((by rw [hw];exact below_set (HB.out) GB15.out : Below w.heap.size w w20));clear HO_5;clear HB;clear HO942;have HO_5 := n0_;have HB := n1_;clear n0_ n1_;clear hg hw hp_))
          (try simp only [← hl5_1])
          go_roundg k1
          case measure => have := HK1.out;omega
          case rel => exact ⟨(y943), (wrap64 (x15_1 + 1)), ls_, H', ⟨by have := HK1.out;omega⟩, ⟨by (try simp only [hl5_1]);(with_reducible repeat (first | apply Kd.S_alloc | apply Kd.S_drewN | apply Kd.S_drew));exact HO_5.out⟩, ⟨bw_ HB.out⟩⟩
         ·rw [if_neg c14] at H
          exact absurd H (by simp)
        ·rw [if_neg c13] at H
         exact absurd H (by simp)
       ·rw [if_neg c12] at H
        exact absurd H (by simp)
      ·rw [if_neg c11] at H
       exact absurd H (by simp)
     ·rw [if_neg c9] at H
      have c9b0 : decide (x15_1 < (y937.length : Int)) = false := decide_eq_false c9
      (try (have c9b9 := c9b0;rw [hl5_1] at c9b9))
      clear c9
      have H' := Aside0.mk H
      clear H
      go_wp2
      go_loopg [7] k1 (fun kq v7 w' => ∃ (x5_2 : List (List Int)) (x7_2 : Int), v7 = .int .i64 x7_2 ∧ Aside0 (impl_commons.l1 kq l0 l1 x5_2 x7_2 = some r) ∧ Aside0 (kq ≤ k1) ∧ Aside0 (Kd.S (Kd.slice 2 (Kd.int .i64)) 130 w' w.heap.size (fun _ => True) (.slice Ao8 x5_1.length co8) x5_2) ∧ Aside0 (Below w.heap.size w w'))
      case atStart => exact ⟨(x5_1), (wrap64 ((l0.length : Int) - 1)), ls_, H', ⟨Nat.le_refl _⟩, ⟨by (try simp only [hl5_1]);(with_reducible repeat (first | apply Kd.S_alloc | apply Kd.S_drewN | apply Kd.S_drew));exact HO_5.out⟩, ⟨bw_ HB.out⟩⟩
      case round =>
       clear H'
       try clear c1
       try clear p1
       try clear q1
       try clear hx1
       try clear p2
       try clear c4
       try clear c4b0
       try clear c4b1
       try clear c5
       try clear c5b0
       try clear c5b1
       try clear p6
       try clear c9
       try clear c9b0
       try clear c11
       try clear c11b0
       try clear c11b1
       try clear c12
       try clear c12b0
       try clear c12b1
       try clear c13
       try clear c13b0
       try clear c14
       try clear c14b0
       try clear c15
       try clear p15
       try clear q15
       try clear hx15
       try clear hf15
       try clear c19
       try clear hx19
       try clear hf19
       try clear hx15_0
       try clear hx19_0
       try clear p15
       try clear p2
       try clear p6
       try clear q15
       obtain ⟨x5_2, x7_2, rfl, HA, HK2, HO_5, HB⟩ := hrel
       have hl5_2 := (Kd.S_reads' HO_5.out).1
       rw [hl5_2] at HO_5
       (try simp only [hl5_2])
       cases gk with
       | zero => exact absurd HA.out (by simp [impl_commons.l1])
       | succ k2 =>
        have H := HA.out
        clear HA
        simp only [impl_commons.l1] at H
        by_cases c21 : x7_2 ≥ 0
        ·rw [if_pos c21] at H
         have c21b0 : decide (0 ≤ x7_2) = true := decide_eq_true c21
         clear c21
         have H' := Aside0.mk H
         clear H
         go_wp2
         go_loopg [8] k2 (fun kq v8 w' => ∃ (x5_3 : List (List Int)) (x8_3 : Int), v8 = .int .i64 x8_3 ∧ Aside0 (impl_commons.l2 kq l0 l1 x5_3 x7_2 x8_3 = some r) ∧ Aside0 (kq ≤ k2) ∧ Aside0 (Kd.S (Kd.slice 2 (Kd.int .i64)) 130 w' w.heap.size (fun _ => True) (.slice Ao8 x5_2.length co8) x5_3) ∧ Aside0 (Below w.heap.size w w'))
         case atStart => exact ⟨(x5_2), (wrap64 ((l1.length : Int) - 1)), ls_, H', ⟨Nat.le_refl _⟩, ⟨by (try simp only [hl5_1]);(try simp only [hl5_2]);(with_reducible repeat (first | apply Kd.S_alloc | apply Kd.S_drewN | apply Kd.S_drew));exact HO_5.out⟩, ⟨bw_ HB.out⟩⟩
         case round =>
          clear H'
          try clear c1
          try clear p1
          try clear q1
          try clear hx1
          try clear c2
          try clear p2
          try clear c4
          try clear c4b0
          try clear c4b1
          try clear c5
          try clear c5b0
          try clear c5b1
          try clear p6
          try clear c9
          try clear c9b0
          try clear c11
          try clear c11b0
          try clear c11b1
          try clear c12
          try clear c12b0
          try clear c12b1
          try clear c13
          try clear c13b0
          try clear c14
          try clear c14b0
          try clear c15
          try clear p15
          try clear q15
          try clear hx15
          try clear hf15
          try clear c19
          try clear hx19
          try clear hf19
          try clear c21
          try clear c21b0
          try clear hx15_0
          try clear hx19_0
          try clear p1
          try clear p15
          try clear p2
          try clear p6
          try clear q1
          try clear q15
          obtain ⟨x5_3, x8_3, rfl, HA, HK3, HO_5, HB⟩ := hrel
          have hl5_3 := (Kd.S_reads' HO_5.out).1
          rw [hl5_3] at HO_5
          (try simp only [hl5_3])
          cases gk with
          | zero => exact absurd HA.out (by simp [impl_commons.l2])
          | succ k3 =>
           have H := HA.out
           clear HA
           simp only [impl_commons.l2] at H
           by_cases c22 : x8_3 ≥ 0
           ·rw [if_pos c22] at H
            have c22b0 : decide (0 ≤ x8_3) = true := decide_eq_true c22
            clear c22
            by_cases c23 : 0 ≤ x7_2
            ·rw [if_pos c23] at H
             have c23b0 : decide (0 ≤ x7_2) = true := decide_eq_true c23
             clear c23
             by_cases c24 : x7_2 < (x5_3.length : Int)
             ·rw [if_pos c24] at H
              have c24b0 : decide (x7_2 < (x5_3.length : Int)) = true := decide_eq_true c24
              clear c24
              obtain ⟨ji25, hji25⟩ : ∃ j_ : Int, (wrap64 (x7_2 + 1)) = j_ := ⟨_, rfl⟩
              replace H : (if 0 ≤ (ji25) then (if (ji25) < (x5_3.length : Int) then (if 0 ≤ x8_3 then (if x8_3 < ((rd_L13 x5_3 (ji25)).length : Int) then (if 0 ≤ (wrap64 (x8_3 + 1)) then (if (wrap64 (x8_3 + 1)) < ((rd_L13 x5_3 x7_2).length : Int) then (if x8_3 < ((rd_L13 x5_3 x7_2).length : Int) then ((some (x5_3.set (x7_2 : Int).toNat ((rd_L13 x5_3 x7_2).set (x8_3 : Int).toNat (mx (rd (rd_L13 x5_3 (ji25)) x8_3) (rd (rd_L13 x5_3 x7_2) (wrap64 (x8_3 + 1))))) : List (List Int))).bind fun y951 => (if x7_2 < (l0.length : Int) then (if x8_3 < (l1.length : Int) then (if (rdOf ByteArray.empty l0 x7_2).toList = (rdOf ByteArray.empty l1 x8_3).toList then (if (wrap64 (x8_3 + 1)) < ((rd_L13 y951 (ji25)).length : Int) then (if x8_3 < ((rd_L13 y951 x7_2).length : Int) then (impl_commons.l2 k3 l0 l1 (y951.set (x7_2 : Int).toNat ((rd_L13 y951 x7_2).set (x8_3 : Int).toNat (wrap64 ((rd (rd_L13 y951 (ji25)) (wrap64 (x8_3 + 1))) + 1)))) x7_2 (wrap64 (x8_3 - 1))) else (none)) else (none)) else (impl_commons.l2 k3 l0 l1 y951 x7_2 (wrap64 (x8_3 - 1)))) else (none)) else (none))) else (none)) else (none)) else (none)) else (none)) else (none)) else (none)) else (none)) = some r := by first | (rw [hji25] at H;exact H) | (simp only [hji25] at H ⊢;exact H)
              have hji25w : (IntKind.i64.wrap (x7_2 + 1)) = ji25 := (i64_w _).trans hji25
              by_cases c26 : 0 ≤ (ji25)
              ·rw [if_pos c26] at H
               have c26b0 : decide (0 ≤ (ji25)) = true := decide_eq_true c26
               clear c26
               by_cases c27 : (ji25) < (x5_3.length : Int)
               ·rw [if_pos c27] at H
                have c27b0 : decide ((ji25) < (x5_3.length : Int)) = true := decide_eq_true c27
                clear c27
                by_cases c28 : 0 ≤ x8_3
                ·rw [if_pos c28] at H
                 have c28b0 : decide (0 ≤ x8_3) = true := decide_eq_true c28
                 clear c28
                 by_cases c29 : x8_3 < ((rd_L13 x5_3 (ji25)).length : Int)
                 ·rw [if_pos c29] at H
                  have c29b0 : decide (x8_3 < ((rd_L13 x5_3 (ji25)).length : Int)) = true := decide_eq_true c29
                  clear c29
                  obtain ⟨ji30, hji30⟩ : ∃ j_ : Int, (wrap64 (x8_3 + 1)) = j_ := ⟨_, rfl⟩
                  replace H : (if 0 ≤ (ji30) then (if (ji30) < ((rd_L13 x5_3 x7_2).length : Int) then (if x8_3 < ((rd_L13 x5_3 x7_2).length : Int) then ((some (x5_3.set (x7_2 : Int).toNat ((rd_L13 x5_3 x7_2).set (x8_3 : Int).toNat (mx (rd (rd_L13 x5_3 (ji25)) x8_3) (rd (rd_L13 x5_3 x7_2) (ji30)))) : List (List Int))).bind fun y951 => (if x7_2 < (l0.length : Int) then (if x8_3 < (l1.length : Int) then (if (rdOf ByteArray.empty l0 x7_2).toList = (rdOf ByteArray.empty l1 x8_3).toList then (if (ji30) < ((rd_L13 y951 (ji25)).length : Int) then (if x8_3 < ((rd_L13 y951 x7_2).length : Int) then (impl_commons.l2 k3 l0 l1 (y951.set (x7_2 : Int).toNat ((rd_L13 y951 x7_2).set (x8_3 : Int).toNat (wrap64 ((rd (rd_L13 y951 (ji25)) (ji30)) + 1)))) x7_2 (wrap64 (x8_3 - 1))) else (none)) else (none)) else (impl_commons.l2 k3 l0 l1 y951 x7_2 (wrap64 (x8_3 - 1)))) else (none)) else (none))) else (none)) else (none)) else (none)) = some r := by first | (rw [hji30] at H;exact H) | (simp only [hji30] at H ⊢;exact H)
                  have hji30w : (IntKind.i64.wrap (x8_3 + 1)) = ji30 := (i64_w _).trans hji30
                  by_cases c31 : 0 ≤ (ji30)
                  ·rw [if_pos c31] at H
                   have c31b0 : decide (0 ≤ (ji30)) = true := decide_eq_true c31
                   clear c31
                   by_cases c32 : (ji30) < ((rd_L13 x5_3 x7_2).length : Int)
                   ·rw [if_pos c32] at H
                    have c32b0 : decide ((ji30) < ((rd_L13 x5_3 x7_2).length : Int)) = true := decide_eq_true c32
                    clear c32
                    obtain ⟨ji33, hji33⟩ : ∃ j_ : Int, (mx (rd (rd_L13 x5_3 (ji25)) x8_3) (rd (rd_L13 x5_3 x7_2) (ji30))) = j_ := ⟨_, rfl⟩
                    replace H : (if x8_3 < ((rd_L13 x5_3 x7_2).length : Int) then ((some (x5_3.set (x7_2 : Int).toNat ((rd_L13 x5_3 x7_2).set (x8_3 : Int).toNat (ji33)) : List (List Int))).bind fun y951 => (if x7_2 < (l0.length : Int) then (if x8_3 < (l1.length : Int) then (if (rdOf ByteArray.empty l0 x7_2).toList = (rdOf ByteArray.empty l1 x8_3).toList then (if (ji30) < ((rd_L13 y951 (ji25)).length : Int) then (if x8_3 < ((rd_L13 y951 x7_2).length : Int) then (impl_commons.l2 k3 l0 l1 (y951.set (x7_2 : Int).toNat ((rd_L13 y951 x7_2).set (x8_3 : Int).toNat (wrap64 ((rd (rd_L13 y951 (ji25)) (ji30)) + 1)))) x7_2 (wrap64 (x8_3 - 1))) else (none)) else (none)) else (impl_commons.l2 k3 l0 l1 y951 x7_2 (wrap64 (x8_3 - 1)))) else (none)) else (none))) else (none)) = some r := by first | (rw [hji33] at H;exact H) | (simp only [hji33] at H ⊢;exact H)
                    have hji33_ : (if (rd (rd_L13 x5_3 (ji25)) x8_3) < (rd (rd_L13 x5_3 x7_2) (ji30)) then (rd (rd_L13 x5_3 x7_2) (ji30)) else (rd (rd_L13 x5_3 (ji25)) x8_3)) = ji33 := hji33
                    by_cases c34 : x8_3 < ((rd_L13 x5_3 x7_2).length : Int)
                    ·rw [if_pos c34] at H
                     have c34b0 : decide (x8_3 < ((rd_L13 x5_3 x7_2).length : Int)) = true := decide_eq_true c34
                     clear c34
                     obtain ⟨y949, hy949⟩ : ∃ y_ : List Int, y_ = ((rd_L13 x5_3 x7_2).set (x8_3 : Int).toNat (ji33)) := ⟨_, rfl⟩
                     replace H : ((some (x5_3.set (x7_2 : Int).toNat y949 : List (List Int))).bind fun y951 => (if x7_2 < (l0.length : Int) then (if x8_3 < (l1.length : Int) then (if (rdOf ByteArray.empty l0 x7_2).toList = (rdOf ByteArray.empty l1 x8_3).toList then (if (ji30) < ((rd_L13 y951 (ji25)).length : Int) then (if x8_3 < ((rd_L13 y951 x7_2).length : Int) then (impl_commons.l2 k3 l0 l1 (y951.set (x7_2 : Int).toNat ((rd_L13 y951 x7_2).set (x8_3 : Int).toNat (wrap64 ((rd (rd_L13 y951 (ji25)) (ji30)) + 1)))) x7_2 (wrap64 (x8_3 - 1))) else (none)) else (none)) else (impl_commons.l2 k3 l0 l1 y951 x7_2 (wrap64 (x8_3 - 1)))) else (none)) else (none))) = some r := by first | (rw [hy949];with_reducible exact H) | (have H2_ := (Option.bind_some _ _).symm.trans H;rw [hy949];with_reducible exact H2_) | (have H2_ := (Option.bind_some _ _).symm.trans H;with_reducible exact H2_) | with_reducible exact H | (rw [hy949];exact H) | exact H
                     have Ny949 := Aside0.mk hy949
                     clear hy949
                     obtain ⟨y951, hy951⟩ : ∃ y_ : List (List Int), y_ = (x5_3.set (x7_2 : Int).toNat y949) := ⟨_, rfl⟩
                     replace H : (if x7_2 < (l0.length : Int) then (if x8_3 < (l1.length : Int) then (if (rdOf ByteArray.empty l0 x7_2).toList = (rdOf ByteArray.empty l1 x8_3).toList then (if (ji30) < ((rd_L13 y951 (ji25)).length : Int) then (if x8_3 < ((rd_L13 y951 x7_2).length : Int) then (impl_commons.l2 k3 l0 l1 (y951.set (x7_2 : Int).toNat ((rd_L13 y951 x7_2).set (x8_3 : Int).toNat (wrap64 ((rd (rd_L13 y951 (ji25)) (ji30)) + 1)))) x7_2 (wrap64 (x8_3 - 1))) else (none)) else (none)) else (impl_commons.l2 k3 l0 l1 y951 x7_2 (wrap64 (x8_3 - 1)))) else (none)) else (none)) = some r := by first | (rw [hy951];with_reducible exact H) | (have H2_ := (Option.bind_some _ _).symm.trans H;rw [hy951];with_reducible exact H2_) | (have H2_ := (Option.bind_some _ _).symm.trans H;with_reducible exact H2_) | with_reducible exact H | (rw [hy951];exact H) | exact H
                     have Ny951 := Aside0.mk hy951
                     clear hy951
                     by_cases c36 : x7_2 < (l0.length : Int)
                     ·rw [if_pos c36] at H
                      have c36b0 : decide (x7_2 < (l0.length : Int)) = true := decide_eq_true c36
                      clear c36
                      by_cases c37 : x8_3 < (l1.length : Int)
                      ·rw [if_pos c37] at H
                       have c37b0 : decide (x8_3 < (l1.length : Int)) = true := decide_eq_true c37
                       clear c37
                       by_cases c38 : (rdOf ByteArray.empty l0 x7_2).toList = (rdOf ByteArray.empty l1 x8_3).toList
                       ·rw [if_pos c38] at H
                        have c38b0 : ((rdOf ByteArray.empty l0 x7_2).toList == (rdOf ByteArray.empty l1 x8_3).toList) = true := beq_iff_eq.mpr c38
                        have c38b1 : ((rdOf ByteArray.empty l0 x7_2).toList != (rdOf ByteArray.empty l1 x8_3).toList) = false := bne_eq_false_iff_eq.mpr c38
                        clear c38
                        by_cases c39 : (ji30) < ((rd_L13 y951 (ji25)).length : Int)
                        ·rw [if_pos c39] at H
                         have c39b0 : decide ((ji30) < ((rd_L13 y951 (ji25)).length : Int)) = true := decide_eq_true c39
                         clear c39
                         by_cases c40 : x8_3 < ((rd_L13 y951 x7_2).length : Int)
                         ·rw [if_pos c40] at H
                          have c40b0 : decide (x8_3 < ((rd_L13 y951 x7_2).length : Int)) = true := decide_eq_true c40
                          clear c40
                          obtain ⟨y957, hy957⟩ : ∃ y_ : List Int, y_ = ((rd_L13 y951 x7_2).set (x8_3 : Int).toNat (wrap64 ((rd (rd_L13 y951 (ji25)) (ji30)) + 1))) := ⟨_, rfl⟩
                          replace H : (impl_commons.l2 k3 l0 l1 (y951.set (x7_2 : Int).toNat y957) x7_2 (wrap64 (x8_3 - 1))) = some r := by first | (rw [hy957];with_reducible exact H) | (have H2_ := (Option.bind_some _ _).symm.trans H;rw [hy957];with_reducible exact H2_) | (have H2_ := (Option.bind_some _ _).symm.trans H;with_reducible exact H2_) | with_reducible exact H | (rw [hy957];exact H) | exact H
                          have Ny957 := Aside0.mk hy957
                          clear hy957
                          obtain ⟨y959, hy959⟩ : ∃ y_ : List (List Int), y_ = (y951.set (x7_2 : Int).toNat y957) := ⟨_, rfl⟩
                          replace H : (impl_commons.l2 k3 l0 l1 y959 x7_2 (wrap64 (x8_3 - 1))) = some r := by first | (rw [hy959];with_reducible exact H) | (have H2_ := (Option.bind_some _ _).symm.trans H;rw [hy959];with_reducible exact H2_) | (have H2_ := (Option.bind_some _ _).symm.trans H;with_reducible exact H2_) | with_reducible exact H | (rw [hy959];exact H) | exact H
                          have Ny959 := Aside0.mk hy959
                          clear hy959
                          have H' := Aside0.mk H
                          clear H
                          try go_wp2
                          have n0_ := Aside0.mk (Kd.S_drew HO_5.out)
                          have n1_ := Aside0.mk (below_drew1 HB.out)
                          clear HO_5
                          clear HB
                          have HO_5 := n0_
                          have HB := n1_
                          clear n0_ n1_
                          have p944 : 0 ≤ (x7_2 : Int) := od_
                          have q944 : x7_2 < (x5_3.length : Int) := od_
                          obtain ⟨ad944, A944_0, c944_0, e944, hx944_0, hl944_0, hi944_0⟩ := at_L13 (Kd.S_reads' HO_5.out).2.2 x7_2 p944 q944
                          cases e944
                          obtain ⟨ce944, hce944, hMe944, hcc944⟩ := Kd.S_get HO_5.out [] x7_2 p944 (by first | exact q944 | exact od_ | (have e_ := (Kd.S_reads' HO_5.out).1;omega))
                          obtain ⟨ve944_0, rfl, ge944_0⟩ := hMe944
                          have hv944_0 := hcc944 0 _ rfl
                          rw [Nat.add_zero, show ((Kd.slice 2 (Kd.int .i64))).sz = 1 from rfl, Nat.mul_one] at hv944_0
                          replace hv944_0 := Option.some.inj (hv944_0.symm.trans hx944_0)
                          rw [hv944_0] at ge944_0
                          have HL944_0 := Aside0.mk (show Kd.R (Kd.int .i64) 2 _ _ _ _ (rd_L13 x5_3 x7_2) from ge944_0)
                          clear hv944_0 ge944_0
                          have HX944_0 := Aside0.mk hx944_0
                          clear hcc944 hce944
                          have HR944_0 := Aside0.mk hi944_0
                          have HC944_0 := Aside0.mk hl944_0
                          clear hi944_0 hl944_0
                          replace p944 := eq_true p944
                          replace q944 := eq_true q944
                          have p945 : 0 ≤ ((ji25) : Int) := od_
                          have q945 : (ji25) < (x5_3.length : Int) := od_
                          obtain ⟨ad945, A945_0, c945_0, e945, hx945_0, hl945_0, hi945_0⟩ := at_L13 (Kd.S_reads' HO_5.out).2.2 (ji25) p945 q945
                          obtain rfl : ad944 = ad945 := (by injection e945)
                          obtain ⟨ce945, hce945, hMe945, hcc945⟩ := Kd.S_get HO_5.out [] (ji25) p945 (by first | exact q945 | exact od_ | (have e_ := (Kd.S_reads' HO_5.out).1;omega))
                          obtain ⟨ve945_0, rfl, ge945_0⟩ := hMe945
                          have hv945_0 := hcc945 0 _ rfl
                          rw [Nat.add_zero, show ((Kd.slice 2 (Kd.int .i64))).sz = 1 from rfl, Nat.mul_one] at hv945_0
                          replace hv945_0 := Option.some.inj (hv945_0.symm.trans hx945_0)
                          rw [hv945_0] at ge945_0
                          have HL945_0 := Aside0.mk (show Kd.R (Kd.int .i64) 2 _ _ _ _ (rd_L13 x5_3 (ji25)) from ge945_0)
                          clear hv945_0 ge945_0
                          have HX945_0 := Aside0.mk hx945_0
                          clear hcc945 hce945
                          have HR945_0 := Aside0.mk hi945_0
                          have HC945_0 := Aside0.mk hl945_0
                          clear hi945_0 hl945_0
                          replace p945 := eq_true p945
                          replace q945 := eq_true q945
                          have p946 : 0 ≤ (x8_3 : Int) := od_
                          have q946 : x8_3 < ((rd_L13 x5_3 (ji25)).length : Int) := od_
                          obtain ⟨ad946, e946, hx946_0⟩ := Kd.at_int (by repeat (first | (with_reducible exact HR945_0.out) | (with_reducible refine Kd.C_alloc ?_ _) | (with_reducible refine Kd.C_drewN ?_ _) | (with_reducible refine Kd.C_drew ?_) | exact HR945_0.out)) x8_3 p946 q946
                          cases e946
                          replace p946 := eq_true p946
                          replace q946 := eq_true q946
                          have p947 : 0 ≤ (x7_2 : Int) := od_
                          have q947 : x7_2 < (x5_3.length : Int) := od_
                          obtain ⟨ad947, A947_0, c947_0, e947, hx947_0, hl947_0, hi947_0⟩ := at_L13 (Kd.S_reads' HO_5.out).2.2 x7_2 p947 q947
                          obtain rfl : ad944 = ad947 := (by injection e947)
                          obtain ⟨ce947, hce947, hMe947, hcc947⟩ := Kd.S_get HO_5.out [] x7_2 p947 (by first | exact q947 | exact od_ | (have e_ := (Kd.S_reads' HO_5.out).1;omega))
                          obtain ⟨ve947_0, rfl, ge947_0⟩ := hMe947
                          have hv947_0 := hcc947 0 _ rfl
                          rw [Nat.add_zero, show ((Kd.slice 2 (Kd.int .i64))).sz = 1 from rfl, Nat.mul_one] at hv947_0
                          replace hv947_0 := Option.some.inj (hv947_0.symm.trans hx947_0)
                          rw [hv947_0] at ge947_0
                          have HL947_0 := Aside0.mk (show Kd.R (Kd.int .i64) 2 _ _ _ _ (rd_L13 x5_3 x7_2) from ge947_0)
                          clear hv947_0 ge947_0
                          have HX947_0 := Aside0.mk hx947_0
                          clear hcc947 hce947
                          have HR947_0 := Aside0.mk hi947_0
                          have HC947_0 := Aside0.mk hl947_0
                          clear hi947_0 hl947_0
                          replace p947 := eq_true p947
                          replace q947 := eq_true q947
                          have ea_ := Option.some.inj (hx944_0.symm.trans hx947_0)
                          injection ea_ with ea_ en_ ec_
                          subst ea_
                          subst ec_
                          clear en_
                          have p948 : 0 ≤ ((ji30) : Int) := od_
                          have q948 : (ji30) < ((rd_L13 x5_3 x7_2).length : Int) := od_
                          obtain ⟨ad948, e948, hx948_0⟩ := Kd.at_int (by repeat (first | (with_reducible exact HR947_0.out) | (with_reducible refine Kd.C_alloc ?_ _) | (with_reducible refine Kd.C_drewN ?_ _) | (with_reducible refine Kd.C_drew ?_) | exact HR947_0.out)) (ji30) p948 q948
                          cases e948
                          replace p948 := eq_true p948
                          replace q948 := eq_true q948
                          have p35 : 0 ≤ (x8_3 : Int) := od_
                          have q35 : (x8_3 : Int) < (((rd_L13 x5_3 x7_2).length : Int) : Int) := od_
                          obtain ⟨go35, co35, eo35, gb35, gl35, cl35, HG35⟩ := Kd.R_form HL944_0.out (by omega)
                          (first | cases eo35 | (injection eo35 with ea_ en_ ec_;(first | subst ea_ | (injection ea_ with ea_;subst ea_));subst ec_;clear en_))
                          have GB35 := Aside0.mk gb35
                          have GG35 := Aside0.mk HG35
                          clear gb35 gl35 HG35
                          (first | simp only [add_plain] at hx948_0 | skip)
                          obtain ⟨hx35_0, hf35_0⟩ := Kd.R_celln 0 HL944_0.out (x8_3 : Int) p35 q35
                          replace p35 := eq_true p35
                          replace q35 := eq_true q35
                          have hq43 : (x7_2 : Int) < (x5_3.length : Int) := (by have h_ : (x7_2 : Int) < ((x5_3.length : Int) : Int) := od_;first | exact h_ | (have e_ := (Kd.S_reads' HO_5.out).1;omega) | simpa only [List.length_set, List.length_set] using h_)
                          obtain ⟨oki43, ce43, hcl43, hM43, hcc43, hok43, hbk43⟩ := Kd.S_borrow HO_5.out [] (x7_2 : Int) od_ hq43
                          obtain ⟨ve43_0, rfl, ge43_0⟩ := hM43
                          have hv43 := hcc43 0 _ rfl
                          rw [Nat.add_zero, show ((Kd.slice 2 (Kd.int .i64))).sz = 1 from rfl, Nat.mul_one] at hv43
                          replace hv43 := Option.some.inj (hv43.symm.trans HX944_0.out)
                          subst hv43
                          clear hcc43 hcl43
                          replace ge43_0 := (show Kd.R (Kd.int .i64) 2 _ _ _ _ (rd_L13 x5_3 x7_2) from ge43_0)
                          have HP43 := Kd.R_putg ge43_0 (x8_3 : Int) ji33
                          rw [← Ny949.out] at HP43
                          have HS43 := hbk43 HP43.2 (fun k_ e_ => by injection e_ with e_;subst e_;exact ge43_0.1 _ rfl) (x' := y949) (Kd.M_row HP43.1)
                          rw [← Ny951.out] at HS43
                          have HQ43 := Aside0.mk HS43
                          clear HP43 HS43 hbk43 hok43
                          refine start_ (n := 24) (S := fun w' => w'.cell? (ad944.add (x7_2).toNat) = some (.slice (some ⟨go35, 0, none⟩) (rd_L13 x5_3 x7_2).length c944_0) ∧ w'.cell? (ad944.add ((ji25)).toNat) = some (.slice (some ad946) (rd_L13 x5_3 (ji25)).length c945_0) ∧ w'.cell? (ad946.add (x8_3).toNat) = some (.int .i64 (rd (rd_L13 x5_3 (ji25)) x8_3)) ∧ w'.cell? (ad944.add (x7_2).toNat) = some (.slice (some ⟨go35, 0, none⟩) (rd_L13 x5_3 x7_2).length c944_0) ∧ w'.cell? ⟨go35, ((ji30)).toNat, none⟩ = some (.int .i64 (rd (rd_L13 x5_3 x7_2) (ji30)))) (ds := [23]) (mb_ 24 0) (by kernel_rfl) rfl rfl ⟨hx944_0, hx945_0, hx946_0, hx947_0, hx948_0⟩ (fun hHeld => ?_);refine with_tabW impl_commons.tab13 impl_commons.bits13 (fun HT_ HW_ => ?_)
                          generalize wr.drew = w42 at HO_5 HB GG35 HL944_0 HL945_0 HL947_0 HQ43 HR944_0 HR945_0 HR947_0 HX944_0 HX945_0 HX947_0 hf35_0 hx35_0 hx944_0 hx945_0 hx946_0 hx947_0 hx948_0 hHeld ⊢
                          refine pure_ (i := 0) (N := some 40) (v := ?_) (a' := ?_) (mb_ 24 1) rfl rfl (any_of HT_.out (by kernel_rfl)) (fun _ _ _ h => h) (Or.inl ⟨by rfl, ?_⟩) ?_ ?_
                          rotate_left
                          ·intro w'
                           go_simp
                           with_reducible rfl
                          rotate_left
                          ·simp only [Act.put, s0_, s1_, s2_, i64_w, i32_w]
                           rfl
                          refine pure_ (i := 1) (N := some 41) (v := ?_) (a' := ?_) (mb_ 24 3) rfl rfl (any_of HT_.out (by kernel_rfl)) (fun _ _ _ h => h) (Or.inl ⟨by rfl, ?_⟩) ?_ ?_
                          rotate_left
                          ·intro w'
                           go_simp
                           with_reducible rfl
                          rotate_left
                          ·simp only [Act.put, s0_, s1_, s2_, i64_w, i32_w]
                           rfl
                          refine pure_ (i := 2) (N := some 42) (v := ?_) (a' := ?_) (mb_ 24 7) rfl rfl (any_of HT_.out (by kernel_rfl)) (fun _ _ _ h => h) (Or.inl ⟨by rfl, ?_⟩) ?_ ?_
                          rotate_left
                          ·intro w'
                           go_simp
                           with_reducible rfl
                          rotate_left
                          ·simp only [Act.put, s0_, s1_, s2_, i64_w, i32_w]
                           rfl
                          refine pure_ (i := 4) (N := some 44) (v := ?_) (a' := ?_) (mb_ 24 23) rfl rfl (any_of HT_.out (by kernel_rfl)) (fun _ _ _ h => h) (Or.inl ⟨by rfl, ?_⟩) ?_ ?_
                          rotate_left
                          ·intro w'
                           go_simp
                           with_reducible rfl
                          rotate_left
                          ·simp only [Act.put, s0_, s1_, s2_, i64_w, i32_w]
                           rfl
                          refine pure_ (i := 5) (N := some 45) (v := ?_) (a' := ?_) (mb_ 24 55) rfl rfl (any_of HT_.out (by kernel_rfl)) (fun _ _ _ h => h) (Or.inl ⟨by rfl, ?_⟩) ?_ ?_
                          rotate_left
                          ·intro w'
                           go_simp
                           with_reducible rfl
                          rotate_left
                          ·simp only [Act.put, s0_, s1_, s2_, i64_w, i32_w]
                           rfl
                          refine pure_ (i := 6) (N := some 46) (v := ?_) (a' := ?_) (mb_ 24 119) rfl rfl (any_of HT_.out (by kernel_rfl)) (fun _ _ _ h => h) (Or.inl ⟨by rfl, ?_⟩) ?_ ?_
                          rotate_left
                          ·intro w'
                           go_simp
                           with_reducible rfl
                          rotate_left
                          ·simp only [Act.put, s0_, s1_, s2_, i64_w, i32_w]
                           rfl
                          refine pure_ (i := 7) (N := some 47) (v := ?_) (a' := ?_) (mb_ 24 247) rfl rfl (any_of HT_.out (by kernel_rfl)) (fun _ _ _ h => h) (Or.inl ⟨by rfl, ?_⟩) ?_ ?_
                          rotate_left
                          ·intro w'
                           go_simp
                           with_reducible rfl
                          rotate_left
                          ·simp only [Act.put, s0_, s1_, s2_, i64_w, i32_w]
                           rfl
                          refine pure_ (i := 8) (N := some 48) (v := ?_) (a' := ?_) (mb_ 24 503) rfl rfl (any_of HT_.out (by kernel_rfl)) (fun _ _ _ h => h) (Or.inl ⟨by rfl, ?_⟩) ?_ ?_
                          rotate_left
                          ·intro w'
                           go_simp
                           with_reducible rfl
                          rotate_left
                          ·simp only [Act.put, s0_, s1_, s2_, i64_w, i32_w]
                           rfl
                          refine pure_ (i := 10) (N := some 50) (v := ?_) (a' := ?_) (mb_ 24 1527) rfl rfl (any_of HT_.out (by kernel_rfl)) (fun _ _ _ h => h) (Or.inl ⟨by rfl, ?_⟩) ?_ ?_
                          rotate_left
                          ·intro w'
                           go_simp
                           with_reducible rfl
                          rotate_left
                          ·simp only [Act.put, s0_, s1_, s2_, i64_w, i32_w]
                           rfl
                          refine pure_ (i := 13) (N := some 53) (v := ?_) (a' := ?_) (mb_ 24 9719) rfl rfl (any_of HT_.out (by kernel_rfl)) (fun _ _ _ h => h) (Or.inl ⟨by rfl, ?_⟩) ?_ ?_
                          rotate_left
                          ·intro w'
                           go_simp
                           with_reducible rfl
                          rotate_left
                          ·simp only [Act.put, s0_, s1_, s2_, i64_w, i32_w]
                           rfl
                          refine pure_ (i := 14) (N := some 54) (v := ?_) (a' := ?_) (mb_ 24 26103) rfl rfl (any_of HT_.out (by kernel_rfl)) (fun _ _ _ h => h) (Or.inl ⟨by rfl, ?_⟩) ?_ ?_
                          rotate_left
                          ·intro w'
                           go_simp
                           with_reducible rfl
                          rotate_left
                          ·simp only [Act.put, s0_, s1_, s2_, i64_w, i32_w]
                           rfl
                          refine pure_ (i := 15) (N := some 55) (v := ?_) (a' := ?_) (mb_ 24 58871) rfl rfl (any_of HT_.out (by kernel_rfl)) (fun _ _ _ h => h) (Or.inl ⟨by rfl, ?_⟩) ?_ ?_
                          rotate_left
                          ·intro w'
                           go_simp
                           with_reducible rfl
                          rotate_left
                          ·simp only [Act.put, s0_, s1_, s2_, i64_w, i32_w]
                           rfl
                          refine pure_ (i := 17) (N := some 57) (v := ?_) (a' := ?_) (mb_ 24 189943) rfl rfl (any_of HT_.out (by kernel_rfl)) (fun _ _ _ h => h) (Or.inl ⟨by rfl, ?_⟩) ?_ ?_
                          rotate_left
                          ·intro w'
                           go_simp
                           with_reducible rfl
                          rotate_left
                          ·simp only [Act.put, s0_, s1_, s2_, i64_w, i32_w]
                           rfl
                          refine pure_ (i := 18) (N := some 58) (v := ?_) (a' := ?_) (mb_ 24 452087) rfl rfl (any_of HT_.out (by kernel_rfl)) (fun _ _ _ h => h) (Or.inl ⟨by rfl, ?_⟩) ?_ ?_
                          rotate_left
                          ·intro w'
                           go_simp
                           with_reducible rfl
                          rotate_left
                          ·simp only [Act.put, s0_, s1_, s2_, i64_w, i32_w]
                           rfl
                          refine take_ (i := 3) (N := some 43) (v := ?_) (a' := ?_) (mb_ 24 452095) rfl rfl (take_ofW HT_.out HW_.out (by kernel_rfl)) (fun _ _ _ h => h) (Or.inl ⟨by rfl, ?_⟩) hHeld ?_ ?_
                          rotate_left
                          ·rintro w' ⟨s0, s1, s2, s3, s4⟩
                           go_simp
                           with_reducible rfl
                          rotate_left
                          ·simp only [Act.put, s0_, s1_, s2_, i64_w, i32_w]
                           rfl
                          refine take_ (i := 9) (N := some 49) (v := ?_) (a' := ?_) (mb_ 24 452607) rfl rfl (take_ofW HT_.out HW_.out (by kernel_rfl)) (fun _ _ _ h => h) (Or.inl ⟨by rfl, ?_⟩) hHeld ?_ ?_
                          rotate_left
                          ·rintro w' ⟨s0, s1, s2, s3, s4⟩
                           go_simp
                           with_reducible rfl
                          rotate_left
                          ·simp only [Act.put, s0_, s1_, s2_, i64_w, i32_w]
                           rfl
                          refine pure_ (i := 11) (N := some 51) (v := ?_) (a' := ?_) (mb_ 24 454655) rfl rfl (any_of HT_.out (by kernel_rfl)) (fun _ _ _ h => h) (Or.inl ⟨by rfl, ?_⟩) ?_ ?_
                          rotate_left
                          ·intro w'
                           go_simp
                           with_reducible rfl
                          rotate_left
                          ·simp only [Act.put, s0_, s1_, s2_, i64_w, i32_w]
                           rfl
                          refine take_ (i := 12) (N := some 52) (v := ?_) (a' := ?_) (mb_ 24 458751) rfl rfl (take_ofW HT_.out HW_.out (by kernel_rfl)) (fun _ _ _ h => h) (Or.inl ⟨by rfl, ?_⟩) hHeld ?_ ?_
                          rotate_left
                          ·rintro w' ⟨s0, s1, s2, s3, s4⟩
                           go_simp
                           with_reducible rfl
                          rotate_left
                          ·simp only [Act.put, s0_, s1_, s2_, i64_w, i32_w]
                           rfl
                          refine take_ (i := 16) (N := some 56) (v := ?_) (a' := ?_) (mb_ 24 524287) rfl rfl (take_ofW HT_.out HW_.out (by kernel_rfl)) (fun _ _ _ h => h) (Or.inl ⟨by rfl, ?_⟩) hHeld ?_ ?_
                          rotate_left
                          ·rintro w' ⟨s0, s1, s2, s3, s4⟩
                           go_simp
                           with_reducible rfl
                          rotate_left
                          ·simp only [Act.put, s0_, s1_, s2_, i64_w, i32_w]
                           rfl
                          refine pure_ (i := 19) (N := some 59) (v := ?_) (a' := ?_) (mb_ 24 1048575) rfl rfl (any_of HT_.out (by kernel_rfl)) (fun _ _ _ h => h) (Or.inl ⟨by rfl, ?_⟩) ?_ ?_
                          rotate_left
                          ·intro w'
                           go_simp
                           with_reducible rfl
                          rotate_left
                          ·simp only [Act.put, s0_, s1_, s2_, i64_w, i32_w]
                           rfl
                          refine take_ (i := 20) (N := some 60) (v := ?_) (a' := ?_) (mb_ 24 2097151) rfl rfl (take_ofW HT_.out HW_.out (by kernel_rfl)) (fun _ _ _ h => h) (Or.inl ⟨by rfl, ?_⟩) hHeld ?_ ?_
                          rotate_left
                          ·rintro w' ⟨s0, s1, s2, s3, s4⟩
                           go_simp
                           with_reducible rfl
                          rotate_left
                          ·simp only [Act.put, s0_, s1_, s2_, i64_w, i32_w]
                           rfl
                          refine pure_ (i := 21) (N := some 61) (v := ?_) (a' := ?_) (mb_ 24 4194303) rfl rfl (any_of HT_.out (by kernel_rfl)) (fun _ _ _ h => h) (Or.inl ⟨by rfl, ?_⟩) ?_ ?_
                          rotate_left
                          ·intro w'
                           go_simp
                           with_reducible rfl
                          rotate_left
                          ·simp only [Act.put, s0_, s1_, s2_, i64_w, i32_w]
                           rfl
                          refine pure_ (i := 22) (N := some 62) (v := ?_) (a' := ?_) (mb_ 24 8388607) rfl rfl (any_of HT_.out (by kernel_rfl)) (fun _ _ _ h => h) (Or.inl ⟨by rfl, ?_⟩) ?_ ?_
                          rotate_left
                          ·intro w'
                           go_simp
                           with_reducible rfl
                          rotate_left
                          ·simp only [Act.put, s0_, s1_, s2_, i64_w, i32_w]
                           rfl
                          refine last_ (i := 23) (N := none) (mb_ 24 16777215) rfl rfl (one_of HT_.out (by kernel_rfl)) (by decide) (fun K hK => ?_)
                          refine skip_ (w1 := ?_) (by rfl) rfl ?_ ?_
                          rotate_left
                          ·go_simp
                           rfl
                          refine hK.out _ _ ?_
                          clear hK K
                          refine done_ (done_of HT_.out (by kernel_rfl)) ?_
                          try go_wp2
                          have n0_ : Aside0 (Kd.S (Kd.slice 2 (Kd.int .i64)) 130 (w42.setCell ⟨go35, (x8_3 : Int).toNat, none⟩ (.int .i64 ji33)) w.heap.size (fun _ => True) (.slice (some ad944) x5_3.length co8) y951) := ⟨rs_ HQ43.out⟩
                          have n1_ : Aside0 (Below w.heap.size w (w42.setCell ⟨go35, (x8_3 : Int).toNat, none⟩ (.int .i64 ji33))) := ⟨bw1_ HB.out GB35.out⟩
                          (try clear HO_5)
                          (try clear HB)
                          generalize (w42.setCell ⟨go35, (x8_3 : Int).toNat, none⟩ (.int .i64 ji33)) = w45 at n0_ n1_ ⊢
                          have HO_5 := n0_
                          have HB := n1_
                          clear n0_ n1_
                          have n0_ := Aside0.mk (Kd.S_drew HO_5.out)
                          have n1_ := Aside0.mk (below_drew1 HB.out)
                          clear HO_5
                          clear HB
                          have HO_5 := n0_
                          have HB := n1_
                          clear n0_ n1_
                          have p952 : 0 ≤ (x7_2 : Int) := od_
                          have q952 : x7_2 < (l0.length : Int) := od_
                          obtain ⟨ad952, e952, hx952_0⟩ := Kd.at_string HR0.out x7_2 p952 q952
                          have hw952_0 := hx952_0
                          cases e952
                          replace hx952_0 := hc_ HB.out hx952_0
                          replace p952 := eq_true p952
                          replace q952 := eq_true q952
                          have p953 : 0 ≤ (x8_3 : Int) := od_
                          have q953 : x8_3 < (l1.length : Int) := od_
                          obtain ⟨ad953, e953, hx953_0⟩ := Kd.at_string HR1.out x8_3 p953 q953
                          have hw953_0 := hx953_0
                          cases e953
                          replace hx953_0 := hc_ HB.out hx953_0
                          replace p953 := eq_true p953
                          replace q953 := eq_true q953
                          refine start_ (n := 9) (S := fun w' => w'.cell? (ad952.add (x7_2).toNat) = some (.string (rdOf ByteArray.empty l0 x7_2)) ∧ w'.cell? (ad953.add (x8_3).toNat) = some (.string (rdOf ByteArray.empty l1 x8_3))) (ds := []) (mb_ 9 0) (by kernel_rfl) rfl rfl ⟨(hc_ HB.out hw952_0), (hc_ HB.out hw953_0)⟩ (fun hHeld => ?_);refine with_tabW impl_commons.tab14 impl_commons.bits14 (fun HT_ HW_ => ?_)
                          generalize w45.drew = w46 at HO_5 HB HQ43 hx952_0 hx953_0 hHeld ⊢
                          refine pure_ (i := 0) (N := some 63) (v := ?_) (a' := ?_) (mb_ 9 1) rfl rfl (any_of HT_.out (by kernel_rfl)) (fun _ _ _ h => h) (Or.inl ⟨by rfl, ?_⟩) ?_ ?_
                          rotate_left
                          ·intro w'
                           go_simp
                           with_reducible rfl
                          rotate_left
                          ·simp only [Act.put, s0_, s1_, s2_, i64_w, i32_w]
                           rfl
                          refine pure_ (i := 1) (N := some 64) (v := ?_) (a' := ?_) (mb_ 9 3) rfl rfl (any_of HT_.out (by kernel_rfl)) (fun _ _ _ h => h) (Or.inl ⟨by rfl, ?_⟩) ?_ ?_
                          rotate_left
                          ·intro w'
                           go_simp
                           with_reducible rfl
                          rotate_left
                          ·simp only [Act.put, s0_, s1_, s2_, i64_w, i32_w]
                           rfl
                          refine pure_ (i := 2) (N := some 65) (v := ?_) (a' := ?_) (mb_ 9 7) rfl rfl (any_of HT_.out (by kernel_rfl)) (fun _ _ _ h => h) (Or.inl ⟨by rfl, ?_⟩) ?_ ?_
                          rotate_left
                          ·intro w'
                           go_simp
                           with_reducible rfl
                          rotate_left
                          ·simp only [Act.put, s0_, s1_, s2_, i64_w, i32_w]
                           rfl
                          refine pure_ (i := 4) (N := some 67) (v := ?_) (a' := ?_) (mb_ 9 23) rfl rfl (any_of HT_.out (by kernel_rfl)) (fun _ _ _ h => h) (Or.inl ⟨by rfl, ?_⟩) ?_ ?_
                          rotate_left
                          ·intro w'
                           go_simp
                           with_reducible rfl
                          rotate_left
                          ·simp only [Act.put, s0_, s1_, s2_, i64_w, i32_w]
                           rfl
                          refine pure_ (i := 5) (N := some 68) (v := ?_) (a' := ?_) (mb_ 9 55) rfl rfl (any_of HT_.out (by kernel_rfl)) (fun _ _ _ h => h) (Or.inl ⟨by rfl, ?_⟩) ?_ ?_
                          rotate_left
                          ·intro w'
                           go_simp
                           with_reducible rfl
                          rotate_left
                          ·simp only [Act.put, s0_, s1_, s2_, i64_w, i32_w]
                           rfl
                          refine pure_ (i := 6) (N := some 69) (v := ?_) (a' := ?_) (mb_ 9 119) rfl rfl (any_of HT_.out (by kernel_rfl)) (fun _ _ _ h => h) (Or.inl ⟨by rfl, ?_⟩) ?_ ?_
                          rotate_left
                          ·intro w'
                           go_simp
                           with_reducible rfl
                          rotate_left
                          ·simp only [Act.put, s0_, s1_, s2_, i64_w, i32_w]
                           rfl
                          refine take_ (i := 3) (N := some 66) (v := ?_) (a' := ?_) (mb_ 9 127) rfl rfl (take_ofW HT_.out HW_.out (by kernel_rfl)) (fun _ _ _ h => h) (Or.inl ⟨by rfl, ?_⟩) hHeld ?_ ?_
                          rotate_left
                          ·rintro w' ⟨s0, s1⟩
                           go_simp
                           with_reducible rfl
                          rotate_left
                          ·simp only [Act.put, s0_, s1_, s2_, i64_w, i32_w]
                           rfl
                          refine take_ (i := 7) (N := some 70) (v := ?_) (a' := ?_) (mb_ 9 255) rfl rfl (take_ofW HT_.out HW_.out (by kernel_rfl)) (fun _ _ _ h => h) (Or.inl ⟨by rfl, ?_⟩) hHeld ?_ ?_
                          rotate_left
                          ·rintro w' ⟨s0, s1⟩
                           go_simp
                           with_reducible rfl
                          rotate_left
                          ·simp only [Act.put, s0_, s1_, s2_, i64_w, i32_w]
                           rfl
                          refine pure_ (i := 8) (N := some 71) (v := ?_) (a' := ?_) (mb_ 9 511) rfl rfl (any_of HT_.out (by kernel_rfl)) (fun _ _ _ h => h) (Or.inl ⟨by rfl, ?_⟩) ?_ ?_
                          rotate_left
                          ·intro w'
                           go_simp
                           with_reducible rfl
                          rotate_left
                          ·simp only [Act.put, s0_, s1_, s2_, i64_w, i32_w]
                           rfl
                          refine done_ (done_of HT_.out (by kernel_rfl)) ?_
                          try go_wp2
                          have n0_ := Aside0.mk (Kd.S_drew HO_5.out)
                          have n1_ := Aside0.mk (below_drew1 HB.out)
                          clear HO_5
                          clear HB
                          have HO_5 := n0_
                          have HB := n1_
                          clear n0_ n1_
                          have p954 : 0 ≤ (x7_2 : Int) := od_
                          have q954 : x7_2 < (y951.length : Int) := (by have h_ : (x7_2 : Int) < ((x5_3.length : Int) : Int) := od_;first | (have e_ := (Kd.S_reads' HO_5.out).1;omega) | simpa only [Ny951.out, List.length_set] using h_)
                          have ql954 : ((x7_2 : Int) < ((x5_3.length : Int) : Int)) = True := eq_true od_
                          obtain ⟨ad954, A954_0, c954_0, e954, hx954_0, hl954_0, hi954_0⟩ := at_L13 (Kd.S_reads' HO_5.out).2.2 x7_2 p954 q954
                          obtain rfl : ad944 = ad954 := (by injection e954)
                          obtain ⟨ce954, hce954, hMe954, hcc954⟩ := Kd.S_get HO_5.out [] x7_2 p954 (by first | exact q954 | exact od_ | (have e_ := (Kd.S_reads' HO_5.out).1;omega))
                          obtain ⟨ve954_0, rfl, ge954_0⟩ := hMe954
                          have hv954_0 := hcc954 0 _ rfl
                          rw [Nat.add_zero, show ((Kd.slice 2 (Kd.int .i64))).sz = 1 from rfl, Nat.mul_one] at hv954_0
                          replace hv954_0 := Option.some.inj (hv954_0.symm.trans hx954_0)
                          rw [hv954_0] at ge954_0
                          have HL954_0 := Aside0.mk (show Kd.R (Kd.int .i64) 2 _ _ _ _ (rd_L13 y951 x7_2) from ge954_0)
                          clear hv954_0 ge954_0
                          have HX954_0 := Aside0.mk hx954_0
                          clear hcc954 hce954
                          have HR954_0 := Aside0.mk hi954_0
                          have HC954_0 := Aside0.mk hl954_0
                          clear hi954_0 hl954_0
                          replace p954 := eq_true p954
                          replace q954 := eq_true q954
                          have p955 : 0 ≤ ((ji25) : Int) := od_
                          have q955 : (ji25) < (y951.length : Int) := (by have h_ : ((ji25) : Int) < ((x5_3.length : Int) : Int) := od_;first | (have e_ := (Kd.S_reads' HO_5.out).1;omega) | simpa only [Ny951.out, List.length_set] using h_)
                          have ql955 : (((ji25) : Int) < ((x5_3.length : Int) : Int)) = True := eq_true od_
                          obtain ⟨ad955, A955_0, c955_0, e955, hx955_0, hl955_0, hi955_0⟩ := at_L13 (Kd.S_reads' HO_5.out).2.2 (ji25) p955 q955
                          obtain rfl : ad944 = ad955 := (by injection e955)
                          obtain ⟨ce955, hce955, hMe955, hcc955⟩ := Kd.S_get HO_5.out [] (ji25) p955 (by first | exact q955 | exact od_ | (have e_ := (Kd.S_reads' HO_5.out).1;omega))
                          obtain ⟨ve955_0, rfl, ge955_0⟩ := hMe955
                          have hv955_0 := hcc955 0 _ rfl
                          rw [Nat.add_zero, show ((Kd.slice 2 (Kd.int .i64))).sz = 1 from rfl, Nat.mul_one] at hv955_0
                          replace hv955_0 := Option.some.inj (hv955_0.symm.trans hx955_0)
                          rw [hv955_0] at ge955_0
                          have HL955_0 := Aside0.mk (show Kd.R (Kd.int .i64) 2 _ _ _ _ (rd_L13 y951 (ji25)) from ge955_0)
                          clear hv955_0 ge955_0
                          have HX955_0 := Aside0.mk hx955_0
                          clear hcc955 hce955
                          have HR955_0 := Aside0.mk hi955_0
                          have HC955_0 := Aside0.mk hl955_0
                          clear hi955_0 hl955_0
                          replace p955 := eq_true p955
                          replace q955 := eq_true q955
                          have p956 : 0 ≤ ((ji30) : Int) := od_
                          have q956 : (ji30) < ((rd_L13 y951 (ji25)).length : Int) := od_
                          obtain ⟨ad956, e956, hx956_0⟩ := Kd.at_int (by repeat (first | (with_reducible exact HR955_0.out) | (with_reducible refine Kd.C_alloc ?_ _) | (with_reducible refine Kd.C_drewN ?_ _) | (with_reducible refine Kd.C_drew ?_) | exact HR955_0.out)) (ji30) p956 q956
                          cases e956
                          replace p956 := eq_true p956
                          replace q956 := eq_true q956
                          have p41 : 0 ≤ (x8_3 : Int) := od_
                          have q41 : (x8_3 : Int) < (((rd_L13 y951 x7_2).length : Int) : Int) := od_
                          obtain ⟨go41, co41, eo41, gb41, gl41, cl41, HG41⟩ := Kd.R_form HL954_0.out (by omega)
                          (first | cases eo41 | (injection eo41 with ea_ en_ ec_;(first | subst ea_ | (injection ea_ with ea_;subst ea_));subst ec_;clear en_))
                          have GB41 := Aside0.mk gb41
                          have GG41 := Aside0.mk HG41
                          clear gb41 gl41 HG41
                          obtain ⟨hx41_0, hf41_0⟩ := Kd.R_celln 0 HL954_0.out (x8_3 : Int) p41 q41
                          replace p41 := eq_true p41
                          replace q41 := eq_true q41
                          have hq48 : (x7_2 : Int) < (y951.length : Int) := (by have h_ : (x7_2 : Int) < ((x5_3.length : Int) : Int) := od_;first | exact h_ | (have e_ := (Kd.S_reads' HO_5.out).1;omega) | simpa only [Ny951.out, List.length_set] using h_)
                          obtain ⟨oki48, ce48, hcl48, hM48, hcc48, hok48, hbk48⟩ := Kd.S_borrow HO_5.out [] (x7_2 : Int) od_ (by first | exact hq48 | (have e_ := (Kd.S_reads' HO_5.out).1;omega))
                          obtain ⟨ve48_0, rfl, ge48_0⟩ := hM48
                          have hv48 := hcc48 0 _ rfl
                          rw [Nat.add_zero, show ((Kd.slice 2 (Kd.int .i64))).sz = 1 from rfl, Nat.mul_one] at hv48
                          replace hv48 := Option.some.inj (hv48.symm.trans HX954_0.out)
                          subst hv48
                          clear hcc48 hcl48
                          replace ge48_0 := (show Kd.R (Kd.int .i64) 2 _ _ _ _ (rd_L13 y951 x7_2) from ge48_0)
                          have HP48 := Kd.R_putg ge48_0 (x8_3 : Int) (wrap64 ((rd (rd_L13 y951 (ji25)) (ji30)) + 1))
                          rw [← Ny957.out] at HP48
                          have HS48 := hbk48 HP48.2 (fun k_ e_ => by injection e_ with e_;subst e_;exact ge48_0.1 _ rfl) (x' := y957) (Kd.M_row HP48.1)
                          rw [← Ny959.out] at HS48
                          have HQ48 := Aside0.mk HS48
                          clear HP48 HS48 hbk48 hok48
                          refine start_ (n := 17) (S := fun w' => w'.cell? (ad944.add (x7_2).toNat) = some (.slice (some ⟨go41, 0, none⟩) (rd_L13 y951 x7_2).length c954_0) ∧ w'.cell? (ad944.add ((ji25)).toNat) = some (.slice (some ad956) (rd_L13 y951 (ji25)).length c955_0) ∧ w'.cell? (ad956.add ((ji30)).toNat) = some (.int .i64 (rd (rd_L13 y951 (ji25)) (ji30)))) (ds := [16]) (mb_ 17 0) (by kernel_rfl) rfl rfl ⟨hx954_0, hx955_0, hx956_0⟩ (fun hHeld => ?_);refine with_tabW impl_commons.tab15 impl_commons.bits15 (fun HT_ HW_ => ?_)
                          generalize w46.drew = w47 at HO_5 HB GG41 HL954_0 HL955_0 HQ48 HR954_0 HR955_0 HX954_0 HX955_0 hf41_0 hx41_0 hx954_0 hx955_0 hx956_0 hHeld ⊢
                          refine pure_ (i := 0) (N := some 72) (v := ?_) (a' := ?_) (mb_ 17 1) rfl rfl (any_of HT_.out (by kernel_rfl)) (fun _ _ _ h => h) (Or.inl ⟨by rfl, ?_⟩) ?_ ?_
                          rotate_left
                          ·intro w'
                           go_simp
                           with_reducible rfl
                          rotate_left
                          ·simp only [Act.put, s0_, s1_, s2_, i64_w, i32_w]
                           rfl
                          refine pure_ (i := 1) (N := some 73) (v := ?_) (a' := ?_) (mb_ 17 3) rfl rfl (any_of HT_.out (by kernel_rfl)) (fun _ _ _ h => h) (Or.inl ⟨by rfl, ?_⟩) ?_ ?_
                          rotate_left
                          ·intro w'
                           go_simp
                           with_reducible rfl
                          rotate_left
                          ·simp only [Act.put, s0_, s1_, s2_, i64_w, i32_w]
                           rfl
                          refine pure_ (i := 2) (N := some 74) (v := ?_) (a' := ?_) (mb_ 17 7) rfl rfl (any_of HT_.out (by kernel_rfl)) (fun _ _ _ h => h) (Or.inl ⟨by rfl, ?_⟩) ?_ ?_
                          rotate_left
                          ·intro w'
                           go_simp
                           with_reducible rfl
                          rotate_left
                          ·simp only [Act.put, s0_, s1_, s2_, i64_w, i32_w]
                           rfl
                          refine pure_ (i := 4) (N := some 76) (v := ?_) (a' := ?_) (mb_ 17 23) rfl rfl (any_of HT_.out (by kernel_rfl)) (fun _ _ _ h => h) (Or.inl ⟨by rfl, ?_⟩) ?_ ?_
                          rotate_left
                          ·intro w'
                           go_simp
                           with_reducible rfl
                          rotate_left
                          ·simp only [Act.put, s0_, s1_, s2_, i64_w, i32_w]
                           rfl
                          refine pure_ (i := 5) (N := some 77) (v := ?_) (a' := ?_) (mb_ 17 55) rfl rfl (any_of HT_.out (by kernel_rfl)) (fun _ _ _ h => h) (Or.inl ⟨by rfl, ?_⟩) ?_ ?_
                          rotate_left
                          ·intro w'
                           go_simp
                           with_reducible rfl
                          rotate_left
                          ·simp only [Act.put, s0_, s1_, s2_, i64_w, i32_w]
                           rfl
                          refine pure_ (i := 6) (N := some 78) (v := ?_) (a' := ?_) (mb_ 17 119) rfl rfl (any_of HT_.out (by kernel_rfl)) (fun _ _ _ h => h) (Or.inl ⟨by rfl, ?_⟩) ?_ ?_
                          rotate_left
                          ·intro w'
                           go_simp
                           with_reducible rfl
                          rotate_left
                          ·simp only [Act.put, s0_, s1_, s2_, i64_w, i32_w]
                           rfl
                          refine pure_ (i := 7) (N := some 79) (v := ?_) (a' := ?_) (mb_ 17 247) rfl rfl (any_of HT_.out (by kernel_rfl)) (fun _ _ _ h => h) (Or.inl ⟨by rfl, ?_⟩) ?_ ?_
                          rotate_left
                          ·intro w'
                           go_simp
                           with_reducible rfl
                          rotate_left
                          ·simp only [Act.put, s0_, s1_, s2_, i64_w, i32_w]
                           rfl
                          refine pure_ (i := 8) (N := some 80) (v := ?_) (a' := ?_) (mb_ 17 503) rfl rfl (any_of HT_.out (by kernel_rfl)) (fun _ _ _ h => h) (Or.inl ⟨by rfl, ?_⟩) ?_ ?_
                          rotate_left
                          ·intro w'
                           go_simp
                           with_reducible rfl
                          rotate_left
                          ·simp only [Act.put, s0_, s1_, s2_, i64_w, i32_w]
                           rfl
                          refine pure_ (i := 10) (N := some 82) (v := ?_) (a' := ?_) (mb_ 17 1527) rfl rfl (any_of HT_.out (by kernel_rfl)) (fun _ _ _ h => h) (Or.inl ⟨by rfl, ?_⟩) ?_ ?_
                          rotate_left
                          ·intro w'
                           go_simp
                           with_reducible rfl
                          rotate_left
                          ·simp only [Act.put, s0_, s1_, s2_, i64_w, i32_w]
                           rfl
                          refine pure_ (i := 11) (N := some 83) (v := ?_) (a' := ?_) (mb_ 17 3575) rfl rfl (any_of HT_.out (by kernel_rfl)) (fun _ _ _ h => h) (Or.inl ⟨by rfl, ?_⟩) ?_ ?_
                          rotate_left
                          ·intro w'
                           go_simp
                           with_reducible rfl
                          rotate_left
                          ·simp only [Act.put, s0_, s1_, s2_, i64_w, i32_w]
                           rfl
                          refine take_ (i := 3) (N := some 75) (v := ?_) (a' := ?_) (mb_ 17 3583) rfl rfl (take_ofW HT_.out HW_.out (by kernel_rfl)) (fun _ _ _ h => h) (Or.inl ⟨by rfl, ?_⟩) hHeld ?_ ?_
                          rotate_left
                          ·rintro w' ⟨s0, s1, s2⟩
                           go_simp
                           with_reducible rfl
                          rotate_left
                          ·simp only [Act.put, s0_, s1_, s2_, i64_w, i32_w]
                           rfl
                          refine take_ (i := 9) (N := some 81) (v := ?_) (a' := ?_) (mb_ 17 4095) rfl rfl (take_ofW HT_.out HW_.out (by kernel_rfl)) (fun _ _ _ h => h) (Or.inl ⟨by rfl, ?_⟩) hHeld ?_ ?_
                          rotate_left
                          ·rintro w' ⟨s0, s1, s2⟩
                           go_simp
                           with_reducible rfl
                          rotate_left
                          ·simp only [Act.put, s0_, s1_, s2_, i64_w, i32_w]
                           rfl
                          refine pure_ (i := 12) (N := some 84) (v := ?_) (a' := ?_) (mb_ 17 8191) rfl rfl (any_of HT_.out (by kernel_rfl)) (fun _ _ _ h => h) (Or.inl ⟨by rfl, ?_⟩) ?_ ?_
                          rotate_left
                          ·intro w'
                           go_simp
                           with_reducible rfl
                          rotate_left
                          ·simp only [Act.put, s0_, s1_, s2_, i64_w, i32_w]
                           rfl
                          refine take_ (i := 13) (N := some 85) (v := ?_) (a' := ?_) (mb_ 17 16383) rfl rfl (take_ofW HT_.out HW_.out (by kernel_rfl)) (fun _ _ _ h => h) (Or.inl ⟨by rfl, ?_⟩) hHeld ?_ ?_
                          rotate_left
                          ·rintro w' ⟨s0, s1, s2⟩
                           go_simp
                           with_reducible rfl
                          rotate_left
                          ·simp only [Act.put, s0_, s1_, s2_, i64_w, i32_w]
                           rfl
                          refine pure_ (i := 14) (N := some 86) (v := ?_) (a' := ?_) (mb_ 17 32767) rfl rfl (any_of HT_.out (by kernel_rfl)) (fun _ _ _ h => h) (Or.inl ⟨by rfl, ?_⟩) ?_ ?_
                          rotate_left
                          ·intro w'
                           go_simp
                           with_reducible rfl
                          rotate_left
                          ·simp only [Act.put, s0_, s1_, s2_, i64_w, i32_w]
                           rfl
                          refine pure_ (i := 15) (N := some 87) (v := ?_) (a' := ?_) (mb_ 17 65535) rfl rfl (any_of HT_.out (by kernel_rfl)) (fun _ _ _ h => h) (Or.inl ⟨by rfl, ?_⟩) ?_ ?_
                          rotate_left
                          ·intro w'
                           go_simp
                           with_reducible rfl
                          rotate_left
                          ·simp only [Act.put, s0_, s1_, s2_, i64_w, i32_w]
                           rfl
                          refine last_ (i := 16) (N := none) (mb_ 17 131071) rfl rfl (one_of HT_.out (by kernel_rfl)) (by decide) (fun K hK => ?_)
                          refine skip_ (w1 := ?_) (by rfl) rfl ?_ ?_
                          rotate_left
                          ·go_simp
                           rfl
                          refine hK.out _ _ ?_
                          clear hK K
                          refine done_ (done_of HT_.out (by kernel_rfl)) ?_
                          try go_wp2
                          (try simp only [← hl5_3])
                          go_roundg k3
                          case measure => have := HK1.out;have := HK2.out;have := HK3.out;omega
                          case rel => exact ⟨(y959), (wrap64 (x8_3 - 1)), ls_, H', ⟨by have := HK1.out;have := HK2.out;have := HK3.out;omega⟩, ⟨by (try simp only [hl5_1]);(try simp only [hl5_2]);(try simp only [hl5_3]);(with_reducible repeat (first | apply Kd.S_alloc | apply Kd.S_drewN | apply Kd.S_drew));exact HQ48.out⟩, ⟨bw1_ HB.out GB41.out⟩⟩
                         ·rw [if_neg c40] at H
                          exact absurd H (by simp)
                        ·rw [if_neg c39] at H
                         exact absurd H (by simp)
                       ·rw [if_neg c38] at H
                        have c38b0 : ((rdOf ByteArray.empty l0 x7_2).toList == (rdOf ByteArray.empty l1 x8_3).toList) = false := beq_eq_false_iff_ne.mpr c38
                        have c38b1 : ((rdOf ByteArray.empty l0 x7_2).toList != (rdOf ByteArray.empty l1 x8_3).toList) = true := bne_iff_ne.mpr c38
                        have H' := Aside0.mk H
                        clear H
                        try go_wp2
                        have n0_ := Aside0.mk (Kd.S_drew HO_5.out)
                        have n1_ := Aside0.mk (below_drew1 HB.out)
                        clear HO_5
                        clear HB
                        have HO_5 := n0_
                        have HB := n1_
                        clear n0_ n1_
                        have p944 : 0 ≤ (x7_2 : Int) := od_
                        have q944 : x7_2 < (x5_3.length : Int) := od_
                        obtain ⟨ad944, A944_0, c944_0, e944, hx944_0, hl944_0, hi944_0⟩ := at_L13 (Kd.S_reads' HO_5.out).2.2 x7_2 p944 q944
                        cases e944
                        obtain ⟨ce944, hce944, hMe944, hcc944⟩ := Kd.S_get HO_5.out [] x7_2 p944 (by first | exact q944 | exact od_ | (have e_ := (Kd.S_reads' HO_5.out).1;omega))
                        obtain ⟨ve944_0, rfl, ge944_0⟩ := hMe944
                        have hv944_0 := hcc944 0 _ rfl
                        rw [Nat.add_zero, show ((Kd.slice 2 (Kd.int .i64))).sz = 1 from rfl, Nat.mul_one] at hv944_0
                        replace hv944_0 := Option.some.inj (hv944_0.symm.trans hx944_0)
                        rw [hv944_0] at ge944_0
                        have HL944_0 := Aside0.mk (show Kd.R (Kd.int .i64) 2 _ _ _ _ (rd_L13 x5_3 x7_2) from ge944_0)
                        clear hv944_0 ge944_0
                        have HX944_0 := Aside0.mk hx944_0
                        clear hcc944 hce944
                        have HR944_0 := Aside0.mk hi944_0
                        have HC944_0 := Aside0.mk hl944_0
                        clear hi944_0 hl944_0
                        replace p944 := eq_true p944
                        replace q944 := eq_true q944
                        have p945 : 0 ≤ ((ji25) : Int) := od_
                        have q945 : (ji25) < (x5_3.length : Int) := od_
                        obtain ⟨ad945, A945_0, c945_0, e945, hx945_0, hl945_0, hi945_0⟩ := at_L13 (Kd.S_reads' HO_5.out).2.2 (ji25) p945 q945
                        obtain rfl : ad944 = ad945 := (by injection e945)
                        obtain ⟨ce945, hce945, hMe945, hcc945⟩ := Kd.S_get HO_5.out [] (ji25) p945 (by first | exact q945 | exact od_ | (have e_ := (Kd.S_reads' HO_5.out).1;omega))
                        obtain ⟨ve945_0, rfl, ge945_0⟩ := hMe945
                        have hv945_0 := hcc945 0 _ rfl
                        rw [Nat.add_zero, show ((Kd.slice 2 (Kd.int .i64))).sz = 1 from rfl, Nat.mul_one] at hv945_0
                        replace hv945_0 := Option.some.inj (hv945_0.symm.trans hx945_0)
                        rw [hv945_0] at ge945_0
                        have HL945_0 := Aside0.mk (show Kd.R (Kd.int .i64) 2 _ _ _ _ (rd_L13 x5_3 (ji25)) from ge945_0)
                        clear hv945_0 ge945_0
                        have HX945_0 := Aside0.mk hx945_0
                        clear hcc945 hce945
                        have HR945_0 := Aside0.mk hi945_0
                        have HC945_0 := Aside0.mk hl945_0
                        clear hi945_0 hl945_0
                        replace p945 := eq_true p945
                        replace q945 := eq_true q945
                        have p946 : 0 ≤ (x8_3 : Int) := od_
                        have q946 : x8_3 < ((rd_L13 x5_3 (ji25)).length : Int) := od_
                        obtain ⟨ad946, e946, hx946_0⟩ := Kd.at_int (by repeat (first | (with_reducible exact HR945_0.out) | (with_reducible refine Kd.C_alloc ?_ _) | (with_reducible refine Kd.C_drewN ?_ _) | (with_reducible refine Kd.C_drew ?_) | exact HR945_0.out)) x8_3 p946 q946
                        cases e946
                        replace p946 := eq_true p946
                        replace q946 := eq_true q946
                        have p947 : 0 ≤ (x7_2 : Int) := od_
                        have q947 : x7_2 < (x5_3.length : Int) := od_
                        obtain ⟨ad947, A947_0, c947_0, e947, hx947_0, hl947_0, hi947_0⟩ := at_L13 (Kd.S_reads' HO_5.out).2.2 x7_2 p947 q947
                        obtain rfl : ad944 = ad947 := (by injection e947)
                        obtain ⟨ce947, hce947, hMe947, hcc947⟩ := Kd.S_get HO_5.out [] x7_2 p947 (by first | exact q947 | exact od_ | (have e_ := (Kd.S_reads' HO_5.out).1;omega))
                        obtain ⟨ve947_0, rfl, ge947_0⟩ := hMe947
                        have hv947_0 := hcc947 0 _ rfl
                        rw [Nat.add_zero, show ((Kd.slice 2 (Kd.int .i64))).sz = 1 from rfl, Nat.mul_one] at hv947_0
                        replace hv947_0 := Option.some.inj (hv947_0.symm.trans hx947_0)
                        rw [hv947_0] at ge947_0
                        have HL947_0 := Aside0.mk (show Kd.R (Kd.int .i64) 2 _ _ _ _ (rd_L13 x5_3 x7_2) from ge947_0)
                        clear hv947_0 ge947_0
                        have HX947_0 := Aside0.mk hx947_0
                        clear hcc947 hce947
                        have HR947_0 := Aside0.mk hi947_0
                        have HC947_0 := Aside0.mk hl947_0
                        clear hi947_0 hl947_0
                        replace p947 := eq_true p947
                        replace q947 := eq_true q947
                        have ea_ := Option.some.inj (hx944_0.symm.trans hx947_0)
                        injection ea_ with ea_ en_ ec_
                        subst ea_
                        subst ec_
                        clear en_
                        have p948 : 0 ≤ ((ji30) : Int) := od_
                        have q948 : (ji30) < ((rd_L13 x5_3 x7_2).length : Int) := od_
                        obtain ⟨ad948, e948, hx948_0⟩ := Kd.at_int (by repeat (first | (with_reducible exact HR947_0.out) | (with_reducible refine Kd.C_alloc ?_ _) | (with_reducible refine Kd.C_drewN ?_ _) | (with_reducible refine Kd.C_drew ?_) | exact HR947_0.out)) (ji30) p948 q948
                        cases e948
                        replace p948 := eq_true p948
                        replace q948 := eq_true q948
                        have p35 : 0 ≤ (x8_3 : Int) := od_
                        have q35 : (x8_3 : Int) < (((rd_L13 x5_3 x7_2).length : Int) : Int) := od_
                        obtain ⟨go35, co35, eo35, gb35, gl35, cl35, HG35⟩ := Kd.R_form HL944_0.out (by omega)
                        (first | cases eo35 | (injection eo35 with ea_ en_ ec_;(first | subst ea_ | (injection ea_ with ea_;subst ea_));subst ec_;clear en_))
                        have GB35 := Aside0.mk gb35
                        have GG35 := Aside0.mk HG35
                        clear gb35 gl35 HG35
                        (first | simp only [add_plain] at hx948_0 | skip)
                        obtain ⟨hx35_0, hf35_0⟩ := Kd.R_celln 0 HL944_0.out (x8_3 : Int) p35 q35
                        replace p35 := eq_true p35
                        replace q35 := eq_true q35
                        have hq51 : (x7_2 : Int) < (x5_3.length : Int) := (by have h_ : (x7_2 : Int) < ((x5_3.length : Int) : Int) := od_;first | exact h_ | (have e_ := (Kd.S_reads' HO_5.out).1;omega) | simpa only [List.length_set, List.length_set] using h_)
                        obtain ⟨oki51, ce51, hcl51, hM51, hcc51, hok51, hbk51⟩ := Kd.S_borrow HO_5.out [] (x7_2 : Int) od_ hq51
                        obtain ⟨ve51_0, rfl, ge51_0⟩ := hM51
                        have hv51 := hcc51 0 _ rfl
                        rw [Nat.add_zero, show ((Kd.slice 2 (Kd.int .i64))).sz = 1 from rfl, Nat.mul_one] at hv51
                        replace hv51 := Option.some.inj (hv51.symm.trans HX944_0.out)
                        subst hv51
                        clear hcc51 hcl51
                        replace ge51_0 := (show Kd.R (Kd.int .i64) 2 _ _ _ _ (rd_L13 x5_3 x7_2) from ge51_0)
                        have HP51 := Kd.R_putg ge51_0 (x8_3 : Int) ji33
                        rw [← Ny949.out] at HP51
                        have HS51 := hbk51 HP51.2 (fun k_ e_ => by injection e_ with e_;subst e_;exact ge51_0.1 _ rfl) (x' := y949) (Kd.M_row HP51.1)
                        rw [← Ny951.out] at HS51
                        have HQ51 := Aside0.mk HS51
                        clear HP51 HS51 hbk51 hok51
                        refine start_ (n := 24) (S := fun w' => w'.cell? (ad944.add (x7_2).toNat) = some (.slice (some ⟨go35, 0, none⟩) (rd_L13 x5_3 x7_2).length c944_0) ∧ w'.cell? (ad944.add ((ji25)).toNat) = some (.slice (some ad946) (rd_L13 x5_3 (ji25)).length c945_0) ∧ w'.cell? (ad946.add (x8_3).toNat) = some (.int .i64 (rd (rd_L13 x5_3 (ji25)) x8_3)) ∧ w'.cell? (ad944.add (x7_2).toNat) = some (.slice (some ⟨go35, 0, none⟩) (rd_L13 x5_3 x7_2).length c944_0) ∧ w'.cell? ⟨go35, ((ji30)).toNat, none⟩ = some (.int .i64 (rd (rd_L13 x5_3 x7_2) (ji30)))) (ds := [23]) (mb_ 24 0) (by kernel_rfl) rfl rfl ⟨hx944_0, hx945_0, hx946_0, hx947_0, hx948_0⟩ (fun hHeld => ?_);refine with_tabW impl_commons.tab13 impl_commons.bits13 (fun HT_ HW_ => ?_)
                        generalize wr.drew = w50 at HO_5 HB GG35 HL944_0 HL945_0 HL947_0 HQ51 HR944_0 HR945_0 HR947_0 HX944_0 HX945_0 HX947_0 hf35_0 hx35_0 hx944_0 hx945_0 hx946_0 hx947_0 hx948_0 hHeld ⊢
                        refine pure_ (i := 0) (N := some 40) (v := ?_) (a' := ?_) (mb_ 24 1) rfl rfl (any_of HT_.out (by kernel_rfl)) (fun _ _ _ h => h) (Or.inl ⟨by rfl, ?_⟩) ?_ ?_
                        rotate_left
                        ·intro w'
                         go_simp
                         with_reducible rfl
                        rotate_left
                        ·simp only [Act.put, s0_, s1_, s2_, i64_w, i32_w]
                         rfl
                        refine pure_ (i := 1) (N := some 41) (v := ?_) (a' := ?_) (mb_ 24 3) rfl rfl (any_of HT_.out (by kernel_rfl)) (fun _ _ _ h => h) (Or.inl ⟨by rfl, ?_⟩) ?_ ?_
                        rotate_left
                        ·intro w'
                         go_simp
                         with_reducible rfl
                        rotate_left
                        ·simp only [Act.put, s0_, s1_, s2_, i64_w, i32_w]
                         rfl
                        refine pure_ (i := 2) (N := some 42) (v := ?_) (a' := ?_) (mb_ 24 7) rfl rfl (any_of HT_.out (by kernel_rfl)) (fun _ _ _ h => h) (Or.inl ⟨by rfl, ?_⟩) ?_ ?_
                        rotate_left
                        ·intro w'
                         go_simp
                         with_reducible rfl
                        rotate_left
                        ·simp only [Act.put, s0_, s1_, s2_, i64_w, i32_w]
                         rfl
                        refine pure_ (i := 4) (N := some 44) (v := ?_) (a' := ?_) (mb_ 24 23) rfl rfl (any_of HT_.out (by kernel_rfl)) (fun _ _ _ h => h) (Or.inl ⟨by rfl, ?_⟩) ?_ ?_
                        rotate_left
                        ·intro w'
                         go_simp
                         with_reducible rfl
                        rotate_left
                        ·simp only [Act.put, s0_, s1_, s2_, i64_w, i32_w]
                         rfl
                        refine pure_ (i := 5) (N := some 45) (v := ?_) (a' := ?_) (mb_ 24 55) rfl rfl (any_of HT_.out (by kernel_rfl)) (fun _ _ _ h => h) (Or.inl ⟨by rfl, ?_⟩) ?_ ?_
                        rotate_left
                        ·intro w'
                         go_simp
                         with_reducible rfl
                        rotate_left
                        ·simp only [Act.put, s0_, s1_, s2_, i64_w, i32_w]
                         rfl
                        refine pure_ (i := 6) (N := some 46) (v := ?_) (a' := ?_) (mb_ 24 119) rfl rfl (any_of HT_.out (by kernel_rfl)) (fun _ _ _ h => h) (Or.inl ⟨by rfl, ?_⟩) ?_ ?_
                        rotate_left
                        ·intro w'
                         go_simp
                         with_reducible rfl
                        rotate_left
                        ·simp only [Act.put, s0_, s1_, s2_, i64_w, i32_w]
                         rfl
                        refine pure_ (i := 7) (N := some 47) (v := ?_) (a' := ?_) (mb_ 24 247) rfl rfl (any_of HT_.out (by kernel_rfl)) (fun _ _ _ h => h) (Or.inl ⟨by rfl, ?_⟩) ?_ ?_
                        rotate_left
                        ·intro w'
                         go_simp
                         with_reducible rfl
                        rotate_left
                        ·simp only [Act.put, s0_, s1_, s2_, i64_w, i32_w]
                         rfl
                        refine pure_ (i := 8) (N := some 48) (v := ?_) (a' := ?_) (mb_ 24 503) rfl rfl (any_of HT_.out (by kernel_rfl)) (fun _ _ _ h => h) (Or.inl ⟨by rfl, ?_⟩) ?_ ?_
                        rotate_left
                        ·intro w'
                         go_simp
                         with_reducible rfl
                        rotate_left
                        ·simp only [Act.put, s0_, s1_, s2_, i64_w, i32_w]
                         rfl
                        refine pure_ (i := 10) (N := some 50) (v := ?_) (a' := ?_) (mb_ 24 1527) rfl rfl (any_of HT_.out (by kernel_rfl)) (fun _ _ _ h => h) (Or.inl ⟨by rfl, ?_⟩) ?_ ?_
                        rotate_left
                        ·intro w'
                         go_simp
                         with_reducible rfl
                        rotate_left
                        ·simp only [Act.put, s0_, s1_, s2_, i64_w, i32_w]
                         rfl
                        refine pure_ (i := 13) (N := some 53) (v := ?_) (a' := ?_) (mb_ 24 9719) rfl rfl (any_of HT_.out (by kernel_rfl)) (fun _ _ _ h => h) (Or.inl ⟨by rfl, ?_⟩) ?_ ?_
                        rotate_left
                        ·intro w'
                         go_simp
                         with_reducible rfl
                        rotate_left
                        ·simp only [Act.put, s0_, s1_, s2_, i64_w, i32_w]
                         rfl
                        refine pure_ (i := 14) (N := some 54) (v := ?_) (a' := ?_) (mb_ 24 26103) rfl rfl (any_of HT_.out (by kernel_rfl)) (fun _ _ _ h => h) (Or.inl ⟨by rfl, ?_⟩) ?_ ?_
                        rotate_left
                        ·intro w'
                         go_simp
                         with_reducible rfl
                        rotate_left
                        ·simp only [Act.put, s0_, s1_, s2_, i64_w, i32_w]
                         rfl
                        refine pure_ (i := 15) (N := some 55) (v := ?_) (a' := ?_) (mb_ 24 58871) rfl rfl (any_of HT_.out (by kernel_rfl)) (fun _ _ _ h => h) (Or.inl ⟨by rfl, ?_⟩) ?_ ?_
                        rotate_left
                        ·intro w'
                         go_simp
                         with_reducible rfl
                        rotate_left
                        ·simp only [Act.put, s0_, s1_, s2_, i64_w, i32_w]
                         rfl
                        refine pure_ (i := 17) (N := some 57) (v := ?_) (a' := ?_) (mb_ 24 189943) rfl rfl (any_of HT_.out (by kernel_rfl)) (fun _ _ _ h => h) (Or.inl ⟨by rfl, ?_⟩) ?_ ?_
                        rotate_left
                        ·intro w'
                         go_simp
                         with_reducible rfl
                        rotate_left
                        ·simp only [Act.put, s0_, s1_, s2_, i64_w, i32_w]
                         rfl
                        refine pure_ (i := 18) (N := some 58) (v := ?_) (a' := ?_) (mb_ 24 452087) rfl rfl (any_of HT_.out (by kernel_rfl)) (fun _ _ _ h => h) (Or.inl ⟨by rfl, ?_⟩) ?_ ?_
                        rotate_left
                        ·intro w'
                         go_simp
                         with_reducible rfl
                        rotate_left
                        ·simp only [Act.put, s0_, s1_, s2_, i64_w, i32_w]
                         rfl
                        refine take_ (i := 3) (N := some 43) (v := ?_) (a' := ?_) (mb_ 24 452095) rfl rfl (take_ofW HT_.out HW_.out (by kernel_rfl)) (fun _ _ _ h => h) (Or.inl ⟨by rfl, ?_⟩) hHeld ?_ ?_
                        rotate_left
                        ·rintro w' ⟨s0, s1, s2, s3, s4⟩
                         go_simp
                         with_reducible rfl
                        rotate_left
                        ·simp only [Act.put, s0_, s1_, s2_, i64_w, i32_w]
                         rfl
                        refine take_ (i := 9) (N := some 49) (v := ?_) (a' := ?_) (mb_ 24 452607) rfl rfl (take_ofW HT_.out HW_.out (by kernel_rfl)) (fun _ _ _ h => h) (Or.inl ⟨by rfl, ?_⟩) hHeld ?_ ?_
                        rotate_left
                        ·rintro w' ⟨s0, s1, s2, s3, s4⟩
                         go_simp
                         with_reducible rfl
                        rotate_left
                        ·simp only [Act.put, s0_, s1_, s2_, i64_w, i32_w]
                         rfl
                        refine pure_ (i := 11) (N := some 51) (v := ?_) (a' := ?_) (mb_ 24 454655) rfl rfl (any_of HT_.out (by kernel_rfl)) (fun _ _ _ h => h) (Or.inl ⟨by rfl, ?_⟩) ?_ ?_
                        rotate_left
                        ·intro w'
                         go_simp
                         with_reducible rfl
                        rotate_left
                        ·simp only [Act.put, s0_, s1_, s2_, i64_w, i32_w]
                         rfl
                        refine take_ (i := 12) (N := some 52) (v := ?_) (a' := ?_) (mb_ 24 458751) rfl rfl (take_ofW HT_.out HW_.out (by kernel_rfl)) (fun _ _ _ h => h) (Or.inl ⟨by rfl, ?_⟩) hHeld ?_ ?_
                        rotate_left
                        ·rintro w' ⟨s0, s1, s2, s3, s4⟩
                         go_simp
                         with_reducible rfl
                        rotate_left
                        ·simp only [Act.put, s0_, s1_, s2_, i64_w, i32_w]
                         rfl
                        refine take_ (i := 16) (N := some 56) (v := ?_) (a' := ?_) (mb_ 24 524287) rfl rfl (take_ofW HT_.out HW_.out (by kernel_rfl)) (fun _ _ _ h => h) (Or.inl ⟨by rfl, ?_⟩) hHeld ?_ ?_
                        rotate_left
                        ·rintro w' ⟨s0, s1, s2, s3, s4⟩
                         go_simp
                         with_reducible rfl
                        rotate_left
                        ·simp only [Act.put, s0_, s1_, s2_, i64_w, i32_w]
                         rfl
                        refine pure_ (i := 19) (N := some 59) (v := ?_) (a' := ?_) (mb_ 24 1048575) rfl rfl (any_of HT_.out (by kernel_rfl)) (fun _ _ _ h => h) (Or.inl ⟨by rfl, ?_⟩) ?_ ?_
                        rotate_left
                        ·intro w'
                         go_simp
                         with_reducible rfl
                        rotate_left
                        ·simp only [Act.put, s0_, s1_, s2_, i64_w, i32_w]
                         rfl
                        refine take_ (i := 20) (N := some 60) (v := ?_) (a' := ?_) (mb_ 24 2097151) rfl rfl (take_ofW HT_.out HW_.out (by kernel_rfl)) (fun _ _ _ h => h) (Or.inl ⟨by rfl, ?_⟩) hHeld ?_ ?_
                        rotate_left
                        ·rintro w' ⟨s0, s1, s2, s3, s4⟩
                         go_simp
                         with_reducible rfl
                        rotate_left
                        ·simp only [Act.put, s0_, s1_, s2_, i64_w, i32_w]
                         rfl
                        refine pure_ (i := 21) (N := some 61) (v := ?_) (a' := ?_) (mb_ 24 4194303) rfl rfl (any_of HT_.out (by kernel_rfl)) (fun _ _ _ h => h) (Or.inl ⟨by rfl, ?_⟩) ?_ ?_
                        rotate_left
                        ·intro w'
                         go_simp
                         with_reducible rfl
                        rotate_left
                        ·simp only [Act.put, s0_, s1_, s2_, i64_w, i32_w]
                         rfl
                        refine pure_ (i := 22) (N := some 62) (v := ?_) (a' := ?_) (mb_ 24 8388607) rfl rfl (any_of HT_.out (by kernel_rfl)) (fun _ _ _ h => h) (Or.inl ⟨by rfl, ?_⟩) ?_ ?_
                        rotate_left
                        ·intro w'
                         go_simp
                         with_reducible rfl
                        rotate_left
                        ·simp only [Act.put, s0_, s1_, s2_, i64_w, i32_w]
                         rfl
                        refine last_ (i := 23) (N := none) (mb_ 24 16777215) rfl rfl (one_of HT_.out (by kernel_rfl)) (by decide) (fun K hK => ?_)
                        refine skip_ (w1 := ?_) (by rfl) rfl ?_ ?_
                        rotate_left
                        ·go_simp
                         rfl
                        refine hK.out _ _ ?_
                        clear hK K
                        refine done_ (done_of HT_.out (by kernel_rfl)) ?_
                        try go_wp2
                        have n0_ : Aside0 (Kd.S (Kd.slice 2 (Kd.int .i64)) 130 (w50.setCell ⟨go35, (x8_3 : Int).toNat, none⟩ (.int .i64 ji33)) w.heap.size (fun _ => True) (.slice (some ad944) x5_3.length co8) y951) := ⟨rs_ HQ51.out⟩
                        have n1_ : Aside0 (Below w.heap.size w (w50.setCell ⟨go35, (x8_3 : Int).toNat, none⟩ (.int .i64 ji33))) := ⟨bw1_ HB.out GB35.out⟩
                        (try clear HO_5)
                        (try clear HB)
                        generalize (w50.setCell ⟨go35, (x8_3 : Int).toNat, none⟩ (.int .i64 ji33)) = w53 at n0_ n1_ ⊢
                        have HO_5 := n0_
                        have HB := n1_
                        clear n0_ n1_
                        have n0_ := Aside0.mk (Kd.S_drew HO_5.out)
                        have n1_ := Aside0.mk (below_drew1 HB.out)
                        clear HO_5
                        clear HB
                        have HO_5 := n0_
                        have HB := n1_
                        clear n0_ n1_
                        have p952 : 0 ≤ (x7_2 : Int) := od_
                        have q952 : x7_2 < (l0.length : Int) := od_
                        obtain ⟨ad952, e952, hx952_0⟩ := Kd.at_string HR0.out x7_2 p952 q952
                        have hw952_0 := hx952_0
                        cases e952
                        replace hx952_0 := hc_ HB.out hx952_0
                        replace p952 := eq_true p952
                        replace q952 := eq_true q952
                        have p953 : 0 ≤ (x8_3 : Int) := od_
                        have q953 : x8_3 < (l1.length : Int) := od_
                        obtain ⟨ad953, e953, hx953_0⟩ := Kd.at_string HR1.out x8_3 p953 q953
                        have hw953_0 := hx953_0
                        cases e953
                        replace hx953_0 := hc_ HB.out hx953_0
                        replace p953 := eq_true p953
                        replace q953 := eq_true q953
                        refine start_ (n := 9) (S := fun w' => w'.cell? (ad952.add (x7_2).toNat) = some (.string (rdOf ByteArray.empty l0 x7_2)) ∧ w'.cell? (ad953.add (x8_3).toNat) = some (.string (rdOf ByteArray.empty l1 x8_3))) (ds := []) (mb_ 9 0) (by kernel_rfl) rfl rfl ⟨(hc_ HB.out hw952_0), (hc_ HB.out hw953_0)⟩ (fun hHeld => ?_);refine with_tabW impl_commons.tab14 impl_commons.bits14 (fun HT_ HW_ => ?_)
                        generalize w53.drew = w54 at HO_5 HB HQ51 hx952_0 hx953_0 hHeld ⊢
                        refine pure_ (i := 0) (N := some 63) (v := ?_) (a' := ?_) (mb_ 9 1) rfl rfl (any_of HT_.out (by kernel_rfl)) (fun _ _ _ h => h) (Or.inl ⟨by rfl, ?_⟩) ?_ ?_
                        rotate_left
                        ·intro w'
                         go_simp
                         with_reducible rfl
                        rotate_left
                        ·simp only [Act.put, s0_, s1_, s2_, i64_w, i32_w]
                         rfl
                        refine pure_ (i := 1) (N := some 64) (v := ?_) (a' := ?_) (mb_ 9 3) rfl rfl (any_of HT_.out (by kernel_rfl)) (fun _ _ _ h => h) (Or.inl ⟨by rfl, ?_⟩) ?_ ?_
                        rotate_left
                        ·intro w'
                         go_simp
                         with_reducible rfl
                        rotate_left
                        ·simp only [Act.put, s0_, s1_, s2_, i64_w, i32_w]
                         rfl
                        refine pure_ (i := 2) (N := some 65) (v := ?_) (a' := ?_) (mb_ 9 7) rfl rfl (any_of HT_.out (by kernel_rfl)) (fun _ _ _ h => h) (Or.inl ⟨by rfl, ?_⟩) ?_ ?_
                        rotate_left
                        ·intro w'
                         go_simp
                         with_reducible rfl
                        rotate_left
                        ·simp only [Act.put, s0_, s1_, s2_, i64_w, i32_w]
                         rfl
                        refine pure_ (i := 4) (N := some 67) (v := ?_) (a' := ?_) (mb_ 9 23) rfl rfl (any_of HT_.out (by kernel_rfl)) (fun _ _ _ h => h) (Or.inl ⟨by rfl, ?_⟩) ?_ ?_
                        rotate_left
                        ·intro w'
                         go_simp
                         with_reducible rfl
                        rotate_left
                        ·simp only [Act.put, s0_, s1_, s2_, i64_w, i32_w]
                         rfl
                        refine pure_ (i := 5) (N := some 68) (v := ?_) (a' := ?_) (mb_ 9 55) rfl rfl (any_of HT_.out (by kernel_rfl)) (fun _ _ _ h => h) (Or.inl ⟨by rfl, ?_⟩) ?_ ?_
                        rotate_left
                        ·intro w'
                         go_simp
                         with_reducible rfl
                        rotate_left
                        ·simp only [Act.put, s0_, s1_, s2_, i64_w, i32_w]
                         rfl
                        refine pure_ (i := 6) (N := some 69) (v := ?_) (a' := ?_) (mb_ 9 119) rfl rfl (any_of HT_.out (by kernel_rfl)) (fun _ _ _ h => h) (Or.inl ⟨by rfl, ?_⟩) ?_ ?_
                        rotate_left
                        ·intro w'
                         go_simp
                         with_reducible rfl
                        rotate_left
                        ·simp only [Act.put, s0_, s1_, s2_, i64_w, i32_w]
                         rfl
                        refine take_ (i := 3) (N := some 66) (v := ?_) (a' := ?_) (mb_ 9 127) rfl rfl (take_ofW HT_.out HW_.out (by kernel_rfl)) (fun _ _ _ h => h) (Or.inl ⟨by rfl, ?_⟩) hHeld ?_ ?_
                        rotate_left
                        ·rintro w' ⟨s0, s1⟩
                         go_simp
                         with_reducible rfl
                        rotate_left
                        ·simp only [Act.put, s0_, s1_, s2_, i64_w, i32_w]
                         rfl
                        refine take_ (i := 7) (N := some 70) (v := ?_) (a' := ?_) (mb_ 9 255) rfl rfl (take_ofW HT_.out HW_.out (by kernel_rfl)) (fun _ _ _ h => h) (Or.inl ⟨by rfl, ?_⟩) hHeld ?_ ?_
                        rotate_left
                        ·rintro w' ⟨s0, s1⟩
                         go_simp
                         with_reducible rfl
                        rotate_left
                        ·simp only [Act.put, s0_, s1_, s2_, i64_w, i32_w]
                         rfl
                        refine pure_ (i := 8) (N := some 71) (v := ?_) (a' := ?_) (mb_ 9 511) rfl rfl (any_of HT_.out (by kernel_rfl)) (fun _ _ _ h => h) (Or.inl ⟨by rfl, ?_⟩) ?_ ?_
                        rotate_left
                        ·intro w'
                         go_simp
                         with_reducible rfl
                        rotate_left
                        ·simp only [Act.put, s0_, s1_, s2_, i64_w, i32_w]
                         rfl
                        refine done_ (done_of HT_.out (by kernel_rfl)) ?_
                        try go_wp2
                        (try simp only [← hl5_3])
                        go_roundg k3
                        case measure => have := HK1.out;have := HK2.out;have := HK3.out;omega
                        case rel => exact ⟨(y951), (wrap64 (x8_3 - 1)), ls_, H', ⟨by have := HK1.out;have := HK2.out;have := HK3.out;omega⟩, ⟨by (try simp only [hl5_1]);(try simp only [hl5_2]);(try simp only [hl5_3]);(with_reducible repeat (first | apply Kd.S_alloc | apply Kd.S_drewN | apply Kd.S_drew));exact HO_5.out⟩, ⟨bw_ HB.out⟩⟩
                      ·rw [if_neg c37] at H
                       exact absurd H (by simp)
                     ·rw [if_neg c36] at H
                      exact absurd H (by simp)
                    ·rw [if_neg c34] at H
                     exact absurd H (by simp)
                   ·rw [if_neg c32] at H
                    exact absurd H (by simp)
                  ·rw [if_neg c31] at H
                   exact absurd H (by simp)
                 ·rw [if_neg c29] at H
                  exact absurd H (by simp)
                ·rw [if_neg c28] at H
                 exact absurd H (by simp)
               ·rw [if_neg c27] at H
                exact absurd H (by simp)
              ·rw [if_neg c26] at H
               exact absurd H (by simp)
             ·rw [if_neg c24] at H
              exact absurd H (by simp)
            ·rw [if_neg c23] at H
             exact absurd H (by simp)
           ·rw [if_neg c22] at H
            have c22b0 : decide (0 ≤ x8_3) = false := decide_eq_false c22
            clear c22
            have H' := Aside0.mk H
            clear H
            go_wp2
            (try simp only [← hl5_2, ← hl5_3])
            go_roundg k3
            case measure => have := HK1.out;have := HK2.out;have := HK3.out;omega
            case rel => exact ⟨(x5_3), (wrap64 (x7_2 - 1)), ls_, H', ⟨by have := HK1.out;have := HK2.out;have := HK3.out;omega⟩, ⟨by (try simp only [hl5_1]);(try simp only [hl5_2]);(try simp only [hl5_3]);(with_reducible repeat (first | apply Kd.S_alloc | apply Kd.S_drewN | apply Kd.S_drew));exact HO_5.out⟩, ⟨bw_ HB.out⟩⟩
        ·rw [if_neg c21] at H
         have c21b0 : decide (0 ≤ x7_2) = false := decide_eq_false c21
         clear c21
         obtain rfl := Option.some.inj H
         go_wp2
         go_ret
         exact ⟨_, by first | rfl | (simp [errW_none, errW_some] <;> rfl) | (simp only [← hji3];first | rfl | (simp [errW_none, errW_some] <;> rfl)) | (simp [*, errW_none, errW_some] <;> rfl), rs_ HO_5.out, bw_ HB.out⟩
  ·rw [if_neg c5] at H;exact absurd H (by simp)
 ·rw [if_neg c4] at H;exact absurd H (by simp)
end Go.Proofs.Ytjngmhngedecdaa.P
end
section
namespace Go.Proofs.Ytjngmhngedecdaa.P
open Go.RowKit Go.Proofs.YtjngmhngedecdaaW.PrintWords Go.Proofs.YtjngmhngedecdaaW.PrintLast Go.Proofs.YtjngmhngedecdaaW.PrintMore
attribute [local go_sem] max2_int min2_int max_two min_two max_three min_three max_four min_four
set_option linter.unusedVariables false
set_option linter.unusedSimpArgs false
mutual
def impl_match.l0 : Nat → List ByteArray → List ByteArray → List (List Int) → List Int → List Int → Int → Int → Option (List Int × List Int)
 | 0, _, _, _, _, _, _, _ => none
 | k + 1, x0, x1, x6, x7, x8, x9, x10 => if x9 < (x0.length : Int) then (impl_match.j1 k x0 x1 x6 x7 x8 x9 x10 (decide (x10 < (x1.length : Int)))) else (impl_match.j1 k x0 x1 x6 x7 x8 x9 x10 false)
def impl_match.j1 : Nat → List ByteArray → List ByteArray → List (List Int) → List Int → List Int → Int → Int → Bool → Option (List Int × List Int)
 | 0, _, _, _, _, _, _, _, _ => none
 | k + 1, x0, x1, x6, x7, x8, x9, x10, x25 => if x25 = true then (if 0 ≤ x9 then (if x9 < (x0.length : Int) then (if 0 ≤ x10 then (if x10 < (x1.length : Int) then (if (rdOf ByteArray.empty x0 x9).toList = (rdOf ByteArray.empty x1 x10).toList then (if x7.length < 17592186044416 then (if x8.length < 17592186044416 then (impl_match.l0 k x0 x1 x6 (x7 ++ [x9]) (x8 ++ [x10]) (wrap64 (x9 + 1)) (wrap64 (x10 + 1))) else (none)) else (none)) else (if 0 ≤ (wrap64 (x9 + 1)) then (if (wrap64 (x9 + 1)) < (x6.length : Int) then (if x10 < ((rd_L13 x6 (wrap64 (x9 + 1))).length : Int) then (if x9 < (x6.length : Int) then (if 0 ≤ (wrap64 (x10 + 1)) then (if (wrap64 (x10 + 1)) < ((rd_L13 x6 x9).length : Int) then (if (rd (rd_L13 x6 (wrap64 (x9 + 1))) x10) ≥ (rd (rd_L13 x6 x9) (wrap64 (x10 + 1))) then (impl_match.l0 k x0 x1 x6 x7 x8 (wrap64 (x9 + 1)) x10) else (impl_match.l0 k x0 x1 x6 x7 x8 x9 (wrap64 (x10 + 1)))) else (none)) else (none)) else (none)) else (none)) else (none)) else (none))) else (none)) else (none)) else (none)) else (none)) else (some (x7, x8))
end
def impl_match.f (k : Nat) (l0 : List ByteArray) (l1 : List ByteArray) : Option (List Int × List Int) := (impl_commons.f k l0 l1).bind fun t960 => (impl_match.l0 k l0 l1 t960 (([] : List Int)) (([] : List Int)) 0 0)
theorem impl_match.mono_l : ∀ k, (∀ y0 y1 y2 y3 y4 y5 y6, LeO (impl_match.l0 k y0 y1 y2 y3 y4 y5 y6) (impl_match.l0 (k + 1) y0 y1 y2 y3 y4 y5 y6)) ∧ (∀ y0 y1 y2 y3 y4 y5 y6 y7, LeO (impl_match.j1 k y0 y1 y2 y3 y4 y5 y6 y7) (impl_match.j1 (k + 1) y0 y1 y2 y3 y4 y5 y6 y7))
 | 0 => ⟨fun _ _ _ _ _ _ _ r h => by simp [impl_match.l0] at h, fun _ _ _ _ _ _ _ _ r h => by simp [impl_match.j1] at h⟩
 | k + 1 => by
  obtain ⟨ih0, ih1⟩ := impl_match.mono_l k
  refine ⟨?_, ?_⟩
  ·intro y0 y1 y2 y3 y4 y5 y6
   unfold impl_match.l0
   repeat' first
   | (with_reducible exact ih0 _ _ _ _ _ _ _)
   | (with_reducible exact ih1 _ _ _ _ _ _ _ _)
   | (with_reducible exact impl_commons.mono _ _ _)
   | (with_reducible exact LeO.refl _)
   | (with_reducible exact LeO.none _)
   | (with_reducible refine LeO.ite ?_ ?_)
   | (with_reducible refine LeO.bind ?_ (fun _ => ?_))
   | exact ih0 _ _ _ _ _ _ _
   | exact ih1 _ _ _ _ _ _ _ _
   | exact impl_commons.mono _ _ _
   | exact LeO.none _
   | refine LeO.ite ?_ ?_
   | refine LeO.bind ?_ (fun _ => ?_)
  ·intro y0 y1 y2 y3 y4 y5 y6 y7
   unfold impl_match.j1
   repeat' first
   | (with_reducible exact ih0 _ _ _ _ _ _ _)
   | (with_reducible exact ih1 _ _ _ _ _ _ _ _)
   | (with_reducible exact impl_commons.mono _ _ _)
   | (with_reducible exact LeO.refl _)
   | (with_reducible exact LeO.none _)
   | (with_reducible refine LeO.ite ?_ ?_)
   | (with_reducible refine LeO.bind ?_ (fun _ => ?_))
   | exact ih0 _ _ _ _ _ _ _
   | exact ih1 _ _ _ _ _ _ _ _
   | exact impl_commons.mono _ _ _
   | exact LeO.none _
   | refine LeO.ite ?_ ?_
   | refine LeO.bind ?_ (fun _ => ?_)
theorem impl_match.mono : ∀ a0 a1 k, LeO (impl_match.f k a0 a1) (impl_match.f (k + 1) a0 a1) := by
 intro a0 a1 k;obtain ⟨ih0, ih1⟩ := impl_match.mono_l k;unfold impl_match.f
 repeat' first
   | (with_reducible exact ih0 _ _ _ _ _ _ _)
   | (with_reducible exact ih1 _ _ _ _ _ _ _ _)
   | (with_reducible exact impl_commons.mono _ _ _)
   | (with_reducible exact LeO.refl _)
   | (with_reducible exact LeO.none _)
   | (with_reducible refine LeO.ite ?_ ?_)
   | (with_reducible refine LeO.bind ?_ (fun _ => ?_))
   | exact ih0 _ _ _ _ _ _ _
   | exact ih1 _ _ _ _ _ _ _ _
   | exact impl_commons.mono _ _ _
   | exact LeO.none _
   | refine LeO.ite ?_ ?_
   | refine LeO.bind ?_ (fun _ => ?_)
set_option maxHeartbeats 8000000 in
set_option maxRecDepth 100000 in
theorem impl_match.calls (k : Nat) (A0 : Option Addr) (c0 : Nat) (l0 : List ByteArray) (A1 : Option Addr) (c1 : Nat) (l1 : List ByteArray) (r1 : List Int) (r2 : List Int) (w : World) (hr0 : Kd.C Kd.string w A0 l0.length l0) (hc0 : l0.length ≤ c0) (hr1 : Kd.C Kd.string w A1 l1.length l1) (hc1 : l1.length ≤ c1) (h : impl_match.f k l0 l1 = some (r1, r2)) :
  Calls Try.prog 125 #[.slice A0 l0.length c0, .slice A1 l1.length c1] w fun e w' => ∃ v0_ v1_ : Value, e = .returned (.tuple #[v0_, v1_]) ∧ Kd.R (Kd.int .i64) 2 w' w.heap.size (fun k_ => some k_ ≠ (v1_ : Value).ownBlock) v0_ r1 ∧ Kd.R (Kd.int .i64) 2 w' w.heap.size (fun k_ => some k_ ≠ (v0_ : Value).ownBlock) v1_ r2 ∧ Below w.heap.size w w' := by
 have HR0 := Aside0.mk hr0;have HC0 := Aside0.mk hc0;clear hr0 hc0;have HR1 := Aside0.mk hr1;have HC1 := Aside0.mk hc1;clear hr1 hc1;have HB := Aside0.mk (Below.refl w.heap.size w);have H : ((impl_commons.f k l0 l1).bind fun t960 => (impl_match.l0 k l0 l1 t960 (([] : List Int)) (([] : List Int)) 0 0)) = some (r1, r2) := h;clear h;replace H := Option.bind_eq_some_iff.mp H;obtain ⟨t960, A30, H⟩ := H;replace H : (impl_match.l0 k l0 l1 t960 (([] : List Int)) (([] : List Int)) 0 0) = some (r1, r2) := H;have A3 := Aside0.mk A30;clear A30;obtain ⟨y963, hy963⟩ : ∃ y_ : List Int, y_ = (([] : List Int)) := ⟨_, rfl⟩;(replace H : (impl_match.l0 k l0 l1 t960 y963 (([] : List Int)) 0 0) = some (r1, r2) := by first | (rw [hy963];with_reducible exact H) | (have H2_ := (Option.bind_some _ _).symm.trans H;rw [hy963];with_reducible exact H2_) | (have H2_ := (Option.bind_some _ _).symm.trans H;with_reducible exact H2_) | with_reducible exact H | (rw [hy963];exact H) | exact H);have Ny963 := Aside0.mk hy963;clear hy963;obtain ⟨y966, hy966⟩ : ∃ y_ : List Int, y_ = (([] : List Int)) := ⟨_, rfl⟩;(replace H : (impl_match.l0 k l0 l1 t960 y963 y966 0 0) = some (r1, r2) := by first | (rw [hy966];with_reducible exact H) | (have H2_ := (Option.bind_some _ _).symm.trans H;rw [hy966];with_reducible exact H2_) | (have H2_ := (Option.bind_some _ _).symm.trans H;with_reducible exact H2_) | with_reducible exact H | (rw [hy966];exact H) | exact H);have Ny966 := Aside0.mk hy966;clear hy966;have H' := Aside0.mk H;clear H;go_enter Try.func125, Try.ntmps125;go_wp2_with (first | (go_at_call 142;(with_reducible refine (impl_commons.calls k _ _ l0 _ _ l1 t960 _ ?side1 ?side2 ?side3 ?side4 A3.out).mono ?_);(case side1 => exact rc_ HR0.out);(case side2 => exact HC0.out);(case side3 => exact rc_ HR1.out);(case side4 => exact HC1.out);rintro e w4 ⟨v961, rfl, ho0, hb⟩;have n0_ := Aside0.mk (Kd.S_lower ho0 (below_size (bw_ HB.out)));have n1_ := Aside0.mk (below_step (bw_ HB.out) hb);clear HB;have HO962 := n0_;have HB := n1_;clear n0_ n1_;(try clear hb);(try clear hb2);(try clear hk);(try clear hi);(try clear ho0)) | ((with_reducible refine gate_dst (N := 14) rfl ?_);(try (refine gate_guard (by rfl) ?_;dsimp only));refine Kd.R_lit (Kd.int .i64) _ 2 ?hg (N := 14) ?hd (xs := ([] : List Int)) (inner := []) (ok := fun _ => True) (okp := fun _ => True) ?hr ?hp (fun _ hk => hk) trivial (Below.refl _ _) (Nat.le_refl _) (by simp) ?_;(case hd => rfl);(case hg => rfl);(case hr => first | (go_simp;done) | (go_simp;rfl));(case hp => exact (Reps.none _ _));intro v964 w5 ho6 hb hg_ hnew_;clear hg_ hnew_;(first | rw [← Ny963.out] at ho6 | (simp only [Int.reduceToNat] at ho6;rw [← Ny963.out] at ho6));have n0_ := Aside0.mk (Kd.S_elder' (rs_ HO962.out) (Kd.R_base ho6) hb);have n1_ := Aside0.mk (Kd.R_lower ho6 (below_size (bw_ HB.out)));have n2_ := Aside0.mk (below_step (bw_ HB.out) hb);clear HO962;clear HB;have HO962 := n0_;have HO965 := n1_;have HB := n2_;clear n0_ n1_ n2_;clear hb ho6) | ((with_reducible refine gate_dst (N := 15) rfl ?_);(try (refine gate_guard (by rfl) ?_;dsimp only));refine Kd.R_lit (Kd.int .i64) _ 2 ?hg (N := 15) ?hd (xs := ([] : List Int)) (inner := []) (ok := fun _ => True) (okp := fun _ => True) ?hr ?hp (fun _ hk => hk) trivial (Below.refl _ _) (Nat.le_refl _) (by simp) ?_;(case hd => rfl);(case hg => rfl);(case hr => first | (go_simp;done) | (go_simp;rfl));(case hp => exact (Reps.none _ _));intro v967 w7 ho8 hb hg_ hnew_;clear hg_ hnew_;(first | rw [← Ny966.out] at ho8 | (simp only [Int.reduceToNat] at ho8;rw [← Ny966.out] at ho8));have n0_ := Aside0.mk (Kd.S_elder' (rs_ HO962.out) (Kd.R_base ho8) hb);have n1_ := Aside0.mk (Kd.R_elder' (rr_ HO965.out) (Kd.R_base ho8) hb);have n2_ := Aside0.mk (Kd.R_lower (Kd.R_new' ho8 (Kd.R_lt (rr_ HO965.out))) (below_size (bw_ HB.out)));have n3_ := Aside0.mk (below_step (bw_ HB.out) hb);clear HO962;clear HO965;clear HB;have HO962 := n0_;have HO965 := n1_;have HO968 := n2_;have HB := n3_;clear n0_ n1_ n2_ n3_;clear hb ho8));(repeat (go_quiet (first | (go_at_call 142;(with_reducible refine (impl_commons.calls k _ _ l0 _ _ l1 t960 _ ?side1 ?side2 ?side3 ?side4 A3.out).mono ?_);(case side1 => exact rc_ HR0.out);(case side2 => exact HC0.out);(case side3 => exact rc_ HR1.out);(case side4 => exact HC1.out);rintro e w4 ⟨v961, rfl, ho0, hb⟩;have n0_ := Aside0.mk (Kd.S_lower ho0 (below_size (bw_ HB.out)));have n1_ := Aside0.mk (below_step (bw_ HB.out) hb);clear HB;have HO962 := n0_;have HB := n1_;clear n0_ n1_;(try clear hb);(try clear hb2);(try clear hk);(try clear hi);(try clear ho0)) | ((with_reducible refine gate_dst (N := 14) rfl ?_);(try (refine gate_guard (by rfl) ?_;dsimp only));refine Kd.R_lit (Kd.int .i64) _ 2 ?hg (N := 14) ?hd (xs := ([] : List Int)) (inner := []) (ok := fun _ => True) (okp := fun _ => True) ?hr ?hp (fun _ hk => hk) trivial (Below.refl _ _) (Nat.le_refl _) (by simp) ?_;(case hd => rfl);(case hg => rfl);(case hr => first | (go_simp;done) | (go_simp;rfl));(case hp => exact (Reps.none _ _));intro v964 w5 ho6 hb hg_ hnew_;clear hg_ hnew_;(first | rw [← Ny963.out] at ho6 | (simp only [Int.reduceToNat] at ho6;rw [← Ny963.out] at ho6));have n0_ := Aside0.mk (Kd.S_elder' (rs_ HO962.out) (Kd.R_base ho6) hb);have n1_ := Aside0.mk (Kd.R_lower ho6 (below_size (bw_ HB.out)));have n2_ := Aside0.mk (below_step (bw_ HB.out) hb);clear HO962;clear HB;have HO962 := n0_;have HO965 := n1_;have HB := n2_;clear n0_ n1_ n2_;clear hb ho6) | ((with_reducible refine gate_dst (N := 15) rfl ?_);(try (refine gate_guard (by rfl) ?_;dsimp only));refine Kd.R_lit (Kd.int .i64) _ 2 ?hg (N := 15) ?hd (xs := ([] : List Int)) (inner := []) (ok := fun _ => True) (okp := fun _ => True) ?hr ?hp (fun _ hk => hk) trivial (Below.refl _ _) (Nat.le_refl _) (by simp) ?_;(case hd => rfl);(case hg => rfl);(case hr => first | (go_simp;done) | (go_simp;rfl));(case hp => exact (Reps.none _ _));intro v967 w7 ho8 hb hg_ hnew_;clear hg_ hnew_;(first | rw [← Ny966.out] at ho8 | (simp only [Int.reduceToNat] at ho8;rw [← Ny966.out] at ho8));have n0_ := Aside0.mk (Kd.S_elder' (rs_ HO962.out) (Kd.R_base ho8) hb);have n1_ := Aside0.mk (Kd.R_elder' (rr_ HO965.out) (Kd.R_base ho8) hb);have n2_ := Aside0.mk (Kd.R_lower (Kd.R_new' ho8 (Kd.R_lt (rr_ HO965.out))) (below_size (bw_ HB.out)));have n3_ := Aside0.mk (below_step (bw_ HB.out) hb);clear HO962;clear HO965;clear HB;have HO962 := n0_;have HO965 := n1_;have HO968 := n2_;have HB := n3_;clear n0_ n1_ n2_ n3_;clear hb ho8));try go_wp2_with (first | (go_at_call 142;(with_reducible refine (impl_commons.calls k _ _ l0 _ _ l1 t960 _ ?side1 ?side2 ?side3 ?side4 A3.out).mono ?_);(case side1 => exact rc_ HR0.out);(case side2 => exact HC0.out);(case side3 => exact rc_ HR1.out);(case side4 => exact HC1.out);rintro e w4 ⟨v961, rfl, ho0, hb⟩;have n0_ := Aside0.mk (Kd.S_lower ho0 (below_size (bw_ HB.out)));have n1_ := Aside0.mk (below_step (bw_ HB.out) hb);clear HB;have HO962 := n0_;have HB := n1_;clear n0_ n1_;(try clear hb);(try clear hb2);(try clear hk);(try clear hi);(try clear ho0)) | ((with_reducible refine gate_dst (N := 14) rfl ?_);(try (refine gate_guard (by rfl) ?_;dsimp only));refine Kd.R_lit (Kd.int .i64) _ 2 ?hg (N := 14) ?hd (xs := ([] : List Int)) (inner := []) (ok := fun _ => True) (okp := fun _ => True) ?hr ?hp (fun _ hk => hk) trivial (Below.refl _ _) (Nat.le_refl _) (by simp) ?_;(case hd => rfl);(case hg => rfl);(case hr => first | (go_simp;done) | (go_simp;rfl));(case hp => exact (Reps.none _ _));intro v964 w5 ho6 hb hg_ hnew_;clear hg_ hnew_;(first | rw [← Ny963.out] at ho6 | (simp only [Int.reduceToNat] at ho6;rw [← Ny963.out] at ho6));have n0_ := Aside0.mk (Kd.S_elder' (rs_ HO962.out) (Kd.R_base ho6) hb);have n1_ := Aside0.mk (Kd.R_lower ho6 (below_size (bw_ HB.out)));have n2_ := Aside0.mk (below_step (bw_ HB.out) hb);clear HO962;clear HB;have HO962 := n0_;have HO965 := n1_;have HB := n2_;clear n0_ n1_ n2_;clear hb ho6) | ((with_reducible refine gate_dst (N := 15) rfl ?_);(try (refine gate_guard (by rfl) ?_;dsimp only));refine Kd.R_lit (Kd.int .i64) _ 2 ?hg (N := 15) ?hd (xs := ([] : List Int)) (inner := []) (ok := fun _ => True) (okp := fun _ => True) ?hr ?hp (fun _ hk => hk) trivial (Below.refl _ _) (Nat.le_refl _) (by simp) ?_;(case hd => rfl);(case hg => rfl);(case hr => first | (go_simp;done) | (go_simp;rfl));(case hp => exact (Reps.none _ _));intro v967 w7 ho8 hb hg_ hnew_;clear hg_ hnew_;(first | rw [← Ny966.out] at ho8 | (simp only [Int.reduceToNat] at ho8;rw [← Ny966.out] at ho8));have n0_ := Aside0.mk (Kd.S_elder' (rs_ HO962.out) (Kd.R_base ho8) hb);have n1_ := Aside0.mk (Kd.R_elder' (rr_ HO965.out) (Kd.R_base ho8) hb);have n2_ := Aside0.mk (Kd.R_lower (Kd.R_new' ho8 (Kd.R_lt (rr_ HO965.out))) (below_size (bw_ HB.out)));have n3_ := Aside0.mk (below_step (bw_ HB.out) hb);clear HO962;clear HO965;clear HB;have HO962 := n0_;have HO965 := n1_;have HO968 := n2_;have HB := n3_;clear n0_ n1_ n2_ n3_;clear hb ho8))));go_loopg [7, 8, 9, 10] k (fun kq v7 v8 v9 v10 w' => ∃ (x7_1 : List Int) (x8_1 : List Int) (x9_1 : Int) (x10_1 : Int), v9 = .int .i64 x9_1 ∧ v10 = .int .i64 x10_1 ∧ Aside0 (impl_match.l0 kq l0 l1 t960 x7_1 x8_1 x9_1 x10_1 = some (r1, r2)) ∧ Aside0 (kq ≤ k) ∧ Aside0 (Kd.S (Kd.slice 2 (Kd.int .i64)) 130 w' w.heap.size (fun k_ => some k_ ≠ (v7 : Value).ownBlock ∧ some k_ ≠ (v8 : Value).ownBlock) v961 t960) ∧ Aside0 (Kd.R (Kd.int .i64) 2 w' w.heap.size (fun k_ => some k_ ≠ (v8 : Value).ownBlock) v7 x7_1) ∧ Aside0 (Kd.R (Kd.int .i64) 2 w' w.heap.size (fun k_ => some k_ ≠ (v7 : Value).ownBlock) v8 x8_1) ∧ Aside0 (Below w.heap.size w w'));(case atStart => exact ⟨(y963), (y966), (0), (0), ls_, ls_, H', ⟨Nat.le_refl _⟩, ⟨by (with_reducible repeat (first | apply Kd.S_alloc | apply Kd.S_drewN | apply Kd.S_drew));exact Kd.S_mono HO962.out (fun _ hk => ⟨hk.1.2, hk.2⟩)⟩, ⟨by (with_reducible repeat (first | apply Kd.R_alloc | apply Kd.R_drewN | apply Kd.R_drew));exact Kd.R_mono HO965.out (fun _ hk => hk.2)⟩, ⟨by (with_reducible repeat (first | apply Kd.R_alloc | apply Kd.R_drewN | apply Kd.R_drew));exact Kd.R_mono HO968.out (fun _ hk => hk.2)⟩, ⟨bw_ HB.out⟩⟩)
 case round =>
  clear H'
  try clear c1
  try clear p2
  obtain ⟨x7_1, x8_1, x9_1, x10_1, rfl, rfl, HA, HK1, HO_6, HO_7, HO_8, HB⟩ := hrel
  cases gk with
  | zero => exact absurd HA.out (by simp [impl_match.l0])
  | succ k1 =>
   have H := HA.out
   clear HA
   simp only [impl_match.l0] at H
   have HC9 := Aside0.mk H
   clear H
   go_upto_region 4 with (fail)
   repeat (go_quiet (fail);go_upto_region 4 with (fail))
   go_cut [25] (fun v25 wc => ∃ (kq : Nat) (x25_8 : Bool), v25 = .bool x25_8 ∧ Aside0 (impl_match.j1 kq l0 l1 t960 x7_1 x8_1 x9_1 x10_1 x25_8 = some (r1, r2)) ∧ Aside0 (kq ≤ k1) ∧ Aside0 (Kd.S (Kd.slice 2 (Kd.int .i64)) 130 wc w.heap.size (fun k_ => some k_ ≠ (u7 : Value).ownBlock ∧ some k_ ≠ (u8 : Value).ownBlock) v961 t960) ∧ Aside0 (Kd.R (Kd.int .i64) 2 wc w.heap.size (fun k_ => some k_ ≠ (u8 : Value).ownBlock) u7 x7_1) ∧ Aside0 (Kd.R (Kd.int .i64) 2 wc w.heap.size (fun k_ => some k_ ≠ (u7 : Value).ownBlock) u8 x8_1) ∧ Aside0 (Below w.heap.size w wc))
   case first =>
    have H := HC9.out
    clear HC9
    by_cases c10 : x9_1 < (l0.length : Int)
    ·rw [if_pos c10] at H
     have c10b0 : decide (x9_1 < (l0.length : Int)) = true := decide_eq_true c10
     clear c10
     (first | rw [c10b0] | (simp only [i64_w, i32_w];rw [c10b0]) | skip)
     have H' := Aside0.mk H
     clear H
     go_wp2
     repeat (go_quiet (fail);try go_wp2)
     go_meet
     case rel => exact ⟨_, (decide (x10_1 < (l1.length : Int))), ls_, H', ⟨by have := HK1.out;first | omega | exact Nat.le_refl _⟩, ⟨rs_ HO_6.out⟩, ⟨rr_ HO_7.out⟩, ⟨rr_ HO_8.out⟩, ⟨bw_ HB.out⟩⟩
    ·rw [if_neg c10] at H
     have c10b0 : decide (x9_1 < (l0.length : Int)) = false := decide_eq_false c10
     clear c10
     (first | rw [c10b0] | (simp only [i64_w, i32_w];rw [c10b0]) | skip)
     have H' := Aside0.mk H
     clear H
     go_wp2
     repeat (go_quiet (fail);try go_wp2)
     go_meet
     case rel => exact ⟨_, (false), ls_, H', ⟨by have := HK1.out;first | omega | exact Nat.le_refl _⟩, ⟨rs_ HO_6.out⟩, ⟨rr_ HO_7.out⟩, ⟨rr_ HO_8.out⟩, ⟨bw_ HB.out⟩⟩
   case rest =>
    clear HC9
    try clear c1
    try clear p2
    try clear c10
    try clear c10b0
    try clear p2
    obtain ⟨kq, x25_8, rfl, HA, HJ8, HO_6, HO_7, HO_8, HB⟩ := hcut
    cases kq with
    | zero => exact absurd HA.out (by simp [impl_match.j1])
    | succ kj8 =>
     have H := HA.out
     clear HA
     simp only [impl_match.j1] at H
     by_cases c11 : x25_8 = true
     ·subst c11
      have H1 : (if 0 ≤ x9_1 then (if x9_1 < (l0.length : Int) then (if 0 ≤ x10_1 then (if x10_1 < (l1.length : Int) then (if (rdOf ByteArray.empty l0 x9_1).toList = (rdOf ByteArray.empty l1 x10_1).toList then (if x7_1.length < 17592186044416 then (if x8_1.length < 17592186044416 then (impl_match.l0 kj8 l0 l1 t960 (x7_1 ++ [x9_1]) (x8_1 ++ [x10_1]) (wrap64 (x9_1 + 1)) (wrap64 (x10_1 + 1))) else (none)) else (none)) else (if 0 ≤ (wrap64 (x9_1 + 1)) then (if (wrap64 (x9_1 + 1)) < (t960.length : Int) then (if x10_1 < ((rd_L13 t960 (wrap64 (x9_1 + 1))).length : Int) then (if x9_1 < (t960.length : Int) then (if 0 ≤ (wrap64 (x10_1 + 1)) then (if (wrap64 (x10_1 + 1)) < ((rd_L13 t960 x9_1).length : Int) then (if (rd (rd_L13 t960 (wrap64 (x9_1 + 1))) x10_1) ≥ (rd (rd_L13 t960 x9_1) (wrap64 (x10_1 + 1))) then (impl_match.l0 kj8 l0 l1 t960 x7_1 x8_1 (wrap64 (x9_1 + 1)) x10_1) else (impl_match.l0 kj8 l0 l1 t960 x7_1 x8_1 x9_1 (wrap64 (x10_1 + 1)))) else (none)) else (none)) else (none)) else (none)) else (none)) else (none))) else (none)) else (none)) else (none)) else (none)) = some (r1, r2) := by rw [if_pos rfl] at H;exact H
      clear H
      have H := H1
      clear H1
      by_cases c12 : 0 ≤ x9_1
      ·rw [if_pos c12] at H
       have c12b0 : decide (0 ≤ x9_1) = true := decide_eq_true c12
       clear c12
       by_cases c13 : x9_1 < (l0.length : Int)
       ·rw [if_pos c13] at H
        have c13b0 : decide (x9_1 < (l0.length : Int)) = true := decide_eq_true c13
        clear c13
        by_cases c14 : 0 ≤ x10_1
        ·rw [if_pos c14] at H
         have c14b0 : decide (0 ≤ x10_1) = true := decide_eq_true c14
         clear c14
         by_cases c15 : x10_1 < (l1.length : Int)
         ·rw [if_pos c15] at H
          have c15b0 : decide (x10_1 < (l1.length : Int)) = true := decide_eq_true c15
          clear c15
          by_cases c16 : (rdOf ByteArray.empty l0 x9_1).toList = (rdOf ByteArray.empty l1 x10_1).toList
          ·rw [if_pos c16] at H
           have c16b0 : ((rdOf ByteArray.empty l0 x9_1).toList == (rdOf ByteArray.empty l1 x10_1).toList) = true := beq_iff_eq.mpr c16
           have c16b1 : ((rdOf ByteArray.empty l0 x9_1).toList != (rdOf ByteArray.empty l1 x10_1).toList) = false := bne_eq_false_iff_eq.mpr c16
           clear c16
           by_cases c17 : x7_1.length < 17592186044416
           ·rw [if_pos c17] at H
            have LMc17 := Aside0.mk c17
            clear c17
            obtain ⟨y971, hy971⟩ : ∃ y_ : List Int, y_ = (x7_1 ++ [x9_1]) := ⟨_, rfl⟩
            replace H : (if x8_1.length < 17592186044416 then (impl_match.l0 kj8 l0 l1 t960 y971 (x8_1 ++ [x10_1]) (wrap64 (x9_1 + 1)) (wrap64 (x10_1 + 1))) else (none)) = some (r1, r2) := by first | (rw [hy971];with_reducible exact H) | (have H2_ := (Option.bind_some _ _).symm.trans H;rw [hy971];with_reducible exact H2_) | (have H2_ := (Option.bind_some _ _).symm.trans H;with_reducible exact H2_) | with_reducible exact H | (rw [hy971];exact H) | exact H
            have Ny971 := Aside0.mk hy971
            clear hy971
            by_cases c18 : x8_1.length < 17592186044416
            ·rw [if_pos c18] at H
             have LMc18 := Aside0.mk c18
             clear c18
             obtain ⟨y974, hy974⟩ : ∃ y_ : List Int, y_ = (x8_1 ++ [x10_1]) := ⟨_, rfl⟩
             replace H : (impl_match.l0 kj8 l0 l1 t960 y971 y974 (wrap64 (x9_1 + 1)) (wrap64 (x10_1 + 1))) = some (r1, r2) := by first | (rw [hy974];with_reducible exact H) | (have H2_ := (Option.bind_some _ _).symm.trans H;rw [hy974];with_reducible exact H2_) | (have H2_ := (Option.bind_some _ _).symm.trans H;with_reducible exact H2_) | with_reducible exact H | (rw [hy974];exact H) | exact H
             have Ny974 := Aside0.mk hy974
             clear hy974
             have H' := Aside0.mk H
             clear H
             have p969 : 0 ≤ (x9_1 : Int) := od_
             have q969 : x9_1 < (l0.length : Int) := od_
             obtain ⟨ad969, e969, hx969_0⟩ := Kd.at_string HR0.out x9_1 p969 q969
             cases e969
             replace hx969_0 := hc_ HB.out hx969_0
             replace p969 := eq_true p969
             replace q969 := eq_true q969
             have p970 : 0 ≤ (x10_1 : Int) := od_
             have q970 : x10_1 < (l1.length : Int) := od_
             obtain ⟨ad970, e970, hx970_0⟩ := Kd.at_string HR1.out x10_1 p970 q970
             cases e970
             replace hx970_0 := hc_ HB.out hx970_0
             replace p970 := eq_true p970
             replace q970 := eq_true q970
             go_wp2_with (first | ((with_reducible refine gate_builtin (b := .append) (xs := #[.tmp 38, .tmp 40]) rfl ?_);(try (refine gate_guard (by rfl) ?_;dsimp only));at_builtin;refine Kd.R_append (Kd.int .i64) (w0 := w) w.heap.size rfl (.tmp 38) (.tmp 40) 130 2 (.int .i64 0) 8 rfl Try.underlying130 info2 rfl (by decide) (by omega) u7 x7_1 x9_1 [.int .i64 x9_1] (fun k_ => some k_ ≠ (u8 : Value).ownBlock) (fun _ => False) rfl rfl ?aP (fun _ hk => hk.elim) ?aF ?aO ?aB ?aS ?aL ?_;(case aP => exact rfl);(case aB => exact (bw_ HB.out));(case aF => exact (fun k_ hk => Kd.fresh' (Kd.R_lt (rr_ HO_8.out)) k_ hk));(case aO => exact (rr_ HO_7.out));(case aS => exact (below_size (bw_ HB.out)));(case aL => have := LMc17.out;omega);intro v972 w19 ho hb hg hat;rw [← Ny971.out] at ho;have n0_ := Aside0.mk (Kd.S_after (ok := (fun k_ => some k_ ≠ (u8 : Value).ownBlock)) (by (with_reducible repeat (first | apply Kd.S_alloc | apply Kd.S_drewN | apply Kd.S_drew));exact Kd.S_mono HO_6.out (fun _ hk => ⟨hk.2, hk.1⟩)) hg hat);have n1_ := Aside0.mk (Kd.R_after (ok := (fun _ => True)) (by (with_reducible repeat (first | apply Kd.R_alloc | apply Kd.R_drewN | apply Kd.R_drew));exact Kd.R_mono HO_8.out (fun _ hk => ⟨trivial, hk⟩)) hg hat);have n2_ := Aside0.mk (hb);have n3_ := Aside0.mk (ho);clear HO_6;clear HO_8;clear HB;clear HO_7;have HO_6 := n0_;have HO_8 := n1_;have HB := n2_;have HO973 := n3_;clear n0_ n1_ n2_ n3_;clear ho hb hg hat) | ((with_reducible refine gate_builtin (b := .append) (xs := #[.tmp 42, .tmp 44]) rfl ?_);(try (refine gate_guard (by rfl) ?_;dsimp only));at_builtin;refine Kd.R_append (Kd.int .i64) (w0 := w) w.heap.size rfl (.tmp 42) (.tmp 44) 130 2 (.int .i64 0) 8 rfl Try.underlying130 info2 rfl (by decide) (by omega) u8 x8_1 x10_1 [.int .i64 x10_1] (fun k_ => some k_ ≠ (v972 : Value).ownBlock) (fun _ => False) rfl rfl ?aP (fun _ hk => hk.elim) ?aF ?aO ?aB ?aS ?aL ?_;(case aP => exact rfl);(case aB => exact (bw_ HB.out));(case aF => exact (fun k_ hk => Kd.fresh' (Kd.R_lt (rr_ HO973.out)) k_ hk));(case aO => exact (by (with_reducible repeat (first | apply Kd.R_alloc | apply Kd.R_drewN | apply Kd.R_drew));exact Kd.R_mono HO_8.out (fun _ hk => hk.2)));(case aS => exact (below_size (bw_ HB.out)));(case aL => have := LMc18.out;omega);intro v975 w20 ho hb hg hat;rw [← Ny974.out] at ho;have n0_ := Aside0.mk (Kd.S_after (ok := (fun k_ => some k_ ≠ (v972 : Value).ownBlock)) (by (with_reducible repeat (first | apply Kd.S_alloc | apply Kd.S_drewN | apply Kd.S_drew));exact Kd.S_mono HO_6.out (fun _ hk => ⟨hk.2, hk.1⟩)) hg hat);have n1_ := Aside0.mk (Kd.R_after (ok := (fun _ => True)) (by (with_reducible repeat (first | apply Kd.R_alloc | apply Kd.R_drewN | apply Kd.R_drew));exact Kd.R_mono HO973.out (fun _ hk => ⟨trivial, hk⟩)) hg hat);have n2_ := Aside0.mk (hb);have n3_ := Aside0.mk (ho);clear HO_6;clear HO973;clear HB;clear HO_8;have HO_6 := n0_;have HO973 := n1_;have HB := n2_;have HO976 := n3_;clear n0_ n1_ n2_ n3_;clear ho hb hg hat))
             repeat (go_quiet (first | ((with_reducible refine gate_builtin (b := .append) (xs := #[.tmp 38, .tmp 40]) rfl ?_);(try (refine gate_guard (by rfl) ?_;dsimp only));at_builtin;refine Kd.R_append (Kd.int .i64) (w0 := w) w.heap.size rfl (.tmp 38) (.tmp 40) 130 2 (.int .i64 0) 8 rfl Try.underlying130 info2 rfl (by decide) (by omega) u7 x7_1 x9_1 [.int .i64 x9_1] (fun k_ => some k_ ≠ (u8 : Value).ownBlock) (fun _ => False) rfl rfl ?aP (fun _ hk => hk.elim) ?aF ?aO ?aB ?aS ?aL ?_;(case aP => exact rfl);(case aB => exact (bw_ HB.out));(case aF => exact (fun k_ hk => Kd.fresh' (Kd.R_lt (rr_ HO_8.out)) k_ hk));(case aO => exact (rr_ HO_7.out));(case aS => exact (below_size (bw_ HB.out)));(case aL => have := LMc17.out;omega);intro v972 w19 ho hb hg hat;rw [← Ny971.out] at ho;have n0_ := Aside0.mk (Kd.S_after (ok := (fun k_ => some k_ ≠ (u8 : Value).ownBlock)) (by (with_reducible repeat (first | apply Kd.S_alloc | apply Kd.S_drewN | apply Kd.S_drew));exact Kd.S_mono HO_6.out (fun _ hk => ⟨hk.2, hk.1⟩)) hg hat);have n1_ := Aside0.mk (Kd.R_after (ok := (fun _ => True)) (by (with_reducible repeat (first | apply Kd.R_alloc | apply Kd.R_drewN | apply Kd.R_drew));exact Kd.R_mono HO_8.out (fun _ hk => ⟨trivial, hk⟩)) hg hat);have n2_ := Aside0.mk (hb);have n3_ := Aside0.mk (ho);clear HO_6;clear HO_8;clear HB;clear HO_7;have HO_6 := n0_;have HO_8 := n1_;have HB := n2_;have HO973 := n3_;clear n0_ n1_ n2_ n3_;clear ho hb hg hat) | ((with_reducible refine gate_builtin (b := .append) (xs := #[.tmp 42, .tmp 44]) rfl ?_);(try (refine gate_guard (by rfl) ?_;dsimp only));at_builtin;refine Kd.R_append (Kd.int .i64) (w0 := w) w.heap.size rfl (.tmp 42) (.tmp 44) 130 2 (.int .i64 0) 8 rfl Try.underlying130 info2 rfl (by decide) (by omega) u8 x8_1 x10_1 [.int .i64 x10_1] (fun k_ => some k_ ≠ (v972 : Value).ownBlock) (fun _ => False) rfl rfl ?aP (fun _ hk => hk.elim) ?aF ?aO ?aB ?aS ?aL ?_;(case aP => exact rfl);(case aB => exact (bw_ HB.out));(case aF => exact (fun k_ hk => Kd.fresh' (Kd.R_lt (rr_ HO973.out)) k_ hk));(case aO => exact (by (with_reducible repeat (first | apply Kd.R_alloc | apply Kd.R_drewN | apply Kd.R_drew));exact Kd.R_mono HO_8.out (fun _ hk => hk.2)));(case aS => exact (below_size (bw_ HB.out)));(case aL => have := LMc18.out;omega);intro v975 w20 ho hb hg hat;rw [← Ny974.out] at ho;have n0_ := Aside0.mk (Kd.S_after (ok := (fun k_ => some k_ ≠ (v972 : Value).ownBlock)) (by (with_reducible repeat (first | apply Kd.S_alloc | apply Kd.S_drewN | apply Kd.S_drew));exact Kd.S_mono HO_6.out (fun _ hk => ⟨hk.2, hk.1⟩)) hg hat);have n1_ := Aside0.mk (Kd.R_after (ok := (fun _ => True)) (by (with_reducible repeat (first | apply Kd.R_alloc | apply Kd.R_drewN | apply Kd.R_drew));exact Kd.R_mono HO973.out (fun _ hk => ⟨trivial, hk⟩)) hg hat);have n2_ := Aside0.mk (hb);have n3_ := Aside0.mk (ho);clear HO_6;clear HO973;clear HB;clear HO_8;have HO_6 := n0_;have HO973 := n1_;have HB := n2_;have HO976 := n3_;clear n0_ n1_ n2_ n3_;clear ho hb hg hat));try go_wp2_with (first | ((with_reducible refine gate_builtin (b := .append) (xs := #[.tmp 38, .tmp 40]) rfl ?_);(try (refine gate_guard (by rfl) ?_;dsimp only));at_builtin;refine Kd.R_append (Kd.int .i64) (w0 := w) w.heap.size rfl (.tmp 38) (.tmp 40) 130 2 (.int .i64 0) 8 rfl Try.underlying130 info2 rfl (by decide) (by omega) u7 x7_1 x9_1 [.int .i64 x9_1] (fun k_ => some k_ ≠ (u8 : Value).ownBlock) (fun _ => False) rfl rfl ?aP (fun _ hk => hk.elim) ?aF ?aO ?aB ?aS ?aL ?_;(case aP => exact rfl);(case aB => exact (bw_ HB.out));(case aF => exact (fun k_ hk => Kd.fresh' (Kd.R_lt (rr_ HO_8.out)) k_ hk));(case aO => exact (rr_ HO_7.out));(case aS => exact (below_size (bw_ HB.out)));(case aL => have := LMc17.out;omega);intro v972 w19 ho hb hg hat;rw [← Ny971.out] at ho;have n0_ := Aside0.mk (Kd.S_after (ok := (fun k_ => some k_ ≠ (u8 : Value).ownBlock)) (by (with_reducible repeat (first | apply Kd.S_alloc | apply Kd.S_drewN | apply Kd.S_drew));exact Kd.S_mono HO_6.out (fun _ hk => ⟨hk.2, hk.1⟩)) hg hat);have n1_ := Aside0.mk (Kd.R_after (ok := (fun _ => True)) (by (with_reducible repeat (first | apply Kd.R_alloc | apply Kd.R_drewN | apply Kd.R_drew));exact Kd.R_mono HO_8.out (fun _ hk => ⟨trivial, hk⟩)) hg hat);have n2_ := Aside0.mk (hb);have n3_ := Aside0.mk (ho);clear HO_6;clear HO_8;clear HB;clear HO_7;have HO_6 := n0_;have HO_8 := n1_;have HB := n2_;have HO973 := n3_;clear n0_ n1_ n2_ n3_;clear ho hb hg hat) | ((with_reducible refine gate_builtin (b := .append) (xs := #[.tmp 42, .tmp 44]) rfl ?_);(try (refine gate_guard (by rfl) ?_;dsimp only));at_builtin;refine Kd.R_append (Kd.int .i64) (w0 := w) w.heap.size rfl (.tmp 42) (.tmp 44) 130 2 (.int .i64 0) 8 rfl Try.underlying130 info2 rfl (by decide) (by omega) u8 x8_1 x10_1 [.int .i64 x10_1] (fun k_ => some k_ ≠ (v972 : Value).ownBlock) (fun _ => False) rfl rfl ?aP (fun _ hk => hk.elim) ?aF ?aO ?aB ?aS ?aL ?_;(case aP => exact rfl);(case aB => exact (bw_ HB.out));(case aF => exact (fun k_ hk => Kd.fresh' (Kd.R_lt (rr_ HO973.out)) k_ hk));(case aO => exact (by (with_reducible repeat (first | apply Kd.R_alloc | apply Kd.R_drewN | apply Kd.R_drew));exact Kd.R_mono HO_8.out (fun _ hk => hk.2)));(case aS => exact (below_size (bw_ HB.out)));(case aL => have := LMc18.out;omega);intro v975 w20 ho hb hg hat;rw [← Ny974.out] at ho;have n0_ := Aside0.mk (Kd.S_after (ok := (fun k_ => some k_ ≠ (v972 : Value).ownBlock)) (by (with_reducible repeat (first | apply Kd.S_alloc | apply Kd.S_drewN | apply Kd.S_drew));exact Kd.S_mono HO_6.out (fun _ hk => ⟨hk.2, hk.1⟩)) hg hat);have n1_ := Aside0.mk (Kd.R_after (ok := (fun _ => True)) (by (with_reducible repeat (first | apply Kd.R_alloc | apply Kd.R_drewN | apply Kd.R_drew));exact Kd.R_mono HO973.out (fun _ hk => ⟨trivial, hk⟩)) hg hat);have n2_ := Aside0.mk (hb);have n3_ := Aside0.mk (ho);clear HO_6;clear HO973;clear HB;clear HO_8;have HO_6 := n0_;have HO973 := n1_;have HB := n2_;have HO976 := n3_;clear n0_ n1_ n2_ n3_;clear ho hb hg hat)))
             go_roundg kj8
             case measure => have := HK1.out;have := HJ8.out;omega
             case rel => exact ⟨(y971), (y974), (wrap64 (x9_1 + 1)), (wrap64 (x10_1 + 1)), ls_, ls_, H', ⟨by have := HK1.out;have := HJ8.out;omega⟩, ⟨rs_ HO_6.out⟩, ⟨by (with_reducible repeat (first | apply Kd.R_alloc | apply Kd.R_drewN | apply Kd.R_drew));exact Kd.R_mono HO973.out (fun _ hk => hk.2)⟩, ⟨rr_ HO976.out⟩, ⟨bw_ HB.out⟩⟩
            ·rw [if_neg c18] at H
             exact absurd H (by simp)
           ·rw [if_neg c17] at H
            exact absurd H (by simp)
          ·rw [if_neg c16] at H
           have c16b0 : ((rdOf ByteArray.empty l0 x9_1).toList == (rdOf ByteArray.empty l1 x10_1).toList) = false := beq_eq_false_iff_ne.mpr c16
           have c16b1 : ((rdOf ByteArray.empty l0 x9_1).toList != (rdOf ByteArray.empty l1 x10_1).toList) = true := bne_iff_ne.mpr c16
           obtain ⟨ji21, hji21⟩ : ∃ j_ : Int, (wrap64 (x9_1 + 1)) = j_ := ⟨_, rfl⟩
           replace H : (if 0 ≤ (ji21) then (if (ji21) < (t960.length : Int) then (if x10_1 < ((rd_L13 t960 (ji21)).length : Int) then (if x9_1 < (t960.length : Int) then (if 0 ≤ (wrap64 (x10_1 + 1)) then (if (wrap64 (x10_1 + 1)) < ((rd_L13 t960 x9_1).length : Int) then (if (rd (rd_L13 t960 (ji21)) x10_1) ≥ (rd (rd_L13 t960 x9_1) (wrap64 (x10_1 + 1))) then (impl_match.l0 kj8 l0 l1 t960 x7_1 x8_1 ji21 x10_1) else (impl_match.l0 kj8 l0 l1 t960 x7_1 x8_1 x9_1 (wrap64 (x10_1 + 1)))) else (none)) else (none)) else (none)) else (none)) else (none)) else (none)) = some (r1, r2) := by first | (rw [hji21] at H;exact H) | (simp only [hji21] at H ⊢;exact H)
           have hji21w : (IntKind.i64.wrap (x9_1 + 1)) = ji21 := (i64_w _).trans hji21
           by_cases c22 : 0 ≤ (ji21)
           ·rw [if_pos c22] at H
            have c22b0 : decide (0 ≤ (ji21)) = true := decide_eq_true c22
            clear c22
            by_cases c23 : (ji21) < (t960.length : Int)
            ·rw [if_pos c23] at H
             have c23b0 : decide ((ji21) < (t960.length : Int)) = true := decide_eq_true c23
             clear c23
             by_cases c24 : x10_1 < ((rd_L13 t960 (ji21)).length : Int)
             ·rw [if_pos c24] at H
              have c24b0 : decide (x10_1 < ((rd_L13 t960 (ji21)).length : Int)) = true := decide_eq_true c24
              clear c24
              by_cases c25 : x9_1 < (t960.length : Int)
              ·rw [if_pos c25] at H
               have c25b0 : decide (x9_1 < (t960.length : Int)) = true := decide_eq_true c25
               clear c25
               obtain ⟨ji26, hji26⟩ : ∃ j_ : Int, (wrap64 (x10_1 + 1)) = j_ := ⟨_, rfl⟩
               replace H : (if 0 ≤ (ji26) then (if (ji26) < ((rd_L13 t960 x9_1).length : Int) then (if (rd (rd_L13 t960 (ji21)) x10_1) ≥ (rd (rd_L13 t960 x9_1) (ji26)) then (impl_match.l0 kj8 l0 l1 t960 x7_1 x8_1 ji21 x10_1) else (impl_match.l0 kj8 l0 l1 t960 x7_1 x8_1 x9_1 ji26)) else (none)) else (none)) = some (r1, r2) := by first | (rw [hji26] at H;exact H) | (simp only [hji26] at H ⊢;exact H)
               have hji26w : (IntKind.i64.wrap (x10_1 + 1)) = ji26 := (i64_w _).trans hji26
               by_cases c27 : 0 ≤ (ji26)
               ·rw [if_pos c27] at H
                have c27b0 : decide (0 ≤ (ji26)) = true := decide_eq_true c27
                clear c27
                by_cases c28 : (ji26) < ((rd_L13 t960 x9_1).length : Int)
                ·rw [if_pos c28] at H
                 have c28b0 : decide ((ji26) < ((rd_L13 t960 x9_1).length : Int)) = true := decide_eq_true c28
                 clear c28
                 by_cases c29 : (rd (rd_L13 t960 (ji21)) x10_1) ≥ (rd (rd_L13 t960 x9_1) (ji26))
                 ·rw [if_pos c29] at H
                  have c29b0 : decide ((rd (rd_L13 t960 x9_1) (ji26)) ≤ (rd (rd_L13 t960 (ji21)) x10_1)) = true := decide_eq_true c29
                  clear c29
                  have H' := Aside0.mk H
                  clear H
                  have p969 : 0 ≤ (x9_1 : Int) := od_
                  have q969 : x9_1 < (l0.length : Int) := od_
                  obtain ⟨ad969, e969, hx969_0⟩ := Kd.at_string HR0.out x9_1 p969 q969
                  cases e969
                  replace hx969_0 := hc_ HB.out hx969_0
                  replace p969 := eq_true p969
                  replace q969 := eq_true q969
                  have p970 : 0 ≤ (x10_1 : Int) := od_
                  have q970 : x10_1 < (l1.length : Int) := od_
                  obtain ⟨ad970, e970, hx970_0⟩ := Kd.at_string HR1.out x10_1 p970 q970
                  cases e970
                  replace hx970_0 := hc_ HB.out hx970_0
                  replace p970 := eq_true p970
                  replace q970 := eq_true q970
                  obtain ⟨Ao30, co30, eo30⟩ := Kd.S_slice HO_6.out
                  subst eo30
                  have p977 : 0 ≤ ((ji21) : Int) := od_
                  have q977 : (ji21) < (t960.length : Int) := od_
                  obtain ⟨ad977, A977_0, c977_0, e977, hx977_0, hl977_0, hi977_0⟩ := at_L13 (Kd.S_reads' HO_6.out).2.2 (ji21) p977 q977
                  cases e977
                  obtain ⟨ce977, hce977, hMe977, hcc977⟩ := Kd.S_get HO_6.out [] (ji21) p977 (by first | exact q977 | exact od_ | (have e_ := (Kd.S_reads' HO_6.out).1;omega))
                  obtain ⟨ve977_0, rfl, ge977_0⟩ := hMe977
                  have hv977_0 := hcc977 0 _ rfl
                  rw [Nat.add_zero, show ((Kd.slice 2 (Kd.int .i64))).sz = 1 from rfl, Nat.mul_one] at hv977_0
                  replace hv977_0 := Option.some.inj (hv977_0.symm.trans hx977_0)
                  rw [hv977_0] at ge977_0
                  have HL977_0 := Aside0.mk (show Kd.R (Kd.int .i64) 2 _ _ _ _ (rd_L13 t960 (ji21)) from ge977_0)
                  clear hv977_0 ge977_0
                  clear hcc977 hce977
                  have HR977_0 := Aside0.mk hi977_0
                  have HC977_0 := Aside0.mk hl977_0
                  clear hi977_0 hl977_0
                  replace p977 := eq_true p977
                  replace q977 := eq_true q977
                  have p978 : 0 ≤ (x10_1 : Int) := od_
                  have q978 : x10_1 < ((rd_L13 t960 (ji21)).length : Int) := od_
                  obtain ⟨ad978, e978, hx978_0⟩ := Kd.at_int (by repeat (first | (with_reducible exact HR977_0.out) | (with_reducible refine Kd.C_alloc ?_ _) | (with_reducible refine Kd.C_drewN ?_ _) | (with_reducible refine Kd.C_drew ?_) | exact HR977_0.out)) x10_1 p978 q978
                  cases e978
                  replace p978 := eq_true p978
                  replace q978 := eq_true q978
                  have p979 : 0 ≤ (x9_1 : Int) := od_
                  have q979 : x9_1 < (t960.length : Int) := od_
                  obtain ⟨ad979, A979_0, c979_0, e979, hx979_0, hl979_0, hi979_0⟩ := at_L13 (Kd.S_reads' HO_6.out).2.2 x9_1 p979 q979
                  obtain rfl : ad977 = ad979 := (by injection e979)
                  obtain ⟨ce979, hce979, hMe979, hcc979⟩ := Kd.S_get HO_6.out [] x9_1 p979 (by first | exact q979 | exact od_ | (have e_ := (Kd.S_reads' HO_6.out).1;omega))
                  obtain ⟨ve979_0, rfl, ge979_0⟩ := hMe979
                  have hv979_0 := hcc979 0 _ rfl
                  rw [Nat.add_zero, show ((Kd.slice 2 (Kd.int .i64))).sz = 1 from rfl, Nat.mul_one] at hv979_0
                  replace hv979_0 := Option.some.inj (hv979_0.symm.trans hx979_0)
                  rw [hv979_0] at ge979_0
                  have HL979_0 := Aside0.mk (show Kd.R (Kd.int .i64) 2 _ _ _ _ (rd_L13 t960 x9_1) from ge979_0)
                  clear hv979_0 ge979_0
                  clear hcc979 hce979
                  have HR979_0 := Aside0.mk hi979_0
                  have HC979_0 := Aside0.mk hl979_0
                  clear hi979_0 hl979_0
                  replace p979 := eq_true p979
                  replace q979 := eq_true q979
                  have p980 : 0 ≤ ((ji26) : Int) := od_
                  have q980 : (ji26) < ((rd_L13 t960 x9_1).length : Int) := od_
                  obtain ⟨ad980, e980, hx980_0⟩ := Kd.at_int (by repeat (first | (with_reducible exact HR979_0.out) | (with_reducible refine Kd.C_alloc ?_ _) | (with_reducible refine Kd.C_drewN ?_ _) | (with_reducible refine Kd.C_drew ?_) | exact HR979_0.out)) (ji26) p980 q980
                  cases e980
                  replace p980 := eq_true p980
                  replace q980 := eq_true q980
                  go_wp2
                  repeat (go_quiet (fail);try go_wp2)
                  go_roundg kj8
                  case measure => have := HK1.out;have := HJ8.out;omega
                  case rel => exact ⟨(x7_1), (x8_1), (ji21), (x10_1), (by first | rfl | (simp;done) | (simp only [← hji21] <;> (first | rfl | simp)) | (simp [*];done)), ls_, H', ⟨by have := HK1.out;have := HJ8.out;omega⟩, ⟨rs_ HO_6.out⟩, ⟨rr_ HO_7.out⟩, ⟨rr_ HO_8.out⟩, ⟨bw_ HB.out⟩⟩
                 ·rw [if_neg c29] at H
                  have c29b0 : decide ((rd (rd_L13 t960 x9_1) (ji26)) ≤ (rd (rd_L13 t960 (ji21)) x10_1)) = false := decide_eq_false c29
                  clear c29
                  have H' := Aside0.mk H
                  clear H
                  have p969 : 0 ≤ (x9_1 : Int) := od_
                  have q969 : x9_1 < (l0.length : Int) := od_
                  obtain ⟨ad969, e969, hx969_0⟩ := Kd.at_string HR0.out x9_1 p969 q969
                  cases e969
                  replace hx969_0 := hc_ HB.out hx969_0
                  replace p969 := eq_true p969
                  replace q969 := eq_true q969
                  have p970 : 0 ≤ (x10_1 : Int) := od_
                  have q970 : x10_1 < (l1.length : Int) := od_
                  obtain ⟨ad970, e970, hx970_0⟩ := Kd.at_string HR1.out x10_1 p970 q970
                  cases e970
                  replace hx970_0 := hc_ HB.out hx970_0
                  replace p970 := eq_true p970
                  replace q970 := eq_true q970
                  obtain ⟨Ao31, co31, eo31⟩ := Kd.S_slice HO_6.out
                  subst eo31
                  have p977 : 0 ≤ ((ji21) : Int) := od_
                  have q977 : (ji21) < (t960.length : Int) := od_
                  obtain ⟨ad977, A977_0, c977_0, e977, hx977_0, hl977_0, hi977_0⟩ := at_L13 (Kd.S_reads' HO_6.out).2.2 (ji21) p977 q977
                  cases e977
                  obtain ⟨ce977, hce977, hMe977, hcc977⟩ := Kd.S_get HO_6.out [] (ji21) p977 (by first | exact q977 | exact od_ | (have e_ := (Kd.S_reads' HO_6.out).1;omega))
                  obtain ⟨ve977_0, rfl, ge977_0⟩ := hMe977
                  have hv977_0 := hcc977 0 _ rfl
                  rw [Nat.add_zero, show ((Kd.slice 2 (Kd.int .i64))).sz = 1 from rfl, Nat.mul_one] at hv977_0
                  replace hv977_0 := Option.some.inj (hv977_0.symm.trans hx977_0)
                  rw [hv977_0] at ge977_0
                  have HL977_0 := Aside0.mk (show Kd.R (Kd.int .i64) 2 _ _ _ _ (rd_L13 t960 (ji21)) from ge977_0)
                  clear hv977_0 ge977_0
                  clear hcc977 hce977
                  have HR977_0 := Aside0.mk hi977_0
                  have HC977_0 := Aside0.mk hl977_0
                  clear hi977_0 hl977_0
                  replace p977 := eq_true p977
                  replace q977 := eq_true q977
                  have p978 : 0 ≤ (x10_1 : Int) := od_
                  have q978 : x10_1 < ((rd_L13 t960 (ji21)).length : Int) := od_
                  obtain ⟨ad978, e978, hx978_0⟩ := Kd.at_int (by repeat (first | (with_reducible exact HR977_0.out) | (with_reducible refine Kd.C_alloc ?_ _) | (with_reducible refine Kd.C_drewN ?_ _) | (with_reducible refine Kd.C_drew ?_) | exact HR977_0.out)) x10_1 p978 q978
                  cases e978
                  replace p978 := eq_true p978
                  replace q978 := eq_true q978
                  have p979 : 0 ≤ (x9_1 : Int) := od_
                  have q979 : x9_1 < (t960.length : Int) := od_
                  obtain ⟨ad979, A979_0, c979_0, e979, hx979_0, hl979_0, hi979_0⟩ := at_L13 (Kd.S_reads' HO_6.out).2.2 x9_1 p979 q979
                  obtain rfl : ad977 = ad979 := (by injection e979)
                  obtain ⟨ce979, hce979, hMe979, hcc979⟩ := Kd.S_get HO_6.out [] x9_1 p979 (by first | exact q979 | exact od_ | (have e_ := (Kd.S_reads' HO_6.out).1;omega))
                  obtain ⟨ve979_0, rfl, ge979_0⟩ := hMe979
                  have hv979_0 := hcc979 0 _ rfl
                  rw [Nat.add_zero, show ((Kd.slice 2 (Kd.int .i64))).sz = 1 from rfl, Nat.mul_one] at hv979_0
                  replace hv979_0 := Option.some.inj (hv979_0.symm.trans hx979_0)
                  rw [hv979_0] at ge979_0
                  have HL979_0 := Aside0.mk (show Kd.R (Kd.int .i64) 2 _ _ _ _ (rd_L13 t960 x9_1) from ge979_0)
                  clear hv979_0 ge979_0
                  clear hcc979 hce979
                  have HR979_0 := Aside0.mk hi979_0
                  have HC979_0 := Aside0.mk hl979_0
                  clear hi979_0 hl979_0
                  replace p979 := eq_true p979
                  replace q979 := eq_true q979
                  have p980 : 0 ≤ ((ji26) : Int) := od_
                  have q980 : (ji26) < ((rd_L13 t960 x9_1).length : Int) := od_
                  obtain ⟨ad980, e980, hx980_0⟩ := Kd.at_int (by repeat (first | (with_reducible exact HR979_0.out) | (with_reducible refine Kd.C_alloc ?_ _) | (with_reducible refine Kd.C_drewN ?_ _) | (with_reducible refine Kd.C_drew ?_) | exact HR979_0.out)) (ji26) p980 q980
                  cases e980
                  replace p980 := eq_true p980
                  replace q980 := eq_true q980
                  go_wp2
                  repeat (go_quiet (fail);try go_wp2)
                  go_roundg kj8
                  case measure => have := HK1.out;have := HJ8.out;omega
                  case rel => exact ⟨(x7_1), (x8_1), (x9_1), (ji26), ls_, (by first | rfl | (simp;done) | (simp only [← hji26] <;> (first | rfl | simp)) | (simp [*];done)), H', ⟨by have := HK1.out;have := HJ8.out;omega⟩, ⟨rs_ HO_6.out⟩, ⟨rr_ HO_7.out⟩, ⟨rr_ HO_8.out⟩, ⟨bw_ HB.out⟩⟩
                ·rw [if_neg c28] at H
                 exact absurd H (by simp)
               ·rw [if_neg c27] at H
                exact absurd H (by simp)
              ·rw [if_neg c25] at H
               exact absurd H (by simp)
             ·rw [if_neg c24] at H
              exact absurd H (by simp)
            ·rw [if_neg c23] at H
             exact absurd H (by simp)
           ·rw [if_neg c22] at H
            exact absurd H (by simp)
         ·rw [if_neg c15] at H
          exact absurd H (by simp)
        ·rw [if_neg c14] at H
         exact absurd H (by simp)
       ·rw [if_neg c13] at H
        exact absurd H (by simp)
      ·rw [if_neg c12] at H
       exact absurd H (by simp)
     ·replace c11 := Bool.eq_false_iff.mpr c11
      subst c11
      have H1 : (some (x7_1, x8_1)) = some (r1, r2) := by rw [if_neg (show ¬ (false = true) by decide)] at H;exact H
      clear H
      have H := H1
      clear H1
      simp only [Option.some.injEq, Prod.mk.injEq] at H
      obtain ⟨rfl, rfl⟩ := H
      go_wp2
      repeat (go_quiet (fail);try go_wp2)
      go_ret2
      exact ⟨_, _, by first | rfl | (simp [errW_none, errW_some] <;> rfl) | (simp [*, errW_none, errW_some] <;> rfl), rr_ HO_7.out, rr_ HO_8.out, bw_ HB.out⟩
end Go.Proofs.Ytjngmhngedecdaa.P
end
section
namespace Go.Proofs.Ytjngmhngedecdaa.P
open Go.RowKit Go.Proofs.YtjngmhngedecdaaW.PrintWords Go.Proofs.YtjngmhngedecdaaW.PrintLast Go.Proofs.YtjngmhngedecdaaW.PrintMore
attribute [local go_sem] max2_int min2_int max_two min_two max_three min_three max_four min_four
set_option linter.unusedVariables false
set_option linter.unusedSimpArgs false
mutual
def impl_places.l0 : Nat → List ByteArray → List ByteArray → List Int → Int → Int → Option (List Int)
 | 0, _, _, _, _, _ => none
 | k + 1, x0, x1, x5, x12, x13 => if x13 < x12 then (if x5.length < 17592186044416 then (impl_places.l0 k x0 x1 (x5 ++ [(-1)]) x12 (wrap64 (x13 + 1))) else (none)) else ((impl_match.f k x0 x1).bind fun bt1192 => (impl_places.l1 k x5 bt1192.2 bt1192.1 (bt1192.1.length : Int) 0))
def impl_places.l1 : Nat → List Int → List Int → List Int → Int → Int → Option (List Int)
 | 0, _, _, _, _, _ => none
 | k + 1, x5, x7, x25, x26, x27 => if x27 < x26 then (if 0 ≤ x27 then (if x27 < (x25.length : Int) then (if x27 < (x7.length : Int) then (if 0 ≤ (rd x25 x27) then (if (rd x25 x27) < (x5.length : Int) then (impl_places.l1 k (x5.set ((rd x25 x27) : Int).toNat (rd x7 x27)) x7 x25 x26 (wrap64 (x27 + 1))) else (none)) else (none)) else (none)) else (none)) else (none)) else (some x5)
end
def impl_places.f (k : Nat) (l0 : List ByteArray) (l1 : List ByteArray) : Option (List Int) := impl_places.l0 k l0 l1 (([] : List Int)) (l0.length : Int) 0
theorem impl_places.mono_l : ∀ k, (∀ y0 y1 y2 y3 y4, LeO (impl_places.l0 k y0 y1 y2 y3 y4) (impl_places.l0 (k + 1) y0 y1 y2 y3 y4)) ∧ (∀ y0 y1 y2 y3 y4, LeO (impl_places.l1 k y0 y1 y2 y3 y4) (impl_places.l1 (k + 1) y0 y1 y2 y3 y4))
 | 0 => ⟨fun _ _ _ _ _ r h => by simp [impl_places.l0] at h, fun _ _ _ _ _ r h => by simp [impl_places.l1] at h⟩
 | k + 1 => by
  obtain ⟨ih0, ih1⟩ := impl_places.mono_l k
  refine ⟨?_, ?_⟩
  ·intro y0 y1 y2 y3 y4
   unfold impl_places.l0
   repeat' first
   | (with_reducible exact ih0 _ _ _ _ _)
   | (with_reducible exact ih1 _ _ _ _ _)
   | (with_reducible exact impl_match.mono _ _ _)
   | (with_reducible exact LeO.refl _)
   | (with_reducible exact LeO.none _)
   | (with_reducible refine LeO.ite ?_ ?_)
   | (with_reducible refine LeO.bind ?_ (fun _ => ?_))
   | exact ih0 _ _ _ _ _
   | exact ih1 _ _ _ _ _
   | exact impl_match.mono _ _ _
   | exact LeO.none _
   | refine LeO.ite ?_ ?_
   | refine LeO.bind ?_ (fun _ => ?_)
  ·intro y0 y1 y2 y3 y4
   unfold impl_places.l1
   repeat' first
   | (with_reducible exact ih0 _ _ _ _ _)
   | (with_reducible exact ih1 _ _ _ _ _)
   | (with_reducible exact impl_match.mono _ _ _)
   | (with_reducible exact LeO.refl _)
   | (with_reducible exact LeO.none _)
   | (with_reducible refine LeO.ite ?_ ?_)
   | (with_reducible refine LeO.bind ?_ (fun _ => ?_))
   | exact ih0 _ _ _ _ _
   | exact ih1 _ _ _ _ _
   | exact impl_match.mono _ _ _
   | exact LeO.none _
   | refine LeO.ite ?_ ?_
   | refine LeO.bind ?_ (fun _ => ?_)
theorem impl_places.mono : ∀ a0 a1 k, LeO (impl_places.f k a0 a1) (impl_places.f (k + 1) a0 a1) := by
 intro a0 a1 k;obtain ⟨ih0, ih1⟩ := impl_places.mono_l k;unfold impl_places.f
 repeat' first
   | (with_reducible exact ih0 _ _ _ _ _)
   | (with_reducible exact ih1 _ _ _ _ _)
   | (with_reducible exact impl_match.mono _ _ _)
   | (with_reducible exact LeO.refl _)
   | (with_reducible exact LeO.none _)
   | (with_reducible refine LeO.ite ?_ ?_)
   | (with_reducible refine LeO.bind ?_ (fun _ => ?_))
   | exact ih0 _ _ _ _ _
   | exact ih1 _ _ _ _ _
   | exact impl_match.mono _ _ _
   | exact LeO.none _
   | refine LeO.ite ?_ ?_
   | refine LeO.bind ?_ (fun _ => ?_)
set_option maxHeartbeats 8000000 in
set_option maxRecDepth 100000 in
theorem impl_places.calls (k : Nat) (A0 : Option Addr) (c0 : Nat) (l0 : List ByteArray) (A1 : Option Addr) (c1 : Nat) (l1 : List ByteArray) (r : List Int) (w : World) (hr0 : Kd.C Kd.string w A0 l0.length l0) (hc0 : l0.length ≤ c0) (hr1 : Kd.C Kd.string w A1 l1.length l1) (hc1 : l1.length ≤ c1) (h : impl_places.f k l0 l1 = some r) :
  Calls Try.prog 129 #[.slice A0 l0.length c0, .slice A1 l1.length c1] w fun e w' => ∃ v0_ : Value, e = .returned (v0_) ∧ Kd.R (Kd.int .i64) 2 w' w.heap.size (fun _ => True) v0_ r ∧ Below w.heap.size w w' := by
 have HR0 := Aside0.mk hr0;have HC0 := Aside0.mk hc0;clear hr0 hc0;have HR1 := Aside0.mk hr1;have HC1 := Aside0.mk hc1;clear hr1 hc1;have HB := Aside0.mk (Below.refl w.heap.size w);have H : (impl_places.l0 k l0 l1 (([] : List Int)) (l0.length : Int) 0) = some r := h;clear h;obtain ⟨y1186, hy1186⟩ : ∃ y_ : List Int, y_ = (([] : List Int)) := ⟨_, rfl⟩;(replace H : (impl_places.l0 k l0 l1 y1186 (l0.length : Int) 0) = some r := by first | (rw [hy1186];with_reducible exact H) | (have H2_ := (Option.bind_some _ _).symm.trans H;rw [hy1186];with_reducible exact H2_) | (have H2_ := (Option.bind_some _ _).symm.trans H;with_reducible exact H2_) | with_reducible exact H | (rw [hy1186];exact H) | exact H);have Ny1186 := Aside0.mk hy1186;clear hy1186;have H' := Aside0.mk H;clear H;go_enter Try.func129, Try.ntmps129;go_wp2_with (first | ((with_reducible refine gate_dst (N := 10) rfl ?_);refine Kd.R_lit (Kd.int .i64) _ 2 ?hg (N := 10) ?hd (xs := ([] : List Int)) (inner := []) (ok := fun _ => True) (okp := fun _ => True) ?hr ?hp (fun _ hk => hk) trivial (Below.refl _ _) (Nat.le_refl _) (by simp) ?_;(case hd => rfl);(case hg => rfl);(case hr => first | (go_simp;done) | (go_simp;rfl));(case hp => exact (Reps.none _ _));intro v1187 w3 ho4 hb hg_ hnew_;clear hg_ hnew_;(first | rw [← Ny1186.out] at ho4 | (simp only [Int.reduceToNat] at ho4;rw [← Ny1186.out] at ho4));have n0_ := Aside0.mk (Kd.R_lower ho4 (below_size (bw_ HB.out)));have n1_ := Aside0.mk (below_step (bw_ HB.out) hb);clear HB;have HO1188 := n0_;have HB := n1_;clear n0_ n1_;clear hb ho4));go_loopg [5, 13] k (fun kq v5 v13 w' => ∃ (x5_1 : List Int) (x13_1 : Int), v13 = .int .i64 x13_1 ∧ Aside0 (impl_places.l0 kq l0 l1 x5_1 (l0.length : Int) x13_1 = some r) ∧ Aside0 (kq ≤ k) ∧ Aside0 (Kd.R (Kd.int .i64) 2 w' w.heap.size (fun _ => True) v5 x5_1) ∧ Aside0 (Below w.heap.size w w'));(case atStart => exact ⟨(y1186), (0), ls_, H', ⟨Nat.le_refl _⟩, ⟨rr_ HO1188.out⟩, ⟨bw_ HB.out⟩⟩)
 case round =>
  clear H'
  try clear c1
  try clear p2
  obtain ⟨x5_1, x13_1, rfl, HA, HK1, HO_5, HB⟩ := hrel
  cases gk with
  | zero => exact absurd HA.out (by simp [impl_places.l0])
  | succ k1 =>
   have H := HA.out
   clear HA
   simp only [impl_places.l0] at H
   by_cases c5 : x13_1 < (l0.length : Int)
   ·rw [if_pos c5] at H
    have c5b0 : decide (x13_1 < (l0.length : Int)) = true := decide_eq_true c5
    clear c5
    by_cases c6 : x5_1.length < 17592186044416
    ·rw [if_pos c6] at H
     have LMc6 := Aside0.mk c6
     clear c6
     obtain ⟨y1189, hy1189⟩ : ∃ y_ : List Int, y_ = (x5_1 ++ [(-1)]) := ⟨_, rfl⟩
     replace H : (impl_places.l0 k1 l0 l1 y1189 (l0.length : Int) (wrap64 (x13_1 + 1))) = some r := by first | (rw [hy1189];with_reducible exact H) | (have H2_ := (Option.bind_some _ _).symm.trans H;rw [hy1189];with_reducible exact H2_) | (have H2_ := (Option.bind_some _ _).symm.trans H;with_reducible exact H2_) | with_reducible exact H | (rw [hy1189];exact H) | exact H
     have Ny1189 := Aside0.mk hy1189
     clear hy1189
     have H' := Aside0.mk H
     clear H
     go_wp2_with (first | ((with_reducible refine gate_builtin (b := .append) (xs := #[.tmp 15, .tmp 16]) rfl ?_);at_builtin;refine Kd.R_append (Kd.int .i64) (w0 := w) w.heap.size rfl (.tmp 15) (.tmp 16) 130 2 (.int .i64 0) 8 rfl Try.underlying130 info2 rfl (by decide) (by omega) u5 x5_1 (-1) [.int .i64 (-1)] (fun _ => True) (fun _ => False) rfl rfl ?aP (fun _ hk => hk.elim) ?aF ?aO ?aB ?aS ?aL ?_;(case aP => exact rfl);(case aB => exact (bw_ HB.out));(case aF => exact (fun _ _ => trivial));(case aO => exact (rr_ HO_5.out));(case aS => exact (below_size (bw_ HB.out)));(case aL => have := LMc6.out;omega);intro v1190 w7 ho hb hg hat;rw [← Ny1189.out] at ho;have n0_ := Aside0.mk (hb);have n1_ := Aside0.mk (ho);clear HB;clear HO_5;have HB := n0_;have HO1191 := n1_;clear n0_ n1_;clear ho hb hg hat))
     go_roundg k1
     case measure => have := HK1.out;omega
     case rel => exact ⟨(y1189), (wrap64 (x13_1 + 1)), ls_, H', ⟨by have := HK1.out;omega⟩, ⟨rr_ HO1191.out⟩, ⟨bw_ HB.out⟩⟩
    ·rw [if_neg c6] at H
     exact absurd H (by simp)
   ·rw [if_neg c5] at H
    have c5b0 : decide (x13_1 < (l0.length : Int)) = false := decide_eq_false c5
    clear c5
    replace H := Option.bind_eq_some_iff.mp H
    obtain ⟨⟨t1192, t1193⟩, A80, H⟩ := H
    replace H : (impl_places.l1 k1 x5_1 t1193 t1192 (t1192.length : Int) 0) = some r := H
    have A8 := Aside0.mk A80
    clear A80
    have H' := Aside0.mk H
    clear H
    go_wp2_with (first | ((with_reducible refine gate_callee (f := 125) rfl ?_);refine goesL_ (some 22) rfl rfl Try.func125 (by kernel_rfl) rfl #[.slice A0 l0.length c0, .slice A1 l1.length c1] rfl lf_ ?_;(with_reducible refine (impl_match.calls k1 _ _ l0 _ _ l1 t1192 t1193 _ ?side1 ?side2 ?side3 ?side4 A8.out).mono ?_);(case side1 => exact rc_ (Kd.C_below HR0.out HB.out));(case side2 => exact HC0.out);(case side3 => exact rc_ (Kd.C_below HR1.out HB.out));(case side4 => exact HC1.out);rintro e w9 ⟨v1194, v1196, rfl, ho0, ho1, hb⟩;refine ⟨_, rfl, ?_⟩;have n0_ := Aside0.mk (Kd.R_mono (Kd.R_told (Kd.R_told (Kd.R_old (rr_ HO_5.out) hb) (Kd.R_base ho0)) (Kd.R_base ho1)) (fun _ h_ => h_.1));have n1_ := Aside0.mk (Kd.R_lower (Kd.R_new' ho0 (Kd.R_lt (rr_ HO_5.out))) (below_size (bw_ HB.out)));have n2_ := Aside0.mk (Kd.R_lower (Kd.R_new' ho1 (Kd.R_lt (rr_ HO_5.out))) (below_size (bw_ HB.out)));have n3_ := Aside0.mk (below_step (bw_ HB.out) hb);clear HO_5;clear HB;have HO_5 := n0_;have HO1195 := n1_;have HO1197 := n2_;have HB := n3_;clear n0_ n1_ n2_ n3_;(try clear hb);(try clear hb2);(try clear hk);(try clear hi);(try clear ho0);(try clear ho1);obtain ⟨Ao10, co10, eo10⟩ := Kd.R_slice HO1195.out;subst eo10))
    go_loopg [27] k1 (fun kq v27 w' => ∃ (x5_2 : List Int) (x27_2 : Int), v27 = .int .i64 x27_2 ∧ Aside0 (impl_places.l1 kq x5_2 t1193 t1192 (t1192.length : Int) x27_2 = some r) ∧ Aside0 (kq ≤ k1) ∧ Aside0 (Kd.R (Kd.int .i64) 2 w' w.heap.size (fun k_ => some k_ ≠ (v1196 : Value).ownBlock ∧ some k_ ≠ ((.slice Ao10 t1192.length co10) : Value).ownBlock) u5 x5_2) ∧ Aside0 (Kd.R (Kd.int .i64) 2 w' w.heap.size (fun k_ => some k_ ≠ (u5 : Value).ownBlock ∧ some k_ ≠ ((.slice Ao10 t1192.length co10) : Value).ownBlock) v1196 t1193) ∧ Aside0 (Kd.R (Kd.int .i64) 2 w' w.heap.size (fun k_ => some k_ ≠ (u5 : Value).ownBlock ∧ some k_ ≠ (v1196 : Value).ownBlock) (.slice Ao10 t1192.length co10) t1192) ∧ Aside0 (Below w.heap.size w w'))
    case atStart => exact ⟨(x5_1), (0), ls_, H', ⟨Nat.le_refl _⟩, ⟨by (with_reducible repeat (first | apply Kd.R_alloc | apply Kd.R_drewN | apply Kd.R_drew));exact Kd.R_mono HO_5.out (fun _ hk => ⟨hk.2, hk.1.2⟩)⟩, ⟨by (with_reducible repeat (first | apply Kd.R_alloc | apply Kd.R_drewN | apply Kd.R_drew));exact Kd.R_mono HO1197.out (fun _ hk => ⟨hk.2, hk.1⟩)⟩, ⟨by (with_reducible repeat (first | apply Kd.R_alloc | apply Kd.R_drewN | apply Kd.R_drew));exact Kd.R_mono HO1195.out (fun _ hk => ⟨hk.2, hk.1⟩)⟩, ⟨bw_ HB.out⟩⟩
    case round =>
     clear H'
     try clear c1
     try clear p2
     try clear c5
     try clear c5b0
     try clear c6
     try clear p6
     try clear p2
     obtain ⟨x5_2, x27_2, rfl, HA, HK2, HO_5, HO_7, HO_25, HB⟩ := hrel
     cases gk with
     | zero => exact absurd HA.out (by simp [impl_places.l1])
     | succ k2 =>
      have H := HA.out
      clear HA
      simp only [impl_places.l1] at H
      by_cases c11 : x27_2 < (t1192.length : Int)
      ·rw [if_pos c11] at H
       have c11b0 : decide (x27_2 < (t1192.length : Int)) = true := decide_eq_true c11
       clear c11
       by_cases c12 : 0 ≤ x27_2
       ·rw [if_pos c12] at H
        have c12b0 : decide (0 ≤ x27_2) = true := decide_eq_true c12
        clear c12
        by_cases c13 : x27_2 < (t1192.length : Int)
        ·rw [if_pos c13] at H
         have c13b0 : decide (x27_2 < (t1192.length : Int)) = true := decide_eq_true c13
         clear c13
         by_cases c14 : x27_2 < (t1193.length : Int)
         ·rw [if_pos c14] at H
          have c14b0 : decide (x27_2 < (t1193.length : Int)) = true := decide_eq_true c14
          clear c14
          by_cases c15 : 0 ≤ (rd t1192 x27_2)
          ·rw [if_pos c15] at H
           have c15b0 : decide (0 ≤ (rd t1192 x27_2)) = true := decide_eq_true c15
           clear c15
           by_cases c16 : (rd t1192 x27_2) < (x5_2.length : Int)
           ·rw [if_pos c16] at H
            have c16b0 : decide ((rd t1192 x27_2) < (x5_2.length : Int)) = true := decide_eq_true c16
            clear c16
            obtain ⟨y1200, hy1200⟩ : ∃ y_ : List Int, y_ = (x5_2.set ((rd t1192 x27_2) : Int).toNat (rd t1193 x27_2)) := ⟨_, rfl⟩
            replace H : (impl_places.l1 k2 y1200 t1193 t1192 (t1192.length : Int) (wrap64 (x27_2 + 1))) = some r := by first | (rw [hy1200];with_reducible exact H) | (have H2_ := (Option.bind_some _ _).symm.trans H;rw [hy1200];with_reducible exact H2_) | (have H2_ := (Option.bind_some _ _).symm.trans H;with_reducible exact H2_) | with_reducible exact H | (rw [hy1200];exact H) | exact H
            have Ny1200 := Aside0.mk hy1200
            clear hy1200
            have H' := Aside0.mk H
            clear H
            have p1198 : 0 ≤ (x27_2 : Int) := od_
            have q1198 : x27_2 < (t1192.length : Int) := od_
            obtain ⟨ad1198, e1198, hx1198_0⟩ := Kd.at_int (Kd.R_reads' HO_25.out).2.2 x27_2 p1198 q1198
            cases e1198
            replace p1198 := eq_true p1198
            replace q1198 := eq_true q1198
            obtain ⟨Ao18, co18, eo18⟩ := Kd.R_slice HO_7.out
            subst eo18
            have p1199 : 0 ≤ (x27_2 : Int) := od_
            have q1199 : x27_2 < (t1193.length : Int) := od_
            obtain ⟨ad1199, e1199, hx1199_0⟩ := Kd.at_int (Kd.R_reads' HO_7.out).2.2 x27_2 p1199 q1199
            cases e1199
            replace p1199 := eq_true p1199
            replace q1199 := eq_true q1199
            have p17 : 0 ≤ ((rd t1192 x27_2) : Int) := od_
            have q17 : ((rd t1192 x27_2) : Int) < ((x5_2.length : Int) : Int) := od_
            obtain ⟨go17, co17, eo17, gb17, gl17, cl17, HG17⟩ := Kd.R_form HO_5.out (by omega)
            (first | cases eo17 | (injection eo17 with ea_ en_ ec_;(first | subst ea_ | (injection ea_ with ea_;subst ea_));subst ec_;clear en_))
            have GB17 := Aside0.mk gb17
            have GG17 := Aside0.mk HG17
            clear gb17 gl17 HG17
            obtain ⟨hx17_0, hf17_0⟩ := Kd.R_celln 0 HO_5.out ((rd t1192 x27_2) : Int) p17 q17
            replace p17 := eq_true p17
            replace q17 := eq_true q17
            have HP19 := Kd.R_putg HO_5.out ((rd t1192 x27_2) : Int) (rd t1193 x27_2)
            go_wp2_with (first | ((with_reducible refine gate_store (t := 2) (p := 38) rfl ?_);refine store_event (t := 2) (p := 38) (v := ?vo_w20) (w1 := (wr.setCell ⟨go17, ((rd t1192 x27_2) : Int).toNat, none⟩ (.int .i64 (rd t1193 x27_2)))) ?hg ?ho ?hn ?hr ?_;(case ho => rfl);(case hg => rfl);(case hn => rfl);(case hr => first | (go_simp;done) | (go_simp;rfl));intro w20 hw;have hg : wr.grownBy w20 (some go17) := (by rw [hw];exact HP19.2);have hp_ : Kd.R (Kd.int .i64) 2 w20 w.heap.size (fun k_ => some k_ ≠ (.slice (some ad1199) t1193.length co18 : Value).ownBlock ∧ some k_ ≠ (.slice (some ad1198) t1192.length co10 : Value).ownBlock) (.slice (some ⟨go17, 0, none⟩) x5_2.length co17) y1200 := (by rw [hw, Ny1200.out];exact HP19.1);clear HP19;have n0_ := Aside0.mk (hp_);have n1_ := Aside0.mk (Kd.R_after (v := (.slice (some ⟨go17, 0, none⟩) x5_2.length co17)) (v1 := (.slice (some ⟨go17, 0, none⟩) x5_2.length co17)) (ok := (fun k_ => some k_ ≠ (.slice (some ad1198) t1192.length co10 : Value).ownBlock)) (by (with_reducible repeat (first | apply Kd.R_alloc | apply Kd.R_drewN | apply Kd.R_drew));exact Kd.R_mono HO_7.out (fun _ hk => ⟨hk.2, hk.1⟩)) hg (.inl rfl));have n2_ := Aside0.mk (Kd.R_after (v := (.slice (some ⟨go17, 0, none⟩) x5_2.length co17)) (v1 := (.slice (some ⟨go17, 0, none⟩) x5_2.length co17)) (ok := (fun k_ => some k_ ≠ (.slice (some ad1199) t1193.length co18 : Value).ownBlock)) (by (with_reducible repeat (first | apply Kd.R_alloc | apply Kd.R_drewN | apply Kd.R_drew));exact Kd.R_mono HO_25.out (fun _ hk => ⟨hk.2, hk.1⟩)) hg (.inl rfl));have n3_ := Aside0.mk ((by rw [hw];exact below_set (HB.out) GB17.out : Below w.heap.size w w20));clear HO_5;clear HO_7;clear HO_25;clear HB;have HO_5 := n0_;have HO_7 := n1_;have HO_25 := n2_;have HB := n3_;clear n0_ n1_ n2_ n3_;clear hg hw hp_))
            go_roundg k2
            case measure => have := HK1.out;have := HK2.out;omega
            case rel => exact ⟨(y1200), (wrap64 (x27_2 + 1)), ls_, H', ⟨by have := HK1.out;have := HK2.out;omega⟩, ⟨rr_ HO_5.out⟩, ⟨by (with_reducible repeat (first | apply Kd.R_alloc | apply Kd.R_drewN | apply Kd.R_drew));exact Kd.R_mono HO_7.out (fun _ hk => ⟨hk.2, hk.1⟩)⟩, ⟨by (with_reducible repeat (first | apply Kd.R_alloc | apply Kd.R_drewN | apply Kd.R_drew));exact Kd.R_mono HO_25.out (fun _ hk => ⟨hk.2, hk.1⟩)⟩, ⟨bw_ HB.out⟩⟩
           ·rw [if_neg c16] at H
            exact absurd H (by simp)
          ·rw [if_neg c15] at H
           exact absurd H (by simp)
         ·rw [if_neg c14] at H
          exact absurd H (by simp)
        ·rw [if_neg c13] at H
         exact absurd H (by simp)
       ·rw [if_neg c12] at H
        exact absurd H (by simp)
      ·rw [if_neg c11] at H
       have c11b0 : decide (x27_2 < (t1192.length : Int)) = false := decide_eq_false c11
       clear c11
       obtain rfl := Option.some.inj H
       go_wp2
       go_ret
       exact ⟨_, by first | rfl | (simp [errW_none, errW_some] <;> rfl) | (simp [*, errW_none, errW_some] <;> rfl), by (with_reducible repeat (first | apply Kd.R_alloc | apply Kd.R_drewN | apply Kd.R_drew));exact Kd.R_mono HO_5.out (fun _ hk => trivial), bw_ HB.out⟩
end Go.Proofs.Ytjngmhngedecdaa.P
end
section
set_option linter.unusedVariables false
set_option linter.unusedSimpArgs false
namespace Go.Proofs.Ytjngmhngedecdaa.P
open Go.RowKit Go.Proofs.YtjngmhngedecdaaW.PrintWords Go.Proofs.YtjngmhngedecdaaW.PrintLast Go.Proofs.YtjngmhngedecdaaW.PrintMore
section
variable {P : Program} {ops : Array Oper} {Q : Exit → Act → World → Prop}
theorem goesV_ {oi : Oper} {N : Option Tmp} {a : Act} {w : World} {K : Act → World → Prop} {f : FuncId} {fn : Func} {as_ : Array Operand} {ts : Array TypeId} {T : Operand} (cap : Array Value) (hf : P.funcs[f]? = some fn) (hname : (fn.name == "runtime.NumGoroutine") = false) (hb : fn.body.isSome = true) (args : Array Value)
    (hw : Region.wanted oi (yielded ops a.tmps) = true) (hN : oi.dst = N) (hop : oi.op = .call { callee := .value T, args := as_, argTypes := ts }) (hT : a.eval T = .func (.func f) #[] cap) (hargs : as_.map a.eval = args) (args2 : Array Value) (hcat : args ++ cap = args2)
    (h : Calls P f args2 w fun e w' => ∃ v, e = .returned v ∧ K (a.put N v) w') : if Region.wanted oi (yielded ops a.tmps) = true then Oper.wp P oi a w K Q else K (a.put N undef) w := by
 subst hcat;refine call_ f (args ++ cap) hw hN ?_ h;have he := enters_ hf hname hb (args ++ cap) w;unfold execOp;simp [hop, resolve, Deferred.ofValue, invoke, hT, hargs, he]
end
def Bx (g : Nat) (W : World) (B : Nat) (ok : Nat → Prop) (xs : List S58) : Prop :=
  B ≤ g ∧ ∃ v, W.heap[g]? = some (.cells #[v] 47 (0, 0)) ∧ Kd.S k58 58 W B ok v xs
theorem Bx_mono {g : Nat} {W : World} {B : Nat} {ok ok' : Nat → Prop} {xs : List S58} (h : Bx g W B ok xs) (hk : ∀ k, ok k → ok' k) : Bx g W B ok' xs := by
 obtain ⟨h0, v, h1, h2⟩ := h;exact ⟨h0, v, h1, Kd.S_mono h2 hk⟩
theorem Bx_old {g : Nat} {W w1 : World} {B : Nat} {ok : Nat → Prop} {xs : List S58} (h : Bx g W B ok xs) (hb : Below W.heap.size W w1) : Bx g w1 B (fun k => ok k ∧ k < W.heap.size) xs := by
 obtain ⟨h0, v, h1, h2⟩ := h;exact ⟨h0, v, blk_below h1 hb, Kd.S_old h2 hb⟩
theorem Bx_told {v : Value} {g : Nat} {w1 : World} {B N : Nat} {ok : Nat → Prop} {xs : List S58} (h : Bx g w1 B (fun k => ok k ∧ k < N) xs) (hbase : ∀ k, v.ownBlock = some k → N ≤ k) : Bx g w1 B (fun k => (ok k ∧ some k ≠ v.ownBlock) ∧ k < N) xs := by
 obtain ⟨h0, v, h1, h2⟩ := h;exact ⟨h0, v, h1, Kd.S_told h2 hbase⟩
theorem Bx_below {g : Nat} {W w1 : World} {B : Nat} {ok : Nat → Prop} {xs : List S58} (h : Bx g W B ok xs) (hb : Below W.heap.size W w1) : Bx g w1 B ok xs := Bx_mono (Bx_old h hb) (fun _ hk => hk.1)
theorem Bx_alloc {g : Nat} {W : World} {B : Nat} {ok : Nat → Prop} {xs : List S58} (h : Bx g W B ok xs) (o : Obj) : Bx g (W.alloc o) B ok xs := Bx_below h (below_alloc (Below.refl _ _) o)
theorem Bx_drew {g : Nat} {W : World} {B : Nat} {ok : Nat → Prop} {xs : List S58} (h : Bx g W B ok xs) : Bx g W.drew B ok xs := Bx_below h (below_drew (Below.refl _ _))
theorem Bx_drewN {g : Nat} {W : World} {B : Nat} {ok : Nat → Prop} {xs : List S58} (h : Bx g W B ok xs) (m : Nat) : Bx g (W.drewN m) B ok xs := Bx_below h (pw_below_drewN (Below.refl _ _) m)
def addS (w : World) (k : Nat) : Prop := ∃ q, q ∈ [47, 58] ∧ ∃ cells, w.heap[k]? = some (.cells cells q (0, 0))
theorem int_addS {W : World} {base : Nat} {ok : Nat → Prop} {ad : Addr} {n c : Nat} {xs : List Int} (h : Kd.R (Kd.int .i64) 2 W base ok (.slice (some ad) n c) xs) (i : Nat) : ¬ addS W (ad.add i).block := by
 rintro ⟨q, hq, c1, h1⟩;rw [add_block] at h1;obtain ⟨c2, h2⟩ := Kd.R_typed h ad.block rfl;rw [h1] at h2;(injection h2 with h2);(injection h2 with _ h2 _);subst h2;exact absurd hq (by decide)
theorem kept_add {W W2 : World} {base : Nat} {ok ok' : Nat → Prop} {v : Value} {xs : List Int} (h : Kd.R (Kd.int .i64) 2 W base ok v xs) (hk : Kept W W2 (addS W)) (hP : ∀ k, ok k → ok' k) : Kd.R (Kd.int .i64) 2 W2 base ok' v xs :=
  Kd.R_reok rfl (Kd.R_kept (Kd.R_tight rfl h) hk (fun k hk_ hs => by
    obtain ⟨q, hq, c1, h1⟩ := hs
    obtain ⟨c2, h2⟩ := Kd.R_typed h k hk_.symm
    rw [h1] at h2
    injection h2 with h2
    injection h2 with _ h2 _
    subst h2
    exact absurd hq (by decide))) (fun k hk_ => hP k (h.1 k hk_))
def impl_chunksOf_1.f (l0 : List S58) (t0 : Int) (l1 l2 l3 : List ByteArray) : Option (List S58) :=
  if (wrap64 ((wrap64 ((l1.length : Int) + (l2.length : Int))) + (l3.length : Int))) > 0 then (if l0.length < 1759218604441 then some (l0 ++ [(⟨t0, l1, l2, l3⟩ : S58)]) else none) else some l0
set_option maxHeartbeats 8000000 in
set_option maxRecDepth 100000 in
theorem impl_chunksOf_1.calls (g : Nat) (xs : List S58) (t0 : Int) (A1 : Option Addr) (c1 : Nat) (l1 : List ByteArray) (A2 : Option Addr) (c2 : Nat) (l2 : List ByteArray) (A3 : Option Addr) (c3 : Nat) (l3 : List ByteArray) (r : List S58) (w0 w : World) (hB : Below w0.heap.size w0 w)
    (hO : Bx g w w0.heap.size (fun k => some k ≠ (.slice A1 l1.length c1 : Value).ownBlock ∧ some k ≠ (.slice A2 l2.length c2 : Value).ownBlock ∧ some k ≠ (.slice A3 l3.length c3 : Value).ownBlock) xs)
    (h1 : Kd.R Kd.string 9 w w0.heap.size (fun k => some k ≠ (.slice A2 l2.length c2 : Value).ownBlock ∧ some k ≠ (.slice A3 l3.length c3 : Value).ownBlock) (.slice A1 l1.length c1) l1)
    (h2 : Kd.R Kd.string 9 w w0.heap.size (fun k => some k ≠ (.slice A1 l1.length c1 : Value).ownBlock ∧ some k ≠ (.slice A3 l3.length c3 : Value).ownBlock) (.slice A2 l2.length c2) l2)
    (h3 : Kd.R Kd.string 9 w w0.heap.size (fun k => some k ≠ (.slice A1 l1.length c1 : Value).ownBlock ∧ some k ≠ (.slice A2 l2.length c2 : Value).ownBlock) (.slice A3 l3.length c3) l3)
    (h : impl_chunksOf_1.f xs t0 l1 l2 l3 = some r) :
    Calls Try.prog 130 #[.agg #[.int .i64 t0, .slice A1 l1.length c1, .slice A2 l2.length c2, .slice A3 l3.length c3], .pointer (some ⟨g, 0, none⟩)] w fun e w' => e = .returned (.tuple #[]) ∧ Bx g w' w0.heap.size (fun _ => True) r ∧ Below w0.heap.size w0 w' ∧ Kept w w' (addS w) := by
 have hu_ := Try.underlying58;obtain ⟨hg0, v, hbk, hS⟩ := hO;obtain ⟨Ao, co, rfl⟩ := Kd.S_slice hS;have HG := Aside0.mk hg0;have BKG := Aside0.mk hbk;have BKG0 := Aside0.mk hbk;have HS := Aside0.mk hS;have HO1 := Aside0.mk h1;have HO2 := Aside0.mk h2;have HO3 := Aside0.mk h3;have HB := Aside0.mk hB;have HK := Aside0.mk (Kept.refl w (addS w));have HT := Aside0.mk (Kd.S_typed hS);clear hg0 hbk hS h1 h2 h3 hB;have hcg : w.cell? ⟨g, 0, none⟩ = some (.slice Ao xs.length co) := (blk_cell BKG.out 0).trans rfl;unfold impl_chunksOf_1.f at h;by_cases c5 : (wrap64 ((wrap64 ((l1.length : Int) + (l2.length : Int))) + (l3.length : Int))) > 0
 ·rw [if_pos c5] at h;have c5b0 : decide ((wrap64 ((wrap64 ((l1.length : Int) + (l2.length : Int))) + (l3.length : Int))) > 0) = true := decide_eq_true c5;clear c5;by_cases c6 : xs.length < 1759218604441
  ·rw [if_pos c6] at h;have LM := Aside0.mk c6;clear c6;obtain rfl := Option.some.inj h;clear h;go_enter Try.func130, Try.ntmps130
   go_wp2_with (first
     | ((with_reducible refine gate_dst (N := 2) rfl ?_);refine box_event ?hg (N := 2) ?hd (cs := #[.int .i64 t0, .slice A1 l1.length c1, .slice A2 l2.length c2, .slice A3 l3.length c3]) (t := 58) ?hr ?_;(case hd => rfl);(case hg => rfl);(case hr => first | (go_simp;done) | (go_simp;rfl));intro gb hgb w5 hbox hb;have BK := Aside0.mk hbox;have n0_ := Aside0.mk (Kd.S_below HS.out hb);have n1_ := Aside0.mk (Kd.R_below HO1.out hb);have n2_ := Aside0.mk (Kd.R_below HO2.out hb);have n3_ := Aside0.mk (Kd.R_below HO3.out hb);have n4_ := Aside0.mk (Kept.below HK.out hb);have n5_ := Aside0.mk (below_step HB.out hb);have n6_ := Aside0.mk (blk_below BKG.out hb);have hcg5 := pw_cell_below hb hcg;have HT5 := Aside0.mk (Kd.S_typed n0_.out);clear HS;clear HO1;clear HO2;clear HO3;clear HK;clear HB;clear BKG;have HS := n0_;have HO1 := n1_;have HO2 := n2_;have HO3 := n3_;have HK := n4_;have HB := n5_;have BKG := n6_;clear n0_ n1_ n2_ n3_ n4_ n5_ n6_;clear hb hbox hgb hcg;have hcz6_0 : w5.cell? ⟨gb, 0, none⟩ = some (.int .i64 t0) := (blk_cell BK.out 0).trans rfl;have hcz6_1 : w5.cell? ⟨gb, 1, none⟩ = some (.slice A1 l1.length c1) := (blk_cell BK.out 1).trans rfl;have hcz6_2 : w5.cell? ⟨gb, 2, none⟩ = some (.slice A2 l2.length c2) := (blk_cell BK.out 2).trans rfl;have hcz6_3 : w5.cell? ⟨gb, 3, none⟩ = some (.slice A3 l3.length c3) := (blk_cell BK.out 3).trans rfl)
     | ((with_reducible refine gate_builtin (b := .append) (xs := #[.tmp 15, .tmp 17]) rfl ?_);at_builtin;refine Kd.S_append k58 (w0 := w0) w0.heap.size rfl (.tmp 15) (.tmp 17) 47 58 (.agg #[(.int .i64 0), (.slice none 0 0), (.slice none 0 0), (.slice none 0 0)]) 80 rfl Try.underlying47 info58 rfl (by decide) (by omega) (.slice Ao xs.length co) xs (⟨t0, l1, l2, l3⟩ : S58) [.int .i64 t0, .slice A1 l1.length c1, .slice A2 l2.length c2, .slice A3 l3.length c3] (fun _ => True) (fun k_ => some k_ = (.slice A1 l1.length c1 : Value).ownBlock ∨ some k_ = (.slice A2 l2.length c2 : Value).ownBlock ∨ some k_ = (.slice A3 l3.length c3 : Value).ownBlock) rfl rfl ?aP (fun k_ hk_ => ⟨trivial, hk_.elim (fun h_ => ((Kd.R_apart' HO1.out (Kd.S_typed HS.out) (by decide)).1 k_ h_.symm).2) (fun h_ => h_.elim (fun h_ => ((Kd.R_apart' HO2.out (Kd.S_typed HS.out) (by decide)).1 k_ h_.symm).2) (fun h_ => ((Kd.R_apart' HO3.out (Kd.S_typed HS.out) (by decide)).1 k_ h_.symm).2))⟩) (fun _ _ => trivial) ?aO ?aB ?aS ?aL ?_;(case aP => have hD_ := D3_of (v1 := .slice A1 l1.length c1) (v2 := .slice A2 l2.length c2) (v3 := .slice A3 l3.length c3) HO1.out.1 HO2.out.1;exact k58_mkM _ _ _ (⟨t0, l1, l2, l3⟩ : S58) (Kd.R_mono (Kd.R_tight rfl HO1.out) (fun _ h_ => Or.inl h_)) (Kd.R_mono (Kd.R_tight rfl HO2.out) (fun _ h_ => Or.inr (Or.inl h_))) (Kd.R_mono (Kd.R_tight rfl HO3.out) (fun _ h_ => Or.inr (Or.inr h_))));(case aO => exact Kd.S_mono HS.out (fun k_ hk => ⟨trivial, fun e_ => e_.elim hk.1 (fun h_ => h_.elim hk.2.1 hk.2.2)⟩));(case aB => exact HB.out);(case aS => exact below_size HB.out);(case aL => have := LM.out;omega);intro v1 w12 ho hb hg hat;obtain ⟨A1_, c1_, e1_⟩ := Kd.S_slice ho;subst e1_;have n0_ := Aside0.mk (blk_grown BKG.out hg (fun e_ => by obtain ⟨cc, hc⟩ := HT5.out g e_.symm;have e2 := BKG.out;rw [hc] at e2;injection e2 with e2;injection e2 with _ e2 _;exact absurd e2 (by decide)));have n1_ := Aside0.mk hb;have n2_ := Aside0.mk ho;have n3_ := Aside0.mk (Kept.of_grown hg HK.out (fun k hk => .inl (by obtain ⟨cc, hc⟩ := HT.out k hk;exact ⟨58, by decide, cc, hc⟩)));clear BKG;clear HB;clear HS;clear HK;have BKG := n0_;have HB := n1_;have HS := n2_;have HK := n3_;clear n0_ n1_ n2_ n3_;clear ho hb hg hat;have hfg := blk_frozen BKG.out 0;have hcg12 : w12.cell? ⟨g, 0, none⟩ = some (.slice Ao xs.length co) := (blk_cell BKG.out 0).trans rfl))
   go_end0;refine ⟨rfl, ⟨HG.out, _, blk_put (cs := #[.slice Ao xs.length co]) BKG.out 0 _ rfl, (by have hs_ := Kd.S_set HS.out BKG.out (by decide) 0 (.slice A1_ (xs.length + 1) c1_);rw [List.length_append, List.length_singleton] at hs_;exact hs_)⟩, below_set HB.out HG.out, ?_⟩;exact Kept.setCell HK.out (.inl ⟨47, by decide, _, BKG0.out⟩) _
  ·rw [if_neg c6] at h;exact absurd h (by simp)
 ·rw [if_neg c5] at h;have c5b0 : decide ((wrap64 ((wrap64 ((l1.length : Int) + (l2.length : Int))) + (l3.length : Int))) > 0) = false := decide_eq_false c5;clear c5;obtain rfl := Option.some.inj h;clear h;go_enter Try.func130, Try.ntmps130
  go_wp2_with (first
      | ((with_reducible refine gate_dst (N := 2) rfl ?_);refine box_event ?hg (N := 2) ?hd (cs := #[.int .i64 t0, .slice A1 l1.length c1, .slice A2 l2.length c2, .slice A3 l3.length c3]) (t := 58) ?hr ?_;(case hd => rfl);(case hg => rfl);(case hr => first | (go_simp;done) | (go_simp;rfl));intro gb hgb w5 hbox hb;have BK := Aside0.mk hbox;have n0_ := Aside0.mk (Kd.S_below HS.out hb);have n4_ := Aside0.mk (Kept.below HK.out hb);have n5_ := Aside0.mk (below_step HB.out hb);have n6_ := Aside0.mk (blk_below BKG.out hb);clear HS;clear HK;clear HB;clear BKG;have HS := n0_;have HK := n4_;have HB := n5_;have BKG := n6_;clear n0_ n4_ n5_ n6_;clear hb hbox hgb hcg;have hcz6_0 : w5.cell? ⟨gb, 0, none⟩ = some (.int .i64 t0) := (blk_cell BK.out 0).trans rfl;have hcz6_1 : w5.cell? ⟨gb, 1, none⟩ = some (.slice A1 l1.length c1) := (blk_cell BK.out 1).trans rfl;have hcz6_2 : w5.cell? ⟨gb, 2, none⟩ = some (.slice A2 l2.length c2) := (blk_cell BK.out 2).trans rfl;have hcz6_3 : w5.cell? ⟨gb, 3, none⟩ = some (.slice A3 l3.length c3) := (blk_cell BK.out 3).trans rfl))
  go_end0;exact ⟨rfl, ⟨HG.out, _, BKG.out, Kd.S_mono HS.out (fun _ _ => trivial)⟩, HB.out, HK.out⟩
end Go.Proofs.Ytjngmhngedecdaa.P
end
