/- Part 3 of the proof of FnExactChunksOf: words, the Go functions' contracts, what they compute, and the law on plain values. Words that the kit's print.sh wrote for this seat are among it, as far as they are used. -/
import Derived.Shelf.Strings.Builder1
import Derived.Shelf.Strings.Builder2
import Derived.Shelf.Strings.OnBuilder
import Derived.Shelf.Strings.BuilderF
import Derived.Shelf.Strings.BuilderK
import Derived.Shelf.Strings.Search1
import Derived.Shelf.Strings.Search2
import Derived.Shelf.Strings.Search3
import Derived.Shelf.LaysM
import Derived.Shelf.Strings.Shaped
import Derived.Shelf.Strings.Prefix
import Derived.Shelf.Slices.Equal
import Derived.Ground.Names2Prog
import Derived.Shelf.Slices.Clone
import Derived.Ground.SlgnProg
import Derived.Shelf.SlicesE.Clone
import Derived.Test.YtjngmhngedecdaaProg
import Derived.Test.YtjngmhngedecdaaCFnExactChunksOf1
import Derived.Test.YtjngmhngedecdaaCFnExactChunksOf2
section
namespace Go.Proofs.Ytjngmhngedecdaa.P
open Go.RowKit Go.Proofs.YtjngmhngedecdaaW.PrintWords Go.Proofs.YtjngmhngedecdaaW.PrintLast Go.Proofs.YtjngmhngedecdaaW.PrintMore
attribute [local go_sem] max2_int min2_int max_two min_two max_three min_three max_four min_four
set_option linter.unusedVariables false
set_option linter.unusedSimpArgs false
mutual
def spec_l2Match.l0 : Nat → List ByteArray → List ByteArray → List (List Int) → List Int → List Int → Int → Int → Option (List Int × List Int)
 | 0, _, _, _, _, _, _, _ => none
 | k + 1, x0, x1, x6, x7, x8, x9, x10 => if x9 < (x0.length : Int) then (spec_l2Match.j1 k x0 x1 x6 x7 x8 x9 x10 (decide (x10 < (x1.length : Int)))) else (spec_l2Match.j1 k x0 x1 x6 x7 x8 x9 x10 false)
def spec_l2Match.j1 : Nat → List ByteArray → List ByteArray → List (List Int) → List Int → List Int → Int → Int → Bool → Option (List Int × List Int)
 | 0, _, _, _, _, _, _, _, _ => none
 | k + 1, x0, x1, x6, x7, x8, x9, x10, x25 => if x25 = true then (if 0 ≤ x9 then (if x9 < (x0.length : Int) then (if 0 ≤ x10 then (if x10 < (x1.length : Int) then (if (rdOf ByteArray.empty x0 x9).toList = (rdOf ByteArray.empty x1 x10).toList then (if x7.length < 17592186044416 then (if x8.length < 17592186044416 then (spec_l2Match.l0 k x0 x1 x6 (x7 ++ [x9]) (x8 ++ [x10]) (wrap64 (x9 + 1)) (wrap64 (x10 + 1))) else (none)) else (none)) else (if 0 ≤ (wrap64 (x9 + 1)) then (if (wrap64 (x9 + 1)) < (x6.length : Int) then (if x10 < ((rd_L13 x6 (wrap64 (x9 + 1))).length : Int) then (if x9 < (x6.length : Int) then (if 0 ≤ (wrap64 (x10 + 1)) then (if (wrap64 (x10 + 1)) < ((rd_L13 x6 x9).length : Int) then (if (rd (rd_L13 x6 (wrap64 (x9 + 1))) x10) ≥ (rd (rd_L13 x6 x9) (wrap64 (x10 + 1))) then (spec_l2Match.l0 k x0 x1 x6 x7 x8 (wrap64 (x9 + 1)) x10) else (spec_l2Match.l0 k x0 x1 x6 x7 x8 x9 (wrap64 (x10 + 1)))) else (none)) else (none)) else (none)) else (none)) else (none)) else (none))) else (none)) else (none)) else (none)) else (none)) else (some (x7, x8))
end
def spec_l2Match.f (k : Nat) (l0 : List ByteArray) (l1 : List ByteArray) : Option (List Int × List Int) := (spec_l2Table.f k l0 l1).bind fun t672 => (spec_l2Match.l0 k l0 l1 t672 (([] : List Int)) (([] : List Int)) 0 0)
set_option maxHeartbeats 8000000 in
set_option maxRecDepth 100000 in
theorem spec_l2Match.calls (k : Nat) (A0 : Option Addr) (c0 : Nat) (l0 : List ByteArray) (A1 : Option Addr) (c1 : Nat) (l1 : List ByteArray) (r1 : List Int) (r2 : List Int) (w : World) (hr0 : Kd.C Kd.string w A0 l0.length l0) (hc0 : l0.length ≤ c0) (hr1 : Kd.C Kd.string w A1 l1.length l1) (hc1 : l1.length ≤ c1) (h : spec_l2Match.f k l0 l1 = some (r1, r2)) :
  Calls Try.prog 139 #[.slice A0 l0.length c0, .slice A1 l1.length c1] w fun e w' => ∃ v0_ v1_ : Value, e = .returned (.tuple #[v0_, v1_]) ∧ Kd.R (Kd.int .i64) 2 w' w.heap.size (fun k_ => some k_ ≠ (v1_ : Value).ownBlock) v0_ r1 ∧ Kd.R (Kd.int .i64) 2 w' w.heap.size (fun k_ => some k_ ≠ (v0_ : Value).ownBlock) v1_ r2 ∧ Below w.heap.size w w' := by
 have HR0 := Aside0.mk hr0;have HC0 := Aside0.mk hc0;clear hr0 hc0;have HR1 := Aside0.mk hr1;have HC1 := Aside0.mk hc1;clear hr1 hc1;have HB := Aside0.mk (Below.refl w.heap.size w);have H : ((spec_l2Table.f k l0 l1).bind fun t672 => (spec_l2Match.l0 k l0 l1 t672 (([] : List Int)) (([] : List Int)) 0 0)) = some (r1, r2) := h;clear h;replace H := Option.bind_eq_some_iff.mp H;obtain ⟨t672, A30, H⟩ := H;replace H : (spec_l2Match.l0 k l0 l1 t672 (([] : List Int)) (([] : List Int)) 0 0) = some (r1, r2) := H;have A3 := Aside0.mk A30;clear A30;obtain ⟨y675, hy675⟩ : ∃ y_ : List Int, y_ = (([] : List Int)) := ⟨_, rfl⟩;(replace H : (spec_l2Match.l0 k l0 l1 t672 y675 (([] : List Int)) 0 0) = some (r1, r2) := by first | (rw [hy675];with_reducible exact H) | (have H2_ := (Option.bind_some _ _).symm.trans H;rw [hy675];with_reducible exact H2_) | (have H2_ := (Option.bind_some _ _).symm.trans H;with_reducible exact H2_) | with_reducible exact H | (rw [hy675];exact H) | exact H);have Ny675 := Aside0.mk hy675;clear hy675;obtain ⟨y678, hy678⟩ : ∃ y_ : List Int, y_ = (([] : List Int)) := ⟨_, rfl⟩;(replace H : (spec_l2Match.l0 k l0 l1 t672 y675 y678 0 0) = some (r1, r2) := by first | (rw [hy678];with_reducible exact H) | (have H2_ := (Option.bind_some _ _).symm.trans H;rw [hy678];with_reducible exact H2_) | (have H2_ := (Option.bind_some _ _).symm.trans H;with_reducible exact H2_) | with_reducible exact H | (rw [hy678];exact H) | exact H);have Ny678 := Aside0.mk hy678;clear hy678;have H' := Aside0.mk H;clear H;go_enter Try.func139, Try.ntmps139;go_wp2_with (first | (go_at_call 148;(with_reducible refine (spec_l2Table.calls k _ _ l0 _ _ l1 t672 _ ?side1 ?side2 ?side3 ?side4 A3.out).mono ?_);(case side1 => exact rc_ HR0.out);(case side2 => exact HC0.out);(case side3 => exact rc_ HR1.out);(case side4 => exact HC1.out);rintro e w4 ⟨v673, rfl, ho0, hb⟩;have n0_ := Aside0.mk (Kd.S_lower ho0 (below_size (bw_ HB.out)));have n1_ := Aside0.mk (below_step (bw_ HB.out) hb);clear HB;have HO674 := n0_;have HB := n1_;clear n0_ n1_;(try clear hb);(try clear hb2);(try clear hk);(try clear hi);(try clear ho0)) | ((with_reducible refine gate_dst (N := 14) rfl ?_);(try (refine gate_guard (by rfl) ?_;dsimp only));refine Kd.R_lit (Kd.int .i64) _ 2 ?hg (N := 14) ?hd (xs := ([] : List Int)) (inner := []) (ok := fun _ => True) (okp := fun _ => True) ?hr ?hp (fun _ hk => hk) trivial (Below.refl _ _) (Nat.le_refl _) (by simp) ?_;(case hd => rfl);(case hg => rfl);(case hr => first | (go_simp;done) | (go_simp;rfl));(case hp => exact (Reps.none _ _));intro v676 w5 ho6 hb hg_ hnew_;clear hg_ hnew_;(first | rw [← Ny675.out] at ho6 | (simp only [Int.reduceToNat] at ho6;rw [← Ny675.out] at ho6));have n0_ := Aside0.mk (Kd.S_elder' (rs_ HO674.out) (Kd.R_base ho6) hb);have n1_ := Aside0.mk (Kd.R_lower ho6 (below_size (bw_ HB.out)));have n2_ := Aside0.mk (below_step (bw_ HB.out) hb);clear HO674;clear HB;have HO674 := n0_;have HO677 := n1_;have HB := n2_;clear n0_ n1_ n2_;clear hb ho6) | ((with_reducible refine gate_dst (N := 15) rfl ?_);(try (refine gate_guard (by rfl) ?_;dsimp only));refine Kd.R_lit (Kd.int .i64) _ 2 ?hg (N := 15) ?hd (xs := ([] : List Int)) (inner := []) (ok := fun _ => True) (okp := fun _ => True) ?hr ?hp (fun _ hk => hk) trivial (Below.refl _ _) (Nat.le_refl _) (by simp) ?_;(case hd => rfl);(case hg => rfl);(case hr => first | (go_simp;done) | (go_simp;rfl));(case hp => exact (Reps.none _ _));intro v679 w7 ho8 hb hg_ hnew_;clear hg_ hnew_;(first | rw [← Ny678.out] at ho8 | (simp only [Int.reduceToNat] at ho8;rw [← Ny678.out] at ho8));have n0_ := Aside0.mk (Kd.S_elder' (rs_ HO674.out) (Kd.R_base ho8) hb);have n1_ := Aside0.mk (Kd.R_elder' (rr_ HO677.out) (Kd.R_base ho8) hb);have n2_ := Aside0.mk (Kd.R_lower (Kd.R_new' ho8 (Kd.R_lt (rr_ HO677.out))) (below_size (bw_ HB.out)));have n3_ := Aside0.mk (below_step (bw_ HB.out) hb);clear HO674;clear HO677;clear HB;have HO674 := n0_;have HO677 := n1_;have HO680 := n2_;have HB := n3_;clear n0_ n1_ n2_ n3_;clear hb ho8));(repeat (go_quiet (first | (go_at_call 148;(with_reducible refine (spec_l2Table.calls k _ _ l0 _ _ l1 t672 _ ?side1 ?side2 ?side3 ?side4 A3.out).mono ?_);(case side1 => exact rc_ HR0.out);(case side2 => exact HC0.out);(case side3 => exact rc_ HR1.out);(case side4 => exact HC1.out);rintro e w4 ⟨v673, rfl, ho0, hb⟩;have n0_ := Aside0.mk (Kd.S_lower ho0 (below_size (bw_ HB.out)));have n1_ := Aside0.mk (below_step (bw_ HB.out) hb);clear HB;have HO674 := n0_;have HB := n1_;clear n0_ n1_;(try clear hb);(try clear hb2);(try clear hk);(try clear hi);(try clear ho0)) | ((with_reducible refine gate_dst (N := 14) rfl ?_);(try (refine gate_guard (by rfl) ?_;dsimp only));refine Kd.R_lit (Kd.int .i64) _ 2 ?hg (N := 14) ?hd (xs := ([] : List Int)) (inner := []) (ok := fun _ => True) (okp := fun _ => True) ?hr ?hp (fun _ hk => hk) trivial (Below.refl _ _) (Nat.le_refl _) (by simp) ?_;(case hd => rfl);(case hg => rfl);(case hr => first | (go_simp;done) | (go_simp;rfl));(case hp => exact (Reps.none _ _));intro v676 w5 ho6 hb hg_ hnew_;clear hg_ hnew_;(first | rw [← Ny675.out] at ho6 | (simp only [Int.reduceToNat] at ho6;rw [← Ny675.out] at ho6));have n0_ := Aside0.mk (Kd.S_elder' (rs_ HO674.out) (Kd.R_base ho6) hb);have n1_ := Aside0.mk (Kd.R_lower ho6 (below_size (bw_ HB.out)));have n2_ := Aside0.mk (below_step (bw_ HB.out) hb);clear HO674;clear HB;have HO674 := n0_;have HO677 := n1_;have HB := n2_;clear n0_ n1_ n2_;clear hb ho6) | ((with_reducible refine gate_dst (N := 15) rfl ?_);(try (refine gate_guard (by rfl) ?_;dsimp only));refine Kd.R_lit (Kd.int .i64) _ 2 ?hg (N := 15) ?hd (xs := ([] : List Int)) (inner := []) (ok := fun _ => True) (okp := fun _ => True) ?hr ?hp (fun _ hk => hk) trivial (Below.refl _ _) (Nat.le_refl _) (by simp) ?_;(case hd => rfl);(case hg => rfl);(case hr => first | (go_simp;done) | (go_simp;rfl));(case hp => exact (Reps.none _ _));intro v679 w7 ho8 hb hg_ hnew_;clear hg_ hnew_;(first | rw [← Ny678.out] at ho8 | (simp only [Int.reduceToNat] at ho8;rw [← Ny678.out] at ho8));have n0_ := Aside0.mk (Kd.S_elder' (rs_ HO674.out) (Kd.R_base ho8) hb);have n1_ := Aside0.mk (Kd.R_elder' (rr_ HO677.out) (Kd.R_base ho8) hb);have n2_ := Aside0.mk (Kd.R_lower (Kd.R_new' ho8 (Kd.R_lt (rr_ HO677.out))) (below_size (bw_ HB.out)));have n3_ := Aside0.mk (below_step (bw_ HB.out) hb);clear HO674;clear HO677;clear HB;have HO674 := n0_;have HO677 := n1_;have HO680 := n2_;have HB := n3_;clear n0_ n1_ n2_ n3_;clear hb ho8));try go_wp2_with (first | (go_at_call 148;(with_reducible refine (spec_l2Table.calls k _ _ l0 _ _ l1 t672 _ ?side1 ?side2 ?side3 ?side4 A3.out).mono ?_);(case side1 => exact rc_ HR0.out);(case side2 => exact HC0.out);(case side3 => exact rc_ HR1.out);(case side4 => exact HC1.out);rintro e w4 ⟨v673, rfl, ho0, hb⟩;have n0_ := Aside0.mk (Kd.S_lower ho0 (below_size (bw_ HB.out)));have n1_ := Aside0.mk (below_step (bw_ HB.out) hb);clear HB;have HO674 := n0_;have HB := n1_;clear n0_ n1_;(try clear hb);(try clear hb2);(try clear hk);(try clear hi);(try clear ho0)) | ((with_reducible refine gate_dst (N := 14) rfl ?_);(try (refine gate_guard (by rfl) ?_;dsimp only));refine Kd.R_lit (Kd.int .i64) _ 2 ?hg (N := 14) ?hd (xs := ([] : List Int)) (inner := []) (ok := fun _ => True) (okp := fun _ => True) ?hr ?hp (fun _ hk => hk) trivial (Below.refl _ _) (Nat.le_refl _) (by simp) ?_;(case hd => rfl);(case hg => rfl);(case hr => first | (go_simp;done) | (go_simp;rfl));(case hp => exact (Reps.none _ _));intro v676 w5 ho6 hb hg_ hnew_;clear hg_ hnew_;(first | rw [← Ny675.out] at ho6 | (simp only [Int.reduceToNat] at ho6;rw [← Ny675.out] at ho6));have n0_ := Aside0.mk (Kd.S_elder' (rs_ HO674.out) (Kd.R_base ho6) hb);have n1_ := Aside0.mk (Kd.R_lower ho6 (below_size (bw_ HB.out)));have n2_ := Aside0.mk (below_step (bw_ HB.out) hb);clear HO674;clear HB;have HO674 := n0_;have HO677 := n1_;have HB := n2_;clear n0_ n1_ n2_;clear hb ho6) | ((with_reducible refine gate_dst (N := 15) rfl ?_);(try (refine gate_guard (by rfl) ?_;dsimp only));refine Kd.R_lit (Kd.int .i64) _ 2 ?hg (N := 15) ?hd (xs := ([] : List Int)) (inner := []) (ok := fun _ => True) (okp := fun _ => True) ?hr ?hp (fun _ hk => hk) trivial (Below.refl _ _) (Nat.le_refl _) (by simp) ?_;(case hd => rfl);(case hg => rfl);(case hr => first | (go_simp;done) | (go_simp;rfl));(case hp => exact (Reps.none _ _));intro v679 w7 ho8 hb hg_ hnew_;clear hg_ hnew_;(first | rw [← Ny678.out] at ho8 | (simp only [Int.reduceToNat] at ho8;rw [← Ny678.out] at ho8));have n0_ := Aside0.mk (Kd.S_elder' (rs_ HO674.out) (Kd.R_base ho8) hb);have n1_ := Aside0.mk (Kd.R_elder' (rr_ HO677.out) (Kd.R_base ho8) hb);have n2_ := Aside0.mk (Kd.R_lower (Kd.R_new' ho8 (Kd.R_lt (rr_ HO677.out))) (below_size (bw_ HB.out)));have n3_ := Aside0.mk (below_step (bw_ HB.out) hb);clear HO674;clear HO677;clear HB;have HO674 := n0_;have HO677 := n1_;have HO680 := n2_;have HB := n3_;clear n0_ n1_ n2_ n3_;clear hb ho8))));go_loopg [7, 8, 9, 10] k (fun kq v7 v8 v9 v10 w' => ∃ (x7_1 : List Int) (x8_1 : List Int) (x9_1 : Int) (x10_1 : Int), v9 = .int .i64 x9_1 ∧ v10 = .int .i64 x10_1 ∧ Aside0 (spec_l2Match.l0 kq l0 l1 t672 x7_1 x8_1 x9_1 x10_1 = some (r1, r2)) ∧ Aside0 (kq ≤ k) ∧ Aside0 (Kd.S (Kd.slice 2 (Kd.int .i64)) 130 w' w.heap.size (fun k_ => some k_ ≠ (v7 : Value).ownBlock ∧ some k_ ≠ (v8 : Value).ownBlock) v673 t672) ∧ Aside0 (Kd.R (Kd.int .i64) 2 w' w.heap.size (fun k_ => some k_ ≠ (v8 : Value).ownBlock) v7 x7_1) ∧ Aside0 (Kd.R (Kd.int .i64) 2 w' w.heap.size (fun k_ => some k_ ≠ (v7 : Value).ownBlock) v8 x8_1) ∧ Aside0 (Below w.heap.size w w'));(case atStart => exact ⟨(y675), (y678), (0), (0), ls_, ls_, H', ⟨Nat.le_refl _⟩, ⟨by (with_reducible repeat (first | apply Kd.S_alloc | apply Kd.S_drewN | apply Kd.S_drew));exact Kd.S_mono HO674.out (fun _ hk => ⟨hk.1.2, hk.2⟩)⟩, ⟨by (with_reducible repeat (first | apply Kd.R_alloc | apply Kd.R_drewN | apply Kd.R_drew));exact Kd.R_mono HO677.out (fun _ hk => hk.2)⟩, ⟨by (with_reducible repeat (first | apply Kd.R_alloc | apply Kd.R_drewN | apply Kd.R_drew));exact Kd.R_mono HO680.out (fun _ hk => hk.2)⟩, ⟨bw_ HB.out⟩⟩)
 case round =>
  clear H'
  try clear c1
  try clear p2
  obtain ⟨x7_1, x8_1, x9_1, x10_1, rfl, rfl, HA, HK1, HO_6, HO_7, HO_8, HB⟩ := hrel
  cases gk with
  | zero => exact absurd HA.out (by simp [spec_l2Match.l0])
  | succ k1 =>
   have H := HA.out
   clear HA
   simp only [spec_l2Match.l0] at H
   have HC9 := Aside0.mk H
   clear H
   go_upto_region 6 with (fail)
   repeat (go_quiet (fail);go_upto_region 6 with (fail))
   go_cut [25] (fun v25 wc => ∃ (kq : Nat) (x25_8 : Bool), v25 = .bool x25_8 ∧ Aside0 (spec_l2Match.j1 kq l0 l1 t672 x7_1 x8_1 x9_1 x10_1 x25_8 = some (r1, r2)) ∧ Aside0 (kq ≤ k1) ∧ Aside0 (Kd.S (Kd.slice 2 (Kd.int .i64)) 130 wc w.heap.size (fun k_ => some k_ ≠ (u7 : Value).ownBlock ∧ some k_ ≠ (u8 : Value).ownBlock) v673 t672) ∧ Aside0 (Kd.R (Kd.int .i64) 2 wc w.heap.size (fun k_ => some k_ ≠ (u8 : Value).ownBlock) u7 x7_1) ∧ Aside0 (Kd.R (Kd.int .i64) 2 wc w.heap.size (fun k_ => some k_ ≠ (u7 : Value).ownBlock) u8 x8_1) ∧ Aside0 (Below w.heap.size w wc))
   case first =>
    have H := HC9.out
    clear HC9
    by_cases c10 : x9_1 < (l0.length : Int)
    ·rw [if_pos c10] at H
     have c10b0 : decide (x9_1 < (l0.length : Int)) = true := decide_eq_true c10
     clear c10
     (first | rw [c10b0] | (simp only [i64_w, i32_w];rw [c10b0]) | skip)
     have H' := Aside0.mk H
     clear H
     go_wp2
     repeat (go_quiet (fail);try go_wp2)
     go_meet
     case rel => exact ⟨_, (decide (x10_1 < (l1.length : Int))), ls_, H', ⟨by have := HK1.out;first | omega | exact Nat.le_refl _⟩, ⟨rs_ HO_6.out⟩, ⟨rr_ HO_7.out⟩, ⟨rr_ HO_8.out⟩, ⟨bw_ HB.out⟩⟩
    ·rw [if_neg c10] at H
     have c10b0 : decide (x9_1 < (l0.length : Int)) = false := decide_eq_false c10
     clear c10
     (first | rw [c10b0] | (simp only [i64_w, i32_w];rw [c10b0]) | skip)
     have H' := Aside0.mk H
     clear H
     go_wp2
     repeat (go_quiet (fail);try go_wp2)
     go_meet
     case rel => exact ⟨_, (false), ls_, H', ⟨by have := HK1.out;first | omega | exact Nat.le_refl _⟩, ⟨rs_ HO_6.out⟩, ⟨rr_ HO_7.out⟩, ⟨rr_ HO_8.out⟩, ⟨bw_ HB.out⟩⟩
   case rest =>
    clear HC9
    try clear c1
    try clear p2
    try clear c10
    try clear c10b0
    try clear p2
    obtain ⟨kq, x25_8, rfl, HA, HJ8, HO_6, HO_7, HO_8, HB⟩ := hcut
    cases kq with
    | zero => exact absurd HA.out (by simp [spec_l2Match.j1])
    | succ kj8 =>
     have H := HA.out
     clear HA
     simp only [spec_l2Match.j1] at H
     by_cases c11 : x25_8 = true
     ·subst c11
      have H1 : (if 0 ≤ x9_1 then (if x9_1 < (l0.length : Int) then (if 0 ≤ x10_1 then (if x10_1 < (l1.length : Int) then (if (rdOf ByteArray.empty l0 x9_1).toList = (rdOf ByteArray.empty l1 x10_1).toList then (if x7_1.length < 17592186044416 then (if x8_1.length < 17592186044416 then (spec_l2Match.l0 kj8 l0 l1 t672 (x7_1 ++ [x9_1]) (x8_1 ++ [x10_1]) (wrap64 (x9_1 + 1)) (wrap64 (x10_1 + 1))) else (none)) else (none)) else (if 0 ≤ (wrap64 (x9_1 + 1)) then (if (wrap64 (x9_1 + 1)) < (t672.length : Int) then (if x10_1 < ((rd_L13 t672 (wrap64 (x9_1 + 1))).length : Int) then (if x9_1 < (t672.length : Int) then (if 0 ≤ (wrap64 (x10_1 + 1)) then (if (wrap64 (x10_1 + 1)) < ((rd_L13 t672 x9_1).length : Int) then (if (rd (rd_L13 t672 (wrap64 (x9_1 + 1))) x10_1) ≥ (rd (rd_L13 t672 x9_1) (wrap64 (x10_1 + 1))) then (spec_l2Match.l0 kj8 l0 l1 t672 x7_1 x8_1 (wrap64 (x9_1 + 1)) x10_1) else (spec_l2Match.l0 kj8 l0 l1 t672 x7_1 x8_1 x9_1 (wrap64 (x10_1 + 1)))) else (none)) else (none)) else (none)) else (none)) else (none)) else (none))) else (none)) else (none)) else (none)) else (none)) = some (r1, r2) := by rw [if_pos rfl] at H;exact H
      clear H
      have H := H1
      clear H1
      by_cases c12 : 0 ≤ x9_1
      ·rw [if_pos c12] at H
       have c12b0 : decide (0 ≤ x9_1) = true := decide_eq_true c12
       clear c12
       by_cases c13 : x9_1 < (l0.length : Int)
       ·rw [if_pos c13] at H
        have c13b0 : decide (x9_1 < (l0.length : Int)) = true := decide_eq_true c13
        clear c13
        by_cases c14 : 0 ≤ x10_1
        ·rw [if_pos c14] at H
         have c14b0 : decide (0 ≤ x10_1) = true := decide_eq_true c14
         clear c14
         by_cases c15 : x10_1 < (l1.length : Int)
         ·rw [if_pos c15] at H
          have c15b0 : decide (x10_1 < (l1.length : Int)) = true := decide_eq_true c15
          clear c15
          by_cases c16 : (rdOf ByteArray.empty l0 x9_1).toList = (rdOf ByteArray.empty l1 x10_1).toList
          ·rw [if_pos c16] at H
           have c16b0 : ((rdOf ByteArray.empty l0 x9_1).toList == (rdOf ByteArray.empty l1 x10_1).toList) = true := beq_iff_eq.mpr c16
           have c16b1 : ((rdOf ByteArray.empty l0 x9_1).toList != (rdOf ByteArray.empty l1 x10_1).toList) = false := bne_eq_false_iff_eq.mpr c16
           clear c16
           by_cases c17 : x7_1.length < 17592186044416
           ·rw [if_pos c17] at H
            have LMc17 := Aside0.mk c17
            clear c17
            obtain ⟨y683, hy683⟩ : ∃ y_ : List Int, y_ = (x7_1 ++ [x9_1]) := ⟨_, rfl⟩
            replace H : (if x8_1.length < 17592186044416 then (spec_l2Match.l0 kj8 l0 l1 t672 y683 (x8_1 ++ [x10_1]) (wrap64 (x9_1 + 1)) (wrap64 (x10_1 + 1))) else (none)) = some (r1, r2) := by first | (rw [hy683];with_reducible exact H) | (have H2_ := (Option.bind_some _ _).symm.trans H;rw [hy683];with_reducible exact H2_) | (have H2_ := (Option.bind_some _ _).symm.trans H;with_reducible exact H2_) | with_reducible exact H | (rw [hy683];exact H) | exact H
            have Ny683 := Aside0.mk hy683
            clear hy683
            by_cases c18 : x8_1.length < 17592186044416
            ·rw [if_pos c18] at H
             have LMc18 := Aside0.mk c18
             clear c18
             obtain ⟨y686, hy686⟩ : ∃ y_ : List Int, y_ = (x8_1 ++ [x10_1]) := ⟨_, rfl⟩
             replace H : (spec_l2Match.l0 kj8 l0 l1 t672 y683 y686 (wrap64 (x9_1 + 1)) (wrap64 (x10_1 + 1))) = some (r1, r2) := by first | (rw [hy686];with_reducible exact H) | (have H2_ := (Option.bind_some _ _).symm.trans H;rw [hy686];with_reducible exact H2_) | (have H2_ := (Option.bind_some _ _).symm.trans H;with_reducible exact H2_) | with_reducible exact H | (rw [hy686];exact H) | exact H
             have Ny686 := Aside0.mk hy686
             clear hy686
             have H' := Aside0.mk H
             clear H
             have p681 : 0 ≤ (x9_1 : Int) := od_
             have q681 : x9_1 < (l0.length : Int) := od_
             obtain ⟨ad681, e681, hx681_0⟩ := Kd.at_string HR0.out x9_1 p681 q681
             cases e681
             replace hx681_0 := hc_ HB.out hx681_0
             replace p681 := eq_true p681
             replace q681 := eq_true q681
             have p682 : 0 ≤ (x10_1 : Int) := od_
             have q682 : x10_1 < (l1.length : Int) := od_
             obtain ⟨ad682, e682, hx682_0⟩ := Kd.at_string HR1.out x10_1 p682 q682
             cases e682
             replace hx682_0 := hc_ HB.out hx682_0
             replace p682 := eq_true p682
             replace q682 := eq_true q682
             go_wp2_with (first | ((with_reducible refine gate_builtin (b := .append) (xs := #[.tmp 35, .tmp 37]) rfl ?_);(try (refine gate_guard (by rfl) ?_;dsimp only));at_builtin;refine Kd.R_append (Kd.int .i64) (w0 := w) w.heap.size rfl (.tmp 35) (.tmp 37) 130 2 (.int .i64 0) 8 rfl Try.underlying130 info2 rfl (by decide) (by omega) u7 x7_1 x9_1 [.int .i64 x9_1] (fun k_ => some k_ ≠ (u8 : Value).ownBlock) (fun _ => False) rfl rfl ?aP (fun _ hk => hk.elim) ?aF ?aO ?aB ?aS ?aL ?_;(case aP => exact rfl);(case aB => exact (bw_ HB.out));(case aF => exact (fun k_ hk => Kd.fresh' (Kd.R_lt (rr_ HO_8.out)) k_ hk));(case aO => exact (rr_ HO_7.out));(case aS => exact (below_size (bw_ HB.out)));(case aL => have := LMc17.out;omega);intro v684 w19 ho hb hg hat;rw [← Ny683.out] at ho;have n0_ := Aside0.mk (Kd.S_after (ok := (fun k_ => some k_ ≠ (u8 : Value).ownBlock)) (by (with_reducible repeat (first | apply Kd.S_alloc | apply Kd.S_drewN | apply Kd.S_drew));exact Kd.S_mono HO_6.out (fun _ hk => ⟨hk.2, hk.1⟩)) hg hat);have n1_ := Aside0.mk (Kd.R_after (ok := (fun _ => True)) (by (with_reducible repeat (first | apply Kd.R_alloc | apply Kd.R_drewN | apply Kd.R_drew));exact Kd.R_mono HO_8.out (fun _ hk => ⟨trivial, hk⟩)) hg hat);have n2_ := Aside0.mk (hb);have n3_ := Aside0.mk (ho);clear HO_6;clear HO_8;clear HB;clear HO_7;have HO_6 := n0_;have HO_8 := n1_;have HB := n2_;have HO685 := n3_;clear n0_ n1_ n2_ n3_;clear ho hb hg hat) | ((with_reducible refine gate_builtin (b := .append) (xs := #[.tmp 39, .tmp 41]) rfl ?_);(try (refine gate_guard (by rfl) ?_;dsimp only));at_builtin;refine Kd.R_append (Kd.int .i64) (w0 := w) w.heap.size rfl (.tmp 39) (.tmp 41) 130 2 (.int .i64 0) 8 rfl Try.underlying130 info2 rfl (by decide) (by omega) u8 x8_1 x10_1 [.int .i64 x10_1] (fun k_ => some k_ ≠ (v684 : Value).ownBlock) (fun _ => False) rfl rfl ?aP (fun _ hk => hk.elim) ?aF ?aO ?aB ?aS ?aL ?_;(case aP => exact rfl);(case aB => exact (bw_ HB.out));(case aF => exact (fun k_ hk => Kd.fresh' (Kd.R_lt (rr_ HO685.out)) k_ hk));(case aO => exact (by (with_reducible repeat (first | apply Kd.R_alloc | apply Kd.R_drewN | apply Kd.R_drew));exact Kd.R_mono HO_8.out (fun _ hk => hk.2)));(case aS => exact (below_size (bw_ HB.out)));(case aL => have := LMc18.out;omega);intro v687 w20 ho hb hg hat;rw [← Ny686.out] at ho;have n0_ := Aside0.mk (Kd.S_after (ok := (fun k_ => some k_ ≠ (v684 : Value).ownBlock)) (by (with_reducible repeat (first | apply Kd.S_alloc | apply Kd.S_drewN | apply Kd.S_drew));exact Kd.S_mono HO_6.out (fun _ hk => ⟨hk.2, hk.1⟩)) hg hat);have n1_ := Aside0.mk (Kd.R_after (ok := (fun _ => True)) (by (with_reducible repeat (first | apply Kd.R_alloc | apply Kd.R_drewN | apply Kd.R_drew));exact Kd.R_mono HO685.out (fun _ hk => ⟨trivial, hk⟩)) hg hat);have n2_ := Aside0.mk (hb);have n3_ := Aside0.mk (ho);clear HO_6;clear HO685;clear HB;clear HO_8;have HO_6 := n0_;have HO685 := n1_;have HB := n2_;have HO688 := n3_;clear n0_ n1_ n2_ n3_;clear ho hb hg hat))
             repeat (go_quiet (first | ((with_reducible refine gate_builtin (b := .append) (xs := #[.tmp 35, .tmp 37]) rfl ?_);(try (refine gate_guard (by rfl) ?_;dsimp only));at_builtin;refine Kd.R_append (Kd.int .i64) (w0 := w) w.heap.size rfl (.tmp 35) (.tmp 37) 130 2 (.int .i64 0) 8 rfl Try.underlying130 info2 rfl (by decide) (by omega) u7 x7_1 x9_1 [.int .i64 x9_1] (fun k_ => some k_ ≠ (u8 : Value).ownBlock) (fun _ => False) rfl rfl ?aP (fun _ hk => hk.elim) ?aF ?aO ?aB ?aS ?aL ?_;(case aP => exact rfl);(case aB => exact (bw_ HB.out));(case aF => exact (fun k_ hk => Kd.fresh' (Kd.R_lt (rr_ HO_8.out)) k_ hk));(case aO => exact (rr_ HO_7.out));(case aS => exact (below_size (bw_ HB.out)));(case aL => have := LMc17.out;omega);intro v684 w19 ho hb hg hat;rw [← Ny683.out] at ho;have n0_ := Aside0.mk (Kd.S_after (ok := (fun k_ => some k_ ≠ (u8 : Value).ownBlock)) (by (with_reducible repeat (first | apply Kd.S_alloc | apply Kd.S_drewN | apply Kd.S_drew));exact Kd.S_mono HO_6.out (fun _ hk => ⟨hk.2, hk.1⟩)) hg hat);have n1_ := Aside0.mk (Kd.R_after (ok := (fun _ => True)) (by (with_reducible repeat (first | apply Kd.R_alloc | apply Kd.R_drewN | apply Kd.R_drew));exact Kd.R_mono HO_8.out (fun _ hk => ⟨trivial, hk⟩)) hg hat);have n2_ := Aside0.mk (hb);have n3_ := Aside0.mk (ho);clear HO_6;clear HO_8;clear HB;clear HO_7;have HO_6 := n0_;have HO_8 := n1_;have HB := n2_;have HO685 := n3_;clear n0_ n1_ n2_ n3_;clear ho hb hg hat) | ((with_reducible refine gate_builtin (b := .append) (xs := #[.tmp 39, .tmp 41]) rfl ?_);(try (refine gate_guard (by rfl) ?_;dsimp only));at_builtin;refine Kd.R_append (Kd.int .i64) (w0 := w) w.heap.size rfl (.tmp 39) (.tmp 41) 130 2 (.int .i64 0) 8 rfl Try.underlying130 info2 rfl (by decide) (by omega) u8 x8_1 x10_1 [.int .i64 x10_1] (fun k_ => some k_ ≠ (v684 : Value).ownBlock) (fun _ => False) rfl rfl ?aP (fun _ hk => hk.elim) ?aF ?aO ?aB ?aS ?aL ?_;(case aP => exact rfl);(case aB => exact (bw_ HB.out));(case aF => exact (fun k_ hk => Kd.fresh' (Kd.R_lt (rr_ HO685.out)) k_ hk));(case aO => exact (by (with_reducible repeat (first | apply Kd.R_alloc | apply Kd.R_drewN | apply Kd.R_drew));exact Kd.R_mono HO_8.out (fun _ hk => hk.2)));(case aS => exact (below_size (bw_ HB.out)));(case aL => have := LMc18.out;omega);intro v687 w20 ho hb hg hat;rw [← Ny686.out] at ho;have n0_ := Aside0.mk (Kd.S_after (ok := (fun k_ => some k_ ≠ (v684 : Value).ownBlock)) (by (with_reducible repeat (first | apply Kd.S_alloc | apply Kd.S_drewN | apply Kd.S_drew));exact Kd.S_mono HO_6.out (fun _ hk => ⟨hk.2, hk.1⟩)) hg hat);have n1_ := Aside0.mk (Kd.R_after (ok := (fun _ => True)) (by (with_reducible repeat (first | apply Kd.R_alloc | apply Kd.R_drewN | apply Kd.R_drew));exact Kd.R_mono HO685.out (fun _ hk => ⟨trivial, hk⟩)) hg hat);have n2_ := Aside0.mk (hb);have n3_ := Aside0.mk (ho);clear HO_6;clear HO685;clear HB;clear HO_8;have HO_6 := n0_;have HO685 := n1_;have HB := n2_;have HO688 := n3_;clear n0_ n1_ n2_ n3_;clear ho hb hg hat));try go_wp2_with (first | ((with_reducible refine gate_builtin (b := .append) (xs := #[.tmp 35, .tmp 37]) rfl ?_);(try (refine gate_guard (by rfl) ?_;dsimp only));at_builtin;refine Kd.R_append (Kd.int .i64) (w0 := w) w.heap.size rfl (.tmp 35) (.tmp 37) 130 2 (.int .i64 0) 8 rfl Try.underlying130 info2 rfl (by decide) (by omega) u7 x7_1 x9_1 [.int .i64 x9_1] (fun k_ => some k_ ≠ (u8 : Value).ownBlock) (fun _ => False) rfl rfl ?aP (fun _ hk => hk.elim) ?aF ?aO ?aB ?aS ?aL ?_;(case aP => exact rfl);(case aB => exact (bw_ HB.out));(case aF => exact (fun k_ hk => Kd.fresh' (Kd.R_lt (rr_ HO_8.out)) k_ hk));(case aO => exact (rr_ HO_7.out));(case aS => exact (below_size (bw_ HB.out)));(case aL => have := LMc17.out;omega);intro v684 w19 ho hb hg hat;rw [← Ny683.out] at ho;have n0_ := Aside0.mk (Kd.S_after (ok := (fun k_ => some k_ ≠ (u8 : Value).ownBlock)) (by (with_reducible repeat (first | apply Kd.S_alloc | apply Kd.S_drewN | apply Kd.S_drew));exact Kd.S_mono HO_6.out (fun _ hk => ⟨hk.2, hk.1⟩)) hg hat);have n1_ := Aside0.mk (Kd.R_after (ok := (fun _ => True)) (by (with_reducible repeat (first | apply Kd.R_alloc | apply Kd.R_drewN | apply Kd.R_drew));exact Kd.R_mono HO_8.out (fun _ hk => ⟨trivial, hk⟩)) hg hat);have n2_ := Aside0.mk (hb);have n3_ := Aside0.mk (ho);clear HO_6;clear HO_8;clear HB;clear HO_7;have HO_6 := n0_;have HO_8 := n1_;have HB := n2_;have HO685 := n3_;clear n0_ n1_ n2_ n3_;clear ho hb hg hat) | ((with_reducible refine gate_builtin (b := .append) (xs := #[.tmp 39, .tmp 41]) rfl ?_);(try (refine gate_guard (by rfl) ?_;dsimp only));at_builtin;refine Kd.R_append (Kd.int .i64) (w0 := w) w.heap.size rfl (.tmp 39) (.tmp 41) 130 2 (.int .i64 0) 8 rfl Try.underlying130 info2 rfl (by decide) (by omega) u8 x8_1 x10_1 [.int .i64 x10_1] (fun k_ => some k_ ≠ (v684 : Value).ownBlock) (fun _ => False) rfl rfl ?aP (fun _ hk => hk.elim) ?aF ?aO ?aB ?aS ?aL ?_;(case aP => exact rfl);(case aB => exact (bw_ HB.out));(case aF => exact (fun k_ hk => Kd.fresh' (Kd.R_lt (rr_ HO685.out)) k_ hk));(case aO => exact (by (with_reducible repeat (first | apply Kd.R_alloc | apply Kd.R_drewN | apply Kd.R_drew));exact Kd.R_mono HO_8.out (fun _ hk => hk.2)));(case aS => exact (below_size (bw_ HB.out)));(case aL => have := LMc18.out;omega);intro v687 w20 ho hb hg hat;rw [← Ny686.out] at ho;have n0_ := Aside0.mk (Kd.S_after (ok := (fun k_ => some k_ ≠ (v684 : Value).ownBlock)) (by (with_reducible repeat (first | apply Kd.S_alloc | apply Kd.S_drewN | apply Kd.S_drew));exact Kd.S_mono HO_6.out (fun _ hk => ⟨hk.2, hk.1⟩)) hg hat);have n1_ := Aside0.mk (Kd.R_after (ok := (fun _ => True)) (by (with_reducible repeat (first | apply Kd.R_alloc | apply Kd.R_drewN | apply Kd.R_drew));exact Kd.R_mono HO685.out (fun _ hk => ⟨trivial, hk⟩)) hg hat);have n2_ := Aside0.mk (hb);have n3_ := Aside0.mk (ho);clear HO_6;clear HO685;clear HB;clear HO_8;have HO_6 := n0_;have HO685 := n1_;have HB := n2_;have HO688 := n3_;clear n0_ n1_ n2_ n3_;clear ho hb hg hat)))
             go_roundg kj8
             case measure => have := HK1.out;have := HJ8.out;omega
             case rel => exact ⟨(y683), (y686), (wrap64 (x9_1 + 1)), (wrap64 (x10_1 + 1)), ls_, ls_, H', ⟨by have := HK1.out;have := HJ8.out;omega⟩, ⟨rs_ HO_6.out⟩, ⟨by (with_reducible repeat (first | apply Kd.R_alloc | apply Kd.R_drewN | apply Kd.R_drew));exact Kd.R_mono HO685.out (fun _ hk => hk.2)⟩, ⟨rr_ HO688.out⟩, ⟨bw_ HB.out⟩⟩
            ·rw [if_neg c18] at H
             exact absurd H (by simp)
           ·rw [if_neg c17] at H
            exact absurd H (by simp)
          ·rw [if_neg c16] at H
           have c16b0 : ((rdOf ByteArray.empty l0 x9_1).toList == (rdOf ByteArray.empty l1 x10_1).toList) = false := beq_eq_false_iff_ne.mpr c16
           have c16b1 : ((rdOf ByteArray.empty l0 x9_1).toList != (rdOf ByteArray.empty l1 x10_1).toList) = true := bne_iff_ne.mpr c16
           obtain ⟨ji21, hji21⟩ : ∃ j_ : Int, (wrap64 (x9_1 + 1)) = j_ := ⟨_, rfl⟩
           replace H : (if 0 ≤ (ji21) then (if (ji21) < (t672.length : Int) then (if x10_1 < ((rd_L13 t672 (ji21)).length : Int) then (if x9_1 < (t672.length : Int) then (if 0 ≤ (wrap64 (x10_1 + 1)) then (if (wrap64 (x10_1 + 1)) < ((rd_L13 t672 x9_1).length : Int) then (if (rd (rd_L13 t672 (ji21)) x10_1) ≥ (rd (rd_L13 t672 x9_1) (wrap64 (x10_1 + 1))) then (spec_l2Match.l0 kj8 l0 l1 t672 x7_1 x8_1 ji21 x10_1) else (spec_l2Match.l0 kj8 l0 l1 t672 x7_1 x8_1 x9_1 (wrap64 (x10_1 + 1)))) else (none)) else (none)) else (none)) else (none)) else (none)) else (none)) = some (r1, r2) := by first | (rw [hji21] at H;exact H) | (simp only [hji21] at H ⊢;exact H)
           have hji21w : (IntKind.i64.wrap (x9_1 + 1)) = ji21 := (i64_w _).trans hji21
           by_cases c22 : 0 ≤ (ji21)
           ·rw [if_pos c22] at H
            have c22b0 : decide (0 ≤ (ji21)) = true := decide_eq_true c22
            clear c22
            by_cases c23 : (ji21) < (t672.length : Int)
            ·rw [if_pos c23] at H
             have c23b0 : decide ((ji21) < (t672.length : Int)) = true := decide_eq_true c23
             clear c23
             by_cases c24 : x10_1 < ((rd_L13 t672 (ji21)).length : Int)
             ·rw [if_pos c24] at H
              have c24b0 : decide (x10_1 < ((rd_L13 t672 (ji21)).length : Int)) = true := decide_eq_true c24
              clear c24
              by_cases c25 : x9_1 < (t672.length : Int)
              ·rw [if_pos c25] at H
               have c25b0 : decide (x9_1 < (t672.length : Int)) = true := decide_eq_true c25
               clear c25
               obtain ⟨ji26, hji26⟩ : ∃ j_ : Int, (wrap64 (x10_1 + 1)) = j_ := ⟨_, rfl⟩
               replace H : (if 0 ≤ (ji26) then (if (ji26) < ((rd_L13 t672 x9_1).length : Int) then (if (rd (rd_L13 t672 (ji21)) x10_1) ≥ (rd (rd_L13 t672 x9_1) (ji26)) then (spec_l2Match.l0 kj8 l0 l1 t672 x7_1 x8_1 ji21 x10_1) else (spec_l2Match.l0 kj8 l0 l1 t672 x7_1 x8_1 x9_1 ji26)) else (none)) else (none)) = some (r1, r2) := by first | (rw [hji26] at H;exact H) | (simp only [hji26] at H ⊢;exact H)
               have hji26w : (IntKind.i64.wrap (x10_1 + 1)) = ji26 := (i64_w _).trans hji26
               by_cases c27 : 0 ≤ (ji26)
               ·rw [if_pos c27] at H
                have c27b0 : decide (0 ≤ (ji26)) = true := decide_eq_true c27
                clear c27
                by_cases c28 : (ji26) < ((rd_L13 t672 x9_1).length : Int)
                ·rw [if_pos c28] at H
                 have c28b0 : decide ((ji26) < ((rd_L13 t672 x9_1).length : Int)) = true := decide_eq_true c28
                 clear c28
                 by_cases c29 : (rd (rd_L13 t672 (ji21)) x10_1) ≥ (rd (rd_L13 t672 x9_1) (ji26))
                 ·rw [if_pos c29] at H
                  have c29b0 : decide ((rd (rd_L13 t672 x9_1) (ji26)) ≤ (rd (rd_L13 t672 (ji21)) x10_1)) = true := decide_eq_true c29
                  clear c29
                  have H' := Aside0.mk H
                  clear H
                  have p681 : 0 ≤ (x9_1 : Int) := od_
                  have q681 : x9_1 < (l0.length : Int) := od_
                  obtain ⟨ad681, e681, hx681_0⟩ := Kd.at_string HR0.out x9_1 p681 q681
                  cases e681
                  replace hx681_0 := hc_ HB.out hx681_0
                  replace p681 := eq_true p681
                  replace q681 := eq_true q681
                  have p682 : 0 ≤ (x10_1 : Int) := od_
                  have q682 : x10_1 < (l1.length : Int) := od_
                  obtain ⟨ad682, e682, hx682_0⟩ := Kd.at_string HR1.out x10_1 p682 q682
                  cases e682
                  replace hx682_0 := hc_ HB.out hx682_0
                  replace p682 := eq_true p682
                  replace q682 := eq_true q682
                  obtain ⟨Ao30, co30, eo30⟩ := Kd.S_slice HO_6.out
                  subst eo30
                  have p689 : 0 ≤ ((ji21) : Int) := od_
                  have q689 : (ji21) < (t672.length : Int) := od_
                  obtain ⟨ad689, A689_0, c689_0, e689, hx689_0, hl689_0, hi689_0⟩ := at_L13 (Kd.S_reads' HO_6.out).2.2 (ji21) p689 q689
                  cases e689
                  obtain ⟨ce689, hce689, hMe689, hcc689⟩ := Kd.S_get HO_6.out [] (ji21) p689 (by first | exact q689 | exact od_ | (have e_ := (Kd.S_reads' HO_6.out).1;omega))
                  obtain ⟨ve689_0, rfl, ge689_0⟩ := hMe689
                  have hv689_0 := hcc689 0 _ rfl
                  rw [Nat.add_zero, show ((Kd.slice 2 (Kd.int .i64))).sz = 1 from rfl, Nat.mul_one] at hv689_0
                  replace hv689_0 := Option.some.inj (hv689_0.symm.trans hx689_0)
                  rw [hv689_0] at ge689_0
                  have HL689_0 := Aside0.mk (show Kd.R (Kd.int .i64) 2 _ _ _ _ (rd_L13 t672 (ji21)) from ge689_0)
                  clear hv689_0 ge689_0
                  clear hcc689 hce689
                  have HR689_0 := Aside0.mk hi689_0
                  have HC689_0 := Aside0.mk hl689_0
                  clear hi689_0 hl689_0
                  replace p689 := eq_true p689
                  replace q689 := eq_true q689
                  have p690 : 0 ≤ (x10_1 : Int) := od_
                  have q690 : x10_1 < ((rd_L13 t672 (ji21)).length : Int) := od_
                  obtain ⟨ad690, e690, hx690_0⟩ := Kd.at_int (by repeat (first | (with_reducible exact HR689_0.out) | (with_reducible refine Kd.C_alloc ?_ _) | (with_reducible refine Kd.C_drewN ?_ _) | (with_reducible refine Kd.C_drew ?_) | exact HR689_0.out)) x10_1 p690 q690
                  cases e690
                  replace p690 := eq_true p690
                  replace q690 := eq_true q690
                  have p691 : 0 ≤ (x9_1 : Int) := od_
                  have q691 : x9_1 < (t672.length : Int) := od_
                  obtain ⟨ad691, A691_0, c691_0, e691, hx691_0, hl691_0, hi691_0⟩ := at_L13 (Kd.S_reads' HO_6.out).2.2 x9_1 p691 q691
                  obtain rfl : ad689 = ad691 := (by injection e691)
                  obtain ⟨ce691, hce691, hMe691, hcc691⟩ := Kd.S_get HO_6.out [] x9_1 p691 (by first | exact q691 | exact od_ | (have e_ := (Kd.S_reads' HO_6.out).1;omega))
                  obtain ⟨ve691_0, rfl, ge691_0⟩ := hMe691
                  have hv691_0 := hcc691 0 _ rfl
                  rw [Nat.add_zero, show ((Kd.slice 2 (Kd.int .i64))).sz = 1 from rfl, Nat.mul_one] at hv691_0
                  replace hv691_0 := Option.some.inj (hv691_0.symm.trans hx691_0)
                  rw [hv691_0] at ge691_0
                  have HL691_0 := Aside0.mk (show Kd.R (Kd.int .i64) 2 _ _ _ _ (rd_L13 t672 x9_1) from ge691_0)
                  clear hv691_0 ge691_0
                  clear hcc691 hce691
                  have HR691_0 := Aside0.mk hi691_0
                  have HC691_0 := Aside0.mk hl691_0
                  clear hi691_0 hl691_0
                  replace p691 := eq_true p691
                  replace q691 := eq_true q691
                  have p692 : 0 ≤ ((ji26) : Int) := od_
                  have q692 : (ji26) < ((rd_L13 t672 x9_1).length : Int) := od_
                  obtain ⟨ad692, e692, hx692_0⟩ := Kd.at_int (by repeat (first | (with_reducible exact HR691_0.out) | (with_reducible refine Kd.C_alloc ?_ _) | (with_reducible refine Kd.C_drewN ?_ _) | (with_reducible refine Kd.C_drew ?_) | exact HR691_0.out)) (ji26) p692 q692
                  cases e692
                  replace p692 := eq_true p692
                  replace q692 := eq_true q692
                  go_wp2
                  repeat (go_quiet (fail);try go_wp2)
                  go_roundg kj8
                  case measure => have := HK1.out;have := HJ8.out;omega
                  case rel => exact ⟨(x7_1), (x8_1), (ji21), (x10_1), (by first | rfl | (simp;done) | (simp only [← hji21] <;> (first | rfl | simp)) | (simp [*];done)), ls_, H', ⟨by have := HK1.out;have := HJ8.out;omega⟩, ⟨rs_ HO_6.out⟩, ⟨rr_ HO_7.out⟩, ⟨rr_ HO_8.out⟩, ⟨bw_ HB.out⟩⟩
                 ·rw [if_neg c29] at H
                  have c29b0 : decide ((rd (rd_L13 t672 x9_1) (ji26)) ≤ (rd (rd_L13 t672 (ji21)) x10_1)) = false := decide_eq_false c29
                  clear c29
                  have H' := Aside0.mk H
                  clear H
                  have p681 : 0 ≤ (x9_1 : Int) := od_
                  have q681 : x9_1 < (l0.length : Int) := od_
                  obtain ⟨ad681, e681, hx681_0⟩ := Kd.at_string HR0.out x9_1 p681 q681
                  cases e681
                  replace hx681_0 := hc_ HB.out hx681_0
                  replace p681 := eq_true p681
                  replace q681 := eq_true q681
                  have p682 : 0 ≤ (x10_1 : Int) := od_
                  have q682 : x10_1 < (l1.length : Int) := od_
                  obtain ⟨ad682, e682, hx682_0⟩ := Kd.at_string HR1.out x10_1 p682 q682
                  cases e682
                  replace hx682_0 := hc_ HB.out hx682_0
                  replace p682 := eq_true p682
                  replace q682 := eq_true q682
                  obtain ⟨Ao31, co31, eo31⟩ := Kd.S_slice HO_6.out
                  subst eo31
                  have p689 : 0 ≤ ((ji21) : Int) := od_
                  have q689 : (ji21) < (t672.length : Int) := od_
                  obtain ⟨ad689, A689_0, c689_0, e689, hx689_0, hl689_0, hi689_0⟩ := at_L13 (Kd.S_reads' HO_6.out).2.2 (ji21) p689 q689
                  cases e689
                  obtain ⟨ce689, hce689, hMe689, hcc689⟩ := Kd.S_get HO_6.out [] (ji21) p689 (by first | exact q689 | exact od_ | (have e_ := (Kd.S_reads' HO_6.out).1;omega))
                  obtain ⟨ve689_0, rfl, ge689_0⟩ := hMe689
                  have hv689_0 := hcc689 0 _ rfl
                  rw [Nat.add_zero, show ((Kd.slice 2 (Kd.int .i64))).sz = 1 from rfl, Nat.mul_one] at hv689_0
                  replace hv689_0 := Option.some.inj (hv689_0.symm.trans hx689_0)
                  rw [hv689_0] at ge689_0
                  have HL689_0 := Aside0.mk (show Kd.R (Kd.int .i64) 2 _ _ _ _ (rd_L13 t672 (ji21)) from ge689_0)
                  clear hv689_0 ge689_0
                  clear hcc689 hce689
                  have HR689_0 := Aside0.mk hi689_0
                  have HC689_0 := Aside0.mk hl689_0
                  clear hi689_0 hl689_0
                  replace p689 := eq_true p689
                  replace q689 := eq_true q689
                  have p690 : 0 ≤ (x10_1 : Int) := od_
                  have q690 : x10_1 < ((rd_L13 t672 (ji21)).length : Int) := od_
                  obtain ⟨ad690, e690, hx690_0⟩ := Kd.at_int (by repeat (first | (with_reducible exact HR689_0.out) | (with_reducible refine Kd.C_alloc ?_ _) | (with_reducible refine Kd.C_drewN ?_ _) | (with_reducible refine Kd.C_drew ?_) | exact HR689_0.out)) x10_1 p690 q690
                  cases e690
                  replace p690 := eq_true p690
                  replace q690 := eq_true q690
                  have p691 : 0 ≤ (x9_1 : Int) := od_
                  have q691 : x9_1 < (t672.length : Int) := od_
                  obtain ⟨ad691, A691_0, c691_0, e691, hx691_0, hl691_0, hi691_0⟩ := at_L13 (Kd.S_reads' HO_6.out).2.2 x9_1 p691 q691
                  obtain rfl : ad689 = ad691 := (by injection e691)
                  obtain ⟨ce691, hce691, hMe691, hcc691⟩ := Kd.S_get HO_6.out [] x9_1 p691 (by first | exact q691 | exact od_ | (have e_ := (Kd.S_reads' HO_6.out).1;omega))
                  obtain ⟨ve691_0, rfl, ge691_0⟩ := hMe691
                  have hv691_0 := hcc691 0 _ rfl
                  rw [Nat.add_zero, show ((Kd.slice 2 (Kd.int .i64))).sz = 1 from rfl, Nat.mul_one] at hv691_0
                  replace hv691_0 := Option.some.inj (hv691_0.symm.trans hx691_0)
                  rw [hv691_0] at ge691_0
                  have HL691_0 := Aside0.mk (show Kd.R (Kd.int .i64) 2 _ _ _ _ (rd_L13 t672 x9_1) from ge691_0)
                  clear hv691_0 ge691_0
                  clear hcc691 hce691
                  have HR691_0 := Aside0.mk hi691_0
                  have HC691_0 := Aside0.mk hl691_0
                  clear hi691_0 hl691_0
                  replace p691 := eq_true p691
                  replace q691 := eq_true q691
                  have p692 : 0 ≤ ((ji26) : Int) := od_
                  have q692 : (ji26) < ((rd_L13 t672 x9_1).length : Int) := od_
                  obtain ⟨ad692, e692, hx692_0⟩ := Kd.at_int (by repeat (first | (with_reducible exact HR691_0.out) | (with_reducible refine Kd.C_alloc ?_ _) | (with_reducible refine Kd.C_drewN ?_ _) | (with_reducible refine Kd.C_drew ?_) | exact HR691_0.out)) (ji26) p692 q692
                  cases e692
                  replace p692 := eq_true p692
                  replace q692 := eq_true q692
                  go_wp2
                  repeat (go_quiet (fail);try go_wp2)
                  go_roundg kj8
                  case measure => have := HK1.out;have := HJ8.out;omega
                  case rel => exact ⟨(x7_1), (x8_1), (x9_1), (ji26), ls_, (by first | rfl | (simp;done) | (simp only [← hji26] <;> (first | rfl | simp)) | (simp [*];done)), H', ⟨by have := HK1.out;have := HJ8.out;omega⟩, ⟨rs_ HO_6.out⟩, ⟨rr_ HO_7.out⟩, ⟨rr_ HO_8.out⟩, ⟨bw_ HB.out⟩⟩
                ·rw [if_neg c28] at H
                 exact absurd H (by simp)
               ·rw [if_neg c27] at H
                exact absurd H (by simp)
              ·rw [if_neg c25] at H
               exact absurd H (by simp)
             ·rw [if_neg c24] at H
              exact absurd H (by simp)
            ·rw [if_neg c23] at H
             exact absurd H (by simp)
           ·rw [if_neg c22] at H
            exact absurd H (by simp)
         ·rw [if_neg c15] at H
          exact absurd H (by simp)
        ·rw [if_neg c14] at H
         exact absurd H (by simp)
       ·rw [if_neg c13] at H
        exact absurd H (by simp)
      ·rw [if_neg c12] at H
       exact absurd H (by simp)
     ·replace c11 := Bool.eq_false_iff.mpr c11
      subst c11
      have H1 : (some (x7_1, x8_1)) = some (r1, r2) := by rw [if_neg (show ¬ (false = true) by decide)] at H;exact H
      clear H
      have H := H1
      clear H1
      simp only [Option.some.injEq, Prod.mk.injEq] at H
      obtain ⟨rfl, rfl⟩ := H
      go_wp2
      repeat (go_quiet (fail);try go_wp2)
      go_ret2
      exact ⟨_, _, by first | rfl | (simp [errW_none, errW_some] <;> rfl) | (simp [*, errW_none, errW_some] <;> rfl), rr_ HO_7.out, rr_ HO_8.out, bw_ HB.out⟩
end Go.Proofs.Ytjngmhngedecdaa.P
end
section
namespace Go.Proofs.Ytjngmhngedecdaa.P
open Go.RowKit Go.Proofs.YtjngmhngedecdaaW.PrintWords Go.Proofs.YtjngmhngedecdaaW.PrintLast Go.Proofs.YtjngmhngedecdaaW.PrintMore
attribute [local go_sem] max2_int min2_int max_two min_two max_three min_three max_four min_four
set_option linter.unusedVariables false
set_option linter.unusedSimpArgs false
mutual
def spec_l4Partner.l0 : Nat → List ByteArray → List ByteArray → List Int → Int → Option (List Int)
 | 0, _, _, _, _ => none
 | k + 1, x0, x1, x5, x6 => if x6 < (x5.length : Int) then (if 0 ≤ x6 then (spec_l4Partner.l0 k x0 x1 (x5.set (x6 : Int).toNat (-1)) (wrap64 (x6 + 1))) else (none)) else ((spec_l2Match.f k x0 x1).bind fun bt1158 => (spec_l4Partner.l1 k x5 bt1158.1 bt1158.2 0))
def spec_l4Partner.l1 : Nat → List Int → List Int → List Int → Int → Option (List Int)
 | 0, _, _, _, _ => none
 | k + 1, x5, x7, x8, x9 => if x9 < (x7.length : Int) then (if 0 ≤ x9 then (if x9 < (x8.length : Int) then (if 0 ≤ (rd x7 x9) then (if (rd x7 x9) < (x5.length : Int) then (spec_l4Partner.l1 k (x5.set ((rd x7 x9) : Int).toNat (rd x8 x9)) x7 x8 (wrap64 (x9 + 1))) else (none)) else (none)) else (none)) else (none)) else (some x5)
end
def spec_l4Partner.f (k : Nat) (l0 : List ByteArray) (l1 : List ByteArray) : Option (List Int) := if 0 ≤ (l0.length : Int) then (if ((l0.length : Int) : Int).toNat ≤ 35184372088832 then (spec_l4Partner.l0 k l0 l1 (List.replicate ((l0.length : Int) : Int).toNat 0) 0) else (none)) else (none)
def spec_l4Partner.T10 : Bool × List (List Nat × List Nat) := (true, [([], []), ([], []), ([], []), ([1, 2], [1, 2]), ([3], [3]), ([], []), ([], []), ([5, 6], [5, 6]), ([7], [7]), ([0, 4, 0, 1, 2, 3, 4, 5, 6, 7, 8], [0, 4]), ([9, 8, 0, 1, 2, 3, 4, 5, 6, 7, 8], [8, 9])])
def spec_l4Partner.B10 : List Nat := [0, 0, 0, 6, 14, 0, 0, 96, 224, 511, 1023]
theorem spec_l4Partner.tab10 : rtab .any (opsOf Try.f128 10) = spec_l4Partner.T10 := by kernel_rfl
theorem spec_l4Partner.bits10 : waitsOk spec_l4Partner.T10.2 spec_l4Partner.B10 = true := by kernel_rfl
set_option maxHeartbeats 8000000 in
set_option maxRecDepth 100000 in
theorem spec_l4Partner.calls (k : Nat) (A0 : Option Addr) (c0 : Nat) (l0 : List ByteArray) (A1 : Option Addr) (c1 : Nat) (l1 : List ByteArray) (r : List Int) (w : World) (hr0 : Kd.C Kd.string w A0 l0.length l0) (hc0 : l0.length ≤ c0) (hr1 : Kd.C Kd.string w A1 l1.length l1) (hc1 : l1.length ≤ c1) (h : spec_l4Partner.f k l0 l1 = some r) :
  Calls Try.prog 128 #[.slice A0 l0.length c0, .slice A1 l1.length c1] w fun e w' => ∃ v0_ : Value, e = .returned (v0_) ∧ Kd.R (Kd.int .i64) 2 w' w.heap.size (fun _ => True) v0_ r ∧ Below w.heap.size w w' := by
 have HR0 := Aside0.mk hr0;have HC0 := Aside0.mk hc0;clear hr0 hc0;have HR1 := Aside0.mk hr1;have HC1 := Aside0.mk hc1;clear hr1 hc1;have HB := Aside0.mk (Below.refl w.heap.size w);have H : (if 0 ≤ (l0.length : Int) then (if ((l0.length : Int) : Int).toNat ≤ 35184372088832 then (spec_l4Partner.l0 k l0 l1 (List.replicate ((l0.length : Int) : Int).toNat 0) 0) else (none)) else (none)) = some r := h;clear h;by_cases c3 : 0 ≤ (l0.length : Int)
 ·rw [if_pos c3] at H;have c3b0 := eq_true c3;have c3b1 : decide (0 ≤ (l0.length : Int)) = true := decide_eq_true c3;clear c3;by_cases c4 : ((l0.length : Int) : Int).toNat ≤ 35184372088832
  ·rw [if_pos c4] at H;have c4b0 := eq_true c4;have c4b1 : decide (((l0.length : Int) : Int).toNat ≤ 35184372088832) = true := decide_eq_true c4;clear c4;obtain ⟨y1154, hy1154⟩ : ∃ y_ : List Int, y_ = (List.replicate ((l0.length : Int) : Int).toNat 0) := ⟨_, rfl⟩;(replace H : (spec_l4Partner.l0 k l0 l1 y1154 0) = some r := by first | (rw [hy1154];with_reducible exact H) | (have H2_ := (Option.bind_some _ _).symm.trans H;rw [hy1154];with_reducible exact H2_) | (have H2_ := (Option.bind_some _ _).symm.trans H;with_reducible exact H2_) | with_reducible exact H | (rw [hy1154];exact H) | exact H);have Ny1154 := Aside0.mk hy1154;clear hy1154;have H' := Aside0.mk H;clear H;go_enter Try.func128, Try.ntmps128;go_wp2_with (first | ((with_reducible refine gate_dst (N := 12) rfl ?_);refine Kd.R_make (Kd.int .i64) _ 2 rfl (N := 12) rfl 130 _ _ rfl (l0.length : Int) rfl rfl Try.underlying130 (.int .i64 0) 8 info2 rfl (by decide) (by omega) 0 (ok := fun _ => True) (okp := fun _ => True) rfl (fun _ hk => hk) trivial od_ (Nat.le_trans (Nat.mul_le_mul_right _ (od_ : (l0.length : Int).toNat ≤ 35184372088832)) (by omega)) (Below.refl _ _) (Nat.le_refl _) ?_;intro v1155 w5 ho6 hb hg_ hnew_;clear hg_ hnew_;(first | rw [← Ny1154.out] at ho6 | (simp only [Int.reduceToNat] at ho6;rw [← Ny1154.out] at ho6));have n0_ := Aside0.mk (Kd.R_lower ho6 (below_size (bw_ HB.out)));have n1_ := Aside0.mk (below_step (bw_ HB.out) hb);clear HB;have HO1156 := n0_;have HB := n1_;clear n0_ n1_;clear hb ho6));go_loopg [6] k (fun kq v6 w' => ∃ (x5_1 : List Int) (x6_1 : Int), v6 = .int .i64 x6_1 ∧ Aside0 (spec_l4Partner.l0 kq l0 l1 x5_1 x6_1 = some r) ∧ Aside0 (kq ≤ k) ∧ Aside0 (Kd.R (Kd.int .i64) 2 w' w.heap.size (fun _ => True) v1155 x5_1) ∧ Aside0 (Below w.heap.size w w'));(case atStart => exact ⟨(y1154), (0), ls_, H', ⟨Nat.le_refl _⟩, ⟨rr_ HO1156.out⟩, ⟨bw_ HB.out⟩⟩)
   case round =>
    clear H'
    try clear c1
    try clear p2
    try clear c3
    try clear c3b0
    try clear c3b1
    try clear c4
    try clear c4b0
    try clear c4b1
    obtain ⟨x5_1, x6_1, rfl, HA, HK1, HO_5, HB⟩ := hrel
    cases gk with
    | zero => exact absurd HA.out (by simp [spec_l4Partner.l0])
    | succ k1 =>
     have H := HA.out
     clear HA
     simp only [spec_l4Partner.l0] at H
     by_cases c7 : x6_1 < (x5_1.length : Int)
     ·rw [if_pos c7] at H
      have c7b0 : decide (x6_1 < (x5_1.length : Int)) = true := decide_eq_true c7
      clear c7
      by_cases c8 : 0 ≤ x6_1
      ·rw [if_pos c8] at H
       have c8b0 : decide (0 ≤ x6_1) = true := decide_eq_true c8
       clear c8
       obtain ⟨y1157, hy1157⟩ : ∃ y_ : List Int, y_ = (x5_1.set (x6_1 : Int).toNat (-1)) := ⟨_, rfl⟩
       replace H : (spec_l4Partner.l0 k1 l0 l1 y1157 (wrap64 (x6_1 + 1))) = some r := by first | (rw [hy1157];with_reducible exact H) | (have H2_ := (Option.bind_some _ _).symm.trans H;rw [hy1157];with_reducible exact H2_) | (have H2_ := (Option.bind_some _ _).symm.trans H;with_reducible exact H2_) | with_reducible exact H | (rw [hy1157];exact H) | exact H
       have Ny1157 := Aside0.mk hy1157
       clear hy1157
       have H' := Aside0.mk H
       clear H
       obtain ⟨Ao10, co10, eo10⟩ := Kd.R_slice HO_5.out
       subst eo10
       have p9 : 0 ≤ (x6_1 : Int) := od_
       have q9 : (x6_1 : Int) < ((x5_1.length : Int) : Int) := od_
       obtain ⟨go9, co9, eo9, gb9, gl9, cl9, HG9⟩ := Kd.R_form HO_5.out (by omega)
       (first | cases eo9 | (injection eo9 with ea_ en_ ec_;(first | subst ea_ | (injection ea_ with ea_;subst ea_));subst ec_;clear en_))
       have GB9 := Aside0.mk gb9
       have GG9 := Aside0.mk HG9
       clear gb9 gl9 HG9
       obtain ⟨hx9_0, hf9_0⟩ := Kd.R_celln 0 HO_5.out (x6_1 : Int) p9 q9
       replace p9 := eq_true p9
       replace q9 := eq_true q9
       have HP11 := Kd.R_putg HO_5.out (x6_1 : Int) (-1)
       go_wp2_with (first | ((with_reducible refine gate_store (t := 2) (p := 21) rfl ?_);refine store_event (t := 2) (p := 21) (v := ?vo_w12) (w1 := (wr.setCell ⟨go9, (x6_1 : Int).toNat, none⟩ (.int .i64 (-1)))) ?hg ?ho ?hn ?hr ?_;(case ho => rfl);(case hg => rfl);(case hn => rfl);(case hr => first | (go_simp;done) | (go_simp;rfl));intro w12 hw;have hg : wr.grownBy w12 (some go9) := (by rw [hw];exact HP11.2);have hp_ : Kd.R (Kd.int .i64) 2 w12 w.heap.size (fun _ => True) (.slice (some ⟨go9, 0, none⟩) x5_1.length co10) y1157 := (by rw [hw, Ny1157.out];exact HP11.1);clear HP11;have n0_ := Aside0.mk (hp_);have n1_ := Aside0.mk ((by rw [hw];exact below_set (HB.out) GB9.out : Below w.heap.size w w12));clear HO_5;clear HB;have HO_5 := n0_;have HB := n1_;clear n0_ n1_;clear hg hw hp_))
       go_roundg k1
       case measure => have := HK1.out;omega
       case rel => exact ⟨(y1157), (wrap64 (x6_1 + 1)), ls_, H', ⟨by have := HK1.out;omega⟩, ⟨rr_ HO_5.out⟩, ⟨bw_ HB.out⟩⟩
      ·rw [if_neg c8] at H
       exact absurd H (by simp)
     ·rw [if_neg c7] at H
      have c7b0 : decide (x6_1 < (x5_1.length : Int)) = false := decide_eq_false c7
      clear c7
      replace H := Option.bind_eq_some_iff.mp H
      obtain ⟨⟨t1158, t1159⟩, A130, H⟩ := H
      replace H : (spec_l4Partner.l1 k1 x5_1 t1158 t1159 0) = some r := H
      have A13 := Aside0.mk A130
      clear A130
      have H' := Aside0.mk H
      clear H
      obtain ⟨Ao14, co14, eo14⟩ := Kd.R_slice HO_5.out
      subst eo14
      go_wp2_with (first | ((with_reducible refine gate_callee (f := 139) rfl ?_);refine goesL_ (some 25) rfl rfl Try.func139 (by kernel_rfl) rfl #[.slice A0 l0.length c0, .slice A1 l1.length c1] rfl lf_ ?_;(with_reducible refine (spec_l2Match.calls k1 _ _ l0 _ _ l1 t1158 t1159 _ ?side1 ?side2 ?side3 ?side4 A13.out).mono ?_);(case side1 => exact rc_ (Kd.C_below HR0.out HB.out));(case side2 => exact HC0.out);(case side3 => exact rc_ (Kd.C_below HR1.out HB.out));(case side4 => exact HC1.out);rintro e w15 ⟨v1160, v1162, rfl, ho0, ho1, hb⟩;refine ⟨_, rfl, ?_⟩;have n0_ := Aside0.mk (Kd.R_mono (Kd.R_told (Kd.R_told (Kd.R_old (rr_ HO_5.out) hb) (Kd.R_base ho0)) (Kd.R_base ho1)) (fun _ h_ => h_.1));have n1_ := Aside0.mk (Kd.R_lower (Kd.R_new' ho0 (Kd.R_lt (rr_ HO_5.out))) (below_size (bw_ HB.out)));have n2_ := Aside0.mk (Kd.R_lower (Kd.R_new' ho1 (Kd.R_lt (rr_ HO_5.out))) (below_size (bw_ HB.out)));have n3_ := Aside0.mk (below_step (bw_ HB.out) hb);clear HO_5;clear HB;have HO_5 := n0_;have HO1161 := n1_;have HO1163 := n2_;have HB := n3_;clear n0_ n1_ n2_ n3_;(try clear hb);(try clear hb2);(try clear hk);(try clear hi);(try clear ho0);(try clear ho1)))
      go_loopg [9] k1 (fun kq v9 w' => ∃ (x5_2 : List Int) (x9_2 : Int), v9 = .int .i64 x9_2 ∧ Aside0 (spec_l4Partner.l1 kq x5_2 t1158 t1159 x9_2 = some r) ∧ Aside0 (kq ≤ k1) ∧ Aside0 (Kd.R (Kd.int .i64) 2 w' w.heap.size (fun k_ => some k_ ≠ (v1160 : Value).ownBlock ∧ some k_ ≠ (v1162 : Value).ownBlock) (.slice Ao14 x5_1.length co14) x5_2) ∧ Aside0 (Kd.R (Kd.int .i64) 2 w' w.heap.size (fun k_ => some k_ ≠ ((.slice Ao14 x5_1.length co14) : Value).ownBlock ∧ some k_ ≠ (v1162 : Value).ownBlock) v1160 t1158) ∧ Aside0 (Kd.R (Kd.int .i64) 2 w' w.heap.size (fun k_ => some k_ ≠ ((.slice Ao14 x5_1.length co14) : Value).ownBlock ∧ some k_ ≠ (v1160 : Value).ownBlock) v1162 t1159) ∧ Aside0 (Below w.heap.size w w'))
      case atStart => exact ⟨(x5_1), (0), ls_, H', ⟨Nat.le_refl _⟩, ⟨by (with_reducible repeat (first | apply Kd.R_alloc | apply Kd.R_drewN | apply Kd.R_drew));exact Kd.R_mono HO_5.out (fun _ hk => ⟨hk.1.2, hk.2⟩)⟩, ⟨by (with_reducible repeat (first | apply Kd.R_alloc | apply Kd.R_drewN | apply Kd.R_drew));exact Kd.R_mono HO1161.out (fun _ hk => ⟨hk.2, hk.1⟩)⟩, ⟨by (with_reducible repeat (first | apply Kd.R_alloc | apply Kd.R_drewN | apply Kd.R_drew));exact Kd.R_mono HO1163.out (fun _ hk => ⟨hk.2, hk.1⟩)⟩, ⟨bw_ HB.out⟩⟩
      case round =>
       clear H'
       try clear c1
       try clear p2
       try clear c3
       try clear c3b0
       try clear c3b1
       try clear c4
       try clear c4b0
       try clear c4b1
       try clear p6
       try clear c7
       try clear c7b0
       try clear c8
       try clear c8b0
       try clear p9
       try clear q9
       try clear hx9
       try clear hf9
       try clear c12
       try clear c13
       try clear hx9_0
       try clear p2
       try clear p9
       try clear q9
       obtain ⟨x5_2, x9_2, rfl, HA, HK2, HO_5, HO_7, HO_8, HB⟩ := hrel
       have hl5_2 := (Kd.R_reads' HO_5.out).1
       rw [hl5_2] at HO_5
       (try simp only [hl5_2])
       (try simp only [hl5_2] at HO_7)
       (try simp only [hl5_2] at HO_8)
       cases gk with
       | zero => exact absurd HA.out (by simp [spec_l4Partner.l1])
       | succ k2 =>
        have H := HA.out
        clear HA
        simp only [spec_l4Partner.l1] at H
        by_cases c16 : x9_2 < (t1158.length : Int)
        ·rw [if_pos c16] at H
         have c16b0 : decide (x9_2 < (t1158.length : Int)) = true := decide_eq_true c16
         clear c16
         by_cases c17 : 0 ≤ x9_2
         ·rw [if_pos c17] at H
          have c17b0 : decide (0 ≤ x9_2) = true := decide_eq_true c17
          clear c17
          by_cases c18 : x9_2 < (t1159.length : Int)
          ·rw [if_pos c18] at H
           have c18b0 : decide (x9_2 < (t1159.length : Int)) = true := decide_eq_true c18
           clear c18
           by_cases c19 : 0 ≤ (rd t1158 x9_2)
           ·rw [if_pos c19] at H
            have c19b0 : decide (0 ≤ (rd t1158 x9_2)) = true := decide_eq_true c19
            clear c19
            by_cases c20 : (rd t1158 x9_2) < (x5_2.length : Int)
            ·rw [if_pos c20] at H
             have c20b0 : decide ((rd t1158 x9_2) < (x5_2.length : Int)) = true := decide_eq_true c20
             clear c20
             obtain ⟨y1166, hy1166⟩ : ∃ y_ : List Int, y_ = (x5_2.set ((rd t1158 x9_2) : Int).toNat (rd t1159 x9_2)) := ⟨_, rfl⟩
             replace H : (spec_l4Partner.l1 k2 y1166 t1158 t1159 (wrap64 (x9_2 + 1))) = some r := by first | (rw [hy1166];with_reducible exact H) | (have H2_ := (Option.bind_some _ _).symm.trans H;rw [hy1166];with_reducible exact H2_) | (have H2_ := (Option.bind_some _ _).symm.trans H;with_reducible exact H2_) | with_reducible exact H | (rw [hy1166];exact H) | exact H
             have Ny1166 := Aside0.mk hy1166
             clear hy1166
             have H' := Aside0.mk H
             clear H
             obtain ⟨Ao22, co22, eo22⟩ := Kd.R_slice HO_7.out
             subst eo22
             try go_wp2
             have n0_ := Aside0.mk (Kd.R_drew HO_5.out)
             have n1_ := Aside0.mk (Kd.R_drew HO_7.out)
             have n2_ := Aside0.mk (Kd.R_drew HO_8.out)
             have n3_ := Aside0.mk (below_drew1 HB.out)
             clear HO_5
             clear HO_7
             clear HO_8
             clear HB
             have HO_5 := n0_
             have HO_7 := n1_
             have HO_8 := n2_
             have HB := n3_
             clear n0_ n1_ n2_ n3_
             have p1164 : 0 ≤ (x9_2 : Int) := od_
             have q1164 : x9_2 < (t1158.length : Int) := od_
             obtain ⟨ad1164, e1164, hx1164_0⟩ := Kd.at_int (Kd.R_reads' HO_7.out).2.2 x9_2 p1164 q1164
             cases e1164
             replace p1164 := eq_true p1164
             replace q1164 := eq_true q1164
             obtain ⟨Ao24, co24, eo24⟩ := Kd.R_slice HO_8.out
             (first | subst eo24 | (injection eo24 with f1_ f2_ f3_;have f4_ := f1_.symm;have f5_ := f3_.symm;clear f1_ f2_ f3_;subst f4_;subst f5_))
             have p1165 : 0 ≤ (x9_2 : Int) := od_
             have q1165 : x9_2 < (t1159.length : Int) := od_
             obtain ⟨ad1165, e1165, hx1165_0⟩ := Kd.at_int (Kd.R_reads' HO_8.out).2.2 x9_2 p1165 q1165
             cases e1165
             replace p1165 := eq_true p1165
             replace q1165 := eq_true q1165
             have p21 : 0 ≤ ((rd t1158 x9_2) : Int) := od_
             have q21 : ((rd t1158 x9_2) : Int) < ((x5_2.length : Int) : Int) := od_
             obtain ⟨go21, co21, eo21, gb21, gl21, cl21, HG21⟩ := Kd.R_form HO_5.out (by omega)
             (first | cases eo21 | (injection eo21 with ea_ en_ ec_;(first | subst ea_ | (injection ea_ with ea_;subst ea_));subst ec_;clear en_))
             have GB21 := Aside0.mk gb21
             have GG21 := Aside0.mk HG21
             clear gb21 gl21 HG21
             obtain ⟨hx21_0, hf21_0⟩ := Kd.R_celln 0 HO_5.out ((rd t1158 x9_2) : Int) p21 q21
             replace p21 := eq_true p21
             replace q21 := eq_true q21
             have HP25 := Kd.R_putn HO_5.out ((rd t1158 x9_2) : Int) (rd t1159 x9_2)
             rw [← Ny1166.out] at HP25
             have HQ25 := Aside0.mk HP25
             clear HP25
             refine start_ (n := 11) (S := fun w' => w'.cell? (ad1164.add (x9_2).toNat) = some (.int .i64 (rd t1158 x9_2)) ∧ w'.cell? (ad1165.add (x9_2).toNat) = some (.int .i64 (rd t1159 x9_2))) (ds := [10]) (mb_ 11 0) (by kernel_rfl) rfl rfl ⟨hx1164_0, hx1165_0⟩ (fun hHeld => ?_);refine with_tabW spec_l4Partner.tab10 spec_l4Partner.bits10 (fun HT_ HW_ => ?_)
             generalize wr.drew = w23 at HO_5 HO_7 HO_8 HB GG21 HQ25 hf21_0 hx1164_0 hx1165_0 hx21_0 hHeld ⊢
             refine pure_ (i := 0) (N := some 34) (v := ?_) (a' := ?_) (mb_ 11 1) rfl rfl (any_of HT_.out (by kernel_rfl)) (fun _ _ _ h => h) (Or.inl ⟨by rfl, ?_⟩) ?_ ?_
             rotate_left
             ·intro w'
              go_simp
              with_reducible rfl
             rotate_left
             ·simp only [Act.put, s0_, s1_, s2_, i64_w, i32_w]
              rfl
             refine pure_ (i := 1) (N := some 35) (v := ?_) (a' := ?_) (mb_ 11 3) rfl rfl (any_of HT_.out (by kernel_rfl)) (fun _ _ _ h => h) (Or.inl ⟨by rfl, ?_⟩) ?_ ?_
             rotate_left
             ·intro w'
              go_simp
              with_reducible rfl
             rotate_left
             ·simp only [Act.put, s0_, s1_, s2_, i64_w, i32_w]
              rfl
             refine pure_ (i := 2) (N := some 36) (v := ?_) (a' := ?_) (mb_ 11 7) rfl rfl (any_of HT_.out (by kernel_rfl)) (fun _ _ _ h => h) (Or.inl ⟨by rfl, ?_⟩) ?_ ?_
             rotate_left
             ·intro w'
              go_simp
              with_reducible rfl
             rotate_left
             ·simp only [Act.put, s0_, s1_, s2_, i64_w, i32_w]
              rfl
             refine pure_ (i := 3) (N := some 37) (v := ?_) (a' := ?_) (mb_ 11 15) rfl rfl (any_of HT_.out (by kernel_rfl)) (fun _ _ _ h => h) (Or.inl ⟨by rfl, ?_⟩) ?_ ?_
             rotate_left
             ·intro w'
              go_simp
              with_reducible rfl
             rotate_left
             ·simp only [Act.put, s0_, s1_, s2_, i64_w, i32_w]
              rfl
             refine pure_ (i := 5) (N := some 39) (v := ?_) (a' := ?_) (mb_ 11 47) rfl rfl (any_of HT_.out (by kernel_rfl)) (fun _ _ _ h => h) (Or.inl ⟨by rfl, ?_⟩) ?_ ?_
             rotate_left
             ·intro w'
              go_simp
              with_reducible rfl
             rotate_left
             ·simp only [Act.put, s0_, s1_, s2_, i64_w, i32_w]
              rfl
             refine pure_ (i := 6) (N := some 40) (v := ?_) (a' := ?_) (mb_ 11 111) rfl rfl (any_of HT_.out (by kernel_rfl)) (fun _ _ _ h => h) (Or.inl ⟨by rfl, ?_⟩) ?_ ?_
             rotate_left
             ·intro w'
              go_simp
              with_reducible rfl
             rotate_left
             ·simp only [Act.put, s0_, s1_, s2_, i64_w, i32_w]
              rfl
             refine pure_ (i := 7) (N := some 41) (v := ?_) (a' := ?_) (mb_ 11 239) rfl rfl (any_of HT_.out (by kernel_rfl)) (fun _ _ _ h => h) (Or.inl ⟨by rfl, ?_⟩) ?_ ?_
             rotate_left
             ·intro w'
              go_simp
              with_reducible rfl
             rotate_left
             ·simp only [Act.put, s0_, s1_, s2_, i64_w, i32_w]
              rfl
             refine take_ (i := 4) (N := some 38) (v := ?_) (a' := ?_) (mb_ 11 255) rfl rfl (take_ofW HT_.out HW_.out (by kernel_rfl)) (fun _ _ _ h => h) (Or.inl ⟨by rfl, ?_⟩) hHeld ?_ ?_
             rotate_left
             ·rintro w' ⟨s0, s1⟩
              go_simp
              with_reducible rfl
             rotate_left
             ·simp only [Act.put, s0_, s1_, s2_, i64_w, i32_w]
              rfl
             refine take_ (i := 8) (N := some 42) (v := ?_) (a' := ?_) (mb_ 11 511) rfl rfl (take_ofW HT_.out HW_.out (by kernel_rfl)) (fun _ _ _ h => h) (Or.inl ⟨by rfl, ?_⟩) hHeld ?_ ?_
             rotate_left
             ·rintro w' ⟨s0, s1⟩
              go_simp
              with_reducible rfl
             rotate_left
             ·simp only [Act.put, s0_, s1_, s2_, i64_w, i32_w]
              rfl
             refine pure_ (i := 9) (N := some 43) (v := ?_) (a' := ?_) (mb_ 11 1023) rfl rfl (any_of HT_.out (by kernel_rfl)) (fun _ _ _ h => h) (Or.inl ⟨by rfl, ?_⟩) ?_ ?_
             rotate_left
             ·intro w'
              go_simp
              with_reducible rfl
             rotate_left
             ·simp only [Act.put, s0_, s1_, s2_, i64_w, i32_w]
              rfl
             refine last_ (i := 10) (N := none) (mb_ 11 2047) rfl rfl (one_of HT_.out (by kernel_rfl)) (by decide) (fun K hK => ?_)
             refine skip_ (w1 := ?_) (by rfl) rfl ?_ ?_
             rotate_left
             ·go_simp
              rfl
             refine hK.out _ _ ?_
             clear hK K
             refine done_ (done_of HT_.out (by kernel_rfl)) ?_
             try go_wp2
             (try simp only [← hl5_2])
             go_roundg k2
             case measure => have := HK1.out;have := HK2.out;omega
             case rel => exact ⟨(y1166), (wrap64 (x9_2 + 1)), ls_, H', ⟨by have := HK1.out;have := HK2.out;omega⟩, ⟨by (try simp only [hl5_2]);(with_reducible repeat (first | apply Kd.R_alloc | apply Kd.R_drewN | apply Kd.R_drew));exact HQ25.out⟩, ⟨by (try simp only [hl5_2]);(with_reducible repeat (first | apply Kd.R_alloc | apply Kd.R_drewN | apply Kd.R_drew));exact Kd.R_mono (Kd.R_far (p := ⟨go21, ((rd t1158 x9_2) : Int).toNat, none⟩) (Kd.R_mono HO_7.out (fun k_ hk => (⟨hk, fun e_ => hk.1 (by rw [e_];rfl)⟩ : _ ∧ k_ ≠ go21))) (fun _ hk => hk.2) (.int .i64 (rd t1159 x9_2))) (fun _ hk => ⟨hk.1.1, hk.1.2⟩)⟩, ⟨by (try simp only [hl5_2]);(with_reducible repeat (first | apply Kd.R_alloc | apply Kd.R_drewN | apply Kd.R_drew));exact Kd.R_mono (Kd.R_far (p := ⟨go21, ((rd t1158 x9_2) : Int).toNat, none⟩) (Kd.R_mono HO_8.out (fun k_ hk => (⟨hk, fun e_ => hk.1 (by rw [e_];rfl)⟩ : _ ∧ k_ ≠ go21))) (fun _ hk => hk.2) (.int .i64 (rd t1159 x9_2))) (fun _ hk => ⟨hk.1.1, hk.1.2⟩)⟩, ⟨bw1_ HB.out GB21.out⟩⟩
            ·rw [if_neg c20] at H
             exact absurd H (by simp)
           ·rw [if_neg c19] at H
            exact absurd H (by simp)
          ·rw [if_neg c18] at H
           exact absurd H (by simp)
         ·rw [if_neg c17] at H
          exact absurd H (by simp)
        ·rw [if_neg c16] at H
         have c16b0 : decide (x9_2 < (t1158.length : Int)) = false := decide_eq_false c16
         clear c16
         obtain rfl := Option.some.inj H
         obtain ⟨Ao26, co26, eo26⟩ := Kd.R_slice HO_7.out
         subst eo26
         go_wp2
         go_ret
         exact ⟨_, by first | rfl | (simp [errW_none, errW_some] <;> rfl) | (simp [*, errW_none, errW_some] <;> rfl), by (with_reducible repeat (first | apply Kd.R_alloc | apply Kd.R_drewN | apply Kd.R_drew));exact Kd.R_mono HO_5.out (fun _ hk => trivial), bw_ HB.out⟩
  ·rw [if_neg c4] at H;exact absurd H (by simp)
 ·rw [if_neg c3] at H;exact absurd H (by simp)
end Go.Proofs.Ytjngmhngedecdaa.P
end
section
namespace Go.Proofs.Ytjngmhngedecdaa.P
open Go.RowKit Go.Proofs.YtjngmhngedecdaaW.PrintWords Go.Proofs.YtjngmhngedecdaaW.PrintLast Go.Proofs.YtjngmhngedecdaaW.PrintMore
attribute [local go_sem] max2_int min2_int max_two min_two max_three min_three max_four min_four
set_option linter.unusedVariables false
set_option linter.unusedSimpArgs false
def spec_SameLines.l0 : Nat → List ByteArray → List ByteArray → Int → Option (Bool)
 | 0, _, _, _ => none
 | k + 1, x0, x1, x5 => if x5 < (x0.length : Int) then (if 0 ≤ x5 then (if x5 < (x1.length : Int) then (if (rdOf ByteArray.empty x0 x5).toList = (rdOf ByteArray.empty x1 x5).toList then (spec_SameLines.l0 k x0 x1 (wrap64 (x5 + 1))) else (some false)) else (none)) else (none)) else (some true)
def spec_SameLines.f (k : Nat) (l0 : List ByteArray) (l1 : List ByteArray) : Option (Bool) := if (l0.length : Int) = (l1.length : Int) then (spec_SameLines.l0 k l0 l1 0) else (some false)
theorem spec_SameLines.mono_l : ∀ k, (∀ y0 y1 y2, LeO (spec_SameLines.l0 k y0 y1 y2) (spec_SameLines.l0 (k + 1) y0 y1 y2))
 | 0 => fun _ _ _ r h => by simp [spec_SameLines.l0] at h
 | k + 1 => by
  have ih0 := spec_SameLines.mono_l k
  ·intro y0 y1 y2
   unfold spec_SameLines.l0
   repeat' first
   | (with_reducible exact ih0 _ _ _)
   | (with_reducible exact LeO.refl _)
   | (with_reducible exact LeO.none _)
   | (with_reducible refine LeO.ite ?_ ?_)
   | (with_reducible refine LeO.bind ?_ (fun _ => ?_))
   | exact ih0 _ _ _
   | exact LeO.none _
   | refine LeO.ite ?_ ?_
   | refine LeO.bind ?_ (fun _ => ?_)
theorem spec_SameLines.mono : ∀ a0 a1 k, LeO (spec_SameLines.f k a0 a1) (spec_SameLines.f (k + 1) a0 a1) := by
 intro a0 a1 k;have ih0 := spec_SameLines.mono_l k;unfold spec_SameLines.f
 repeat' first
   | (with_reducible exact ih0 _ _ _)
   | (with_reducible exact LeO.refl _)
   | (with_reducible exact LeO.none _)
   | (with_reducible refine LeO.ite ?_ ?_)
   | (with_reducible refine LeO.bind ?_ (fun _ => ?_))
   | exact ih0 _ _ _
   | exact LeO.none _
   | refine LeO.ite ?_ ?_
   | refine LeO.bind ?_ (fun _ => ?_)
set_option maxHeartbeats 8000000 in
set_option maxRecDepth 100000 in
theorem spec_SameLines.calls (k : Nat) (A0 : Option Addr) (c0 : Nat) (l0 : List ByteArray) (A1 : Option Addr) (c1 : Nat) (l1 : List ByteArray) (r : Bool) (w : World) (hr0 : Kd.C Kd.string w A0 l0.length l0) (hc0 : l0.length ≤ c0) (hr1 : Kd.C Kd.string w A1 l1.length l1) (hc1 : l1.length ≤ c1) (h : spec_SameLines.f k l0 l1 = some r) :
  Calls Try.prog 110 #[.slice A0 l0.length c0, .slice A1 l1.length c1] w fun e w' => e = .returned (.bool r) ∧ Drawn0 w w' := by
 have HR0 := Aside0.mk hr0;have HC0 := Aside0.mk hc0;clear hr0 hc0;have HR1 := Aside0.mk hr1;have HC1 := Aside0.mk hc1;clear hr1 hc1;have H : (if (l0.length : Int) = (l1.length : Int) then (spec_SameLines.l0 k l0 l1 0) else (some false)) = some r := h;clear h;by_cases c3 : (l0.length : Int) = (l1.length : Int)
 ·rw [if_pos c3] at H;have c3b0 : ((l0.length : Int) == (l1.length : Int)) = true := beq_iff_eq.mpr c3;have c3b1 : ((l0.length : Int) != (l1.length : Int)) = false := bne_eq_false_iff_eq.mpr c3;(have c3b2 : (l0.length == l1.length) = true := by first | simpa using c3 | (simp at c3 ⊢;omega));clear c3;have H' := Aside0.mk H;clear H;go_enter Try.func110, Try.ntmps110;go_wp2;(repeat (go_quiet (fail);try go_wp2));go_loopg [5] k (fun kq v5 w' => ∃ (x5_1 : Int), v5 = .int .i64 x5_1 ∧ Aside0 (spec_SameLines.l0 kq l0 l1 x5_1 = some r) ∧ Aside0 (kq ≤ k) ∧ Drawn0 w w');(case atStart => exact ⟨(0), ls_, H', ⟨Nat.le_refl _⟩, by repeat (first | exact Drawn0.refl _ | apply Drawn0.step)⟩)
  case round =>
   clear H'
   try clear c1
   try clear p2
   try clear c3
   try clear c3b0
   try clear c3b1
   try clear c3b2
   obtain ⟨x5_1, rfl, HA, HK1, ⟨m1, rfl⟩⟩ := hrel
   cases gk with
   | zero => exact absurd HA.out (by simp [spec_SameLines.l0])
   | succ k1 =>
    have H := HA.out
    clear HA
    simp only [spec_SameLines.l0] at H
    by_cases c4 : x5_1 < (l0.length : Int)
    ·rw [if_pos c4] at H
     have c4b0 : decide (x5_1 < (l0.length : Int)) = true := decide_eq_true c4
     clear c4
     by_cases c5 : 0 ≤ x5_1
     ·rw [if_pos c5] at H
      have c5b0 : decide (0 ≤ x5_1) = true := decide_eq_true c5
      clear c5
      by_cases c6 : x5_1 < (l1.length : Int)
      ·rw [if_pos c6] at H
       have c6b0 : decide (x5_1 < (l1.length : Int)) = true := decide_eq_true c6
       clear c6
       by_cases c7 : (rdOf ByteArray.empty l0 x5_1).toList = (rdOf ByteArray.empty l1 x5_1).toList
       ·rw [if_pos c7] at H
        have c7b0 : ((rdOf ByteArray.empty l0 x5_1).toList == (rdOf ByteArray.empty l1 x5_1).toList) = true := beq_iff_eq.mpr c7
        have c7b1 : ((rdOf ByteArray.empty l0 x5_1).toList != (rdOf ByteArray.empty l1 x5_1).toList) = false := bne_eq_false_iff_eq.mpr c7
        clear c7
        have H' := Aside0.mk H
        clear H
        have p425 : 0 ≤ (x5_1 : Int) := od_
        have q425 : x5_1 < (l0.length : Int) := od_
        obtain ⟨ad425, e425, hx425_0⟩ := Kd.at_string HR0.out x5_1 p425 q425
        cases e425
        replace p425 := eq_true p425
        replace q425 := eq_true q425
        have p426 : 0 ≤ (x5_1 : Int) := od_
        have q426 : x5_1 < (l1.length : Int) := od_
        obtain ⟨ad426, e426, hx426_0⟩ := Kd.at_string HR1.out x5_1 p426 q426
        cases e426
        replace p426 := eq_true p426
        replace q426 := eq_true q426
        go_wp2
        repeat (go_quiet (fail);try go_wp2)
        go_roundg k1
        case measure => have := HK1.out;omega
        case rel => exact ⟨(wrap64 (x5_1 + 1)), ls_, H', ⟨by have := HK1.out;omega⟩, by repeat (first | exact Drawn0.refl _ | apply Drawn0.step)⟩
       ·rw [if_neg c7] at H
        have c7b0 : ((rdOf ByteArray.empty l0 x5_1).toList == (rdOf ByteArray.empty l1 x5_1).toList) = false := beq_eq_false_iff_ne.mpr c7
        have c7b1 : ((rdOf ByteArray.empty l0 x5_1).toList != (rdOf ByteArray.empty l1 x5_1).toList) = true := bne_iff_ne.mpr c7
        obtain rfl := Option.some.inj H
        have p425 : 0 ≤ (x5_1 : Int) := od_
        have q425 : x5_1 < (l0.length : Int) := od_
        obtain ⟨ad425, e425, hx425_0⟩ := Kd.at_string HR0.out x5_1 p425 q425
        cases e425
        replace p425 := eq_true p425
        replace q425 := eq_true q425
        have p426 : 0 ≤ (x5_1 : Int) := od_
        have q426 : x5_1 < (l1.length : Int) := od_
        obtain ⟨ad426, e426, hx426_0⟩ := Kd.at_string HR1.out x5_1 p426 q426
        cases e426
        replace p426 := eq_true p426
        replace q426 := eq_true q426
        go_wp2
        repeat (go_quiet (fail);try go_wp2)
        go_ret
        exact ⟨by first | rfl | (simp;done) | (simp [*];done), by repeat (first | exact Drawn0.refl _ | apply Drawn0.step)⟩
      ·rw [if_neg c6] at H
       exact absurd H (by simp)
     ·rw [if_neg c5] at H
      exact absurd H (by simp)
    ·rw [if_neg c4] at H
     have c4b0 : decide (x5_1 < (l0.length : Int)) = false := decide_eq_false c4
     clear c4
     obtain rfl := Option.some.inj H
     go_wp2
     repeat (go_quiet (fail);try go_wp2)
     go_ret
     exact ⟨by first | rfl | (simp;done) | (simp [*];done), by repeat (first | exact Drawn0.refl _ | apply Drawn0.step)⟩
 ·rw [if_neg c3] at H;have c3b0 : ((l0.length : Int) == (l1.length : Int)) = false := beq_eq_false_iff_ne.mpr c3;have c3b1 : ((l0.length : Int) != (l1.length : Int)) = true := bne_iff_ne.mpr c3;(have c3b2 : (l0.length == l1.length) = false := by first | simpa using c3 | (simp at c3 ⊢;omega));obtain rfl := Option.some.inj H;go_enter Try.func110, Try.ntmps110;go_wp2;(repeat (go_quiet (fail);try go_wp2));go_ret;exact ⟨by first | rfl | (simp;done) | (simp [*];done), by repeat (first | exact Drawn0.refl _ | apply Drawn0.step)⟩
end Go.Proofs.Ytjngmhngedecdaa.P
end
section
namespace Go.Proofs.Ytjngmhngedecdaa.P
open Go.RowKit Go.Proofs.YtjngmhngedecdaaW.PrintWords Go.Proofs.YtjngmhngedecdaaW.PrintLast Go.Proofs.YtjngmhngedecdaaW.PrintMore
attribute [local go_sem] max2_int min2_int max_two min_two max_three min_three max_four min_four
set_option linter.unusedVariables false
set_option linter.unusedSimpArgs false
def spec_l4Kind.j0 : Nat → List ByteArray → List ByteArray → Bool → Bool → Bool → Option (Int)
 | 0, _, _, _, _, _ => none
 | k + 1, x1, x2, x7, x8, x15 => if x15 = true then (some 0) else (if x8 = true then (some 1) else (if x7 = true then (some 2) else ((spec_SameLines.f k x1 x2).bind fun t429 => (if t429 = true then (some 3) else (some 4)))))
def spec_l4Kind.f (k : Nat) (l0 : List ByteArray) (l1 : List ByteArray) (l2 : List ByteArray) : Option (Int) := (spec_SameLines.f k l0 l1).bind fun t427 => ((spec_SameLines.f k l0 l2).bind fun t428 => (if t427 = true then (spec_l4Kind.j0 k l1 l2 t427 t428 t428) else (spec_l4Kind.j0 k l1 l2 t427 t428 false)))
theorem spec_l4Kind.mono_l : ∀ k, (∀ y0 y1 y2 y3 y4, LeO (spec_l4Kind.j0 k y0 y1 y2 y3 y4) (spec_l4Kind.j0 (k + 1) y0 y1 y2 y3 y4))
 | 0 => fun _ _ _ _ _ r h => by simp [spec_l4Kind.j0] at h
 | k + 1 => by
  have ih0 := spec_l4Kind.mono_l k
  ·intro y0 y1 y2 y3 y4
   unfold spec_l4Kind.j0
   repeat' first
   | (with_reducible exact ih0 _ _ _ _ _)
   | (with_reducible exact spec_SameLines.mono _ _ _)
   | (with_reducible exact LeO.refl _)
   | (with_reducible exact LeO.none _)
   | (with_reducible refine LeO.ite ?_ ?_)
   | (with_reducible refine LeO.bind ?_ (fun _ => ?_))
   | exact ih0 _ _ _ _ _
   | exact spec_SameLines.mono _ _ _
   | exact LeO.none _
   | refine LeO.ite ?_ ?_
   | refine LeO.bind ?_ (fun _ => ?_)
theorem spec_l4Kind.mono : ∀ a0 a1 a2 k, LeO (spec_l4Kind.f k a0 a1 a2) (spec_l4Kind.f (k + 1) a0 a1 a2) := by
 intro a0 a1 a2 k;have ih0 := spec_l4Kind.mono_l k;unfold spec_l4Kind.f
 repeat' first
   | (with_reducible exact ih0 _ _ _ _ _)
   | (with_reducible exact spec_SameLines.mono _ _ _)
   | (with_reducible exact LeO.refl _)
   | (with_reducible exact LeO.none _)
   | (with_reducible refine LeO.ite ?_ ?_)
   | (with_reducible refine LeO.bind ?_ (fun _ => ?_))
   | exact ih0 _ _ _ _ _
   | exact spec_SameLines.mono _ _ _
   | exact LeO.none _
   | refine LeO.ite ?_ ?_
   | refine LeO.bind ?_ (fun _ => ?_)
set_option maxHeartbeats 8000000 in
set_option maxRecDepth 100000 in
theorem spec_l4Kind.calls (k : Nat) (A0 : Option Addr) (c0 : Nat) (l0 : List ByteArray) (A1 : Option Addr) (c1 : Nat) (l1 : List ByteArray) (A2 : Option Addr) (c2 : Nat) (l2 : List ByteArray) (r : Int) (w : World) (hr0 : Kd.C Kd.string w A0 l0.length l0) (hc0 : l0.length ≤ c0) (hr1 : Kd.C Kd.string w A1 l1.length l1) (hc1 : l1.length ≤ c1) (hr2 : Kd.C Kd.string w A2 l2.length l2) (hc2 : l2.length ≤ c2) (h : spec_l4Kind.f k l0 l1 l2 = some r) :
  Calls Try.prog 77 #[.slice A0 l0.length c0, .slice A1 l1.length c1, .slice A2 l2.length c2] w fun e w' => e = .returned (.int .i64 r) ∧ Drawn0 w w' := by
 have HR0 := Aside0.mk hr0;have HC0 := Aside0.mk hc0;clear hr0 hc0;have HR1 := Aside0.mk hr1;have HC1 := Aside0.mk hc1;clear hr1 hc1;have HR2 := Aside0.mk hr2;have HC2 := Aside0.mk hc2;clear hr2 hc2;have H : ((spec_SameLines.f k l0 l1).bind fun t427 => ((spec_SameLines.f k l0 l2).bind fun t428 => (if t427 = true then (spec_l4Kind.j0 k l1 l2 t427 t428 t428) else (spec_l4Kind.j0 k l1 l2 t427 t428 false)))) = some r := h;clear h;replace H := Option.bind_eq_some_iff.mp H;obtain ⟨t427, A40, H⟩ := H;replace H : ((spec_SameLines.f k l0 l2).bind fun t428 => (if t427 = true then (spec_l4Kind.j0 k l1 l2 t427 t428 t428) else (spec_l4Kind.j0 k l1 l2 t427 t428 false))) = some r := H;have A4 := Aside0.mk A40;clear A40;replace H := Option.bind_eq_some_iff.mp H;obtain ⟨t428, A50, H⟩ := H;replace H : (if t427 = true then (spec_l4Kind.j0 k l1 l2 t427 t428 t428) else (spec_l4Kind.j0 k l1 l2 t427 t428 false)) = some r := H;have A5 := Aside0.mk A50;clear A50;have HC6 := Aside0.mk H;clear H;go_enter Try.func77, Try.ntmps77;(go_upto_region 3 with (first | ((with_reducible refine gate_callee (f := 110) rfl ?_);refine goesL_ (some 11) rfl rfl Try.func110 (by kernel_rfl) rfl #[.slice A0 l0.length c0, .slice A1 l1.length c1] rfl lf_ ?_;(with_reducible refine (spec_SameLines.calls k _ _ l0 _ _ l1 t427 _ ?side1 ?side2 ?side3 ?side4 A4.out).mono ?_);(case side1 => exact rc_ HR0.out);(case side2 => exact HC0.out);(case side3 => exact rc_ HR1.out);(case side4 => exact HC1.out);rintro e w' ⟨rfl, ⟨nd, rfl⟩⟩;refine ⟨_, rfl, ?_⟩) | ((with_reducible refine gate_callee (f := 110) rfl ?_);refine goesL_ (some 14) rfl rfl Try.func110 (by kernel_rfl) rfl #[.slice A0 l0.length c0, .slice A2 l2.length c2] rfl lf_ ?_;(with_reducible refine (spec_SameLines.calls k _ _ l0 _ _ l2 t428 _ ?side1 ?side2 ?side3 ?side4 A5.out).mono ?_);(case side1 => exact rc_ HR0.out);(case side2 => exact HC0.out);(case side3 => exact rc_ HR2.out);(case side4 => exact HC2.out);rintro e w' ⟨rfl, ⟨nd, rfl⟩⟩;refine ⟨_, rfl, ?_⟩)));(try simp only [Act.put, List.setIfInBounds_toArray, List.set_cons_zero, List.set_cons_succ]);go_cut [15] (fun v15 wc => ∃ (kq : Nat) (x15_5 : Bool), v15 = .bool x15_5 ∧ Aside0 (spec_l4Kind.j0 kq l1 l2 t427 t428 x15_5 = some r) ∧ Aside0 (kq ≤ k) ∧ Drawn0 w wc)
 (case first => have H := HC6.out;clear HC6;by_cases c7 : t427 = true;(·subst c7;(have H1 : (spec_l4Kind.j0 k l1 l2 true t428 t428) = some r := by rw [if_pos rfl] at H;exact H);clear H;have H := H1;clear H1;have H' := Aside0.mk H;clear H;go_wp2;go_meet;case rel => exact ⟨_, (t428), ls_, H', ⟨by first | omega | exact Nat.le_refl _⟩, by repeat (first | exact Drawn0.refl _ | apply Drawn0.step)⟩);·replace c7 := Bool.eq_false_iff.mpr c7;subst c7;(have H1 : (spec_l4Kind.j0 k l1 l2 false t428 false) = some r := by rw [if_neg (show ¬ (false = true) by decide)] at H;exact H);clear H;have H := H1;clear H1;have H' := Aside0.mk H;clear H;go_wp2;go_meet;case rel => exact ⟨_, (false), ls_, H', ⟨by first | omega | exact Nat.le_refl _⟩, by repeat (first | exact Drawn0.refl _ | apply Drawn0.step)⟩)
 case rest =>
  clear HC6
  try clear c1
  try clear c2
  try clear p2
  try clear c7
  obtain ⟨kq, x15_5, rfl, HA, HJ5, ⟨mc5, rfl⟩⟩ := hcut
  cases kq with
  | zero => exact absurd HA.out (by simp [spec_l4Kind.j0])
  | succ kj5 =>
   have H := HA.out
   clear HA
   simp only [spec_l4Kind.j0] at H
   by_cases c8 : x15_5 = true
   ·subst c8
    have H1 : (some 0) = some r := by rw [if_pos rfl] at H;exact H
    clear H
    have H := H1
    clear H1
    obtain rfl := Option.some.inj H
    go_wp2
    go_ret
    exact ⟨by first | rfl | (simp;done) | (simp [*];done), by repeat (first | exact Drawn0.refl _ | apply Drawn0.step)⟩
   ·replace c8 := Bool.eq_false_iff.mpr c8
    subst c8
    have H1 : (if t428 = true then (some 1) else (if t427 = true then (some 2) else ((spec_SameLines.f kj5 l1 l2).bind fun t429 => (if t429 = true then (some 3) else (some 4))))) = some r := by rw [if_neg (show ¬ (false = true) by decide)] at H;exact H
    clear H
    have H := H1
    clear H1
    by_cases c9 : t428 = true
    ·subst c9
     have H1 : (some 1) = some r := by rw [if_pos rfl] at H;exact H
     clear H
     have H := H1
     clear H1
     obtain rfl := Option.some.inj H
     go_wp2
     go_ret
     exact ⟨by first | rfl | (simp;done) | (simp [*];done), by repeat (first | exact Drawn0.refl _ | apply Drawn0.step)⟩
    ·replace c9 := Bool.eq_false_iff.mpr c9
     subst c9
     have H1 : (if t427 = true then (some 2) else ((spec_SameLines.f kj5 l1 l2).bind fun t429 => (if t429 = true then (some 3) else (some 4)))) = some r := by rw [if_neg (show ¬ (false = true) by decide)] at H;exact H
     clear H
     have H := H1
     clear H1
     by_cases c10 : t427 = true
     ·subst c10
      have H1 : (some 2) = some r := by rw [if_pos rfl] at H;exact H
      clear H
      have H := H1
      clear H1
      obtain rfl := Option.some.inj H
      go_wp2
      go_ret
      exact ⟨by first | rfl | (simp;done) | (simp [*];done), by repeat (first | exact Drawn0.refl _ | apply Drawn0.step)⟩
     ·replace c10 := Bool.eq_false_iff.mpr c10
      subst c10
      have H1 : ((spec_SameLines.f kj5 l1 l2).bind fun t429 => (if t429 = true then (some 3) else (some 4))) = some r := by rw [if_neg (show ¬ (false = true) by decide)] at H;exact H
      clear H
      have H := H1
      clear H1
      replace H := Option.bind_eq_some_iff.mp H
      obtain ⟨t429, A110, H⟩ := H
      replace H : (if t429 = true then (some 3) else (some 4)) = some r := H
      have A11 := Aside0.mk A110
      clear A110
      by_cases c12 : t429 = true
      ·subst c12
       have H1 : (some 3) = some r := by rw [if_pos rfl] at H;exact H
       clear H
       have H := H1
       clear H1
       obtain rfl := Option.some.inj H
       go_wp2_with (first | ((with_reducible refine gate_callee (f := 110) rfl ?_);refine goesL_ (some 27) rfl rfl Try.func110 (by kernel_rfl) rfl #[.slice A1 l1.length c1, .slice A2 l2.length c2] rfl lf_ ?_;(with_reducible refine (spec_SameLines.calls kj5 _ _ l1 _ _ l2 true _ ?side1 ?side2 ?side3 ?side4 A11.out).mono ?_);(case side1 => exact rc_ HR1.out);(case side2 => exact HC1.out);(case side3 => exact rc_ HR2.out);(case side4 => exact HC2.out);rintro e w' ⟨rfl, ⟨nd, rfl⟩⟩;refine ⟨_, rfl, ?_⟩))
       go_ret
       exact ⟨by first | rfl | (simp;done) | (simp [*];done), by repeat (first | exact Drawn0.refl _ | apply Drawn0.step)⟩
      ·replace c12 := Bool.eq_false_iff.mpr c12
       subst c12
       have H1 : (some 4) = some r := by rw [if_neg (show ¬ (false = true) by decide)] at H;exact H
       clear H
       have H := H1
       clear H1
       obtain rfl := Option.some.inj H
       go_wp2_with (first | ((with_reducible refine gate_callee (f := 110) rfl ?_);refine goesL_ (some 27) rfl rfl Try.func110 (by kernel_rfl) rfl #[.slice A1 l1.length c1, .slice A2 l2.length c2] rfl lf_ ?_;(with_reducible refine (spec_SameLines.calls kj5 _ _ l1 _ _ l2 false _ ?side1 ?side2 ?side3 ?side4 A11.out).mono ?_);(case side1 => exact rc_ HR1.out);(case side2 => exact HC1.out);(case side3 => exact rc_ HR2.out);(case side4 => exact HC2.out);rintro e w' ⟨rfl, ⟨nd, rfl⟩⟩;refine ⟨_, rfl, ?_⟩))
       go_ret
       exact ⟨by first | rfl | (simp;done) | (simp [*];done), by repeat (first | exact Drawn0.refl _ | apply Drawn0.step)⟩
end Go.Proofs.Ytjngmhngedecdaa.P
end
section
namespace Go.Proofs.Ytjngmhngedecdaa.P
open Go.RowKit Go.Proofs.YtjngmhngedecdaaW.PrintWords Go.Proofs.YtjngmhngedecdaaW.PrintLast Go.Proofs.YtjngmhngedecdaaW.PrintMore
attribute [local go_sem] max2_int min2_int max_two min_two max_three min_three max_four min_four
set_option linter.unusedVariables false
set_option linter.unusedSimpArgs false
def spec_l4Copy.f (l0 : List ByteArray) : Option (List ByteArray) := (some (([] : List ByteArray) : List ByteArray)).bind fun y1361 => (if y1361.length + l0.length < 8796093022208 then (some (y1361 ++ l0)) else (none))
set_option maxHeartbeats 8000000 in
set_option maxRecDepth 100000 in
theorem spec_l4Copy.calls (A0 : Option Addr) (c0 : Nat) (l0 : List ByteArray) (r : List ByteArray) (w : World) (hr0 : Kd.C Kd.string w A0 l0.length l0) (hc0 : l0.length ≤ c0) (h : spec_l4Copy.f l0 = some r) :
  Calls Try.prog 126 #[.slice A0 l0.length c0] w fun e w' => ∃ v0_ : Value, e = .returned (v0_) ∧ Kd.R Kd.string 9 w' w.heap.size (fun _ => True) v0_ r ∧ Below w.heap.size w w' := by
 have HR0 := Aside0.mk hr0;have HC0 := Aside0.mk hc0;clear hr0 hc0;have HB := Aside0.mk (Below.refl w.heap.size w);have H : ((some (([] : List ByteArray) : List ByteArray)).bind fun y1361 => (if y1361.length + l0.length < 8796093022208 then (some (y1361 ++ l0)) else (none))) = some r := h;clear h;obtain ⟨y1361, hy1361⟩ : ∃ y_ : List ByteArray, y_ = (([] : List ByteArray)) := ⟨_, rfl⟩;(replace H : (if y1361.length + l0.length < 8796093022208 then (some (y1361 ++ l0)) else (none)) = some r := by first | (rw [hy1361];with_reducible exact H) | (have H2_ := (Option.bind_some _ _).symm.trans H;rw [hy1361];with_reducible exact H2_) | (have H2_ := (Option.bind_some _ _).symm.trans H;with_reducible exact H2_) | with_reducible exact H | (rw [hy1361];exact H) | exact H);have Ny1361 := Aside0.mk hy1361;clear hy1361;by_cases c2 : y1361.length + l0.length < 8796093022208;(·rw [if_pos c2] at H;have LMc2 := Aside0.mk c2;clear c2;obtain ⟨y1364, hy1364⟩ : ∃ y_ : List ByteArray, y_ = (y1361 ++ l0) := ⟨_, rfl⟩;(replace H : (some y1364) = some r := by first | (rw [hy1364];with_reducible exact H) | (have H2_ := (Option.bind_some _ _).symm.trans H;rw [hy1364];with_reducible exact H2_) | (have H2_ := (Option.bind_some _ _).symm.trans H;with_reducible exact H2_) | with_reducible exact H | (rw [hy1364];exact H) | exact H);have Ny1364 := Aside0.mk hy1364;clear hy1364;obtain rfl := Option.some.inj H;go_enter Try.func126, Try.ntmps126;go_wp2_with (first | ((with_reducible refine gate_dst (N := 3) rfl ?_);refine Kd.R_lit Kd.string _ 9 ?hg (N := 3) ?hd (xs := ([] : List ByteArray)) (inner := []) (ok := fun _ => True) (okp := fun _ => True) ?hr ?hp (fun _ hk => hk) trivial (Below.refl _ _) (Nat.le_refl _) (by simp) ?_;(case hd => rfl);(case hg => rfl);(case hr => first | (go_simp;done) | (go_simp;rfl));(case hp => exact (Reps.none _ _));intro v1362 w3 ho4 hb hg_ hnew_;clear hg_ hnew_;(first | rw [← Ny1361.out] at ho4 | (simp only [Int.reduceToNat] at ho4;rw [← Ny1361.out] at ho4));have n0_ := Aside0.mk (Kd.R_lower ho4 (below_size (bw_ HB.out)));have n1_ := Aside0.mk (below_step (bw_ HB.out) hb);clear HB;have HO1363 := n0_;have HB := n1_;clear n0_ n1_;clear hb ho4) | ((with_reducible refine gate_builtin (b := .append) (xs := #[.tmp 3, .tmp 4]) rfl ?_);at_builtin;refine Kd.R_append_rows Kd.string (w0 := w) w.heap.size rfl (.tmp 3) (.tmp 4) 34 9 (.string ⟨#[]⟩) 16 rfl Try.underlying34 info9 rfl (by decide) (by omega) v1362 y1361 l0 _ _ _ (fun _ => True) (fun _ => False) rfl rfl ?aO ?aR (fun _ _ h => h) (fun _ h => h.elim) ?aF ?aB ?aS ?aL ?_;(case aR => exact rc_ (Kd.C_below HR0.out HB.out));(case aB => exact (bw_ HB.out));(case aF => exact (fun _ _ => trivial));(case aO => exact (rr_ HO1363.out));(case aS => exact (below_size (bw_ HB.out)));(case aL => have := LMc2.out;omega);intro v1365 w5 ho hb hg hat;rw [← Ny1364.out] at ho;have n0_ := Aside0.mk (hb);have n1_ := Aside0.mk (ho);clear HB;clear HO1363;have HB := n0_;have HO1366 := n1_;clear n0_ n1_;clear ho hb hg hat));go_ret;exact ⟨_, by first | rfl | (simp [errW_none, errW_some] <;> rfl) | (simp [*, errW_none, errW_some] <;> rfl), rr_ HO1366.out, bw_ HB.out⟩);·rw [if_neg c2] at H;exact absurd H (by simp)
end Go.Proofs.Ytjngmhngedecdaa.P
end
section
namespace Go.Proofs.Ytjngmhngedecdaa.P
open Go.RowKit Go.Proofs.YtjngmhngedecdaaW.PrintWords Go.Proofs.YtjngmhngedecdaaW.PrintLast Go.Proofs.YtjngmhngedecdaaW.PrintMore
attribute [local go_sem] max2_int min2_int max_two min_two max_three min_three max_four min_four
set_option linter.unusedVariables false
set_option linter.unusedSimpArgs false
def spec_l4Put.f (k : Nat) (l0 : List (S58)) (l1 : List ByteArray) (l2 : List ByteArray) (l3 : List ByteArray) : Option ((List (S58))) := if (wrap64 ((wrap64 ((l1.length : Int) + (l2.length : Int))) + (l3.length : Int))) = 0 then (some l0) else ((spec_l4Kind.f k l1 l2 l3).bind fun t1043 => ((spec_l4Copy.f l1).bind fun t1044 => ((spec_l4Copy.f l2).bind fun t1047 => ((spec_l4Copy.f l3).bind fun t1050 => (if l0.length < 1759218604441 then (some (l0 ++ [(⟨t1043, t1044, t1047, t1050⟩ : S58)])) else (none))))))
theorem spec_l4Put.mono : ∀ a0 a1 a2 a3 k, LeO (spec_l4Put.f k a0 a1 a2 a3) (spec_l4Put.f (k + 1) a0 a1 a2 a3) := by
  intro a0 a1 a2 a3 k
  unfold spec_l4Put.f
  repeat' first
      | (with_reducible exact spec_l4Kind.mono _ _ _ _)
      | (with_reducible exact LeO.refl _)
      | (with_reducible exact LeO.none _)
      | (with_reducible refine LeO.ite ?_ ?_)
      | (with_reducible refine LeO.bind ?_ (fun _ => ?_))
      | exact spec_l4Kind.mono _ _ _ _
      | exact LeO.none _
      | refine LeO.ite ?_ ?_
      | refine LeO.bind ?_ (fun _ => ?_)
set_option maxHeartbeats 8000000 in
set_option maxRecDepth 100000 in
theorem spec_l4Put.calls (k : Nat) (P0_ : Nat → Prop) (u9000_ : Value) (l0 : List (S58)) (A1 : Option Addr) (c1 : Nat) (l1 : List ByteArray) (A2 : Option Addr) (c2 : Nat) (l2 : List ByteArray) (A3 : Option Addr) (c3 : Nat) (l3 : List ByteArray) (r : List (S58)) (w0 w : World) (hB : Below w0.heap.size w0 w) (ho0 : Kd.S k58 58 w w0.heap.size P0_ u9000_ l0) (hr1 : ∀ W_, Kept w W_ (fun k_ => P0_ k_) → Kd.C Kd.string W_ A1 l1.length l1) (hc1 : l1.length ≤ c1) (hr2 : ∀ W_, Kept w W_ (fun k_ => P0_ k_) → Kd.C Kd.string W_ A2 l2.length l2) (hc2 : l2.length ≤ c2) (hr3 : ∀ W_, Kept w W_ (fun k_ => P0_ k_) → Kd.C Kd.string W_ A3 l3.length l3) (hc3 : l3.length ≤ c3) (h : spec_l4Put.f k l0 l1 l2 l3 = some r) :
    Calls Try.prog 96 #[u9000_, .slice A1 l1.length c1, .slice A2 l2.length c2, .slice A3 l3.length c3] w fun e w' => ∃ v0_ : Value, e = .returned (v0_) ∧ Kd.S k58 58 w' w0.heap.size (fun k_ => (P0_ k_ ∨ w.heap.size ≤ k_)) v0_ r ∧ Below w0.heap.size w0 w' ∧ Kept w w' (fun k_ => P0_ k_) := by
  have hu_ := Try.underlying58
  have HO0 := Aside0.mk (show Kd.S k58 58 w w0.heap.size (fun k_ => (P0_ k_ ∨ w.heap.size ≤ k_)) u9000_ l0 from Kd.S_mono ho0 (fun k_ hk => (.inl hk)))
  have HR1 := Aside0.mk hr1
  have HC1 := Aside0.mk hc1
  clear hr1 hc1
  have HR2 := Aside0.mk hr2
  have HC2 := Aside0.mk hc2
  clear hr2 hc2
  have HR3 := Aside0.mk hr3
  have HC3 := Aside0.mk hc3
  clear hr3 hc3
  have HK := Aside0.mk (Kept.refl w (fun k_ => P0_ k_))
  have HW0 := Aside0.mk hB.size
  have HB := Aside0.mk hB
  clear hB
  have H : (if (wrap64 ((wrap64 ((l1.length : Int) + (l2.length : Int))) + (l3.length : Int))) = 0 then (some l0) else ((spec_l4Kind.f k l1 l2 l3).bind fun t1043 => ((spec_l4Copy.f l1).bind fun t1044 => ((spec_l4Copy.f l2).bind fun t1047 => ((spec_l4Copy.f l3).bind fun t1050 => (if l0.length < 1759218604441 then (some (l0 ++ [(⟨t1043, t1044, t1047, t1050⟩ : S58)])) else (none))))))) = some r := h
  clear h
  by_cases c5 : (wrap64 ((wrap64 ((l1.length : Int) + (l2.length : Int))) + (l3.length : Int))) = 0
  · rw [if_pos c5] at H
    have c5b0 : ((wrap64 ((wrap64 ((l1.length : Int) + (l2.length : Int))) + (l3.length : Int))) == 0) = true := beq_iff_eq.mpr c5
    have c5b1 : ((wrap64 ((wrap64 ((l1.length : Int) + (l2.length : Int))) + (l3.length : Int))) != 0) = false := bne_eq_false_iff_eq.mpr c5
    clear c5
    obtain rfl := Option.some.inj H
    go_enter Try.func96, Try.ntmps96
    go_wp2
    go_ret
    exact ⟨_, by first | rfl | (simp [errW_none, errW_some] <;> rfl) | (simp [*, errW_none, errW_some] <;> rfl), by (with_reducible repeat (first | apply Kd.S_alloc | apply Kd.S_drewN | apply Kd.S_drew)); exact HO0.out, by repeat (first | (with_reducible first | exact HB.out | apply below_alloc | apply pw_below_drewN | apply below_drew1) | exact HB.out), by repeat (first | (with_reducible first | exact HK.out | apply Kept.alloc | apply Kept.drewN | apply Kept.drew) | exact HK.out)⟩
  · rw [if_neg c5] at H
    have c5b0 : ((wrap64 ((wrap64 ((l1.length : Int) + (l2.length : Int))) + (l3.length : Int))) == 0) = false := beq_eq_false_iff_ne.mpr c5
    have c5b1 : ((wrap64 ((wrap64 ((l1.length : Int) + (l2.length : Int))) + (l3.length : Int))) != 0) = true := bne_iff_ne.mpr c5
    replace H := Option.bind_eq_some_iff.mp H
    obtain ⟨t1043, A60, H⟩ := H
    replace H : ((spec_l4Copy.f l1).bind fun t1044 => ((spec_l4Copy.f l2).bind fun t1047 => ((spec_l4Copy.f l3).bind fun t1050 => (if l0.length < 1759218604441 then (some (l0 ++ [(⟨t1043, t1044, t1047, t1050⟩ : S58)])) else (none))))) = some r := H
    have A6 := Aside0.mk A60
    clear A60
    replace H := Option.bind_eq_some_iff.mp H
    obtain ⟨t1044, A70, H⟩ := H
    replace H : ((spec_l4Copy.f l2).bind fun t1047 => ((spec_l4Copy.f l3).bind fun t1050 => (if l0.length < 1759218604441 then (some (l0 ++ [(⟨t1043, t1044, t1047, t1050⟩ : S58)])) else (none)))) = some r := H
    have A7 := Aside0.mk A70
    clear A70
    replace H := Option.bind_eq_some_iff.mp H
    obtain ⟨t1047, A80, H⟩ := H
    replace H : ((spec_l4Copy.f l3).bind fun t1050 => (if l0.length < 1759218604441 then (some (l0 ++ [(⟨t1043, t1044, t1047, t1050⟩ : S58)])) else (none))) = some r := H
    have A8 := Aside0.mk A80
    clear A80
    replace H := Option.bind_eq_some_iff.mp H
    obtain ⟨t1050, A90, H⟩ := H
    replace H : (if l0.length < 1759218604441 then (some (l0 ++ [(⟨t1043, t1044, t1047, t1050⟩ : S58)])) else (none)) = some r := H
    have A9 := Aside0.mk A90
    clear A90
    by_cases c10 : l0.length < 1759218604441
    · rw [if_pos c10] at H
      have LMc10 := Aside0.mk c10
      clear c10
      obtain ⟨y1053, hy1053⟩ : ∃ y_ : List (S58), y_ = (l0 ++ [(⟨t1043, t1044, t1047, t1050⟩ : S58)]) := ⟨_, rfl⟩
      replace H : (some y1053) = some r := by first | (rw [hy1053]; with_reducible exact H) | (have H2_ := (Option.bind_some _ _).symm.trans H; rw [hy1053]; with_reducible exact H2_) | (have H2_ := (Option.bind_some _ _).symm.trans H; with_reducible exact H2_) | with_reducible exact H | (rw [hy1053]; exact H) | exact H
      have Ny1053 := Aside0.mk hy1053
      clear hy1053
      obtain rfl := Option.some.inj H
      go_enter Try.func96, Try.ntmps96
      go_wp2_with (first | ((with_reducible refine gate_callee (f := 77) rfl ?_); refine goesL_ (some 23) rfl rfl Try.func77 (by kernel_rfl) rfl #[.slice A1 l1.length c1, .slice A2 l2.length c2, .slice A3 l3.length c3] rfl (by (try simp only [List.map_toArray, List.map_cons, List.map_nil]); first | done | rfl | (simp only [List.length_drop, List.length_take]; rfl)) ?_; (with_reducible refine (spec_l4Kind.calls k _ _ l1 _ _ l2 _ _ l3 t1043 _ ?side1 ?side2 ?side3 ?side4 ?side5 ?side6 A6.out).mono ?_); (case side1 => exact Kd.C_kept_now HR1.out (by repeat (first | (with_reducible first | exact HK.out | apply Kept.alloc | apply Kept.drewN | apply Kept.drew) | exact HK.out))); (case side2 => exact HC1.out); (case side3 => exact Kd.C_kept_now HR2.out (by repeat (first | (with_reducible first | exact HK.out | apply Kept.alloc | apply Kept.drewN | apply Kept.drew) | exact HK.out))); (case side4 => exact HC2.out); (case side5 => exact Kd.C_kept_now HR3.out (by repeat (first | (with_reducible first | exact HK.out | apply Kept.alloc | apply Kept.drewN | apply Kept.drew) | exact HK.out))); (case side6 => exact HC3.out); rintro e w' ⟨rfl, ⟨nd, rfl⟩⟩; refine ⟨_, rfl, ?_⟩) | ((with_reducible refine gate_callee (f := 126) rfl ?_); refine goesL_ (some 25) rfl rfl Try.func126 (by kernel_rfl) rfl #[.slice A1 l1.length c1] rfl (by (try simp only [List.map_toArray, List.map_cons, List.map_nil]); first | done | rfl | (simp only [List.length_drop, List.length_take]; rfl)) ?_; (with_reducible refine (spec_l4Copy.calls _ _ l1 t1044 _ ?side1 ?side2 A7.out).mono ?_); (case side1 => exact Kd.C_kept_now HR1.out (by repeat (first | (with_reducible first | exact HK.out | apply Kept.alloc | apply Kept.drewN | apply Kept.drew) | exact HK.out))); (case side2 => exact HC1.out); rintro e w11 ⟨v1045, rfl, ho0, hb⟩; refine ⟨_, rfl, ?_⟩; have n0_ := Aside0.mk (Kd.S_elder' (by (with_reducible repeat (first | apply Kd.S_alloc | apply Kd.S_drewN | apply Kd.S_drew)); exact HO0.out) (Kd.R_base ho0) hb); have n1_ := Aside0.mk (Kd.R_lower (Kd.R_newM (M := fun k_ => (P0_ k_ ∨ w.heap.size ≤ k_)) ho0 (by first | exact HK.out.1 | exact (show Kept w _ (fun k_ => P0_ k_) from by repeat (first | (with_reducible first | exact HK.out | apply Kept.alloc | apply Kept.drewN | apply Kept.drew) | exact HK.out)).1) (fun k_ h_ => .inr h_)) (below_size (by repeat (first | (with_reducible first | exact HB.out | apply below_alloc | apply pw_below_drewN | apply below_drew1) | exact HB.out)))); have n2_ := Aside0.mk (Kept.below (S := (fun k_ => P0_ k_)) (by repeat (first | (with_reducible first | exact HK.out | apply Kept.alloc | apply Kept.drewN | apply Kept.drew) | exact HK.out)) hb); have n3_ := Aside0.mk (below_step (by repeat (first | (with_reducible first | exact HB.out | apply below_alloc | apply pw_below_drewN | apply below_drew1) | exact HB.out)) hb); clear HO0; clear HK; clear HB; have HO0 := n0_; have HO1046 := n1_; have HK := n2_; have HB := n3_; clear n0_ n1_ n2_ n3_; (try clear hb); (try clear hb2); (try clear hk); (try clear hi); (try clear ho0)) | ((with_reducible refine gate_callee (f := 126) rfl ?_); refine goesL_ (some 27) rfl rfl Try.func126 (by kernel_rfl) rfl #[.slice A2 l2.length c2] rfl (by (try simp only [List.map_toArray, List.map_cons, List.map_nil]); first | done | rfl | (simp only [List.length_drop, List.length_take]; rfl)) ?_; (with_reducible refine (spec_l4Copy.calls _ _ l2 t1047 _ ?side1 ?side2 A8.out).mono ?_); (case side1 => exact Kd.C_kept_now HR2.out (by repeat (first | (with_reducible first | exact HK.out | apply Kept.alloc | apply Kept.drewN | apply Kept.drew) | exact HK.out))); (case side2 => exact HC2.out); rintro e w12 ⟨v1048, rfl, ho0, hb⟩; refine ⟨_, rfl, ?_⟩; have n0_ := Aside0.mk (Kd.S_elder' (by (with_reducible repeat (first | apply Kd.S_alloc | apply Kd.S_drewN | apply Kd.S_drew)); exact HO0.out) (Kd.R_base ho0) hb); have n1_ := Aside0.mk (Kd.R_elder' (by (with_reducible repeat (first | apply Kd.R_alloc | apply Kd.R_drewN | apply Kd.R_drew)); exact HO1046.out) (Kd.R_base ho0) hb); have n2_ := Aside0.mk (Kd.R_lower (Kd.R_new' (Kd.R_newM (M := fun k_ => (P0_ k_ ∨ w.heap.size ≤ k_)) ho0 (by first | exact HK.out.1 | exact (show Kept w _ (fun k_ => P0_ k_) from by repeat (first | (with_reducible first | exact HK.out | apply Kept.alloc | apply Kept.drewN | apply Kept.drew) | exact HK.out)).1) (fun k_ h_ => .inr h_)) (Kd.R_lt (by (with_reducible repeat (first | apply Kd.R_alloc | apply Kd.R_drewN | apply Kd.R_drew)); exact HO1046.out))) (below_size (by repeat (first | (with_reducible first | exact HB.out | apply below_alloc | apply pw_below_drewN | apply below_drew1) | exact HB.out)))); have n3_ := Aside0.mk (Kept.below (S := (fun k_ => P0_ k_)) (by repeat (first | (with_reducible first | exact HK.out | apply Kept.alloc | apply Kept.drewN | apply Kept.drew) | exact HK.out)) hb); have n4_ := Aside0.mk (below_step (by repeat (first | (with_reducible first | exact HB.out | apply below_alloc | apply pw_below_drewN | apply below_drew1) | exact HB.out)) hb); clear HO0; clear HO1046; clear HK; clear HB; have HO0 := n0_; have HO1046 := n1_; have HO1049 := n2_; have HK := n3_; have HB := n4_; clear n0_ n1_ n2_ n3_ n4_; (try clear hb); (try clear hb2); (try clear hk); (try clear hi); (try clear ho0)) | ((with_reducible refine gate_callee (f := 126) rfl ?_); refine goesL_ (some 29) rfl rfl Try.func126 (by kernel_rfl) rfl #[.slice A3 l3.length c3] rfl (by (try simp only [List.map_toArray, List.map_cons, List.map_nil]); first | done | rfl | (simp only [List.length_drop, List.length_take]; rfl)) ?_; (with_reducible refine (spec_l4Copy.calls _ _ l3 t1050 _ ?side1 ?side2 A9.out).mono ?_); (case side1 => exact Kd.C_kept_now HR3.out (by repeat (first | (with_reducible first | exact HK.out | apply Kept.alloc | apply Kept.drewN | apply Kept.drew) | exact HK.out))); (case side2 => exact HC3.out); rintro e w13 ⟨v1051, rfl, ho0, hb⟩; refine ⟨_, rfl, ?_⟩; have n0_ := Aside0.mk (Kd.S_elder' (by (with_reducible repeat (first | apply Kd.S_alloc | apply Kd.S_drewN | apply Kd.S_drew)); exact HO0.out) (Kd.R_base ho0) hb); have n1_ := Aside0.mk (Kd.R_elder' (by (with_reducible repeat (first | apply Kd.R_alloc | apply Kd.R_drewN | apply Kd.R_drew)); exact HO1046.out) (Kd.R_base ho0) hb); have n2_ := Aside0.mk (Kd.R_elder' (by (with_reducible repeat (first | apply Kd.R_alloc | apply Kd.R_drewN | apply Kd.R_drew)); exact HO1049.out) (Kd.R_base ho0) hb); have n3_ := Aside0.mk (Kd.R_lower (Kd.R_new' (Kd.R_new' (Kd.R_newM (M := fun k_ => (P0_ k_ ∨ w.heap.size ≤ k_)) ho0 (by first | exact HK.out.1 | exact (show Kept w _ (fun k_ => P0_ k_) from by repeat (first | (with_reducible first | exact HK.out | apply Kept.alloc | apply Kept.drewN | apply Kept.drew) | exact HK.out)).1) (fun k_ h_ => .inr h_)) (Kd.R_lt (by (with_reducible repeat (first | apply Kd.R_alloc | apply Kd.R_drewN | apply Kd.R_drew)); exact HO1046.out))) (Kd.R_lt (by (with_reducible repeat (first | apply Kd.R_alloc | apply Kd.R_drewN | apply Kd.R_drew)); exact HO1049.out))) (below_size (by repeat (first | (with_reducible first | exact HB.out | apply below_alloc | apply pw_below_drewN | apply below_drew1) | exact HB.out)))); have n4_ := Aside0.mk (Kept.below (S := (fun k_ => P0_ k_)) (by repeat (first | (with_reducible first | exact HK.out | apply Kept.alloc | apply Kept.drewN | apply Kept.drew) | exact HK.out)) hb); have n5_ := Aside0.mk (below_step (by repeat (first | (with_reducible first | exact HB.out | apply below_alloc | apply pw_below_drewN | apply below_drew1) | exact HB.out)) hb); clear HO0; clear HO1046; clear HO1049; clear HK; clear HB; have HO0 := n0_; have HO1046 := n1_; have HO1049 := n2_; have HO1052 := n3_; have HK := n4_; have HB := n5_; clear n0_ n1_ n2_ n3_ n4_ n5_; (try clear hb); (try clear hb2); (try clear hk); (try clear hi); (try clear ho0); obtain ⟨Ao14, co14, eo14⟩ := Kd.R_slice HO1052.out; subst eo14; obtain ⟨Ao15, co15, eo15⟩ := Kd.R_slice HO1049.out; subst eo15; obtain ⟨Ao16, co16, eo16⟩ := Kd.R_slice HO1046.out; subst eo16) | ((with_reducible refine gate_builtin (b := .append) (xs := #[.tmp 19, .tmp 31]) rfl ?_); at_builtin; refine Kd.S_append k58 (w0 := w0) w0.heap.size rfl (.tmp 19) (.tmp 31) 47 58 (.agg #[(.int .i64 0), (.slice none 0 0), (.slice none 0 0), (.slice none 0 0)]) 80 rfl Try.underlying47 info58 rfl (by decide) (by omega) u9000_ l0 (⟨t1043, t1044, t1047, t1050⟩ : S58) [.int .i64 t1043, .slice Ao16 t1044.length co16, .slice Ao15 t1047.length co15, .slice Ao14 t1050.length co14] (fun k_ => (P0_ k_ ∨ w.heap.size ≤ k_)) (fun k_ => some k_ = (.slice Ao16 t1044.length co16 : Value).ownBlock ∨ some k_ = (.slice Ao15 t1047.length co15 : Value).ownBlock ∨ some k_ = (.slice Ao14 t1050.length co14 : Value).ownBlock) rfl rfl ?aP ?aK ?aF ?aO ?aB ?aS ?aL ?_; (case aP => exact k58_mkM _ _ _ (⟨t1043, t1044, t1047, t1050⟩ : S58) (Kd.R_mono (Kd.R_tight rfl HO1046.out) (fun _ h_ => Or.inl h_)) (Kd.R_mono (Kd.R_tight rfl HO1049.out) (fun _ h_ => Or.inr (Or.inl h_))) (Kd.R_mono (Kd.R_tight rfl HO1052.out) (fun _ h_ => Or.inr (Or.inr h_))) (hD := ⟨fun k e => ⟨fun e2 => (HO1046.out.1 k e).1.2 e2.symm, fun e2 => (HO1046.out.1 k e).2 e2.symm⟩, fun k e e2 => (HO1049.out.1 k e).2 e2.symm⟩)); (case aK => exact fun k_ hk_ => hk_.elim (fun h_ => ⟨(HO1046.out.1 k_ h_.symm).1.1.1, ((Kd.R_apart' HO1046.out (Kd.S_typed HO0.out) (by decide)).1 k_ h_.symm).2⟩) (fun hk_ => hk_.elim (fun h_ => ⟨(HO1049.out.1 k_ h_.symm).1.1.1, ((Kd.R_apart' HO1049.out (Kd.S_typed HO0.out) (by decide)).1 k_ h_.symm).2⟩) (fun h_ => ⟨(HO1052.out.1 k_ h_.symm).1.1.1, ((Kd.R_apart' HO1052.out (Kd.S_typed HO0.out) (by decide)).1 k_ h_.symm).2⟩))); (case aB => exact (by repeat (first | (with_reducible first | exact HB.out | apply below_alloc | apply pw_below_drewN | apply below_drew1) | exact HB.out))); (case aF => exact (fun k_ hk => (.inr (Nat.le_trans (by first | exact HK.out.1 | exact (show Kept w _ (fun k_ => P0_ k_) from by repeat (first | (with_reducible first | exact HK.out | apply Kept.alloc | apply Kept.drewN | apply Kept.drew) | exact HK.out)).1) hk)))); (case aO => exact (by (with_reducible repeat (first | apply Kd.S_alloc | apply Kd.S_drewN | apply Kd.S_drew)); exact Kd.S_mono HO0.out (fun k_ hk => ⟨hk.1.1.1, fun e_ => e_.elim (fun h_ => hk.1.1.2 h_) (fun e_ => e_.elim (fun h_ => hk.1.2 h_) (fun h_ => hk.2 h_))⟩))); (case aS => exact (below_size (by repeat (first | (with_reducible first | exact HB.out | apply below_alloc | apply pw_below_drewN | apply below_drew1) | exact HB.out)))); (case aL => have := LMc10.out; omega); intro v1054 w17 ho hb hg hat; rw [← Ny1053.out] at ho; have n0_ := Aside0.mk hb; have n1_ := Aside0.mk (Kept.of_grown (S := (fun k_ => P0_ k_)) hg (by repeat (first | (with_reducible first | exact HK.out | apply Kept.alloc | apply Kept.drewN | apply Kept.drew) | exact HK.out)) (fun k_ e_ => ((Kd.S_R HO0.out).1 k_ e_).1.1.1)); have n2_ := Aside0.mk (ho); clear HB; clear HK; clear HO0; clear HO1046; clear HO1049; clear HO1052; have HB := n0_; have HK := n1_; have HO1055 := n2_; clear n0_ n1_ n2_; clear ho hb hg hat))
      go_ret
      exact ⟨_, by first | rfl | (simp [errW_none, errW_some] <;> rfl) | (simp [*, errW_none, errW_some] <;> rfl), by (with_reducible repeat (first | apply Kd.S_alloc | apply Kd.S_drewN | apply Kd.S_drew)); exact HO1055.out, by repeat (first | (with_reducible first | exact HB.out | apply below_alloc | apply pw_below_drewN | apply below_drew1) | exact HB.out), by repeat (first | (with_reducible first | exact HK.out | apply Kept.alloc | apply Kept.drewN | apply Kept.drew) | exact HK.out)⟩
    · rw [if_neg c10] at H
      exact absurd H (by simp)
end Go.Proofs.Ytjngmhngedecdaa.P
end
section
namespace Go.Proofs.Ytjngmhngedecdaa.P
open Go.RowKit Go.Proofs.YtjngmhngedecdaaW.PrintWords Go.Proofs.YtjngmhngedecdaaW.PrintLast Go.Proofs.YtjngmhngedecdaaW.PrintMore
attribute [local go_sem] max2_int min2_int max_two min_two max_three min_three max_four min_four
set_option linter.unusedVariables false
set_option linter.unusedSimpArgs false
mutual
def spec_l4Chunks.l0 : Nat → List ByteArray → List ByteArray → List ByteArray → List Int → List Int → List (S58) → Int → Int → Int → Int → Option ((List (S58)))
 | 0, _, _, _, _, _, _, _, _, _, _ => none
 | k + 1, x0, x1, x2, x7, x8, x9, x10, x11, x12, x13 => spec_l4Chunks.l1 k x0 x1 x2 x7 x8 x9 x10 x11 x12 x13 0
def spec_l4Chunks.j2 : Nat → List ByteArray → List ByteArray → List ByteArray → List Int → List Int → List (S58) → Int → Int → Int → Int → Int → Option ((List (S58)))
 | 0, _, _, _, _, _, _, _, _, _, _, _ => none
 | k + 1, x0, x1, x2, x7, x8, x9, x10, x11, x12, x13, x14 => if 0 ≤ x10 then (if x10 ≤ (wrap64 (x10 + x14)) then (if (wrap64 (x10 + x14)) ≤ (x0.length : Int) then (if 0 ≤ x11 then (if x11 ≤ (wrap64 (x11 + x14)) then (if (wrap64 (x11 + x14)) ≤ (x1.length : Int) then (if 0 ≤ x12 then (if x12 ≤ (wrap64 (x12 + x14)) then (if (wrap64 (x12 + x14)) ≤ (x2.length : Int) then ((spec_l4Put.f k x9 ((x0.take ((wrap64 (x10 + x14)) : Int).toNat).drop (x10 : Int).toNat) ((x1.take ((wrap64 (x11 + x14)) : Int).toNat).drop (x11 : Int).toNat) ((x2.take ((wrap64 (x12 + x14)) : Int).toNat).drop (x12 : Int).toNat)).bind fun t1181 => (spec_l4Chunks.l2 k x0 x1 x2 x7 x8 t1181 (wrap64 (x10 + x14)) (wrap64 (x11 + x14)) (wrap64 (x12 + x14)) x13 (wrap64 (x10 + x14)))) else (none)) else (none)) else (none)) else (none)) else (none)) else (none)) else (none)) else (none)) else (none)
def spec_l4Chunks.j4 : Nat → List ByteArray → List ByteArray → List ByteArray → List Int → List Int → List (S58) → Int → Int → Int → Int → Int → Option ((List (S58)))
 | 0, _, _, _, _, _, _, _, _, _, _, _ => none
 | k + 1, x0, x1, x2, x7, x8, x9, x10, x11, x12, x13, x15 => if x15 = x13 then (if 0 ≤ x10 then (if x10 ≤ (x0.length : Int) then (if 0 ≤ x11 then (if x11 ≤ (x1.length : Int) then (if 0 ≤ x12 then (if x12 ≤ (x2.length : Int) then ((spec_l4Put.f k x9 (x0.drop (x10 : Int).toNat) (x1.drop (x11 : Int).toNat) (x2.drop (x12 : Int).toNat)).bind fun t1189 => (some t1189)) else (none)) else (none)) else (none)) else (none)) else (none)) else (none)) else (if 0 ≤ x10 then (if x10 ≤ x15 then (if x15 ≤ (x0.length : Int) then (if 0 ≤ x15 then (if x15 < (x7.length : Int) then (if 0 ≤ x11 then (if x11 ≤ (rd x7 x15) then (if (rd x7 x15) ≤ (x1.length : Int) then (if x15 < (x8.length : Int) then (if 0 ≤ x12 then (if x12 ≤ (rd x8 x15) then (if (rd x8 x15) ≤ (x2.length : Int) then ((spec_l4Put.f k x9 ((x0.take (x15 : Int).toNat).drop (x10 : Int).toNat) ((x1.take ((rd x7 x15) : Int).toNat).drop (x11 : Int).toNat) ((x2.take ((rd x8 x15) : Int).toNat).drop (x12 : Int).toNat)).bind fun t1197 => (spec_l4Chunks.l0 k x0 x1 x2 x7 x8 t1197 x15 (rd x7 x15) (rd x8 x15) x13)) else (none)) else (none)) else (none)) else (none)) else (none)) else (none)) else (none)) else (none)) else (none)) else (none)) else (none)) else (none))
def spec_l4Chunks.l2 : Nat → List ByteArray → List ByteArray → List ByteArray → List Int → List Int → List (S58) → Int → Int → Int → Int → Int → Option ((List (S58)))
 | 0, _, _, _, _, _, _, _, _, _, _, _ => none
 | k + 1, x0, x1, x2, x7, x8, x9, x10, x11, x12, x13, x15 => if x15 < x13 then (if 0 ≤ x15 then (if x15 < (x7.length : Int) then (if (rd x7 x15) < 0 then (spec_l4Chunks.l2 k x0 x1 x2 x7 x8 x9 x10 x11 x12 x13 (wrap64 (x15 + 1))) else (if x15 < (x8.length : Int) then (if (rd x8 x15) < 0 then (spec_l4Chunks.l2 k x0 x1 x2 x7 x8 x9 x10 x11 x12 x13 (wrap64 (x15 + 1))) else (spec_l4Chunks.j4 k x0 x1 x2 x7 x8 x9 x10 x11 x12 x13 x15)) else (none))) else (none)) else (none)) else (spec_l4Chunks.j4 k x0 x1 x2 x7 x8 x9 x10 x11 x12 x13 x15)
def spec_l4Chunks.l1 : Nat → List ByteArray → List ByteArray → List ByteArray → List Int → List Int → List (S58) → Int → Int → Int → Int → Int → Option ((List (S58)))
 | 0, _, _, _, _, _, _, _, _, _, _, _ => none
 | k + 1, x0, x1, x2, x7, x8, x9, x10, x11, x12, x13, x14 => if (wrap64 (x10 + x14)) < x13 then (if 0 ≤ (wrap64 (x10 + x14)) then (if (wrap64 (x10 + x14)) < (x7.length : Int) then (if (rd x7 (wrap64 (x10 + x14))) = (wrap64 (x11 + x14)) then (if (wrap64 (x10 + x14)) < (x8.length : Int) then (if (rd x8 (wrap64 (x10 + x14))) = (wrap64 (x12 + x14)) then (spec_l4Chunks.l1 k x0 x1 x2 x7 x8 x9 x10 x11 x12 x13 (wrap64 (x14 + 1))) else (spec_l4Chunks.j2 k x0 x1 x2 x7 x8 x9 x10 x11 x12 x13 x14)) else (none)) else (spec_l4Chunks.j2 k x0 x1 x2 x7 x8 x9 x10 x11 x12 x13 x14)) else (none)) else (none)) else (spec_l4Chunks.j2 k x0 x1 x2 x7 x8 x9 x10 x11 x12 x13 x14)
end
def spec_l4Chunks.f (k : Nat) (l0 : List ByteArray) (l1 : List ByteArray) (l2 : List ByteArray) : Option ((List (S58))) := (spec_l4Partner.f k l0 l1).bind fun t1167 => ((spec_l4Partner.f k l0 l2).bind fun t1170 => (spec_l4Chunks.l0 k l0 l1 l2 t1167 t1170 (([] : List (S58))) 0 0 0 (l0.length : Int)))
def spec_l4Chunks.T11 : Bool × List (List Nat × List Nat) := (true, [([], []), ([], []), ([], []), ([], []), ([], []), ([3, 4], [3, 4]), ([1, 2, 5], [1, 2, 5]), ([], []), ([], []), ([], []), ([], []), ([9, 10], [9, 10]), ([7, 8, 11], [7, 8, 11]), ([], []), ([], []), ([], []), ([], []), ([15, 16], [15, 16]), ([13, 14, 17], [13, 14, 17]), ([0, 6, 12, 18], [0, 6, 12, 18]), ([19, 19, 0, 1, 2, 3, 4, 5, 6, 7, 8, 9, 10, 11, 12, 13, 14, 15, 16, 17, 18, 19], [0, 19])])
def spec_l4Chunks.B11 : List Nat := [0, 0, 0, 0, 0, 24, 62, 0, 0, 0, 0, 1536, 3968, 0, 0, 0, 0, 98304, 253952, 524287, 1048575]
theorem spec_l4Chunks.tab11 : rtab .any (opsOf Try.f99 11) = spec_l4Chunks.T11 := by kernel_rfl
theorem spec_l4Chunks.bits11 : waitsOk spec_l4Chunks.T11.2 spec_l4Chunks.B11 = true := by kernel_rfl
def spec_l4Chunks.T19 : Bool × List (List Nat × List Nat) := (true, [([], []), ([], []), ([], []), ([1, 2], [1, 2]), ([], []), ([], []), ([4, 5], [4, 5]), ([], []), ([], []), ([7, 8], [7, 8]), ([0, 3, 6, 9], [0, 3, 6, 9]), ([10, 10, 0, 1, 2, 3, 4, 5, 6, 7, 8, 9, 10], [10])])
def spec_l4Chunks.B19 : List Nat := [0, 0, 0, 6, 0, 0, 48, 0, 0, 384, 1023, 2047]
theorem spec_l4Chunks.tab19 : rtab .any (opsOf Try.f99 19) = spec_l4Chunks.T19 := by kernel_rfl
theorem spec_l4Chunks.bits19 : waitsOk spec_l4Chunks.T19.2 spec_l4Chunks.B19 = true := by kernel_rfl
def spec_l4Chunks.T20 : Bool × List (List Nat × List Nat) := (true, [([], []), ([], []), ([], []), ([], []), ([1, 2, 3], [1, 2, 3]), ([], []), ([], []), ([], []), ([], []), ([7, 8], [7, 8]), ([9], [9]), ([5, 6, 10], [5, 6, 10]), ([], []), ([], []), ([], []), ([], []), ([14, 15], [14, 15]), ([16], [16]), ([12, 13, 17], [12, 13, 17]), ([0, 4, 11, 18], [0, 4, 11, 18]), ([19, 19, 0, 1, 2, 3, 4, 5, 6, 7, 8, 9, 10, 11, 12, 13, 14, 15, 16, 17, 18, 19], [0, 19])])
def spec_l4Chunks.B20 : List Nat := [0, 0, 0, 0, 14, 0, 0, 0, 0, 384, 896, 2016, 0, 0, 0, 0, 49152, 114688, 258048, 524287, 1048575]
theorem spec_l4Chunks.tab20 : rtab .any (opsOf Try.f99 20) = spec_l4Chunks.T20 := by kernel_rfl
theorem spec_l4Chunks.bits20 : waitsOk spec_l4Chunks.T20.2 spec_l4Chunks.B20 = true := by kernel_rfl
set_option maxHeartbeats 8000000 in
set_option maxRecDepth 100000 in
theorem spec_l4Chunks.calls (k : Nat) (A0 : Option Addr) (c0 : Nat) (l0 : List ByteArray) (A1 : Option Addr) (c1 : Nat) (l1 : List ByteArray) (A2 : Option Addr) (c2 : Nat) (l2 : List ByteArray) (r : List (S58)) (w : World) (hr0 : Kd.C Kd.string w A0 l0.length l0) (hc0 : l0.length ≤ c0) (hr1 : Kd.C Kd.string w A1 l1.length l1) (hc1 : l1.length ≤ c1) (hr2 : Kd.C Kd.string w A2 l2.length l2) (hc2 : l2.length ≤ c2) (h : spec_l4Chunks.f k l0 l1 l2 = some r) :
  Calls Try.prog 99 #[.slice A0 l0.length c0, .slice A1 l1.length c1, .slice A2 l2.length c2] w fun e w' => ∃ v0_ : Value, e = .returned (v0_) ∧ Kd.S k58 58 w' w.heap.size (fun _ => True) v0_ r ∧ Below w.heap.size w w' := by
 have HR0 := Aside0.mk hr0;have HC0 := Aside0.mk hc0;clear hr0 hc0;have HR1 := Aside0.mk hr1;have HC1 := Aside0.mk hc1;clear hr1 hc1;have HR2 := Aside0.mk hr2;have HC2 := Aside0.mk hc2;clear hr2 hc2;have HB := Aside0.mk (Below.refl w.heap.size w);have H : ((spec_l4Partner.f k l0 l1).bind fun t1167 => ((spec_l4Partner.f k l0 l2).bind fun t1170 => (spec_l4Chunks.l0 k l0 l1 l2 t1167 t1170 (([] : List (S58))) 0 0 0 (l0.length : Int)))) = some r := h;clear h;replace H := Option.bind_eq_some_iff.mp H;obtain ⟨t1167, A40, H⟩ := H;replace H : ((spec_l4Partner.f k l0 l2).bind fun t1170 => (spec_l4Chunks.l0 k l0 l1 l2 t1167 t1170 (([] : List (S58))) 0 0 0 (l0.length : Int))) = some r := H;have A4 := Aside0.mk A40;clear A40;replace H := Option.bind_eq_some_iff.mp H;obtain ⟨t1170, A50, H⟩ := H;replace H : (spec_l4Chunks.l0 k l0 l1 l2 t1167 t1170 (([] : List (S58))) 0 0 0 (l0.length : Int)) = some r := H;have A5 := Aside0.mk A50;clear A50;obtain ⟨y1173, hy1173⟩ : ∃ y_ : List (S58), y_ = (([] : List (S58))) := ⟨_, rfl⟩;(replace H : (spec_l4Chunks.l0 k l0 l1 l2 t1167 t1170 y1173 0 0 0 (l0.length : Int)) = some r := by first | (rw [hy1173];with_reducible exact H) | (have H2_ := (Option.bind_some _ _).symm.trans H;rw [hy1173];with_reducible exact H2_) | (have H2_ := (Option.bind_some _ _).symm.trans H;with_reducible exact H2_) | with_reducible exact H | (rw [hy1173];exact H) | exact H);have Ny1173 := Aside0.mk hy1173;clear hy1173;have H' := Aside0.mk H;clear H;go_enter Try.func99, Try.ntmps99;go_wp2_with (first | ((with_reducible refine gate_callee (f := 128) rfl ?_);refine goesL_ (some 18) rfl rfl Try.func128 (by kernel_rfl) rfl #[.slice A0 l0.length c0, .slice A1 l1.length c1] rfl lf_ ?_;(with_reducible refine (spec_l4Partner.calls k _ _ l0 _ _ l1 t1167 _ ?side1 ?side2 ?side3 ?side4 A4.out).mono ?_);(case side1 => exact rc_ HR0.out);(case side2 => exact HC0.out);(case side3 => exact rc_ HR1.out);(case side4 => exact HC1.out);rintro e w6 ⟨v1168, rfl, ho0, hb⟩;refine ⟨_, rfl, ?_⟩;have n0_ := Aside0.mk (Kd.R_lower ho0 (below_size (bw_ HB.out)));have n1_ := Aside0.mk (below_step (bw_ HB.out) hb);clear HB;have HO1169 := n0_;have HB := n1_;clear n0_ n1_;(try clear hb);(try clear hb2);(try clear hk);(try clear hi);(try clear ho0)) | ((with_reducible refine gate_callee (f := 128) rfl ?_);refine goesL_ (some 21) rfl rfl Try.func128 (by kernel_rfl) rfl #[.slice A0 l0.length c0, .slice A2 l2.length c2] rfl lf_ ?_;(with_reducible refine (spec_l4Partner.calls k _ _ l0 _ _ l2 t1170 _ ?side1 ?side2 ?side3 ?side4 A5.out).mono ?_);(case side1 => exact rc_ (Kd.C_below HR0.out HB.out));(case side2 => exact HC0.out);(case side3 => exact rc_ (Kd.C_below HR2.out HB.out));(case side4 => exact HC2.out);rintro e w7 ⟨v1171, rfl, ho0, hb⟩;refine ⟨_, rfl, ?_⟩;have n0_ := Aside0.mk (Kd.R_elder' (rr_ HO1169.out) (Kd.R_base ho0) hb);have n1_ := Aside0.mk (Kd.R_lower (Kd.R_new' ho0 (Kd.R_lt (rr_ HO1169.out))) (below_size (bw_ HB.out)));have n2_ := Aside0.mk (below_step (bw_ HB.out) hb);clear HO1169;clear HB;have HO1169 := n0_;have HO1172 := n1_;have HB := n2_;clear n0_ n1_ n2_;(try clear hb);(try clear hb2);(try clear hk);(try clear hi);(try clear ho0)) | ((with_reducible refine gate_dst (N := 22) rfl ?_);refine Kd.S_lit k58 _ 58 ?hg (N := 22) ?hd (xs := ([] : List (S58))) (inner := []) (ok := fun _ => True) (okp := fun _ => True) ?hr ?hp (fun _ hk => hk) trivial (Below.refl _ _) (Nat.le_refl _) (by simp) ?_;(case hd => rfl);(case hg => rfl);(case hr => first | (go_simp;done) | (go_simp;rfl));(case hp => exact (Reps.none _ _));intro v1174 w8 ho9 hb hg_ hnew_;clear hg_ hnew_;(first | rw [← Ny1173.out] at ho9 | (simp only [Int.reduceToNat] at ho9;rw [← Ny1173.out] at ho9));have n0_ := Aside0.mk (Kd.R_below (rr_ HO1169.out) hb);have n1_ := Aside0.mk (Kd.R_below (rr_ HO1172.out) hb);have n2_ := Aside0.mk (Kd.S_lower ho9 (below_size (bw_ HB.out)));have n3_ := Aside0.mk (below_step (bw_ HB.out) hb);clear HO1169;clear HO1172;clear HB;have HO1169 := n0_;have HO1172 := n1_;have HO1175 := n2_;have HB := n3_;clear n0_ n1_ n2_ n3_;clear hb ho9));go_loopg [9, 10, 11, 12] k (fun kq v9 v10 v11 v12 w' => ∃ (x9_1 : List (S58)) (x10_1 : Int) (x11_1 : Int) (x12_1 : Int), v10 = .int .i64 x10_1 ∧ v11 = .int .i64 x11_1 ∧ v12 = .int .i64 x12_1 ∧ Aside0 (spec_l4Chunks.l0 kq l0 l1 l2 t1167 t1170 x9_1 x10_1 x11_1 x12_1 (l0.length : Int) = some r) ∧ Aside0 (kq ≤ k) ∧ Aside0 (Kd.R (Kd.int .i64) 2 w' w.heap.size (fun k_ => some k_ ≠ (v1171 : Value).ownBlock) v1168 t1167) ∧ Aside0 (Kd.R (Kd.int .i64) 2 w' w.heap.size (fun k_ => some k_ ≠ (v1168 : Value).ownBlock) v1171 t1170) ∧ Aside0 (Kd.S k58 58 w' w.heap.size (fun _ => True) v9 x9_1) ∧ Aside0 (Below w.heap.size w w'));(case atStart => exact ⟨(y1173), (0), (0), (0), ls_, ls_, ls_, H', ⟨Nat.le_refl _⟩, ⟨by (with_reducible repeat (first | apply Kd.R_alloc | apply Kd.R_drewN | apply Kd.R_drew));exact Kd.R_mono HO1169.out (fun _ hk => hk.2)⟩, ⟨by (with_reducible repeat (first | apply Kd.R_alloc | apply Kd.R_drewN | apply Kd.R_drew));exact Kd.R_mono HO1172.out (fun _ hk => hk.2)⟩, ⟨rs_ HO1175.out⟩, ⟨bw_ HB.out⟩⟩)
 case round =>
  clear H'
  try clear c1
  try clear c2
  try clear p2
  try clear c9
  obtain ⟨x9_1, x10_1, x11_1, x12_1, rfl, rfl, rfl, HA, HK1, HO_7, HO_8, HO_9, HB⟩ := hrel
  cases gk with
  | zero => exact absurd HA.out (by simp [spec_l4Chunks.l0])
  | succ k1 =>
   have H := HA.out
   clear HA
   simp only [spec_l4Chunks.l0] at H
   have HC10 := Aside0.mk H
   clear H
   go_upto_block 2 with (fail)
   go_cut [14] (fun v14 wc => ∃ (kq : Nat) (x14_9 : Int), v14 = .int .i64 x14_9 ∧ Aside0 (spec_l4Chunks.j2 kq l0 l1 l2 t1167 t1170 x9_1 x10_1 x11_1 x12_1 (l0.length : Int) x14_9 = some r) ∧ Aside0 (kq ≤ k1) ∧ Aside0 (Kd.R (Kd.int .i64) 2 wc w.heap.size (fun k_ => some k_ ≠ (v1171 : Value).ownBlock) v1168 t1167) ∧ Aside0 (Kd.R (Kd.int .i64) 2 wc w.heap.size (fun k_ => some k_ ≠ (v1168 : Value).ownBlock) v1171 t1170) ∧ Aside0 (Kd.S k58 58 wc w.heap.size (fun _ => True) u9 x9_1) ∧ Aside0 (Below w.heap.size w wc))
   case first =>
    have H := HC10.out
    clear HC10
    have H' := Aside0.mk H
    clear H
    go_wp2
    go_loopg [14] k1 (fun kq v14 w' => ∃ (x14_2 : Int), v14 = .int .i64 x14_2 ∧ Aside0 (spec_l4Chunks.l1 kq l0 l1 l2 t1167 t1170 x9_1 x10_1 x11_1 x12_1 (l0.length : Int) x14_2 = some r) ∧ Aside0 (kq ≤ k1) ∧ Aside0 (Kd.R (Kd.int .i64) 2 w' w.heap.size (fun k_ => some k_ ≠ (v1171 : Value).ownBlock) v1168 t1167) ∧ Aside0 (Kd.R (Kd.int .i64) 2 w' w.heap.size (fun k_ => some k_ ≠ (v1168 : Value).ownBlock) v1171 t1170) ∧ Aside0 (Kd.S k58 58 w' w.heap.size (fun _ => True) u9 x9_1) ∧ Aside0 (Below w.heap.size w w'))
    case atStart => exact ⟨(0), ls_, H', ⟨Nat.le_refl _⟩, ⟨rr_ HO_7.out⟩, ⟨rr_ HO_8.out⟩, ⟨rs_ HO_9.out⟩, ⟨bw_ HB.out⟩⟩
    case round =>
     clear H'
     try clear c1
     try clear c2
     try clear p2
     try clear c9
     try clear p2
     obtain ⟨x14_2, rfl, HA, HK2, HO_7, HO_8, HO_9, HB⟩ := hrel
     cases gk with
     | zero => exact absurd HA.out (by simp [spec_l4Chunks.l1])
     | succ k2 =>
      have H := HA.out
      clear HA
      simp only [spec_l4Chunks.l1] at H
      by_cases c11 : (wrap64 (x10_1 + x14_2)) < (l0.length : Int)
      ·rw [if_pos c11] at H
       have c11b0 : decide ((wrap64 (x10_1 + x14_2)) < (l0.length : Int)) = true := decide_eq_true c11
       clear c11
       (first | rw [c11b0] | (simp only [i64_w, i32_w];rw [c11b0]) | skip)
       obtain ⟨ji12, hji12⟩ : ∃ j_ : Int, (wrap64 (x10_1 + x14_2)) = j_ := ⟨_, rfl⟩
       replace H : (if 0 ≤ (ji12) then (if (ji12) < (t1167.length : Int) then (if (rd t1167 (ji12)) = (wrap64 (x11_1 + x14_2)) then (if (ji12) < (t1170.length : Int) then (if (rd t1170 (ji12)) = (wrap64 (x12_1 + x14_2)) then (spec_l4Chunks.l1 k2 l0 l1 l2 t1167 t1170 x9_1 x10_1 x11_1 x12_1 (l0.length : Int) (wrap64 (x14_2 + 1))) else (spec_l4Chunks.j2 k2 l0 l1 l2 t1167 t1170 x9_1 x10_1 x11_1 x12_1 (l0.length : Int) x14_2)) else (none)) else (spec_l4Chunks.j2 k2 l0 l1 l2 t1167 t1170 x9_1 x10_1 x11_1 x12_1 (l0.length : Int) x14_2)) else (none)) else (none)) = some r := by first | (rw [hji12] at H;exact H) | (simp only [hji12] at H ⊢;exact H)
       (try rw [hji12] at c11b0)
       have hji12w : (IntKind.i64.wrap (x10_1 + x14_2)) = ji12 := (i64_w _).trans hji12
       by_cases c13 : 0 ≤ (ji12)
       ·rw [if_pos c13] at H
        have c13b0 : decide (0 ≤ (ji12)) = true := decide_eq_true c13
        clear c13
        by_cases c14 : (ji12) < (t1167.length : Int)
        ·rw [if_pos c14] at H
         have c14b0 : decide ((ji12) < (t1167.length : Int)) = true := decide_eq_true c14
         clear c14
         by_cases c15 : (rd t1167 (ji12)) = (wrap64 (x11_1 + x14_2))
         ·rw [if_pos c15] at H
          have c15b0 : ((rd t1167 (ji12)) == (wrap64 (x11_1 + x14_2))) = true := beq_iff_eq.mpr c15
          have c15b1 : ((rd t1167 (ji12)) != (wrap64 (x11_1 + x14_2))) = false := bne_eq_false_iff_eq.mpr c15
          clear c15
          by_cases c16 : (ji12) < (t1170.length : Int)
          ·rw [if_pos c16] at H
           have c16b0 : decide ((ji12) < (t1170.length : Int)) = true := decide_eq_true c16
           clear c16
           by_cases c17 : (rd t1170 (ji12)) = (wrap64 (x12_1 + x14_2))
           ·rw [if_pos c17] at H
            have c17b0 : ((rd t1170 (ji12)) == (wrap64 (x12_1 + x14_2))) = true := beq_iff_eq.mpr c17
            have c17b1 : ((rd t1170 (ji12)) != (wrap64 (x12_1 + x14_2))) = false := bne_eq_false_iff_eq.mpr c17
            clear c17
            have H' := Aside0.mk H
            clear H
            obtain ⟨Ao18, co18, eo18⟩ := Kd.R_slice HO_7.out
            subst eo18
            have p1176 : 0 ≤ ((ji12) : Int) := od_
            have q1176 : (ji12) < (t1167.length : Int) := od_
            obtain ⟨ad1176, e1176, hx1176_0⟩ := Kd.at_int (Kd.R_reads' HO_7.out).2.2 (ji12) p1176 q1176
            cases e1176
            replace p1176 := eq_true p1176
            replace q1176 := eq_true q1176
            obtain ⟨Ao19, co19, eo19⟩ := Kd.R_slice HO_8.out
            subst eo19
            have p1177 : 0 ≤ ((ji12) : Int) := od_
            have q1177 : (ji12) < (t1170.length : Int) := od_
            obtain ⟨ad1177, e1177, hx1177_0⟩ := Kd.at_int (Kd.R_reads' HO_8.out).2.2 (ji12) p1177 q1177
            cases e1177
            replace p1177 := eq_true p1177
            replace q1177 := eq_true q1177
            go_wp2
            go_roundg k2
            case measure => have := HK1.out;have := HK2.out;omega
            case rel => exact ⟨(wrap64 (x14_2 + 1)), ls_, H', ⟨by have := HK1.out;have := HK2.out;omega⟩, ⟨rr_ HO_7.out⟩, ⟨rr_ HO_8.out⟩, ⟨rs_ HO_9.out⟩, ⟨bw_ HB.out⟩⟩
           ·rw [if_neg c17] at H
            have c17b0 : ((rd t1170 (ji12)) == (wrap64 (x12_1 + x14_2))) = false := beq_eq_false_iff_ne.mpr c17
            have c17b1 : ((rd t1170 (ji12)) != (wrap64 (x12_1 + x14_2))) = true := bne_iff_ne.mpr c17
            have H' := Aside0.mk H
            clear H
            obtain ⟨Ao20, co20, eo20⟩ := Kd.R_slice HO_7.out
            subst eo20
            have p1176 : 0 ≤ ((ji12) : Int) := od_
            have q1176 : (ji12) < (t1167.length : Int) := od_
            obtain ⟨ad1176, e1176, hx1176_0⟩ := Kd.at_int (Kd.R_reads' HO_7.out).2.2 (ji12) p1176 q1176
            cases e1176
            replace p1176 := eq_true p1176
            replace q1176 := eq_true q1176
            obtain ⟨Ao21, co21, eo21⟩ := Kd.R_slice HO_8.out
            subst eo21
            have p1177 : 0 ≤ ((ji12) : Int) := od_
            have q1177 : (ji12) < (t1170.length : Int) := od_
            obtain ⟨ad1177, e1177, hx1177_0⟩ := Kd.at_int (Kd.R_reads' HO_8.out).2.2 (ji12) p1177 q1177
            cases e1177
            replace p1177 := eq_true p1177
            replace q1177 := eq_true q1177
            go_wp2
            go_meet
            case rel => exact ⟨_, (x14_2), ls_, H', ⟨by have := HK1.out;have := HK2.out;first | omega | exact Nat.le_refl _⟩, ⟨rr_ HO_7.out⟩, ⟨rr_ HO_8.out⟩, ⟨rs_ HO_9.out⟩, ⟨bw_ HB.out⟩⟩
          ·rw [if_neg c16] at H
           exact absurd H (by simp)
         ·rw [if_neg c15] at H
          have c15b0 : ((rd t1167 (ji12)) == (wrap64 (x11_1 + x14_2))) = false := beq_eq_false_iff_ne.mpr c15
          have c15b1 : ((rd t1167 (ji12)) != (wrap64 (x11_1 + x14_2))) = true := bne_iff_ne.mpr c15
          have H' := Aside0.mk H
          clear H
          obtain ⟨Ao22, co22, eo22⟩ := Kd.R_slice HO_7.out
          subst eo22
          have p1176 : 0 ≤ ((ji12) : Int) := od_
          have q1176 : (ji12) < (t1167.length : Int) := od_
          obtain ⟨ad1176, e1176, hx1176_0⟩ := Kd.at_int (Kd.R_reads' HO_7.out).2.2 (ji12) p1176 q1176
          cases e1176
          replace p1176 := eq_true p1176
          replace q1176 := eq_true q1176
          go_wp2
          go_meet
          case rel => exact ⟨_, (x14_2), ls_, H', ⟨by have := HK1.out;have := HK2.out;first | omega | exact Nat.le_refl _⟩, ⟨rr_ HO_7.out⟩, ⟨rr_ HO_8.out⟩, ⟨rs_ HO_9.out⟩, ⟨bw_ HB.out⟩⟩
        ·rw [if_neg c14] at H
         exact absurd H (by simp)
       ·rw [if_neg c13] at H
        exact absurd H (by simp)
      ·rw [if_neg c11] at H
       have c11b0 : decide ((wrap64 (x10_1 + x14_2)) < (l0.length : Int)) = false := decide_eq_false c11
       clear c11
       (first | rw [c11b0] | (simp only [i64_w, i32_w];rw [c11b0]) | skip)
       have H' := Aside0.mk H
       clear H
       go_wp2
       go_meet
       case rel => exact ⟨_, (x14_2), ls_, H', ⟨by have := HK1.out;have := HK2.out;first | omega | exact Nat.le_refl _⟩, ⟨rr_ HO_7.out⟩, ⟨rr_ HO_8.out⟩, ⟨rs_ HO_9.out⟩, ⟨bw_ HB.out⟩⟩
   case rest =>
    clear HC10
    try clear c1
    try clear p1
    try clear q1
    try clear hx1
    try clear c2
    try clear p2
    try clear p6
    try clear c9
    try clear c11
    try clear c11b0
    try clear p11
    try clear q11
    try clear hx11
    try clear c12
    try clear c13
    try clear c13b0
    try clear c14
    try clear c14b0
    try clear c15
    try clear c15b0
    try clear c15b1
    try clear c16
    try clear c16b0
    try clear c17
    try clear c17b0
    try clear c17b1
    try clear hx1176_0
    try clear hx1177_0
    try clear p1176
    try clear p1177
    try clear p2
    try clear q1176
    try clear q1177
    obtain ⟨kq, x14_9, rfl, HA, HJ9, HO_7, HO_8, HO_9, HB⟩ := hcut
    cases kq with
    | zero => exact absurd HA.out (by simp [spec_l4Chunks.j2])
    | succ kj9 =>
     have H := HA.out
     clear HA
     simp only [spec_l4Chunks.j2] at H
     by_cases c23 : 0 ≤ x10_1
     ·rw [if_pos c23] at H
      have c23b0 := eq_true c23
      have c23b1 : decide (0 ≤ x10_1) = true := decide_eq_true c23
      clear c23
      by_cases c24 : x10_1 ≤ (wrap64 (x10_1 + x14_9))
      ·rw [if_pos c24] at H
       have c24b0 := eq_true c24
       have c24b1 : decide (x10_1 ≤ (wrap64 (x10_1 + x14_9))) = true := decide_eq_true c24
       by_cases c25 : (wrap64 (x10_1 + x14_9)) ≤ (l0.length : Int)
       ·rw [if_pos c25] at H
        have c25b0 := eq_true c25
        have c25b1 : decide ((wrap64 (x10_1 + x14_9)) ≤ (l0.length : Int)) = true := decide_eq_true c25
        by_cases c26 : 0 ≤ x11_1
        ·rw [if_pos c26] at H
         have c26b0 := eq_true c26
         have c26b1 : decide (0 ≤ x11_1) = true := decide_eq_true c26
         clear c26
         by_cases c27 : x11_1 ≤ (wrap64 (x11_1 + x14_9))
         ·rw [if_pos c27] at H
          have c27b0 := eq_true c27
          have c27b1 : decide (x11_1 ≤ (wrap64 (x11_1 + x14_9))) = true := decide_eq_true c27
          by_cases c28 : (wrap64 (x11_1 + x14_9)) ≤ (l1.length : Int)
          ·rw [if_pos c28] at H
           have c28b0 := eq_true c28
           have c28b1 : decide ((wrap64 (x11_1 + x14_9)) ≤ (l1.length : Int)) = true := decide_eq_true c28
           by_cases c29 : 0 ≤ x12_1
           ·rw [if_pos c29] at H
            have c29b0 := eq_true c29
            have c29b1 : decide (0 ≤ x12_1) = true := decide_eq_true c29
            clear c29
            by_cases c30 : x12_1 ≤ (wrap64 (x12_1 + x14_9))
            ·rw [if_pos c30] at H
             have c30b0 := eq_true c30
             have c30b1 : decide (x12_1 ≤ (wrap64 (x12_1 + x14_9))) = true := decide_eq_true c30
             by_cases c31 : (wrap64 (x12_1 + x14_9)) ≤ (l2.length : Int)
             ·rw [if_pos c31] at H
              have c31b0 := eq_true c31
              have c31b1 : decide ((wrap64 (x12_1 + x14_9)) ≤ (l2.length : Int)) = true := decide_eq_true c31
              replace H := Option.bind_eq_some_iff.mp H
              obtain ⟨t1181, A320, H⟩ := H
              replace H : (spec_l4Chunks.l2 kj9 l0 l1 l2 t1167 t1170 t1181 (wrap64 (x10_1 + x14_9)) (wrap64 (x11_1 + x14_9)) (wrap64 (x12_1 + x14_9)) (l0.length : Int) (wrap64 (x10_1 + x14_9))) = some r := H
              have A32 := Aside0.mk A320
              clear A320
              have HC33 := Aside0.mk H
              clear H
              try go_wp2
              have n0_ := Aside0.mk (Kd.R_drew HO_7.out)
              have n1_ := Aside0.mk (Kd.R_drew HO_8.out)
              have n2_ := Aside0.mk (Kd.S_drew HO_9.out)
              have n3_ := Aside0.mk (below_drew1 HB.out)
              clear HO_7
              clear HO_8
              clear HO_9
              clear HB
              have HO_7 := n0_
              have HO_8 := n1_
              have HO_9 := n2_
              have HB := n3_
              clear n0_ n1_ n2_ n3_
              obtain ⟨i035, hi035, _, hsz35, _⟩ := info_parts info9
              obtain ⟨A35, hcut35, hA35, hC35⟩ := print_mid_of (P := Try.prog) Value.string (⟨#[]⟩ : ByteArray) 34 9 .i64 .i64 Try.underlying34 hi035 hsz35 A0 c0 l0 x10_1 (wrap64 (x10_1 + x14_9)) od_ (by first | omega | exact od_) od_ HC0.out
              have HR1178 := Aside0.mk (Kd.C_of_reads (h1 := fun _ => rfl) (hA35 _ (Kd.reads_of_C HR0.out)))
              have HC1178 := Aside0.mk hC35
              clear hA35 hC35 hi035 hsz35
              obtain ⟨i036, hi036, _, hsz36, _⟩ := info_parts info9
              obtain ⟨A36, hcut36, hA36, hC36⟩ := print_mid_of (P := Try.prog) Value.string (⟨#[]⟩ : ByteArray) 34 9 .i64 .i64 Try.underlying34 hi036 hsz36 A1 c1 l1 x11_1 (wrap64 (x11_1 + x14_9)) od_ (by first | omega | exact od_) od_ HC1.out
              have HR1179 := Aside0.mk (Kd.C_of_reads (h1 := fun _ => rfl) (hA36 _ (Kd.reads_of_C HR1.out)))
              have HC1179 := Aside0.mk hC36
              clear hA36 hC36 hi036 hsz36
              obtain ⟨i037, hi037, _, hsz37, _⟩ := info_parts info9
              obtain ⟨A37, hcut37, hA37, hC37⟩ := print_mid_of (P := Try.prog) Value.string (⟨#[]⟩ : ByteArray) 34 9 .i64 .i64 Try.underlying34 hi037 hsz37 A2 c2 l2 x12_1 (wrap64 (x12_1 + x14_9)) od_ (by first | omega | exact od_) od_ HC2.out
              have HR1180 := Aside0.mk (Kd.C_of_reads (h1 := fun _ => rfl) (hA37 _ (Kd.reads_of_C HR2.out)))
              have HC1180 := Aside0.mk hC37
              clear hA37 hC37 hi037 hsz37
              obtain ⟨Ao38, co38, eo38⟩ := Kd.S_slice HO_9.out
              (first | subst eo38 | (injection eo38 with f1_ f2_ f3_;have f4_ := f1_.symm;have f5_ := f3_.symm;clear f1_ f2_ f3_;subst f4_;subst f5_))
              refine start_ (n := 21) (S := fun w' => True) (ds := []) (mb_ 21 0) (by kernel_rfl) rfl rfl trivial (fun hHeld => ?_);refine with_tabW spec_l4Chunks.tab11 spec_l4Chunks.bits11 (fun HT_ HW_ => ?_)
              generalize wc.drew = w34 at HO_7 HO_8 HO_9 HB HR1178 HR1179 HR1180 hHeld ⊢
              refine pure_ (i := 0) (N := some 56) (v := ?_) (a' := ?_) (mb_ 21 1) rfl rfl (any_of HT_.out (by kernel_rfl)) (fun _ _ _ h => h) (Or.inl ⟨by rfl, ?_⟩) ?_ ?_
              rotate_left
              ·intro w'
               go_simp
               with_reducible rfl
              rotate_left
              ·simp only [Act.put, s0_, s1_, s2_, i64_w, i32_w]
               rfl
              refine pure_ (i := 1) (N := some 57) (v := ?_) (a' := ?_) (mb_ 21 3) rfl rfl (any_of HT_.out (by kernel_rfl)) (fun _ _ _ h => h) (Or.inl ⟨by rfl, ?_⟩) ?_ ?_
              rotate_left
              ·intro w'
               go_simp
               with_reducible rfl
              rotate_left
              ·simp only [Act.put, s0_, s1_, s2_, i64_w, i32_w]
               rfl
              refine pure_ (i := 2) (N := some 58) (v := ?_) (a' := ?_) (mb_ 21 7) rfl rfl (any_of HT_.out (by kernel_rfl)) (fun _ _ _ h => h) (Or.inl ⟨by rfl, ?_⟩) ?_ ?_
              rotate_left
              ·intro w'
               go_simp
               with_reducible rfl
              rotate_left
              ·simp only [Act.put, s0_, s1_, s2_, i64_w, i32_w]
               rfl
              refine pure_ (i := 3) (N := some 59) (v := ?_) (a' := ?_) (mb_ 21 15) rfl rfl (any_of HT_.out (by kernel_rfl)) (fun _ _ _ h => h) (Or.inl ⟨by rfl, ?_⟩) ?_ ?_
              rotate_left
              ·intro w'
               go_simp
               with_reducible rfl
              rotate_left
              ·simp only [Act.put, s0_, s1_, s2_, i64_w, i32_w]
               rfl
              refine pure_ (i := 4) (N := some 60) (v := ?_) (a' := ?_) (mb_ 21 31) rfl rfl (any_of HT_.out (by kernel_rfl)) (fun _ _ _ h => h) (Or.inl ⟨by rfl, ?_⟩) ?_ ?_
              rotate_left
              ·intro w'
               go_simp
               with_reducible rfl
              rotate_left
              ·simp only [Act.put, s0_, s1_, s2_, i64_w, i32_w]
               rfl
              refine pure_ (i := 5) (N := some 61) (v := ?_) (a' := ?_) (mb_ 21 63) rfl rfl (any_of HT_.out (by kernel_rfl)) (fun _ _ _ h => h) (Or.inl ⟨by rfl, ?_⟩) ?_ ?_
              rotate_left
              ·intro w'
               go_simp
               with_reducible rfl
              rotate_left
              ·simp only [Act.put, s0_, s1_, s2_, i64_w, i32_w]
               rfl
              refine pure_ (i := 6) (N := some 62) (v := ?_) (a' := ?_) (mb_ 21 127) rfl rfl (any_of HT_.out (by kernel_rfl)) (fun _ _ _ h => h) (Or.inl ⟨by rfl, ?_⟩) ?_ ?_
              rotate_left
              ·intro w'
               go_simp
               with_reducible rfl
              rotate_left
              ·simp only [Act.put, s0_, s1_, s2_, i64_w, i32_w]
               rfl
              refine pure_ (i := 7) (N := some 63) (v := ?_) (a' := ?_) (mb_ 21 255) rfl rfl (any_of HT_.out (by kernel_rfl)) (fun _ _ _ h => h) (Or.inl ⟨by rfl, ?_⟩) ?_ ?_
              rotate_left
              ·intro w'
               go_simp
               with_reducible rfl
              rotate_left
              ·simp only [Act.put, s0_, s1_, s2_, i64_w, i32_w]
               rfl
              refine pure_ (i := 8) (N := some 64) (v := ?_) (a' := ?_) (mb_ 21 511) rfl rfl (any_of HT_.out (by kernel_rfl)) (fun _ _ _ h => h) (Or.inl ⟨by rfl, ?_⟩) ?_ ?_
              rotate_left
              ·intro w'
               go_simp
               with_reducible rfl
              rotate_left
              ·simp only [Act.put, s0_, s1_, s2_, i64_w, i32_w]
               rfl
              refine pure_ (i := 9) (N := some 65) (v := ?_) (a' := ?_) (mb_ 21 1023) rfl rfl (any_of HT_.out (by kernel_rfl)) (fun _ _ _ h => h) (Or.inl ⟨by rfl, ?_⟩) ?_ ?_
              rotate_left
              ·intro w'
               go_simp
               with_reducible rfl
              rotate_left
              ·simp only [Act.put, s0_, s1_, s2_, i64_w, i32_w]
               rfl
              refine pure_ (i := 10) (N := some 66) (v := ?_) (a' := ?_) (mb_ 21 2047) rfl rfl (any_of HT_.out (by kernel_rfl)) (fun _ _ _ h => h) (Or.inl ⟨by rfl, ?_⟩) ?_ ?_
              rotate_left
              ·intro w'
               go_simp
               with_reducible rfl
              rotate_left
              ·simp only [Act.put, s0_, s1_, s2_, i64_w, i32_w]
               rfl
              refine pure_ (i := 11) (N := some 67) (v := ?_) (a' := ?_) (mb_ 21 4095) rfl rfl (any_of HT_.out (by kernel_rfl)) (fun _ _ _ h => h) (Or.inl ⟨by rfl, ?_⟩) ?_ ?_
              rotate_left
              ·intro w'
               go_simp
               with_reducible rfl
              rotate_left
              ·simp only [Act.put, s0_, s1_, s2_, i64_w, i32_w]
               rfl
              refine pure_ (i := 12) (N := some 68) (v := ?_) (a' := ?_) (mb_ 21 8191) rfl rfl (any_of HT_.out (by kernel_rfl)) (fun _ _ _ h => h) (Or.inl ⟨by rfl, ?_⟩) ?_ ?_
              rotate_left
              ·intro w'
               go_simp
               with_reducible rfl
              rotate_left
              ·simp only [Act.put, s0_, s1_, s2_, i64_w, i32_w]
               rfl
              refine pure_ (i := 13) (N := some 69) (v := ?_) (a' := ?_) (mb_ 21 16383) rfl rfl (any_of HT_.out (by kernel_rfl)) (fun _ _ _ h => h) (Or.inl ⟨by rfl, ?_⟩) ?_ ?_
              rotate_left
              ·intro w'
               go_simp
               with_reducible rfl
              rotate_left
              ·simp only [Act.put, s0_, s1_, s2_, i64_w, i32_w]
               rfl
              refine pure_ (i := 14) (N := some 70) (v := ?_) (a' := ?_) (mb_ 21 32767) rfl rfl (any_of HT_.out (by kernel_rfl)) (fun _ _ _ h => h) (Or.inl ⟨by rfl, ?_⟩) ?_ ?_
              rotate_left
              ·intro w'
               go_simp
               with_reducible rfl
              rotate_left
              ·simp only [Act.put, s0_, s1_, s2_, i64_w, i32_w]
               rfl
              refine pure_ (i := 15) (N := some 71) (v := ?_) (a' := ?_) (mb_ 21 65535) rfl rfl (any_of HT_.out (by kernel_rfl)) (fun _ _ _ h => h) (Or.inl ⟨by rfl, ?_⟩) ?_ ?_
              rotate_left
              ·intro w'
               go_simp
               with_reducible rfl
              rotate_left
              ·simp only [Act.put, s0_, s1_, s2_, i64_w, i32_w]
               rfl
              refine pure_ (i := 16) (N := some 72) (v := ?_) (a' := ?_) (mb_ 21 131071) rfl rfl (any_of HT_.out (by kernel_rfl)) (fun _ _ _ h => h) (Or.inl ⟨by rfl, ?_⟩) ?_ ?_
              rotate_left
              ·intro w'
               go_simp
               with_reducible rfl
              rotate_left
              ·simp only [Act.put, s0_, s1_, s2_, i64_w, i32_w]
               rfl
              refine pure_ (i := 17) (N := some 73) (v := ?_) (a' := ?_) (mb_ 21 262143) rfl rfl (any_of HT_.out (by kernel_rfl)) (fun _ _ _ h => h) (Or.inl ⟨by rfl, ?_⟩) ?_ ?_
              rotate_left
              ·intro w'
               go_simp
               with_reducible rfl
              rotate_left
              ·simp only [Act.put, s0_, s1_, s2_, i64_w, i32_w]
               rfl
              refine pure_ (i := 18) (N := some 74) (v := ?_) (a' := ?_) (mb_ 21 524287) rfl rfl (any_of HT_.out (by kernel_rfl)) (fun _ _ _ h => h) (Or.inl ⟨by rfl, ?_⟩) ?_ ?_
              rotate_left
              ·intro w'
               go_simp
               with_reducible rfl
              rotate_left
              ·simp only [Act.put, s0_, s1_, s2_, i64_w, i32_w]
               rfl
              refine one_ (i := 19) (N := some 75) (mb_ 21 1048575) rfl rfl (one_of HT_.out (by kernel_rfl)) (by decide) (fun K hK => ?_)
              refine goes_ Try.func96 (by kernel_rfl) rfl #[.slice Ao38 x9_1.length co38, .slice A35 ((l0.take ((wrap64 (x10_1 + x14_9)) : Int).toNat).drop (x10_1 : Int).toNat).length (c0 - x10_1.toNat), .slice A36 ((l1.take ((wrap64 (x11_1 + x14_9)) : Int).toNat).drop (x11_1 : Int).toNat).length (c1 - x11_1.toNat), .slice A37 ((l2.take ((wrap64 (x12_1 + x14_9)) : Int).toNat).drop (x12_1 : Int).toNat).length (c2 - x12_1.toNat)] (by rfl) rfl rfl (by (try simp only [List.map_toArray, List.map_cons, List.map_nil]);first | done | ((try rw [show ((l0.take ((wrap64 (x10_1 + x14_9)) : Int).toNat).drop (x10_1 : Int).toNat).length = ((wrap64 (x10_1 + x14_9)).toNat - x10_1.toNat) from (by rw [List.length_drop, List.length_take];have h_ : ((wrap64 (x10_1 + x14_9)) : Int) ≤ (l0.length : Int) := od_;omega)]);(try rw [show ((l1.take ((wrap64 (x11_1 + x14_9)) : Int).toNat).drop (x11_1 : Int).toNat).length = ((wrap64 (x11_1 + x14_9)).toNat - x11_1.toNat) from (by rw [List.length_drop, List.length_take];have h_ : ((wrap64 (x11_1 + x14_9)) : Int) ≤ (l1.length : Int) := od_;omega)]);(try rw [show ((l2.take ((wrap64 (x12_1 + x14_9)) : Int).toNat).drop (x12_1 : Int).toNat).length = ((wrap64 (x12_1 + x14_9)).toNat - x12_1.toNat) from (by rw [List.length_drop, List.length_take];have h_ : ((wrap64 (x12_1 + x14_9)) : Int) ≤ (l2.length : Int) := od_;omega)]);rfl) | (rw [show ((l0.take ((wrap64 (x10_1 + x14_9)) : Int).toNat).drop (x10_1 : Int).toNat).length = ((wrap64 (x10_1 + x14_9)).toNat - x10_1.toNat) from (by rw [List.length_drop, List.length_take];have h_ : ((wrap64 (x10_1 + x14_9)) : Int) ≤ (l0.length : Int) := od_;omega)] <;> rfl) | (rw [show ((l1.take ((wrap64 (x11_1 + x14_9)) : Int).toNat).drop (x11_1 : Int).toNat).length = ((wrap64 (x11_1 + x14_9)).toNat - x11_1.toNat) from (by rw [List.length_drop, List.length_take];have h_ : ((wrap64 (x11_1 + x14_9)) : Int) ≤ (l1.length : Int) := od_;omega)] <;> rfl) | (rw [show ((l2.take ((wrap64 (x12_1 + x14_9)) : Int).toNat).drop (x12_1 : Int).toNat).length = ((wrap64 (x12_1 + x14_9)).toNat - x12_1.toNat) from (by rw [List.length_drop, List.length_take];have h_ : ((wrap64 (x12_1 + x14_9)) : Int) ≤ (l2.length : Int) := od_;omega)] <;> rfl) | rfl | (simp only [List.length_drop, List.length_take];rfl)) ?_
              with_reducible refine (spec_l4Put.calls kj9 _ (.slice Ao38 x9_1.length co38) x9_1 _ _ ((l0.take ((wrap64 (x10_1 + x14_9)) : Int).toNat).drop (x10_1 : Int).toNat) _ _ ((l1.take ((wrap64 (x11_1 + x14_9)) : Int).toNat).drop (x11_1 : Int).toNat) _ _ ((l2.take ((wrap64 (x12_1 + x14_9)) : Int).toNat).drop (x12_1 : Int).toNat) t1181 w _ ?side1 (Kd.S_bound HO_9.out) ?side3 ?side4 ?side5 ?side6 ?side7 ?side8 A32.out).mono ?_
              (case side1 => exact bw_ HB.out)
              (case side3 => exact Kd.C_kept_came Kd.heap_string HR1178.out (bw_ HB.out) (fun k_ hs_ => hs_.2.1))
              (case side4 => exact HC1178.out)
              (case side5 => exact Kd.C_kept_came Kd.heap_string HR1179.out (bw_ HB.out) (fun k_ hs_ => hs_.2.1))
              (case side6 => exact HC1179.out)
              (case side7 => exact Kd.C_kept_came Kd.heap_string HR1180.out (bw_ HB.out) (fun k_ hs_ => hs_.2.1))
              (case side8 => exact HC1180.out)
              rintro e w39 ⟨v1182, rfl, ho0, hb, hkp⟩
              refine ⟨_, rfl, ?_⟩
              have n0_ := Aside0.mk (Kd.R_reok (ok := fun k_ => some k_ ≠ (v1171 : Value).ownBlock) rfl (kept_typed rfl HO_7.out hkp (fun _ hs_ => hs_.2.2.2) (by decide)) (fun k_ e_ => (by have h_ := HO_7.out.1 k_ e_;first | exact h_ | exact h_.1 | exact h_.2 | trivial)))
              have n1_ := Aside0.mk (Kd.R_reok (ok := fun k_ => some k_ ≠ (v1168 : Value).ownBlock) rfl (kept_typed rfl HO_8.out hkp (fun _ hs_ => hs_.2.2.2) (by decide)) (fun k_ e_ => (by have h_ := HO_8.out.1 k_ e_;first | exact h_ | exact h_.1 | exact h_.2 | trivial)))
              have n2_ := Aside0.mk (Kd.S_mono (ok' := fun k_ => True) ho0 (fun k_ hk_ => trivial))
              have n3_ := Aside0.mk (hb)
              clear HO_7
              clear HO_8
              clear HB
              clear HO_9
              have HO_7 := n0_
              have HO_8 := n1_
              have HO1183 := n2_
              have HB := n3_
              clear n0_ n1_ n2_ n3_
              (try clear hb)
              (try clear hkp)
              (try clear ho0)
              refine hK.out _ _ trivial (fun hHeld => ?_)
              clear hK K
              refine norm_ (a' := ?_) ?_ ?_
              rotate_left
              ·show Act.put _ (some 75) _ = _
               simp only [Act.put, s0_, s1_, s2_, i64_w, i32_w]
               rfl
              refine pure_ (i := 20) (N := some 9) (v := ?_) (a' := ?_) (mb_ 21 2097151) rfl rfl (any_of HT_.out (by kernel_rfl)) (fun _ _ _ h => h) (Or.inl ⟨by rfl, ?_⟩) ?_ ?_
              rotate_left
              ·intro w'
               go_simp
               with_reducible rfl
              rotate_left
              ·simp only [Act.put, s0_, s1_, s2_, i64_w, i32_w]
               rfl
              refine done_ (done_of HT_.out (by kernel_rfl)) ?_
              go_upto_block 4 with (fail)
              go_cut [15] (fun v15 wc => ∃ (kq : Nat) (x15_32 : Int), v15 = .int .i64 x15_32 ∧ Aside0 (spec_l4Chunks.j4 kq l0 l1 l2 t1167 t1170 t1181 (wrap64 (x10_1 + x14_9)) (wrap64 (x11_1 + x14_9)) (wrap64 (x12_1 + x14_9)) (l0.length : Int) x15_32 = some r) ∧ Aside0 (kq ≤ kj9) ∧ Aside0 (Kd.R (Kd.int .i64) 2 wc w.heap.size (fun k_ => some k_ ≠ (v1171 : Value).ownBlock) v1168 t1167) ∧ Aside0 (Kd.R (Kd.int .i64) 2 wc w.heap.size (fun k_ => some k_ ≠ (v1168 : Value).ownBlock) v1171 t1170) ∧ Aside0 (Kd.S k58 58 wc w.heap.size (fun _ => True) v1182 t1181) ∧ Aside0 (Below w.heap.size w wc))
              case first =>
               have H := HC33.out
               clear HC33
               have H' := Aside0.mk H
               clear H
               go_wp2
               go_loopg [15] kj9 (fun kq v15 w' => ∃ (x15_3 : Int), v15 = .int .i64 x15_3 ∧ Aside0 (spec_l4Chunks.l2 kq l0 l1 l2 t1167 t1170 t1181 (wrap64 (x10_1 + x14_9)) (wrap64 (x11_1 + x14_9)) (wrap64 (x12_1 + x14_9)) (l0.length : Int) x15_3 = some r) ∧ Aside0 (kq ≤ kj9) ∧ Aside0 (Kd.R (Kd.int .i64) 2 w' w.heap.size (fun k_ => some k_ ≠ (v1171 : Value).ownBlock) v1168 t1167) ∧ Aside0 (Kd.R (Kd.int .i64) 2 w' w.heap.size (fun k_ => some k_ ≠ (v1168 : Value).ownBlock) v1171 t1170) ∧ Aside0 (Kd.S k58 58 w' w.heap.size (fun _ => True) v1182 t1181) ∧ Aside0 (Below w.heap.size w w'))
               case atStart => exact ⟨(wrap64 (x10_1 + x14_9)), ls_, H', ⟨Nat.le_refl _⟩, ⟨rr_ HO_7.out⟩, ⟨rr_ HO_8.out⟩, ⟨rs_ HO1183.out⟩, ⟨bw_ HB.out⟩⟩
               case round =>
                clear H'
                try clear c1
                try clear p1
                try clear q1
                try clear hx1
                try clear c2
                try clear p2
                try clear c3
                try clear p6
                try clear c9
                try clear c11
                try clear c11b0
                try clear p11
                try clear q11
                try clear hx11
                try clear c12
                try clear c13
                try clear c13b0
                try clear c14
                try clear c14b0
                try clear c15
                try clear c15b0
                try clear c15b1
                try clear c16
                try clear c16b0
                try clear c17
                try clear c17b0
                try clear c17b1
                try clear c23
                try clear c23b0
                try clear c23b1
                try clear c24
                try clear c24b0
                try clear c24b1
                try clear c25
                try clear c25b0
                try clear c25b1
                try clear c26
                try clear c26b0
                try clear c26b1
                try clear c27
                try clear c27b0
                try clear c27b1
                try clear c28
                try clear c28b0
                try clear c28b1
                try clear c29
                try clear c29b0
                try clear c29b1
                try clear c30
                try clear c30b0
                try clear c30b1
                try clear c31
                try clear c31b0
                try clear c31b1
                try clear hx1176_0
                try clear hx1177_0
                try clear p1
                try clear p11
                try clear p1176
                try clear p1177
                try clear p2
                try clear p6
                try clear q1
                try clear q11
                try clear q1176
                try clear q1177
                obtain ⟨x15_3, rfl, HA, HK3, HO_7, HO_8, HO_9, HB⟩ := hrel
                cases gk with
                | zero => exact absurd HA.out (by simp [spec_l4Chunks.l2])
                | succ k3 =>
                 have H := HA.out
                 clear HA
                 simp only [spec_l4Chunks.l2] at H
                 by_cases c40 : x15_3 < (l0.length : Int)
                 ·rw [if_pos c40] at H
                  have c40b0 : decide (x15_3 < (l0.length : Int)) = true := decide_eq_true c40
                  clear c40
                  (first | rw [c40b0] | (simp only [i64_w, i32_w];rw [c40b0]) | skip)
                  by_cases c41 : 0 ≤ x15_3
                  ·rw [if_pos c41] at H
                   have c41b0 : decide (0 ≤ x15_3) = true := decide_eq_true c41
                   clear c41
                   by_cases c42 : x15_3 < (t1167.length : Int)
                   ·rw [if_pos c42] at H
                    have c42b0 : decide (x15_3 < (t1167.length : Int)) = true := decide_eq_true c42
                    clear c42
                    by_cases c43 : (rd t1167 x15_3) < 0
                    ·rw [if_pos c43] at H
                     have c43b0 : decide ((rd t1167 x15_3) < 0) = true := decide_eq_true c43
                     clear c43
                     have H' := Aside0.mk H
                     clear H
                     obtain ⟨Ao44, co44, eo44⟩ := Kd.R_slice HO_7.out
                     subst eo44
                     have p1184 : 0 ≤ (x15_3 : Int) := od_
                     have q1184 : x15_3 < (t1167.length : Int) := od_
                     obtain ⟨ad1184, e1184, hx1184_0⟩ := Kd.at_int (Kd.R_reads' HO_7.out).2.2 x15_3 p1184 q1184
                     cases e1184
                     replace p1184 := eq_true p1184
                     replace q1184 := eq_true q1184
                     go_wp2
                     go_roundg k3
                     case measure => have := HK1.out;have := HJ9.out;have := HK3.out;omega
                     case rel => exact ⟨(wrap64 (x15_3 + 1)), ls_, H', ⟨by have := HK1.out;have := HJ9.out;have := HK3.out;omega⟩, ⟨rr_ HO_7.out⟩, ⟨rr_ HO_8.out⟩, ⟨rs_ HO_9.out⟩, ⟨bw_ HB.out⟩⟩
                    ·rw [if_neg c43] at H
                     have c43b0 : decide ((rd t1167 x15_3) < 0) = false := decide_eq_false c43
                     clear c43
                     by_cases c45 : x15_3 < (t1170.length : Int)
                     ·rw [if_pos c45] at H
                      have c45b0 : decide (x15_3 < (t1170.length : Int)) = true := decide_eq_true c45
                      clear c45
                      by_cases c46 : (rd t1170 x15_3) < 0
                      ·rw [if_pos c46] at H
                       have c46b0 : decide ((rd t1170 x15_3) < 0) = true := decide_eq_true c46
                       clear c46
                       have H' := Aside0.mk H
                       clear H
                       obtain ⟨Ao47, co47, eo47⟩ := Kd.R_slice HO_7.out
                       subst eo47
                       have p1184 : 0 ≤ (x15_3 : Int) := od_
                       have q1184 : x15_3 < (t1167.length : Int) := od_
                       obtain ⟨ad1184, e1184, hx1184_0⟩ := Kd.at_int (Kd.R_reads' HO_7.out).2.2 x15_3 p1184 q1184
                       cases e1184
                       replace p1184 := eq_true p1184
                       replace q1184 := eq_true q1184
                       obtain ⟨Ao48, co48, eo48⟩ := Kd.R_slice HO_8.out
                       subst eo48
                       have p1185 : 0 ≤ (x15_3 : Int) := od_
                       have q1185 : x15_3 < (t1170.length : Int) := od_
                       obtain ⟨ad1185, e1185, hx1185_0⟩ := Kd.at_int (Kd.R_reads' HO_8.out).2.2 x15_3 p1185 q1185
                       cases e1185
                       replace p1185 := eq_true p1185
                       replace q1185 := eq_true q1185
                       go_wp2
                       go_roundg k3
                       case measure => have := HK1.out;have := HJ9.out;have := HK3.out;omega
                       case rel => exact ⟨(wrap64 (x15_3 + 1)), ls_, H', ⟨by have := HK1.out;have := HJ9.out;have := HK3.out;omega⟩, ⟨rr_ HO_7.out⟩, ⟨rr_ HO_8.out⟩, ⟨rs_ HO_9.out⟩, ⟨bw_ HB.out⟩⟩
                      ·rw [if_neg c46] at H
                       have c46b0 : decide ((rd t1170 x15_3) < 0) = false := decide_eq_false c46
                       clear c46
                       have H' := Aside0.mk H
                       clear H
                       obtain ⟨Ao49, co49, eo49⟩ := Kd.R_slice HO_7.out
                       subst eo49
                       have p1184 : 0 ≤ (x15_3 : Int) := od_
                       have q1184 : x15_3 < (t1167.length : Int) := od_
                       obtain ⟨ad1184, e1184, hx1184_0⟩ := Kd.at_int (Kd.R_reads' HO_7.out).2.2 x15_3 p1184 q1184
                       cases e1184
                       replace p1184 := eq_true p1184
                       replace q1184 := eq_true q1184
                       obtain ⟨Ao50, co50, eo50⟩ := Kd.R_slice HO_8.out
                       subst eo50
                       have p1185 : 0 ≤ (x15_3 : Int) := od_
                       have q1185 : x15_3 < (t1170.length : Int) := od_
                       obtain ⟨ad1185, e1185, hx1185_0⟩ := Kd.at_int (Kd.R_reads' HO_8.out).2.2 x15_3 p1185 q1185
                       cases e1185
                       replace p1185 := eq_true p1185
                       replace q1185 := eq_true q1185
                       go_wp2
                       go_meet
                       case rel => exact ⟨_, (x15_3), ls_, H', ⟨by have := HK1.out;have := HJ9.out;have := HK3.out;first | omega | exact Nat.le_refl _⟩, ⟨rr_ HO_7.out⟩, ⟨rr_ HO_8.out⟩, ⟨rs_ HO_9.out⟩, ⟨bw_ HB.out⟩⟩
                     ·rw [if_neg c45] at H
                      exact absurd H (by simp)
                   ·rw [if_neg c42] at H
                    exact absurd H (by simp)
                  ·rw [if_neg c41] at H
                   exact absurd H (by simp)
                 ·rw [if_neg c40] at H
                  have c40b0 : decide (x15_3 < (l0.length : Int)) = false := decide_eq_false c40
                  clear c40
                  (first | rw [c40b0] | (simp only [i64_w, i32_w];rw [c40b0]) | skip)
                  have H' := Aside0.mk H
                  clear H
                  go_wp2
                  go_meet
                  case rel => exact ⟨_, (x15_3), ls_, H', ⟨by have := HK1.out;have := HJ9.out;have := HK3.out;first | omega | exact Nat.le_refl _⟩, ⟨rr_ HO_7.out⟩, ⟨rr_ HO_8.out⟩, ⟨rs_ HO_9.out⟩, ⟨bw_ HB.out⟩⟩
              case rest =>
               clear HC33
               try clear c1
               try clear p1
               try clear q1
               try clear hx1
               try clear c2
               try clear p2
               try clear c3
               try clear c4
               try clear p6
               try clear c9
               try clear c11
               try clear c11b0
               try clear p11
               try clear q11
               try clear hx11
               try clear c12
               try clear c13
               try clear c13b0
               try clear c14
               try clear c14b0
               try clear c15
               try clear c15b0
               try clear c15b1
               try clear c16
               try clear c16b0
               try clear c17
               try clear c17b0
               try clear c17b1
               try clear c23
               try clear c23b0
               try clear c23b1
               try clear c24
               try clear c24b0
               try clear c24b1
               try clear c25
               try clear c25b0
               try clear c25b1
               try clear c26
               try clear c26b0
               try clear c26b1
               try clear c27
               try clear c27b0
               try clear c27b1
               try clear c28
               try clear c28b0
               try clear c28b1
               try clear c29
               try clear c29b0
               try clear c29b1
               try clear c30
               try clear c30b0
               try clear c30b1
               try clear c31
               try clear c31b0
               try clear c31b1
               try clear c40
               try clear c40b0
               try clear c41
               try clear c41b0
               try clear c42
               try clear c42b0
               try clear c43
               try clear c43b0
               try clear c45
               try clear c45b0
               try clear c46
               try clear c46b0
               try clear hx1176_0
               try clear hx1177_0
               try clear hx1184_0
               try clear hx1185_0
               try clear p1
               try clear p11
               try clear p1176
               try clear p1177
               try clear p1184
               try clear p1185
               try clear p2
               try clear p6
               try clear q1
               try clear q11
               try clear q1176
               try clear q1177
               try clear q1184
               try clear q1185
               obtain ⟨kq, x15_32, rfl, HA, HJ32, HO_7, HO_8, HO_9, HB⟩ := hcut
               cases kq with
               | zero => exact absurd HA.out (by simp [spec_l4Chunks.j4])
               | succ kj32 =>
                have H := HA.out
                clear HA
                simp only [spec_l4Chunks.j4] at H
                by_cases c51 : x15_32 = (l0.length : Int)
                ·rw [if_pos c51] at H
                 have c51b0 : (x15_32 == (l0.length : Int)) = true := beq_iff_eq.mpr c51
                 have c51b1 : (x15_32 != (l0.length : Int)) = false := bne_eq_false_iff_eq.mpr c51
                 clear c51
                 obtain ⟨ji52, hji52⟩ : ∃ j_ : Int, (wrap64 (x10_1 + x14_9)) = j_ := ⟨_, rfl⟩
                 replace H : (if 0 ≤ (ji52) then (if (ji52) ≤ (l0.length : Int) then (if 0 ≤ (wrap64 (x11_1 + x14_9)) then (if (wrap64 (x11_1 + x14_9)) ≤ (l1.length : Int) then (if 0 ≤ (wrap64 (x12_1 + x14_9)) then (if (wrap64 (x12_1 + x14_9)) ≤ (l2.length : Int) then ((spec_l4Put.f kj32 t1181 (l0.drop ((ji52) : Int).toNat) (l1.drop ((wrap64 (x11_1 + x14_9)) : Int).toNat) (l2.drop ((wrap64 (x12_1 + x14_9)) : Int).toNat)).bind fun t1189 => (some t1189)) else (none)) else (none)) else (none)) else (none)) else (none)) else (none)) = some r := by first | (rw [hji52] at H;exact H) | (simp only [hji52] at H ⊢;exact H)
                 (try rw [hji52] at c24b0)
                 (try rw [hji52] at c24b1)
                 (try rw [hji52] at c24)
                 (try rw [hji52] at c25b0)
                 (try rw [hji52] at c25b1)
                 (try rw [hji52] at c25)
                 have hji52w : (IntKind.i64.wrap (x10_1 + x14_9)) = ji52 := (i64_w _).trans hji52
                 by_cases c53 : 0 ≤ (ji52)
                 ·rw [if_pos c53] at H
                  have c53b0 := eq_true c53
                  have c53b1 : decide (0 ≤ (ji52)) = true := decide_eq_true c53
                  clear c53
                  by_cases c54 : (ji52) ≤ (l0.length : Int)
                  ·rw [if_pos c54] at H
                   have c54b0 := eq_true c54
                   have c54b1 : decide ((ji52) ≤ (l0.length : Int)) = true := decide_eq_true c54
                   clear c54
                   obtain ⟨ji55, hji55⟩ : ∃ j_ : Int, (wrap64 (x11_1 + x14_9)) = j_ := ⟨_, rfl⟩
                   replace H : (if 0 ≤ (ji55) then (if (ji55) ≤ (l1.length : Int) then (if 0 ≤ (wrap64 (x12_1 + x14_9)) then (if (wrap64 (x12_1 + x14_9)) ≤ (l2.length : Int) then ((spec_l4Put.f kj32 t1181 (l0.drop ((ji52) : Int).toNat) (l1.drop ((ji55) : Int).toNat) (l2.drop ((wrap64 (x12_1 + x14_9)) : Int).toNat)).bind fun t1189 => (some t1189)) else (none)) else (none)) else (none)) else (none)) = some r := by first | (rw [hji55] at H;exact H) | (simp only [hji55] at H ⊢;exact H)
                   (try rw [hji55] at c27b0)
                   (try rw [hji55] at c27b1)
                   (try rw [hji55] at c27)
                   (try rw [hji55] at c28b0)
                   (try rw [hji55] at c28b1)
                   (try rw [hji55] at c28)
                   have hji55w : (IntKind.i64.wrap (x11_1 + x14_9)) = ji55 := (i64_w _).trans hji55
                   by_cases c56 : 0 ≤ (ji55)
                   ·rw [if_pos c56] at H
                    have c56b0 := eq_true c56
                    have c56b1 : decide (0 ≤ (ji55)) = true := decide_eq_true c56
                    clear c56
                    by_cases c57 : (ji55) ≤ (l1.length : Int)
                    ·rw [if_pos c57] at H
                     have c57b0 := eq_true c57
                     have c57b1 : decide ((ji55) ≤ (l1.length : Int)) = true := decide_eq_true c57
                     clear c57
                     obtain ⟨ji58, hji58⟩ : ∃ j_ : Int, (wrap64 (x12_1 + x14_9)) = j_ := ⟨_, rfl⟩
                     replace H : (if 0 ≤ (ji58) then (if (ji58) ≤ (l2.length : Int) then ((spec_l4Put.f kj32 t1181 (l0.drop ((ji52) : Int).toNat) (l1.drop ((ji55) : Int).toNat) (l2.drop ((ji58) : Int).toNat)).bind fun t1189 => (some t1189)) else (none)) else (none)) = some r := by first | (rw [hji58] at H;exact H) | (simp only [hji58] at H ⊢;exact H)
                     (try rw [hji58] at c30b0)
                     (try rw [hji58] at c30b1)
                     (try rw [hji58] at c30)
                     (try rw [hji58] at c31b0)
                     (try rw [hji58] at c31b1)
                     (try rw [hji58] at c31)
                     have hji58w : (IntKind.i64.wrap (x12_1 + x14_9)) = ji58 := (i64_w _).trans hji58
                     by_cases c59 : 0 ≤ (ji58)
                     ·rw [if_pos c59] at H
                      have c59b0 := eq_true c59
                      have c59b1 : decide (0 ≤ (ji58)) = true := decide_eq_true c59
                      clear c59
                      by_cases c60 : (ji58) ≤ (l2.length : Int)
                      ·rw [if_pos c60] at H
                       have c60b0 := eq_true c60
                       have c60b1 : decide ((ji58) ≤ (l2.length : Int)) = true := decide_eq_true c60
                       clear c60
                       replace H := Option.bind_eq_some_iff.mp H
                       obtain ⟨t1189, A610, H⟩ := H
                       replace H : (some t1189) = some r := H
                       have A61 := Aside0.mk A610
                       clear A610
                       obtain rfl := Option.some.inj H
                       try go_wp2
                       have n0_ := Aside0.mk (Kd.R_drew HO_7.out)
                       have n1_ := Aside0.mk (Kd.R_drew HO_8.out)
                       have n2_ := Aside0.mk (Kd.S_drew HO_9.out)
                       have n3_ := Aside0.mk (below_drew1 HB.out)
                       clear HO_7
                       clear HO_8
                       clear HO_9
                       clear HB
                       have HO_7 := n0_
                       have HO_8 := n1_
                       have HO_9 := n2_
                       have HB := n3_
                       clear n0_ n1_ n2_ n3_
                       obtain ⟨i063, hi063, _, hsz63, _⟩ := info_parts info9
                       obtain ⟨A63, hcut63, hA63, hC63⟩ := print_drop_of (P := Try.prog) Value.string (⟨#[]⟩ : ByteArray) 34 9 .i64 Try.underlying34 hi063 hsz63 A0 c0 l0 (ji52) od_ od_ HC0.out
                       have HR1186 := Aside0.mk (Kd.C_of_reads (h1 := fun _ => rfl) (hA63 _ (Kd.reads_of_C HR0.out)))
                       have HC1186 := Aside0.mk hC63
                       clear hA63 hC63 hi063 hsz63
                       obtain ⟨i064, hi064, _, hsz64, _⟩ := info_parts info9
                       obtain ⟨A64, hcut64, hA64, hC64⟩ := print_drop_of (P := Try.prog) Value.string (⟨#[]⟩ : ByteArray) 34 9 .i64 Try.underlying34 hi064 hsz64 A1 c1 l1 (ji55) od_ od_ HC1.out
                       have HR1187 := Aside0.mk (Kd.C_of_reads (h1 := fun _ => rfl) (hA64 _ (Kd.reads_of_C HR1.out)))
                       have HC1187 := Aside0.mk hC64
                       clear hA64 hC64 hi064 hsz64
                       obtain ⟨i065, hi065, _, hsz65, _⟩ := info_parts info9
                       obtain ⟨A65, hcut65, hA65, hC65⟩ := print_drop_of (P := Try.prog) Value.string (⟨#[]⟩ : ByteArray) 34 9 .i64 Try.underlying34 hi065 hsz65 A2 c2 l2 (ji58) od_ od_ HC2.out
                       have HR1188 := Aside0.mk (Kd.C_of_reads (h1 := fun _ => rfl) (hA65 _ (Kd.reads_of_C HR2.out)))
                       have HC1188 := Aside0.mk hC65
                       clear hA65 hC65 hi065 hsz65
                       obtain ⟨Ao66, co66, eo66⟩ := Kd.S_slice HO_9.out
                       (first | subst eo66 | (injection eo66 with f1_ f2_ f3_;have f4_ := f1_.symm;have f5_ := f3_.symm;clear f1_ f2_ f3_;subst f4_;subst f5_))
                       refine start_ (n := 12) (S := fun w' => True) (ds := []) (mb_ 12 0) (by kernel_rfl) rfl rfl trivial (fun hHeld => ?_);refine with_tabW spec_l4Chunks.tab19 spec_l4Chunks.bits19 (fun HT_ HW_ => ?_)
                       generalize wc.drew = w62 at HO_7 HO_8 HO_9 HB HR1186 HR1187 HR1188 hHeld ⊢
                       refine pure_ (i := 0) (N := some 108) (v := ?_) (a' := ?_) (mb_ 12 1) rfl rfl (any_of HT_.out (by kernel_rfl)) (fun _ _ _ h => h) (Or.inl ⟨by rfl, ?_⟩) ?_ ?_
                       rotate_left
                       ·intro w'
                        go_simp
                        with_reducible rfl
                       rotate_left
                       ·simp only [Act.put, s0_, s1_, s2_, i64_w, i32_w]
                        rfl
                       refine pure_ (i := 1) (N := some 109) (v := ?_) (a' := ?_) (mb_ 12 3) rfl rfl (any_of HT_.out (by kernel_rfl)) (fun _ _ _ h => h) (Or.inl ⟨by rfl, ?_⟩) ?_ ?_
                       rotate_left
                       ·intro w'
                        go_simp
                        with_reducible rfl
                       rotate_left
                       ·simp only [Act.put, s0_, s1_, s2_, i64_w, i32_w]
                        rfl
                       refine pure_ (i := 2) (N := some 110) (v := ?_) (a' := ?_) (mb_ 12 7) rfl rfl (any_of HT_.out (by kernel_rfl)) (fun _ _ _ h => h) (Or.inl ⟨by rfl, ?_⟩) ?_ ?_
                       rotate_left
                       ·intro w'
                        go_simp
                        with_reducible rfl
                       rotate_left
                       ·simp only [Act.put, s0_, s1_, s2_, i64_w, i32_w]
                        rfl
                       refine pure_ (i := 3) (N := some 111) (v := ?_) (a' := ?_) (mb_ 12 15) rfl rfl (any_of HT_.out (by kernel_rfl)) (fun _ _ _ h => h) (Or.inl ⟨by rfl, ?_⟩) ?_ ?_
                       rotate_left
                       ·intro w'
                        go_simp
                        with_reducible rfl
                       rotate_left
                       ·simp only [Act.put, s0_, s1_, s2_, i64_w, i32_w]
                        rfl
                       refine pure_ (i := 4) (N := some 112) (v := ?_) (a' := ?_) (mb_ 12 31) rfl rfl (any_of HT_.out (by kernel_rfl)) (fun _ _ _ h => h) (Or.inl ⟨by rfl, ?_⟩) ?_ ?_
                       rotate_left
                       ·intro w'
                        go_simp
                        with_reducible rfl
                       rotate_left
                       ·simp only [Act.put, s0_, s1_, s2_, i64_w, i32_w]
                        rfl
                       refine pure_ (i := 5) (N := some 113) (v := ?_) (a' := ?_) (mb_ 12 63) rfl rfl (any_of HT_.out (by kernel_rfl)) (fun _ _ _ h => h) (Or.inl ⟨by rfl, ?_⟩) ?_ ?_
                       rotate_left
                       ·intro w'
                        go_simp
                        with_reducible rfl
                       rotate_left
                       ·simp only [Act.put, s0_, s1_, s2_, i64_w, i32_w]
                        rfl
                       refine pure_ (i := 6) (N := some 114) (v := ?_) (a' := ?_) (mb_ 12 127) rfl rfl (any_of HT_.out (by kernel_rfl)) (fun _ _ _ h => h) (Or.inl ⟨by rfl, ?_⟩) ?_ ?_
                       rotate_left
                       ·intro w'
                        go_simp
                        with_reducible rfl
                       rotate_left
                       ·simp only [Act.put, s0_, s1_, s2_, i64_w, i32_w]
                        rfl
                       refine pure_ (i := 7) (N := some 115) (v := ?_) (a' := ?_) (mb_ 12 255) rfl rfl (any_of HT_.out (by kernel_rfl)) (fun _ _ _ h => h) (Or.inl ⟨by rfl, ?_⟩) ?_ ?_
                       rotate_left
                       ·intro w'
                        go_simp
                        with_reducible rfl
                       rotate_left
                       ·simp only [Act.put, s0_, s1_, s2_, i64_w, i32_w]
                        rfl
                       refine pure_ (i := 8) (N := some 116) (v := ?_) (a' := ?_) (mb_ 12 511) rfl rfl (any_of HT_.out (by kernel_rfl)) (fun _ _ _ h => h) (Or.inl ⟨by rfl, ?_⟩) ?_ ?_
                       rotate_left
                       ·intro w'
                        go_simp
                        with_reducible rfl
                       rotate_left
                       ·simp only [Act.put, s0_, s1_, s2_, i64_w, i32_w]
                        rfl
                       refine pure_ (i := 9) (N := some 117) (v := ?_) (a' := ?_) (mb_ 12 1023) rfl rfl (any_of HT_.out (by kernel_rfl)) (fun _ _ _ h => h) (Or.inl ⟨by rfl, ?_⟩) ?_ ?_
                       rotate_left
                       ·intro w'
                        go_simp
                        with_reducible rfl
                       rotate_left
                       ·simp only [Act.put, s0_, s1_, s2_, i64_w, i32_w]
                        rfl
                       refine one_ (i := 10) (N := some 118) (mb_ 12 2047) rfl rfl (one_of HT_.out (by kernel_rfl)) (by decide) (fun K hK => ?_)
                       refine goes_ Try.func96 (by kernel_rfl) rfl #[.slice Ao66 t1181.length co66, .slice A63 (l0.drop ((ji52) : Int).toNat).length (c0 - (ji52).toNat), .slice A64 (l1.drop ((ji55) : Int).toNat).length (c1 - (ji55).toNat), .slice A65 (l2.drop ((ji58) : Int).toNat).length (c2 - (ji58).toNat)] (by rfl) rfl rfl (by (try simp only [List.map_toArray, List.map_cons, List.map_nil]);first | done | (rw [show (l0.drop ((ji52) : Int).toNat).length = (l0.length - (ji52).toNat) from List.length_drop] <;> rfl) | (rw [show (l1.drop ((ji55) : Int).toNat).length = (l1.length - (ji55).toNat) from List.length_drop] <;> rfl) | (rw [show (l2.drop ((ji58) : Int).toNat).length = (l2.length - (ji58).toNat) from List.length_drop] <;> rfl) | (simp only [hji52, hji55, hji58];rfl) | rfl | (simp only [List.length_drop, List.length_take];rfl)) ?_
                       with_reducible refine (spec_l4Put.calls kj32 _ (.slice Ao66 t1181.length co66) t1181 _ _ (l0.drop ((ji52) : Int).toNat) _ _ (l1.drop ((ji55) : Int).toNat) _ _ (l2.drop ((ji58) : Int).toNat) t1189 w _ ?side1 (Kd.S_bound HO_9.out) ?side3 ?side4 ?side5 ?side6 ?side7 ?side8 A61.out).mono ?_
                       (case side1 => exact bw_ HB.out)
                       (case side3 => exact Kd.C_kept_came Kd.heap_string HR1186.out (bw_ HB.out) (fun k_ hs_ => hs_.2.1))
                       (case side4 => exact HC1186.out)
                       (case side5 => exact Kd.C_kept_came Kd.heap_string HR1187.out (bw_ HB.out) (fun k_ hs_ => hs_.2.1))
                       (case side6 => exact HC1187.out)
                       (case side7 => exact Kd.C_kept_came Kd.heap_string HR1188.out (bw_ HB.out) (fun k_ hs_ => hs_.2.1))
                       (case side8 => exact HC1188.out)
                       rintro e w67 ⟨v1190, rfl, ho0, hb, hkp⟩
                       refine ⟨_, rfl, ?_⟩
                       have n0_ := Aside0.mk (Kd.R_reok (ok := fun k_ => some k_ ≠ (v1171 : Value).ownBlock) rfl (kept_typed rfl HO_7.out hkp (fun _ hs_ => hs_.2.2.2) (by decide)) (fun k_ e_ => (by have h_ := HO_7.out.1 k_ e_;first | exact h_ | exact h_.1 | exact h_.2 | trivial)))
                       have n1_ := Aside0.mk (Kd.R_reok (ok := fun k_ => some k_ ≠ (v1168 : Value).ownBlock) rfl (kept_typed rfl HO_8.out hkp (fun _ hs_ => hs_.2.2.2) (by decide)) (fun k_ e_ => (by have h_ := HO_8.out.1 k_ e_;first | exact h_ | exact h_.1 | exact h_.2 | trivial)))
                       have n2_ := Aside0.mk (Kd.S_mono (ok' := fun k_ => True) ho0 (fun k_ hk_ => trivial))
                       have n3_ := Aside0.mk (hb)
                       clear HO_7
                       clear HO_8
                       clear HB
                       clear HO_9
                       have HO_7 := n0_
                       have HO_8 := n1_
                       have HO1191 := n2_
                       have HB := n3_
                       clear n0_ n1_ n2_ n3_
                       (try clear hb)
                       (try clear hkp)
                       (try clear ho0)
                       refine hK.out _ _ trivial (fun hHeld => ?_)
                       clear hK K
                       refine norm_ (a' := ?_) ?_ ?_
                       rotate_left
                       ·show Act.put _ (some 118) _ = _
                        simp only [Act.put, s0_, s1_, s2_, i64_w, i32_w]
                        rfl
                       refine pure_ (i := 11) (N := some 6) (v := ?_) (a' := ?_) (mb_ 12 4095) rfl rfl (any_of HT_.out (by kernel_rfl)) (fun _ _ _ h => h) (Or.inl ⟨by rfl, ?_⟩) ?_ ?_
                       rotate_left
                       ·intro w'
                        go_simp
                        with_reducible rfl
                       rotate_left
                       ·simp only [Act.put, s0_, s1_, s2_, i64_w, i32_w]
                        rfl
                       refine done_ (done_of HT_.out (by kernel_rfl)) ?_
                       try go_wp2
                       go_ret
                       exact ⟨_, by first | rfl | (simp [errW_none, errW_some] <;> rfl) | (simp only [← hji52, ← hji55, ← hji58];first | rfl | (simp [errW_none, errW_some] <;> rfl)) | (simp [*, errW_none, errW_some] <;> rfl), rs_ HO1191.out, bw_ HB.out⟩
                      ·rw [if_neg c60] at H
                       exact absurd H (by simp)
                     ·rw [if_neg c59] at H
                      exact absurd H (by simp)
                    ·rw [if_neg c57] at H
                     exact absurd H (by simp)
                   ·rw [if_neg c56] at H
                    exact absurd H (by simp)
                  ·rw [if_neg c54] at H
                   exact absurd H (by simp)
                 ·rw [if_neg c53] at H
                  exact absurd H (by simp)
                ·rw [if_neg c51] at H
                 have c51b0 : (x15_32 == (l0.length : Int)) = false := beq_eq_false_iff_ne.mpr c51
                 have c51b1 : (x15_32 != (l0.length : Int)) = true := bne_iff_ne.mpr c51
                 obtain ⟨ji68, hji68⟩ : ∃ j_ : Int, (wrap64 (x10_1 + x14_9)) = j_ := ⟨_, rfl⟩
                 replace H : (if 0 ≤ (ji68) then (if (ji68) ≤ x15_32 then (if x15_32 ≤ (l0.length : Int) then (if 0 ≤ x15_32 then (if x15_32 < (t1167.length : Int) then (if 0 ≤ (wrap64 (x11_1 + x14_9)) then (if (wrap64 (x11_1 + x14_9)) ≤ (rd t1167 x15_32) then (if (rd t1167 x15_32) ≤ (l1.length : Int) then (if x15_32 < (t1170.length : Int) then (if 0 ≤ (wrap64 (x12_1 + x14_9)) then (if (wrap64 (x12_1 + x14_9)) ≤ (rd t1170 x15_32) then (if (rd t1170 x15_32) ≤ (l2.length : Int) then ((spec_l4Put.f kj32 t1181 ((l0.take (x15_32 : Int).toNat).drop ((ji68) : Int).toNat) ((l1.take ((rd t1167 x15_32) : Int).toNat).drop ((wrap64 (x11_1 + x14_9)) : Int).toNat) ((l2.take ((rd t1170 x15_32) : Int).toNat).drop ((wrap64 (x12_1 + x14_9)) : Int).toNat)).bind fun t1197 => (spec_l4Chunks.l0 kj32 l0 l1 l2 t1167 t1170 t1197 x15_32 (rd t1167 x15_32) (rd t1170 x15_32) (l0.length : Int))) else (none)) else (none)) else (none)) else (none)) else (none)) else (none)) else (none)) else (none)) else (none)) else (none)) else (none)) else (none)) = some r := by first | (rw [hji68] at H;exact H) | (simp only [hji68] at H ⊢;exact H)
                 (try rw [hji68] at c24b0)
                 (try rw [hji68] at c24b1)
                 (try rw [hji68] at c24)
                 (try rw [hji68] at c25b0)
                 (try rw [hji68] at c25b1)
                 (try rw [hji68] at c25)
                 have hji68w : (IntKind.i64.wrap (x10_1 + x14_9)) = ji68 := (i64_w _).trans hji68
                 by_cases c69 : 0 ≤ (ji68)
                 ·rw [if_pos c69] at H
                  have c69b0 := eq_true c69
                  have c69b1 : decide (0 ≤ (ji68)) = true := decide_eq_true c69
                  clear c69
                  by_cases c70 : (ji68) ≤ x15_32
                  ·rw [if_pos c70] at H
                   have c70b0 := eq_true c70
                   have c70b1 : decide ((ji68) ≤ x15_32) = true := decide_eq_true c70
                   clear c70
                   by_cases c71 : x15_32 ≤ (l0.length : Int)
                   ·rw [if_pos c71] at H
                    have c71b0 := eq_true c71
                    have c71b1 : decide (x15_32 ≤ (l0.length : Int)) = true := decide_eq_true c71
                    clear c71
                    by_cases c72 : 0 ≤ x15_32
                    ·rw [if_pos c72] at H
                     have c72b0 : decide (0 ≤ x15_32) = true := decide_eq_true c72
                     clear c72
                     by_cases c73 : x15_32 < (t1167.length : Int)
                     ·rw [if_pos c73] at H
                      have c73b0 : decide (x15_32 < (t1167.length : Int)) = true := decide_eq_true c73
                      clear c73
                      obtain ⟨ji74, hji74⟩ : ∃ j_ : Int, (wrap64 (x11_1 + x14_9)) = j_ := ⟨_, rfl⟩
                      replace H : (if 0 ≤ (ji74) then (if (ji74) ≤ (rd t1167 x15_32) then (if (rd t1167 x15_32) ≤ (l1.length : Int) then (if x15_32 < (t1170.length : Int) then (if 0 ≤ (wrap64 (x12_1 + x14_9)) then (if (wrap64 (x12_1 + x14_9)) ≤ (rd t1170 x15_32) then (if (rd t1170 x15_32) ≤ (l2.length : Int) then ((spec_l4Put.f kj32 t1181 ((l0.take (x15_32 : Int).toNat).drop ((ji68) : Int).toNat) ((l1.take ((rd t1167 x15_32) : Int).toNat).drop ((ji74) : Int).toNat) ((l2.take ((rd t1170 x15_32) : Int).toNat).drop ((wrap64 (x12_1 + x14_9)) : Int).toNat)).bind fun t1197 => (spec_l4Chunks.l0 kj32 l0 l1 l2 t1167 t1170 t1197 x15_32 (rd t1167 x15_32) (rd t1170 x15_32) (l0.length : Int))) else (none)) else (none)) else (none)) else (none)) else (none)) else (none)) else (none)) = some r := by first | (rw [hji74] at H;exact H) | (simp only [hji74] at H ⊢;exact H)
                      (try rw [hji74] at c27b0)
                      (try rw [hji74] at c27b1)
                      (try rw [hji74] at c27)
                      (try rw [hji74] at c28b0)
                      (try rw [hji74] at c28b1)
                      (try rw [hji74] at c28)
                      have hji74w : (IntKind.i64.wrap (x11_1 + x14_9)) = ji74 := (i64_w _).trans hji74
                      by_cases c75 : 0 ≤ (ji74)
                      ·rw [if_pos c75] at H
                       have c75b0 := eq_true c75
                       have c75b1 : decide (0 ≤ (ji74)) = true := decide_eq_true c75
                       clear c75
                       by_cases c76 : (ji74) ≤ (rd t1167 x15_32)
                       ·rw [if_pos c76] at H
                        have c76b0 := eq_true c76
                        have c76b1 : decide ((ji74) ≤ (rd t1167 x15_32)) = true := decide_eq_true c76
                        clear c76
                        by_cases c77 : (rd t1167 x15_32) ≤ (l1.length : Int)
                        ·rw [if_pos c77] at H
                         have c77b0 := eq_true c77
                         have c77b1 : decide ((rd t1167 x15_32) ≤ (l1.length : Int)) = true := decide_eq_true c77
                         clear c77
                         by_cases c78 : x15_32 < (t1170.length : Int)
                         ·rw [if_pos c78] at H
                          have c78b0 : decide (x15_32 < (t1170.length : Int)) = true := decide_eq_true c78
                          clear c78
                          obtain ⟨ji79, hji79⟩ : ∃ j_ : Int, (wrap64 (x12_1 + x14_9)) = j_ := ⟨_, rfl⟩
                          replace H : (if 0 ≤ (ji79) then (if (ji79) ≤ (rd t1170 x15_32) then (if (rd t1170 x15_32) ≤ (l2.length : Int) then ((spec_l4Put.f kj32 t1181 ((l0.take (x15_32 : Int).toNat).drop ((ji68) : Int).toNat) ((l1.take ((rd t1167 x15_32) : Int).toNat).drop ((ji74) : Int).toNat) ((l2.take ((rd t1170 x15_32) : Int).toNat).drop ((ji79) : Int).toNat)).bind fun t1197 => (spec_l4Chunks.l0 kj32 l0 l1 l2 t1167 t1170 t1197 x15_32 (rd t1167 x15_32) (rd t1170 x15_32) (l0.length : Int))) else (none)) else (none)) else (none)) = some r := by first | (rw [hji79] at H;exact H) | (simp only [hji79] at H ⊢;exact H)
                          (try rw [hji79] at c30b0)
                          (try rw [hji79] at c30b1)
                          (try rw [hji79] at c30)
                          (try rw [hji79] at c31b0)
                          (try rw [hji79] at c31b1)
                          (try rw [hji79] at c31)
                          have hji79w : (IntKind.i64.wrap (x12_1 + x14_9)) = ji79 := (i64_w _).trans hji79
                          by_cases c80 : 0 ≤ (ji79)
                          ·rw [if_pos c80] at H
                           have c80b0 := eq_true c80
                           have c80b1 : decide (0 ≤ (ji79)) = true := decide_eq_true c80
                           clear c80
                           by_cases c81 : (ji79) ≤ (rd t1170 x15_32)
                           ·rw [if_pos c81] at H
                            have c81b0 := eq_true c81
                            have c81b1 : decide ((ji79) ≤ (rd t1170 x15_32)) = true := decide_eq_true c81
                            clear c81
                            by_cases c82 : (rd t1170 x15_32) ≤ (l2.length : Int)
                            ·rw [if_pos c82] at H
                             have c82b0 := eq_true c82
                             have c82b1 : decide ((rd t1170 x15_32) ≤ (l2.length : Int)) = true := decide_eq_true c82
                             clear c82
                             replace H := Option.bind_eq_some_iff.mp H
                             obtain ⟨t1197, A830, H⟩ := H
                             replace H : (spec_l4Chunks.l0 kj32 l0 l1 l2 t1167 t1170 t1197 x15_32 (rd t1167 x15_32) (rd t1170 x15_32) (l0.length : Int)) = some r := H
                             have A83 := Aside0.mk A830
                             clear A830
                             have H' := Aside0.mk H
                             clear H
                             try go_wp2
                             have n0_ := Aside0.mk (Kd.R_drew HO_7.out)
                             have n1_ := Aside0.mk (Kd.R_drew HO_8.out)
                             have n2_ := Aside0.mk (Kd.S_drew HO_9.out)
                             have n3_ := Aside0.mk (below_drew1 HB.out)
                             clear HO_7
                             clear HO_8
                             clear HO_9
                             clear HB
                             have HO_7 := n0_
                             have HO_8 := n1_
                             have HO_9 := n2_
                             have HB := n3_
                             clear n0_ n1_ n2_ n3_
                             obtain ⟨i085, hi085, _, hsz85, _⟩ := info_parts info9
                             obtain ⟨A85, hcut85, hA85, hC85⟩ := print_mid_of (P := Try.prog) Value.string (⟨#[]⟩ : ByteArray) 34 9 .i64 .i64 Try.underlying34 hi085 hsz85 A0 c0 l0 (ji68) x15_32 od_ (by first | omega | exact od_) od_ HC0.out
                             have HR1192 := Aside0.mk (Kd.C_of_reads (h1 := fun _ => rfl) (hA85 _ (Kd.reads_of_C HR0.out)))
                             have HC1192 := Aside0.mk hC85
                             clear hA85 hC85 hi085 hsz85
                             obtain ⟨Ao86, co86, eo86⟩ := Kd.R_slice HO_7.out
                             (first | subst eo86 | (injection eo86 with f1_ f2_ f3_;have f4_ := f1_.symm;have f5_ := f3_.symm;clear f1_ f2_ f3_;subst f4_;subst f5_))
                             have p1193 : 0 ≤ (x15_32 : Int) := od_
                             have q1193 : x15_32 < (t1167.length : Int) := od_
                             obtain ⟨ad1193, e1193, hx1193_0⟩ := Kd.at_int (Kd.R_reads' HO_7.out).2.2 x15_32 p1193 q1193
                             cases e1193
                             replace p1193 := eq_true p1193
                             replace q1193 := eq_true q1193
                             obtain ⟨i087, hi087, _, hsz87, _⟩ := info_parts info9
                             obtain ⟨A87, hcut87, hA87, hC87⟩ := print_mid_of (P := Try.prog) Value.string (⟨#[]⟩ : ByteArray) 34 9 .i64 .i64 Try.underlying34 hi087 hsz87 A1 c1 l1 (ji74) (rd t1167 x15_32) od_ (by first | omega | exact od_) od_ HC1.out
                             have HR1194 := Aside0.mk (Kd.C_of_reads (h1 := fun _ => rfl) (hA87 _ (Kd.reads_of_C HR1.out)))
                             have HC1194 := Aside0.mk hC87
                             clear hA87 hC87 hi087 hsz87
                             obtain ⟨Ao88, co88, eo88⟩ := Kd.R_slice HO_8.out
                             (first | subst eo88 | (injection eo88 with f1_ f2_ f3_;have f4_ := f1_.symm;have f5_ := f3_.symm;clear f1_ f2_ f3_;subst f4_;subst f5_))
                             have p1195 : 0 ≤ (x15_32 : Int) := od_
                             have q1195 : x15_32 < (t1170.length : Int) := od_
                             obtain ⟨ad1195, e1195, hx1195_0⟩ := Kd.at_int (Kd.R_reads' HO_8.out).2.2 x15_32 p1195 q1195
                             cases e1195
                             replace p1195 := eq_true p1195
                             replace q1195 := eq_true q1195
                             obtain ⟨i089, hi089, _, hsz89, _⟩ := info_parts info9
                             obtain ⟨A89, hcut89, hA89, hC89⟩ := print_mid_of (P := Try.prog) Value.string (⟨#[]⟩ : ByteArray) 34 9 .i64 .i64 Try.underlying34 hi089 hsz89 A2 c2 l2 (ji79) (rd t1170 x15_32) od_ (by first | omega | exact od_) od_ HC2.out
                             have HR1196 := Aside0.mk (Kd.C_of_reads (h1 := fun _ => rfl) (hA89 _ (Kd.reads_of_C HR2.out)))
                             have HC1196 := Aside0.mk hC89
                             clear hA89 hC89 hi089 hsz89
                             obtain ⟨Ao90, co90, eo90⟩ := Kd.S_slice HO_9.out
                             (first | subst eo90 | (injection eo90 with f1_ f2_ f3_;have f4_ := f1_.symm;have f5_ := f3_.symm;clear f1_ f2_ f3_;subst f4_;subst f5_))
                             refine start_ (n := 21) (S := fun w' => w'.cell? (ad1193.add (x15_32).toNat) = some (.int .i64 (rd t1167 x15_32)) ∧ w'.cell? (ad1195.add (x15_32).toNat) = some (.int .i64 (rd t1170 x15_32))) (ds := []) (mb_ 21 0) (by kernel_rfl) rfl rfl ⟨hx1193_0, hx1195_0⟩ (fun hHeld => ?_);refine with_tabW spec_l4Chunks.tab20 spec_l4Chunks.bits20 (fun HT_ HW_ => ?_)
                             generalize wc.drew = w84 at HO_7 HO_8 HO_9 HB HR1192 HR1194 HR1196 hx1193_0 hx1195_0 hHeld ⊢
                             refine pure_ (i := 0) (N := some 119) (v := ?_) (a' := ?_) (mb_ 21 1) rfl rfl (any_of HT_.out (by kernel_rfl)) (fun _ _ _ h => h) (Or.inl ⟨by rfl, ?_⟩) ?_ ?_
                             rotate_left
                             ·intro w'
                              go_simp
                              with_reducible rfl
                             rotate_left
                             ·simp only [Act.put, s0_, s1_, s2_, i64_w, i32_w]
                              rfl
                             refine pure_ (i := 1) (N := some 120) (v := ?_) (a' := ?_) (mb_ 21 3) rfl rfl (any_of HT_.out (by kernel_rfl)) (fun _ _ _ h => h) (Or.inl ⟨by rfl, ?_⟩) ?_ ?_
                             rotate_left
                             ·intro w'
                              go_simp
                              with_reducible rfl
                             rotate_left
                             ·simp only [Act.put, s0_, s1_, s2_, i64_w, i32_w]
                              rfl
                             refine pure_ (i := 2) (N := some 121) (v := ?_) (a' := ?_) (mb_ 21 7) rfl rfl (any_of HT_.out (by kernel_rfl)) (fun _ _ _ h => h) (Or.inl ⟨by rfl, ?_⟩) ?_ ?_
                             rotate_left
                             ·intro w'
                              go_simp
                              with_reducible rfl
                             rotate_left
                             ·simp only [Act.put, s0_, s1_, s2_, i64_w, i32_w]
                              rfl
                             refine pure_ (i := 3) (N := some 122) (v := ?_) (a' := ?_) (mb_ 21 15) rfl rfl (any_of HT_.out (by kernel_rfl)) (fun _ _ _ h => h) (Or.inl ⟨by rfl, ?_⟩) ?_ ?_
                             rotate_left
                             ·intro w'
                              go_simp
                              with_reducible rfl
                             rotate_left
                             ·simp only [Act.put, s0_, s1_, s2_, i64_w, i32_w]
                              rfl
                             refine pure_ (i := 4) (N := some 123) (v := ?_) (a' := ?_) (mb_ 21 31) rfl rfl (any_of HT_.out (by kernel_rfl)) (fun _ _ _ h => h) (Or.inl ⟨by rfl, ?_⟩) ?_ ?_
                             rotate_left
                             ·intro w'
                              go_simp
                              with_reducible rfl
                             rotate_left
                             ·simp only [Act.put, s0_, s1_, s2_, i64_w, i32_w]
                              rfl
                             refine pure_ (i := 5) (N := some 124) (v := ?_) (a' := ?_) (mb_ 21 63) rfl rfl (any_of HT_.out (by kernel_rfl)) (fun _ _ _ h => h) (Or.inl ⟨by rfl, ?_⟩) ?_ ?_
                             rotate_left
                             ·intro w'
                              go_simp
                              with_reducible rfl
                             rotate_left
                             ·simp only [Act.put, s0_, s1_, s2_, i64_w, i32_w]
                              rfl
                             refine pure_ (i := 6) (N := some 125) (v := ?_) (a' := ?_) (mb_ 21 127) rfl rfl (any_of HT_.out (by kernel_rfl)) (fun _ _ _ h => h) (Or.inl ⟨by rfl, ?_⟩) ?_ ?_
                             rotate_left
                             ·intro w'
                              go_simp
                              with_reducible rfl
                             rotate_left
                             ·simp only [Act.put, s0_, s1_, s2_, i64_w, i32_w]
                              rfl
                             refine pure_ (i := 7) (N := some 126) (v := ?_) (a' := ?_) (mb_ 21 255) rfl rfl (any_of HT_.out (by kernel_rfl)) (fun _ _ _ h => h) (Or.inl ⟨by rfl, ?_⟩) ?_ ?_
                             rotate_left
                             ·intro w'
                              go_simp
                              with_reducible rfl
                             rotate_left
                             ·simp only [Act.put, s0_, s1_, s2_, i64_w, i32_w]
                              rfl
                             refine pure_ (i := 8) (N := some 127) (v := ?_) (a' := ?_) (mb_ 21 511) rfl rfl (any_of HT_.out (by kernel_rfl)) (fun _ _ _ h => h) (Or.inl ⟨by rfl, ?_⟩) ?_ ?_
                             rotate_left
                             ·intro w'
                              go_simp
                              with_reducible rfl
                             rotate_left
                             ·simp only [Act.put, s0_, s1_, s2_, i64_w, i32_w]
                              rfl
                             refine pure_ (i := 9) (N := some 128) (v := ?_) (a' := ?_) (mb_ 21 1023) rfl rfl (any_of HT_.out (by kernel_rfl)) (fun _ _ _ h => h) (Or.inl ⟨by rfl, ?_⟩) ?_ ?_
                             rotate_left
                             ·intro w'
                              go_simp
                              with_reducible rfl
                             rotate_left
                             ·simp only [Act.put, s0_, s1_, s2_, i64_w, i32_w]
                              rfl
                             refine pure_ (i := 12) (N := some 131) (v := ?_) (a' := ?_) (mb_ 21 5119) rfl rfl (any_of HT_.out (by kernel_rfl)) (fun _ _ _ h => h) (Or.inl ⟨by rfl, ?_⟩) ?_ ?_
                             rotate_left
                             ·intro w'
                              go_simp
                              with_reducible rfl
                             rotate_left
                             ·simp only [Act.put, s0_, s1_, s2_, i64_w, i32_w]
                              rfl
                             refine pure_ (i := 13) (N := some 132) (v := ?_) (a' := ?_) (mb_ 21 13311) rfl rfl (any_of HT_.out (by kernel_rfl)) (fun _ _ _ h => h) (Or.inl ⟨by rfl, ?_⟩) ?_ ?_
                             rotate_left
                             ·intro w'
                              go_simp
                              with_reducible rfl
                             rotate_left
                             ·simp only [Act.put, s0_, s1_, s2_, i64_w, i32_w]
                              rfl
                             refine pure_ (i := 14) (N := some 133) (v := ?_) (a' := ?_) (mb_ 21 29695) rfl rfl (any_of HT_.out (by kernel_rfl)) (fun _ _ _ h => h) (Or.inl ⟨by rfl, ?_⟩) ?_ ?_
                             rotate_left
                             ·intro w'
                              go_simp
                              with_reducible rfl
                             rotate_left
                             ·simp only [Act.put, s0_, s1_, s2_, i64_w, i32_w]
                              rfl
                             refine pure_ (i := 15) (N := some 134) (v := ?_) (a' := ?_) (mb_ 21 62463) rfl rfl (any_of HT_.out (by kernel_rfl)) (fun _ _ _ h => h) (Or.inl ⟨by rfl, ?_⟩) ?_ ?_
                             rotate_left
                             ·intro w'
                              go_simp
                              with_reducible rfl
                             rotate_left
                             ·simp only [Act.put, s0_, s1_, s2_, i64_w, i32_w]
                              rfl
                             refine pure_ (i := 16) (N := some 135) (v := ?_) (a' := ?_) (mb_ 21 127999) rfl rfl (any_of HT_.out (by kernel_rfl)) (fun _ _ _ h => h) (Or.inl ⟨by rfl, ?_⟩) ?_ ?_
                             rotate_left
                             ·intro w'
                              go_simp
                              with_reducible rfl
                             rotate_left
                             ·simp only [Act.put, s0_, s1_, s2_, i64_w, i32_w]
                              rfl
                             refine take_ (i := 10) (N := some 129) (v := ?_) (a' := ?_) (mb_ 21 129023) rfl rfl (take_ofW HT_.out HW_.out (by kernel_rfl)) (fun _ _ _ h => h) (Or.inl ⟨by rfl, ?_⟩) hHeld ?_ ?_
                             rotate_left
                             ·rintro w' ⟨s0, s1⟩
                              go_simp
                              with_reducible rfl
                             rotate_left
                             ·simp only [Act.put, s0_, s1_, s2_, i64_w, i32_w]
                              rfl
                             refine pure_ (i := 11) (N := some 130) (v := ?_) (a' := ?_) (mb_ 21 131071) rfl rfl (any_of HT_.out (by kernel_rfl)) (fun _ _ _ h => h) (Or.inl ⟨by rfl, ?_⟩) ?_ ?_
                             rotate_left
                             ·intro w'
                              go_simp
                              with_reducible rfl
                             rotate_left
                             ·simp only [Act.put, s0_, s1_, s2_, i64_w, i32_w]
                              rfl
                             refine take_ (i := 17) (N := some 136) (v := ?_) (a' := ?_) (mb_ 21 262143) rfl rfl (take_ofW HT_.out HW_.out (by kernel_rfl)) (fun _ _ _ h => h) (Or.inl ⟨by rfl, ?_⟩) hHeld ?_ ?_
                             rotate_left
                             ·rintro w' ⟨s0, s1⟩
                              go_simp
                              with_reducible rfl
                             rotate_left
                             ·simp only [Act.put, s0_, s1_, s2_, i64_w, i32_w]
                              rfl
                             refine pure_ (i := 18) (N := some 137) (v := ?_) (a' := ?_) (mb_ 21 524287) rfl rfl (any_of HT_.out (by kernel_rfl)) (fun _ _ _ h => h) (Or.inl ⟨by rfl, ?_⟩) ?_ ?_
                             rotate_left
                             ·intro w'
                              go_simp
                              with_reducible rfl
                             rotate_left
                             ·simp only [Act.put, s0_, s1_, s2_, i64_w, i32_w]
                              rfl
                             refine one_ (i := 19) (N := some 138) (mb_ 21 1048575) rfl rfl (one_of HT_.out (by kernel_rfl)) (by decide) (fun K hK => ?_)
                             refine goes_ Try.func96 (by kernel_rfl) rfl #[.slice Ao90 t1181.length co90, .slice A85 ((l0.take (x15_32 : Int).toNat).drop ((ji68) : Int).toNat).length (c0 - (ji68).toNat), .slice A87 ((l1.take ((rd t1167 x15_32) : Int).toNat).drop ((ji74) : Int).toNat).length (c1 - (ji74).toNat), .slice A89 ((l2.take ((rd t1170 x15_32) : Int).toNat).drop ((ji79) : Int).toNat).length (c2 - (ji79).toNat)] (by rfl) rfl rfl (by (try simp only [List.map_toArray, List.map_cons, List.map_nil]);first | done | ((try rw [show ((l0.take (x15_32 : Int).toNat).drop ((ji68) : Int).toNat).length = (x15_32.toNat - (ji68).toNat) from (by rw [List.length_drop, List.length_take];have h_ : (x15_32 : Int) ≤ (l0.length : Int) := od_;omega)]);(try rw [show ((l1.take ((rd t1167 x15_32) : Int).toNat).drop ((ji74) : Int).toNat).length = ((rd t1167 x15_32).toNat - (ji74).toNat) from (by rw [List.length_drop, List.length_take];have h_ : ((rd t1167 x15_32) : Int) ≤ (l1.length : Int) := od_;omega)]);(try rw [show ((l2.take ((rd t1170 x15_32) : Int).toNat).drop ((ji79) : Int).toNat).length = ((rd t1170 x15_32).toNat - (ji79).toNat) from (by rw [List.length_drop, List.length_take];have h_ : ((rd t1170 x15_32) : Int) ≤ (l2.length : Int) := od_;omega)]);rfl) | (rw [show ((l0.take (x15_32 : Int).toNat).drop ((ji68) : Int).toNat).length = (x15_32.toNat - (ji68).toNat) from (by rw [List.length_drop, List.length_take];have h_ : (x15_32 : Int) ≤ (l0.length : Int) := od_;omega)] <;> rfl) | (rw [show ((l1.take ((rd t1167 x15_32) : Int).toNat).drop ((ji74) : Int).toNat).length = ((rd t1167 x15_32).toNat - (ji74).toNat) from (by rw [List.length_drop, List.length_take];have h_ : ((rd t1167 x15_32) : Int) ≤ (l1.length : Int) := od_;omega)] <;> rfl) | (rw [show ((l2.take ((rd t1170 x15_32) : Int).toNat).drop ((ji79) : Int).toNat).length = ((rd t1170 x15_32).toNat - (ji79).toNat) from (by rw [List.length_drop, List.length_take];have h_ : ((rd t1170 x15_32) : Int) ≤ (l2.length : Int) := od_;omega)] <;> rfl) | (simp only [hji68, hji74, hji79];rfl) | rfl | (simp only [List.length_drop, List.length_take];rfl)) ?_
                             with_reducible refine (spec_l4Put.calls kj32 _ (.slice Ao90 t1181.length co90) t1181 _ _ ((l0.take (x15_32 : Int).toNat).drop ((ji68) : Int).toNat) _ _ ((l1.take ((rd t1167 x15_32) : Int).toNat).drop ((ji74) : Int).toNat) _ _ ((l2.take ((rd t1170 x15_32) : Int).toNat).drop ((ji79) : Int).toNat) t1197 w _ ?side1 (Kd.S_bound HO_9.out) ?side3 ?side4 ?side5 ?side6 ?side7 ?side8 A83.out).mono ?_
                             (case side1 => exact bw_ HB.out)
                             (case side3 => exact Kd.C_kept_came Kd.heap_string HR1192.out (bw_ HB.out) (fun k_ hs_ => hs_.2.1))
                             (case side4 => exact HC1192.out)
                             (case side5 => exact Kd.C_kept_came Kd.heap_string HR1194.out (bw_ HB.out) (fun k_ hs_ => hs_.2.1))
                             (case side6 => exact HC1194.out)
                             (case side7 => exact Kd.C_kept_came Kd.heap_string HR1196.out (bw_ HB.out) (fun k_ hs_ => hs_.2.1))
                             (case side8 => exact HC1196.out)
                             rintro e w91 ⟨v1198, rfl, ho0, hb, hkp⟩
                             have HS0_ := cell_kept (hHeld.1) hkp (by rw [add_block];exact (fun hs_ => cell_typed HO_7.out (by decide) hs_.2.2.2))
                             have HS1_ := cell_kept (hHeld.2) hkp (by rw [add_block];exact (fun hs_ => cell_typed HO_8.out (by decide) hs_.2.2.2))
                             refine ⟨_, rfl, ?_⟩
                             have n0_ := Aside0.mk (Kd.R_reok (ok := fun k_ => some k_ ≠ (.slice (some ad1195) t1170.length co88 : Value).ownBlock) rfl (kept_typed rfl HO_7.out hkp (fun _ hs_ => hs_.2.2.2) (by decide)) (fun k_ e_ => (by have h_ := HO_7.out.1 k_ e_;first | exact h_ | exact h_.1 | exact h_.2 | trivial)))
                             have n1_ := Aside0.mk (Kd.R_reok (ok := fun k_ => some k_ ≠ (.slice (some ad1193) t1167.length co86 : Value).ownBlock) rfl (kept_typed rfl HO_8.out hkp (fun _ hs_ => hs_.2.2.2) (by decide)) (fun k_ e_ => (by have h_ := HO_8.out.1 k_ e_;first | exact h_ | exact h_.1 | exact h_.2 | trivial)))
                             have n2_ := Aside0.mk (Kd.S_mono (ok' := fun k_ => True) ho0 (fun k_ hk_ => trivial))
                             have n3_ := Aside0.mk (hb)
                             clear HO_7
                             clear HO_8
                             clear HB
                             clear HO_9
                             have HO_7 := n0_
                             have HO_8 := n1_
                             have HO1199 := n2_
                             have HB := n3_
                             clear n0_ n1_ n2_ n3_
                             (try clear hb)
                             (try clear hkp)
                             (try clear ho0)
                             refine hK.out _ _ ⟨HS0_, HS1_⟩ (fun hHeld => ?_)
                             clear hK K
                             refine norm_ (a' := ?_) ?_ ?_
                             rotate_left
                             ·show Act.put _ (some 138) _ = _
                              simp only [Act.put, s0_, s1_, s2_, i64_w, i32_w]
                              rfl
                             refine pure_ (i := 20) (N := some 9) (v := ?_) (a' := ?_) (mb_ 21 2097151) rfl rfl (any_of HT_.out (by kernel_rfl)) (fun _ _ _ h => h) (Or.inl ⟨by rfl, ?_⟩) ?_ ?_
                             rotate_left
                             ·intro w'
                              go_simp
                              with_reducible rfl
                             rotate_left
                             ·simp only [Act.put, s0_, s1_, s2_, i64_w, i32_w]
                              rfl
                             refine done_ (done_of HT_.out (by kernel_rfl)) ?_
                             have p1200 : 0 ≤ (x15_32 : Int) := od_
                             have q1200 : x15_32 < (t1167.length : Int) := od_
                             obtain ⟨ad1200, e1200, hx1200_0⟩ := Kd.at_int (Kd.R_reads' HO_7.out).2.2 x15_32 p1200 q1200
                             obtain rfl : ad1193 = ad1200 := (by injection e1200)
                             replace p1200 := eq_true p1200
                             replace q1200 := eq_true q1200
                             have p1201 : 0 ≤ (x15_32 : Int) := od_
                             have q1201 : x15_32 < (t1170.length : Int) := od_
                             obtain ⟨ad1201, e1201, hx1201_0⟩ := Kd.at_int (Kd.R_reads' HO_8.out).2.2 x15_32 p1201 q1201
                             obtain rfl : ad1195 = ad1201 := (by injection e1201)
                             replace p1201 := eq_true p1201
                             replace q1201 := eq_true q1201
                             try go_wp2
                             go_roundg kj32
                             case measure => have := HK1.out;have := HJ9.out;have := HJ32.out;omega
                             case rel => exact ⟨(t1197), (x15_32), (rd t1167 x15_32), (rd t1170 x15_32), ls_, ls_, ls_, H', ⟨by have := HK1.out;have := HJ9.out;have := HJ32.out;omega⟩, ⟨rr_ HO_7.out⟩, ⟨rr_ HO_8.out⟩, ⟨rs_ HO1199.out⟩, ⟨bw_ HB.out⟩⟩
                            ·rw [if_neg c82] at H
                             exact absurd H (by simp)
                           ·rw [if_neg c81] at H
                            exact absurd H (by simp)
                          ·rw [if_neg c80] at H
                           exact absurd H (by simp)
                         ·rw [if_neg c78] at H
                          exact absurd H (by simp)
                        ·rw [if_neg c77] at H
                         exact absurd H (by simp)
                       ·rw [if_neg c76] at H
                        exact absurd H (by simp)
                      ·rw [if_neg c75] at H
                       exact absurd H (by simp)
                     ·rw [if_neg c73] at H
                      exact absurd H (by simp)
                    ·rw [if_neg c72] at H
                     exact absurd H (by simp)
                   ·rw [if_neg c71] at H
                    exact absurd H (by simp)
                  ·rw [if_neg c70] at H
                   exact absurd H (by simp)
                 ·rw [if_neg c69] at H
                  exact absurd H (by simp)
             ·rw [if_neg c31] at H
              exact absurd H (by simp)
            ·rw [if_neg c30] at H
             exact absurd H (by simp)
           ·rw [if_neg c29] at H
            exact absurd H (by simp)
          ·rw [if_neg c28] at H
           exact absurd H (by simp)
         ·rw [if_neg c27] at H
          exact absurd H (by simp)
        ·rw [if_neg c26] at H
         exact absurd H (by simp)
       ·rw [if_neg c25] at H
        exact absurd H (by simp)
      ·rw [if_neg c24] at H
       exact absurd H (by simp)
     ·rw [if_neg c23] at H
      exact absurd H (by simp)
end Go.Proofs.Ytjngmhngedecdaa.P
end
section
namespace Go.Proofs.Ytjngmhngedecdaa.P
open Go.RowKit Go.Proofs.YtjngmhngedecdaaW.PrintWords Go.Proofs.YtjngmhngedecdaaW.PrintLast Go.Proofs.YtjngmhngedecdaaW.PrintMore
attribute [local go_sem] max2_int min2_int max_two min_two max_three min_three max_four min_four
set_option linter.unusedVariables false
set_option linter.unusedSimpArgs false
def spec_ChunksOf.f (k : Nat) (l0 : List ByteArray) (l1 : List ByteArray) (l2 : List ByteArray) : Option (Int × (List (S58))) := (spec_LinesFault.f k l0).bind fun t1203 => (if t1203 = 0 then ((spec_l2Asked.f k l1 l2).bind fun t1204 => (if t1204 = 0 then ((spec_l4Chunks.f k l0 l1 l2).bind fun t1205 => (some (0, t1205))) else (some (t1204, ([] : List (S58)))))) else (some (t1203, ([] : List (S58)))))
set_option maxHeartbeats 8000000 in
set_option maxRecDepth 100000 in
theorem spec_ChunksOf.calls (k : Nat) (A0 : Option Addr) (c0 : Nat) (l0 : List ByteArray) (A1 : Option Addr) (c1 : Nat) (l1 : List ByteArray) (A2 : Option Addr) (c2 : Nat) (l2 : List ByteArray) (r1 : Int) (r2 : List (S58)) (w : World) (hr0 : Kd.C Kd.string w A0 l0.length l0) (hc0 : l0.length ≤ c0) (hr1 : Kd.C Kd.string w A1 l1.length l1) (hc1 : l1.length ≤ c1) (hr2 : Kd.C Kd.string w A2 l2.length l2) (hc2 : l2.length ≤ c2) (h : spec_ChunksOf.f k l0 l1 l2 = some (r1, r2)) :
  Calls Try.prog 54 #[.slice A0 l0.length c0, .slice A1 l1.length c1, .slice A2 l2.length c2] w fun e w' => ∃ v1_ : Value, e = .returned (.agg #[.int .i64 r1, v1_]) ∧ Kd.S k58 58 w' w.heap.size (fun _ => True) v1_ r2 ∧ Below w.heap.size w w' := by
 have hu71 := Try.underlying71;have HR0 := Aside0.mk hr0;have HC0 := Aside0.mk hc0;clear hr0 hc0;have HR1 := Aside0.mk hr1;have HC1 := Aside0.mk hc1;clear hr1 hc1;have HR2 := Aside0.mk hr2;have HC2 := Aside0.mk hc2;clear hr2 hc2;have HB := Aside0.mk (Below.refl w.heap.size w);have H : ((spec_LinesFault.f k l0).bind fun t1203 => (if t1203 = 0 then ((spec_l2Asked.f k l1 l2).bind fun t1204 => (if t1204 = 0 then ((spec_l4Chunks.f k l0 l1 l2).bind fun t1205 => (some (0, t1205))) else (some (t1204, ([] : List (S58)))))) else (some (t1203, ([] : List (S58)))))) = some (r1, r2) := h;clear h;replace H := Option.bind_eq_some_iff.mp H;obtain ⟨t1203, A40, H⟩ := H;replace H : (if t1203 = 0 then ((spec_l2Asked.f k l1 l2).bind fun t1204 => (if t1204 = 0 then ((spec_l4Chunks.f k l0 l1 l2).bind fun t1205 => (some (0, t1205))) else (some (t1204, ([] : List (S58)))))) else (some (t1203, ([] : List (S58))))) = some (r1, r2) := H;have A4 := Aside0.mk A40;clear A40;by_cases c5 : t1203 = 0;(·rw [if_pos c5] at H;have c5b0 : (t1203 == 0) = true := beq_iff_eq.mpr c5;have c5b1 : (t1203 != 0) = false := bne_eq_false_iff_eq.mpr c5;clear c5;replace H := Option.bind_eq_some_iff.mp H;obtain ⟨t1204, A60, H⟩ := H;replace H : (if t1204 = 0 then ((spec_l4Chunks.f k l0 l1 l2).bind fun t1205 => (some (0, t1205))) else (some (t1204, ([] : List (S58))))) = some (r1, r2) := H;have A6 := Aside0.mk A60;clear A60;by_cases c7 : t1204 = 0;(·rw [if_pos c7] at H;have c7b0 : (t1204 == 0) = true := beq_iff_eq.mpr c7;have c7b1 : (t1204 != 0) = false := bne_eq_false_iff_eq.mpr c7;clear c7;replace H := Option.bind_eq_some_iff.mp H;obtain ⟨t1205, A80, H⟩ := H;replace H : (some (0, t1205)) = some (r1, r2) := H;have A8 := Aside0.mk A80;clear A80;simp only [Option.some.injEq, Prod.mk.injEq] at H;obtain ⟨rfl, rfl⟩ := H;go_enter Try.func54, Try.ntmps54;go_wp2_with (first | ((with_reducible refine gate_dst (N := 6) rfl ?_);refine box_event ?hg (N := 6) ?hd (cs := #[.int .i64 0, .slice none 0 0]) (t := 71) ?hr ?_;(case hd => rfl);(case hg => rfl);(case hr => first | (go_simp;done) | (go_simp;rfl));intro gb1202 hg w9 hbox hb;have n0_ := Aside0.mk (below_step (bw_ HB.out) hb);have n1_ := Aside0.mk (hbox);have n2_ := Aside0.mk ((by rw [hg];exact (below_size (bw_ HB.out)) : w.heap.size ≤ gb1202));have n3_ := Aside0.mk ((by rw [hg];exact (below_size (bw_ HB.out)) : w.heap.size ≤ gb1202));clear HB;have HB := n0_;have BK1202 := n1_;have GW1202 := n2_;have GE1202 := n3_;clear n0_ n1_ n2_ n3_;clear hb hbox hg) | ((with_reducible refine gate_callee (f := 66) rfl ?_);refine goesL_ (some 10) rfl rfl Try.func66 (by kernel_rfl) rfl #[.slice A0 l0.length c0] rfl lf_ ?_;(with_reducible refine (spec_LinesFault.calls k _ _ l0 t1203 _ ?side1 ?side2 A4.out).mono ?_);(case side1 => exact rc_ (Kd.C_below HR0.out HB.out));(case side2 => exact HC0.out);rintro e w' ⟨rfl, ⟨nd, rfl⟩⟩;refine ⟨_, rfl, ?_⟩;(try (rw [drewN_self w9];generalize hq_ : World.drewN w9 _ = w9;have n0_ : Aside0 (w9.heap[gb1202]? = some (.cells #[.int .i64 0, .slice none 0 0] 71 (0, 0))) := ⟨by rw [← hq_];exact (rb_ BK1202.out)⟩;have n1_ : Aside0 (Below w.heap.size w w9) := ⟨by rw [← hq_];exact (bw1_ HB.out GE1202.out)⟩;clear BK1202 HB hq_;have BK1202 := n0_;have HB := n1_;clear n0_ n1_))) | ((with_reducible refine gate_callee (f := 91) rfl ?_);refine goesL_ (some 17) rfl rfl Try.func91 (by kernel_rfl) rfl #[.slice A1 l1.length c1, .slice A2 l2.length c2] rfl lf_ ?_;(with_reducible refine (spec_l2Asked.calls k _ _ l1 _ _ l2 t1204 _ ?side1 ?side2 ?side3 ?side4 A6.out).mono ?_);(case side1 => exact rc_ (Kd.C_below HR1.out HB.out));(case side2 => exact HC1.out);(case side3 => exact rc_ (Kd.C_below HR2.out HB.out));(case side4 => exact HC2.out);rintro e w' ⟨rfl, ⟨nd, rfl⟩⟩;refine ⟨_, rfl, ?_⟩;(try (rw [drewN_self w9];generalize hq_ : World.drewN w9 _ = w9;have n0_ : Aside0 (w9.heap[gb1202]? = some (.cells #[.int .i64 0, .slice none 0 0] 71 (0, 0))) := ⟨by rw [← hq_];exact (rb_ BK1202.out)⟩;have n1_ : Aside0 (Below w.heap.size w w9) := ⟨by rw [← hq_];exact (bw1_ HB.out GE1202.out)⟩;clear BK1202 HB hq_;have BK1202 := n0_;have HB := n1_;clear n0_ n1_))) | ((with_reducible refine gate_callee (f := 99) rfl ?_);refine goesL_ (some 25) rfl rfl Try.func99 (by kernel_rfl) rfl #[.slice A0 l0.length c0, .slice A1 l1.length c1, .slice A2 l2.length c2] rfl lf_ ?_;(with_reducible refine (spec_l4Chunks.calls k _ _ l0 _ _ l1 _ _ l2 t1205 _ ?side1 ?side2 ?side3 ?side4 ?side5 ?side6 A8.out).mono ?_);(case side1 => exact rc_ (Kd.C_below HR0.out HB.out));(case side2 => exact HC0.out);(case side3 => exact rc_ (Kd.C_below HR1.out HB.out));(case side4 => exact HC1.out);(case side5 => exact rc_ (Kd.C_below HR2.out HB.out));(case side6 => exact HC2.out);rintro e w10 ⟨v1206, rfl, ho0, hb⟩;refine ⟨_, rfl, ?_⟩;have n0_ := Aside0.mk (Kd.S_lower ho0 (below_size (bw1_ HB.out GE1202.out)));have n1_ := Aside0.mk (blk_below (g := gb1202) (o := .cells #[.int .i64 0, .slice none 0 0] 71 (0, 0)) (rb_ BK1202.out) hb);have n2_ := Aside0.mk (below_step (bw1_ HB.out GE1202.out) hb);clear BK1202;clear HB;have HO1207 := n0_;have BK1202 := n1_;have HB := n2_;clear n0_ n1_ n2_;(try clear hb);(try clear hb2);(try clear hk);(try clear hi);(try clear ho0);obtain ⟨Ao11, co11, eo11⟩ := Kd.S_slice HO1207.out;subst eo11;have hcz12_0 : w10.cell? ⟨gb1202, 0, none⟩ = some (.int .i64 0) := (blk_cell BK1202.out 0).trans rfl;have hcz12_1 : w10.cell? ⟨gb1202, 1, none⟩ = some (.slice none 0 0) := (blk_cell BK1202.out 1).trans rfl;have hfz12_0 := blk_frozen BK1202.out 0;have hfz12_1 := blk_frozen BK1202.out 1));refine bodyPost_ret (results_cell_row rfl _ _ gb1202 71 #[.int .i64 0, .slice Ao11 t1205.length co11] (0, 0) _ rfl (by (with_reducible repeat (first | refine blk_drewN ?_ _ | refine blk_drew ?_ | refine blk_alloc ?_ _));refine blk_put (cs := #[.int .i64 0, .slice none 0 0]) ?_ 1 _ rfl;(with_reducible repeat (first | refine blk_drewN ?_ _ | refine blk_drew ?_ | refine blk_alloc ?_ _));refine blk_put (cs := #[.int .i64 0, .slice none 0 0]) ?_ 0 _ rfl;(with_reducible repeat (first | refine blk_drewN ?_ _ | refine blk_drew ?_ | refine blk_alloc ?_ _));exact BK1202.out) Try.underlying71 rfl (by kernel_rfl)) rfl ?_;exact ⟨_, by first | rfl | (simp [errW_none, errW_some] <;> rfl) | (simp [*, errW_none, errW_some] <;> rfl), by (with_reducible repeat (first | apply Kd.S_alloc | apply Kd.S_drewN | apply Kd.S_drew));exact Kd.S_mono (Kd.S_far (p := ⟨gb1202, 1, none⟩) (Kd.S_far (p := ⟨gb1202, 0, none⟩) (Kd.S_types HO1207.out BK1202.out (by decide)) (fun _ hk => hk.2) (.int .i64 0)) (fun _ hk => hk.2) (.slice Ao11 t1205.length co11)) (fun _ hk => trivial), bw1_ HB.out GE1202.out⟩);·rw [if_neg c7] at H;have c7b0 : (t1204 == 0) = false := beq_eq_false_iff_ne.mpr c7;have c7b1 : (t1204 != 0) = true := bne_iff_ne.mpr c7;simp only [Option.some.injEq, Prod.mk.injEq] at H;obtain ⟨rfl, rfl⟩ := H;go_enter Try.func54, Try.ntmps54;go_wp2_with (first | ((with_reducible refine gate_dst (N := 6) rfl ?_);refine box_event ?hg (N := 6) ?hd (cs := #[.int .i64 0, .slice none 0 0]) (t := 71) ?hr ?_;(case hd => rfl);(case hg => rfl);(case hr => first | (go_simp;done) | (go_simp;rfl));intro gb1202 hg w13 hbox hb;have n0_ := Aside0.mk (below_step (bw_ HB.out) hb);have n1_ := Aside0.mk (hbox);have n2_ := Aside0.mk ((by rw [hg];exact (below_size (bw_ HB.out)) : w.heap.size ≤ gb1202));have n3_ := Aside0.mk ((by rw [hg];exact (below_size (bw_ HB.out)) : w.heap.size ≤ gb1202));clear HB;have HB := n0_;have BK1202 := n1_;have GW1202 := n2_;have GE1202 := n3_;clear n0_ n1_ n2_ n3_;clear hb hbox hg) | ((with_reducible refine gate_callee (f := 66) rfl ?_);refine goesL_ (some 10) rfl rfl Try.func66 (by kernel_rfl) rfl #[.slice A0 l0.length c0] rfl lf_ ?_;(with_reducible refine (spec_LinesFault.calls k _ _ l0 t1203 _ ?side1 ?side2 A4.out).mono ?_);(case side1 => exact rc_ (Kd.C_below HR0.out HB.out));(case side2 => exact HC0.out);rintro e w' ⟨rfl, ⟨nd, rfl⟩⟩;refine ⟨_, rfl, ?_⟩;(try (rw [drewN_self w13];generalize hq_ : World.drewN w13 _ = w13;have n0_ : Aside0 (w13.heap[gb1202]? = some (.cells #[.int .i64 0, .slice none 0 0] 71 (0, 0))) := ⟨by rw [← hq_];exact (rb_ BK1202.out)⟩;have n1_ : Aside0 (Below w.heap.size w w13) := ⟨by rw [← hq_];exact (bw1_ HB.out GE1202.out)⟩;clear BK1202 HB hq_;have BK1202 := n0_;have HB := n1_;clear n0_ n1_))) | ((with_reducible refine gate_callee (f := 91) rfl ?_);refine goesL_ (some 17) rfl rfl Try.func91 (by kernel_rfl) rfl #[.slice A1 l1.length c1, .slice A2 l2.length c2] rfl lf_ ?_;(with_reducible refine (spec_l2Asked.calls k _ _ l1 _ _ l2 t1204 _ ?side1 ?side2 ?side3 ?side4 A6.out).mono ?_);(case side1 => exact rc_ (Kd.C_below HR1.out HB.out));(case side2 => exact HC1.out);(case side3 => exact rc_ (Kd.C_below HR2.out HB.out));(case side4 => exact HC2.out);rintro e w' ⟨rfl, ⟨nd, rfl⟩⟩;refine ⟨_, rfl, ?_⟩;(try (rw [drewN_self w13];generalize hq_ : World.drewN w13 _ = w13;have n0_ : Aside0 (w13.heap[gb1202]? = some (.cells #[.int .i64 0, .slice none 0 0] 71 (0, 0))) := ⟨by rw [← hq_];exact (rb_ BK1202.out)⟩;have n1_ : Aside0 (Below w.heap.size w w13) := ⟨by rw [← hq_];exact (bw1_ HB.out GE1202.out)⟩;clear BK1202 HB hq_;have BK1202 := n0_;have HB := n1_;clear n0_ n1_));have hcz14_0 : w13.cell? ⟨gb1202, 0, none⟩ = some (.int .i64 0) := (blk_cell BK1202.out 0).trans rfl;have hcz14_1 : w13.cell? ⟨gb1202, 1, none⟩ = some (.slice none 0 0) := (blk_cell BK1202.out 1).trans rfl;have hfz14_0 := blk_frozen BK1202.out 0;have hfz14_1 := blk_frozen BK1202.out 1));refine bodyPost_ret (results_cell_row rfl _ _ gb1202 71 #[.int .i64 t1204, .slice none 0 0] (0, 0) _ rfl (by (with_reducible repeat (first | refine blk_drewN ?_ _ | refine blk_drew ?_ | refine blk_alloc ?_ _));refine blk_put (cs := #[.int .i64 t1204, .slice none 0 0]) ?_ 1 _ rfl;(with_reducible repeat (first | refine blk_drewN ?_ _ | refine blk_drew ?_ | refine blk_alloc ?_ _));refine blk_put (cs := #[.int .i64 0, .slice none 0 0]) ?_ 0 _ rfl;(with_reducible repeat (first | refine blk_drewN ?_ _ | refine blk_drew ?_ | refine blk_alloc ?_ _));exact BK1202.out) Try.underlying71 rfl (by kernel_rfl)) rfl ?_;exact ⟨_, by first | rfl | (simp [errW_none, errW_some] <;> rfl) | (simp [*, errW_none, errW_some] <;> rfl), by first | exact Kd.S_nil _ _ _ _ _ | exact Kd.N_nil _ _ _ _ _ | exact Kd.V_nil _ _ _ _ _ | exact Kd.Q_nil _ _ _ _ _ | exact Kd.R_nil _ _ _ _ _, bw1_ HB.out GE1202.out⟩);·rw [if_neg c5] at H;have c5b0 : (t1203 == 0) = false := beq_eq_false_iff_ne.mpr c5;have c5b1 : (t1203 != 0) = true := bne_iff_ne.mpr c5;simp only [Option.some.injEq, Prod.mk.injEq] at H;obtain ⟨rfl, rfl⟩ := H;go_enter Try.func54, Try.ntmps54;go_wp2_with (first | ((with_reducible refine gate_dst (N := 6) rfl ?_);refine box_event ?hg (N := 6) ?hd (cs := #[.int .i64 0, .slice none 0 0]) (t := 71) ?hr ?_;(case hd => rfl);(case hg => rfl);(case hr => first | (go_simp;done) | (go_simp;rfl));intro gb1202 hg w15 hbox hb;have n0_ := Aside0.mk (below_step (bw_ HB.out) hb);have n1_ := Aside0.mk (hbox);have n2_ := Aside0.mk ((by rw [hg];exact (below_size (bw_ HB.out)) : w.heap.size ≤ gb1202));have n3_ := Aside0.mk ((by rw [hg];exact (below_size (bw_ HB.out)) : w.heap.size ≤ gb1202));clear HB;have HB := n0_;have BK1202 := n1_;have GW1202 := n2_;have GE1202 := n3_;clear n0_ n1_ n2_ n3_;clear hb hbox hg) | ((with_reducible refine gate_callee (f := 66) rfl ?_);refine goesL_ (some 10) rfl rfl Try.func66 (by kernel_rfl) rfl #[.slice A0 l0.length c0] rfl lf_ ?_;(with_reducible refine (spec_LinesFault.calls k _ _ l0 t1203 _ ?side1 ?side2 A4.out).mono ?_);(case side1 => exact rc_ (Kd.C_below HR0.out HB.out));(case side2 => exact HC0.out);rintro e w' ⟨rfl, ⟨nd, rfl⟩⟩;refine ⟨_, rfl, ?_⟩;(try (rw [drewN_self w15];generalize hq_ : World.drewN w15 _ = w15;have n0_ : Aside0 (w15.heap[gb1202]? = some (.cells #[.int .i64 0, .slice none 0 0] 71 (0, 0))) := ⟨by rw [← hq_];exact (rb_ BK1202.out)⟩;have n1_ : Aside0 (Below w.heap.size w w15) := ⟨by rw [← hq_];exact (bw1_ HB.out GE1202.out)⟩;clear BK1202 HB hq_;have BK1202 := n0_;have HB := n1_;clear n0_ n1_));have hcz16_0 : w15.cell? ⟨gb1202, 0, none⟩ = some (.int .i64 0) := (blk_cell BK1202.out 0).trans rfl;have hcz16_1 : w15.cell? ⟨gb1202, 1, none⟩ = some (.slice none 0 0) := (blk_cell BK1202.out 1).trans rfl;have hfz16_0 := blk_frozen BK1202.out 0;have hfz16_1 := blk_frozen BK1202.out 1));refine bodyPost_ret (results_cell_row rfl _ _ gb1202 71 #[.int .i64 t1203, .slice none 0 0] (0, 0) _ rfl (by (with_reducible repeat (first | refine blk_drewN ?_ _ | refine blk_drew ?_ | refine blk_alloc ?_ _));refine blk_put (cs := #[.int .i64 t1203, .slice none 0 0]) ?_ 1 _ rfl;(with_reducible repeat (first | refine blk_drewN ?_ _ | refine blk_drew ?_ | refine blk_alloc ?_ _));refine blk_put (cs := #[.int .i64 0, .slice none 0 0]) ?_ 0 _ rfl;(with_reducible repeat (first | refine blk_drewN ?_ _ | refine blk_drew ?_ | refine blk_alloc ?_ _));exact BK1202.out) Try.underlying71 rfl (by kernel_rfl)) rfl ?_;exact ⟨_, by first | rfl | (simp [errW_none, errW_some] <;> rfl) | (simp [*, errW_none, errW_some] <;> rfl), by first | exact Kd.S_nil _ _ _ _ _ | exact Kd.N_nil _ _ _ _ _ | exact Kd.V_nil _ _ _ _ _ | exact Kd.Q_nil _ _ _ _ _ | exact Kd.R_nil _ _ _ _ _, bw1_ HB.out GE1202.out⟩
end Go.Proofs.Ytjngmhngedecdaa.P
end
section
namespace Go.Proofs
open Go.Shelf
set_option linter.unusedVariables false
def Try.lays156_ren : Go.Shelf.Ren := ⟨fun | 156 => 88 | 165 => 119 | 166 => 120 | 169 => 121 | 240 => 136 | 241 => 137 | 276 => 146 | 277 => 147 | n => n, fun | 31 => 34 | 9 => 9 | 3 => 3 | 4 => 4 | 0 => 0 | 20 => 20 | 72 => 142 | 76 => 146 | 70 => 140 | 37 => 63 | 75 => 145 | 127 => 161 | 164 => 167 | 5 => 5 | 80 => 148 | n => n, fun | n => n⟩
theorem Try.lays156 : Go.Proofs.Lays.n156 Try.prog Try.lays156_ren := {
  mixed := by kernel_rfl
  f156 := Try.func88.trans (congrArg some (by kernel_rfl))
  f165 := Try.func119.trans (congrArg some (by kernel_rfl))
  f166 := Try.func120.trans (congrArg some (by kernel_rfl))
  f169 := Try.func121.trans (congrArg some (by kernel_rfl))
  f240 := Try.func136.trans (congrArg some (by kernel_rfl))
  f241 := Try.func137.trans (congrArg some (by kernel_rfl))
  f276 := Try.func146.trans (congrArg some (by kernel_rfl))
  f277 := Try.func147.trans (congrArg some (by kernel_rfl))
  t0 := Try.underlying0
  a0 := Try.isAgg0
  z0 := Try.sizeOf0
  v0 := Try.zeroValue0
  t3 := Try.underlying3
  a3 := Try.isAgg3
  z3 := Try.sizeOf3
  v3 := Try.zeroValue3
  t4 := Try.underlying4
  a4 := Try.isAgg4
  z4 := Try.sizeOf4
  v4 := Try.zeroValue4
  t9 := Try.underlying9
  a9 := Try.isAgg9
  z9 := Try.sizeOf9
  v9 := Try.zeroValue9
  t20 := Try.underlying20
  a20 := Try.isAgg20
  z20 := Try.sizeOf20
  v20 := Try.zeroValue20
  t31 := Try.underlying34
  a31 := Try.isAgg34
  z31 := Try.sizeOf34
  v31 := Try.zeroValue34
  t37 := Try.underlying63
  a37 := Try.isAgg63
  z37 := Try.sizeOf63
  v37 := Try.zeroValue63
  t70 := Try.underlying140
  a70 := Try.isAgg140
  z70 := Try.sizeOf140
  v70 := Try.zeroValue140
  t72 := Try.underlying142
  a72 := Try.isAgg142
  z72 := Try.sizeOf142
  v72 := Try.zeroValue142
  t75 := Try.underlying145
  a75 := Try.isAgg145
  z75 := Try.sizeOf145
  v75 := Try.zeroValue145
  t76 := Try.underlying146
  a76 := Try.isAgg146
  z76 := Try.sizeOf146
  v76 := Try.zeroValue146
  t127 := Try.underlying161
  a127 := Try.isAgg161
  z127 := Try.sizeOf161
  v127 := Try.zeroValue161
  t164 := Try.underlying167
  a164 := Try.isAgg167
  z164 := Try.sizeOf167
  v164 := Try.zeroValue167 }
theorem Try.Builder_Extra_156 : Builder.Extra Try.prog Try.lays156_ren := {
  sizeBuilder := by kernel_rfl
  liesBuilder := by kernel_rfl
  t5 := Try.underlying5
  a5 := Try.isAgg5
  z5 := Try.sizeOf5
  v5 := Try.zeroValue5
  infoByte := by kernel_rfl
  cellsByte := by kernel_rfl
  sizeByte := by kernel_rfl
  neB5 := by decide }
open Go.RowKit in
theorem Try.strings_Join_none (a : Option Addr) (c : Nat) (sep : ByteArray) (w : World) :
    Calls Try.prog 88 #[.slice a 0 c, .string sep] w fun e w' => e = .returned (.string ⟨#[]⟩) ∧ w' = w := Any.strings_Join_none Try.lays156 Try.Builder_Extra_156 a c sep w
open Go.RowKit in
theorem Try.strings_Join (bk o c : Nat) (xs : List ByteArray) (sep : ByteArray) (w : World) (hcells : ∀ (j : Nat) x, xs[j]? = some x → w.cell? ⟨bk, o + j, none⟩ = some (.string x)) (hbk : bk < w.heap.size) (hN : xs.length ≤ 140737488355328) (hcap : xs.length ≤ c) (hlen : (Lib.join (xs.map (·.data.toList)) sep.data.toList).length ≤ 140737488355328) :
    Calls Try.prog 88 #[.slice (some ⟨bk, o, none⟩) xs.length c, .string sep] w fun e w' => e = .returned (.string ⟨(Lib.join (xs.map (·.data.toList)) sep.data.toList).toArray⟩) ∧ Below w.heap.size w w' := Any.strings_Join Try.lays156 Try.Builder_Extra_156 bk o c xs sep w hcells hbk hN hcap hlen
def Try.lays144_ren : Go.Shelf.Ren := ⟨fun | 144 => 114 | 143 => 133 | 219 => 145 | 217 => 149 | 225 => 150 | 224 => 151 | 267 => 152 | 266 => 154 | 314 => 155 | n => n, fun | 9 => 9 | 4 => 4 | 3 => 3 | 5 => 5 | 46 => 172 | 146 => 174 | 51 => 173 | n => n, fun | 1 => 0 | n => n⟩
theorem Try.lays144 : Go.Proofs.Lays.n144 Try.prog Try.lays144_ren := {
  mixed := by kernel_rfl
  f143 := Try.func133.trans (congrArg some (by kernel_rfl))
  f144 := Try.func114.trans (congrArg some (by kernel_rfl))
  f217 := Try.func149.trans (congrArg some (by kernel_rfl))
  f219 := Try.func145.trans (congrArg some (by kernel_rfl))
  f224 := Try.func151.trans (congrArg some (by kernel_rfl))
  f225 := Try.func150.trans (congrArg some (by kernel_rfl))
  f266 := Try.func154.trans (congrArg some (by kernel_rfl))
  f267 := Try.func152.trans (congrArg some (by kernel_rfl))
  f314 := Try.func155.trans (congrArg some (by kernel_rfl))
  t3 := Try.underlying3
  a3 := Try.isAgg3
  z3 := Try.sizeOf3
  v3 := Try.zeroValue3
  t4 := Try.underlying4
  a4 := Try.isAgg4
  z4 := Try.sizeOf4
  v4 := Try.zeroValue4
  t5 := Try.underlying5
  a5 := Try.isAgg5
  z5 := Try.sizeOf5
  v5 := Try.zeroValue5
  t9 := Try.underlying9
  a9 := Try.isAgg9
  z9 := Try.sizeOf9
  v9 := Try.zeroValue9
  t46 := Try.underlying172
  a46 := Try.isAgg172
  z46 := Try.sizeOf172
  v46 := Try.zeroValue172
  t51 := Try.underlying173
  a51 := Try.isAgg173
  z51 := Try.sizeOf173
  v51 := Try.zeroValue173
  t146 := Try.underlying174
  a146 := Try.isAgg174
  z146 := Try.sizeOf174
  v146 := Try.zeroValue174
  g1 := by kernel_rfl }
open Go.RowKit Go.Lib in
theorem Try.strings_Contains_one (s : ByteArray) (c : UInt8) (w : World) :
    Calls Try.prog 114 #[.string s, .string ⟨#[c]⟩] w fun e w' => e = .returned (.bool (decide (0 ≤ Lib.indexByte s.data.toList c))) ∧ w' = w := Any.strings_Contains_one Try.lays144 s c w
def Try.lays100_ren : Go.Shelf.Ren := ⟨fun | 100 => 122 | 207 => 138 | n => n, fun | 9 => 9 | 4 => 4 | 3 => 3 | n => n, fun | n => n⟩
theorem Try.lays100 : Go.Proofs.Lays.n100 Try.prog Try.lays100_ren := {
  mixed := by kernel_rfl
  f100 := Try.func122.trans (congrArg some (by kernel_rfl))
  f207 := Try.func138.trans (congrArg some (by kernel_rfl))
  t3 := Try.underlying3
  a3 := Try.isAgg3
  z3 := Try.sizeOf3
  v3 := Try.zeroValue3
  t4 := Try.underlying4
  a4 := Try.isAgg4
  z4 := Try.sizeOf4
  v4 := Try.zeroValue4
  t9 := Try.underlying9
  a9 := Try.isAgg9
  z9 := Try.sizeOf9
  v9 := Try.zeroValue9 }
open Go.RowKit Go.Lib in
theorem Try.strings_HasSuffix (s p : ByteArray) (w : World) (hs : s.size ≤ 9223372036854775807) :
    Calls Try.prog 122 #[.string s, .string p] w fun e w' => e = .returned (.bool (Lib.hasSuffix s.data.toList p.data.toList)) ∧ w' = w := Any.strings_HasSuffix Try.lays100 s p w hs
def Try.laysNm216_ren : Go.Shelf.Ren := ⟨fun | 16 => 143 | n => n, fun | 24 => 34 | 9 => 9 | 4 => 4 | n => n, fun | n => n⟩
theorem Try.laysNm216 : Go.Proofs.Lays2.n16 Try.prog Try.laysNm216_ren := {
  mixed := by kernel_rfl
  f16 := Try.func143.trans (congrArg some (by kernel_rfl))
  t4 := Try.underlying4
  a4 := Try.isAgg4
  z4 := Try.sizeOf4
  v4 := Try.zeroValue4
  t9 := Try.underlying9
  a9 := Try.isAgg9
  z9 := Try.sizeOf9
  v9 := Try.zeroValue9
  t24 := Try.underlying34
  a24 := Try.isAgg34
  z24 := Try.sizeOf34
  v24 := Try.zeroValue34
  i9 := by kernel_rfl }
open Go.RowKit Go.Lib in
theorem Try.slices_Clone_string (b off n c : Nat) (zs : List ByteArray) (w : World) (hz : n ≤ zs.length) (hbig : n * 16 ≤ 140737488355328) (hc : ∀ j, j < zs.length → w.cell? ⟨b, off + j, none⟩ = some (.string (zs.getD j ByteArray.empty))) :
    Calls Try.prog 143 #[.slice (some ⟨b, off, none⟩) n c] w fun e w' => ∃ v', e = .returned v' ∧ w'.ownsRow w.heap.size 9 1 v' n ((zs.take n).map (Value.string)) ∧ v' ≠ .slice none 0 0 ∧ Below w.heap.size w w' := Any.slices_Clone_string Try.laysNm216 b off n c zs w hz hbig hc
open Go.RowKit Go.Lib in
theorem Try.slices_Clone_string_nil (n c : Nat) (w : World) :
    Calls Try.prog 143 #[.slice none n c] w fun e w' => e = .returned (.slice none 0 0) ∧ w' = w := Any.slices_Clone_string_nil Try.laysNm216 n c w
open Go.RowKit Go.Lib in
theorem Try.slices_Clone_string_zero (a : Addr) (c : Nat) (w : World) :
    Calls Try.prog 143 #[.slice (some a) 0 c] w fun e w' => ∃ v', e = .returned v' ∧ w'.ownsRow w.heap.size 9 1 v' 0 [] ∧ v' ≠ .slice none 0 0 ∧ Below w.heap.size w w' := Any.slices_Clone_string_zero Try.laysNm216 a c w
end Go.Proofs
end
section
set_option linter.unusedVariables false
set_option linter.unusedSimpArgs false
namespace Go.Proofs.Ytjngmhngedecdaa.P
open Go.RowKit Go.Proofs.YtjngmhngedecdaaW.PrintWords Go.Proofs.YtjngmhngedecdaaW.PrintLast
theorem same_drawn {P : Program} {n : Nat} {xs : Array Value} {w : World} {v : Value} (h : Calls P n xs w fun e w' => e = .returned v ∧ w' = w) : Calls P n xs w fun e w' => e = .returned v ∧ Drawn0 w w' :=
  h.mono fun _ _ ⟨he, hw⟩ => ⟨he, hw ▸ Drawn0.refl _⟩
def strings_Contains.f (a0 a1 : ByteArray) : Option Bool := match a1 with
  | ⟨⟨[c]⟩⟩ => some (decide (0 ≤ Lib.indexByte a0.data.toList c))
  | _ => none
theorem strings_Contains.calls (a0 a1 : ByteArray) (r : Bool) (w : World) (h : strings_Contains.f a0 a1 = some r) :
    Calls Try.prog 114 #[.string a0, .string a1] w fun e w' => e = .returned (.bool r) ∧ Drawn0 w w' := by
 unfold strings_Contains.f at h;split at h;(·obtain rfl := Option.some.inj h;exact same_drawn (Try.strings_Contains_one a0 _ w));·cases h
def strings_HasSuffix.f (a0 a1 : ByteArray) : Option Bool := if a0.size ≤ 9223372036854775807 then some (Lib.hasSuffix a0.data.toList a1.data.toList) else none
theorem strings_HasSuffix.calls (a0 a1 : ByteArray) (r : Bool) (w : World) (h : strings_HasSuffix.f a0 a1 = some r) :
    Calls Try.prog 122 #[.string a0, .string a1] w fun e w' => e = .returned (.bool r) ∧ Drawn0 w w' := by
 unfold strings_HasSuffix.f at h;split at h;(·rename_i hs;obtain rfl := Option.some.inj h;exact same_drawn (Try.strings_HasSuffix a0 a1 w hs));·cases h
def strings_Join.f (l0 : List ByteArray) (a1 : ByteArray) : Option ByteArray :=
  if l0.length ≤ 140737488355328 ∧ (Lib.join (l0.map (·.data.toList)) a1.data.toList).length ≤ 140737488355328 then some ⟨(Lib.join (l0.map (·.data.toList)) a1.data.toList).toArray⟩ else none
theorem strings_Join.calls (A0 : Option Addr) (c0 : Nat) (l0 : List ByteArray) (a1 : ByteArray) (r : ByteArray) (w : World) (hr0 : Kd.C Kd.string w A0 l0.length l0) (hc0 : l0.length ≤ c0) (h : strings_Join.f l0 a1 = some r) :
    Calls Try.prog 88 #[.slice A0 l0.length c0, .string a1] w fun e w' => e = .returned (.string r) ∧ Below w.heap.size w w' := by
 unfold strings_Join.f at h;split at h
 ·rename_i hs;obtain rfl := Option.some.inj h;(rcases Nat.eq_zero_or_pos l0.length with h0 | h0);(·have e0 : l0 = [] := List.length_eq_zero_iff.1 h0;subst e0;exact (Try.strings_Join_none A0 c0 a1 w).mono fun e w' ⟨he, hw⟩ => ⟨he, hw ▸ Below.refl _ _⟩)
  ·obtain ⟨ad, rfl, hcell⟩ := hr0.2.2 h0
   (have hplain : ∀ j p, l0[j]? = some p → w.cell? (ad.add j) = some (.string p) := fun j p hj => by obtain ⟨c, _, hc, hu⟩ := hcell j p hj;have hc' : c = [.string p] := hc;subst hc';have := hu 0 (.string p) rfl;simpa [Kd.string, Kd.scalar] using this);obtain ⟨bk, o, z⟩ := ad
   have hz : z = none := by
     have h1 := hplain 0 (l0[0]'h0) (List.getElem?_eq_getElem h0)
     cases z with
     | none => rfl
     | some q =>
       simp [World.cell?, Addr.add] at h1
       split at h1 <;> cases h1
   subst hz;(have hadd : ∀ j, (⟨bk, o, none⟩ : Addr).add j = ⟨bk, o + j, none⟩ := fun j => by cases j <;> rfl)
   (have hbk : bk < w.heap.size := by have h1 := hplain 0 (l0[0]'h0) (List.getElem?_eq_getElem h0);rw [hadd] at h1;exact World.block_lt_of_cell? _ _ h1);exact Try.strings_Join bk o c0 l0 a1 w (fun j x hj => by rw [← hadd];exact hplain j x hj) hbk hs.1 hc0 hs.2
 ·cases h
end Go.Proofs.Ytjngmhngedecdaa.P
end
section
namespace Go.Proofs.Ytjngmhngedecdaa.P
open Go.RowKit Go.Proofs.YtjngmhngedecdaaW.PrintWords Go.Proofs.YtjngmhngedecdaaW.PrintLast Go.Proofs.YtjngmhngedecdaaW.PrintMore
attribute [local go_sem] max2_int min2_int max_two min_two max_three min_three max_four min_four
set_option linter.unusedVariables false
set_option linter.unusedSimpArgs false
def impl_isLine.f (a0 : ByteArray) : Option (Bool) := if a0.toList = ([] : List UInt8) then (some false) else (if 0 ≤ (wrap64 ((a0.size : Int) - 1)) then (if (wrap64 ((a0.size : Int) - 1)) ≤ (a0.size : Int) then ((strings_Contains.f (a0.extract 0 ((wrap64 ((a0.size : Int) - 1)) : Int).toNat) (⟨#[10]⟩ : ByteArray)).bind fun t168 => (some (!t168))) else (none)) else (none))
set_option maxHeartbeats 8000000 in
set_option maxRecDepth 100000 in
theorem impl_isLine.calls (a0 : ByteArray) (r : Bool) (w : World) (h : impl_isLine.f a0 = some r) :
  Calls Try.prog 84 #[.string a0] w fun e w' => e = .returned (.bool r) ∧ Drawn0 w w' := by
 have H : (if a0.toList = ([] : List UInt8) then (some false) else (if 0 ≤ (wrap64 ((a0.size : Int) - 1)) then (if (wrap64 ((a0.size : Int) - 1)) ≤ (a0.size : Int) then ((strings_Contains.f (a0.extract 0 ((wrap64 ((a0.size : Int) - 1)) : Int).toNat) (⟨#[10]⟩ : ByteArray)).bind fun t168 => (some (!t168))) else (none)) else (none))) = some r := h;clear h;by_cases c2 : a0.toList = ([] : List UInt8);(·rw [if_pos c2] at H;have c2b0 : (a0.toList == ([] : List UInt8)) = true := beq_iff_eq.mpr c2;have c2b1 : (a0.toList != ([] : List UInt8)) = false := bne_eq_false_iff_eq.mpr c2;clear c2;obtain rfl := Option.some.inj H;go_enter Try.func84, Try.ntmps84;go_wp2;go_ret;exact ⟨by first | rfl | (simp;done) | (simp [*];done), by repeat (first | exact Drawn0.refl _ | apply Drawn0.step)⟩);·rw [if_neg c2] at H;have c2b0 : (a0.toList == ([] : List UInt8)) = false := beq_eq_false_iff_ne.mpr c2;have c2b1 : (a0.toList != ([] : List UInt8)) = true := bne_iff_ne.mpr c2;obtain ⟨ji3, hji3⟩ : ∃ j_ : Int, (wrap64 ((a0.size : Int) - 1)) = j_ := ⟨_, rfl⟩;(replace H : (if 0 ≤ (ji3) then (if (ji3) ≤ (a0.size : Int) then ((strings_Contains.f (a0.extract 0 ((ji3) : Int).toNat) (⟨#[10]⟩ : ByteArray)).bind fun t168 => (some (!t168))) else (none)) else (none)) = some r := by first | (rw [hji3] at H;exact H) | (simp only [hji3] at H ⊢;exact H));have hji3w : (IntKind.i64.wrap ((a0.size : Int) - 1)) = ji3 := (i64_w _).trans hji3;by_cases c4 : 0 ≤ (ji3);(·rw [if_pos c4] at H;have c4b0 := eq_true c4;have c4b1 : decide (0 ≤ (ji3)) = true := decide_eq_true c4;clear c4;by_cases c5 : (ji3) ≤ (a0.size : Int);(·rw [if_pos c5] at H;have c5b0 := eq_true c5;have c5b1 : decide ((ji3) ≤ (a0.size : Int)) = true := decide_eq_true c5;clear c5;replace H := Option.bind_eq_some_iff.mp H;obtain ⟨t168, A60, H⟩ := H;replace H : (some (!t168)) = some r := H;have A6 := Aside0.mk A60;clear A60;obtain rfl := Option.some.inj H;go_enter Try.func84, Try.ntmps84;go_wp2_with (first | (go_at_call 114;(with_reducible refine (strings_Contains.calls (a0.extract 0 ((ji3) : Int).toNat) (⟨#[10]⟩ : ByteArray) t168 _ A6.out).mono ?_);rintro e w' ⟨rfl, ⟨nd, rfl⟩⟩));go_ret;exact ⟨by first | rfl | (simp;done) | (simp only [← hji3] <;> (first | rfl | simp)) | (simp [*];done), by repeat (first | exact Drawn0.refl _ | apply Drawn0.step)⟩);·rw [if_neg c5] at H;exact absurd H (by simp));·rw [if_neg c4] at H;exact absurd H (by simp)
end Go.Proofs.Ytjngmhngedecdaa.P
end
section
namespace Go.Proofs.Ytjngmhngedecdaa.P
open Go.RowKit Go.Proofs.YtjngmhngedecdaaW.PrintWords Go.Proofs.YtjngmhngedecdaaW.PrintLast Go.Proofs.YtjngmhngedecdaaW.PrintMore
attribute [local go_sem] max2_int min2_int max_two min_two max_three min_three max_four min_four
set_option linter.unusedVariables false
set_option linter.unusedSimpArgs false
def impl_isWhole.f (a0 : ByteArray) : Option (Bool) := (strings_HasSuffix.f a0 (⟨#[10]⟩ : ByteArray)).bind fun t300 => (some t300)
set_option maxHeartbeats 8000000 in
set_option maxRecDepth 100000 in
theorem impl_isWhole.calls (a0 : ByteArray) (r : Bool) (w : World) (h : impl_isWhole.f a0 = some r) :
  Calls Try.prog 89 #[.string a0] w fun e w' => e = .returned (.bool r) ∧ Drawn0 w w' := by
 have H : ((strings_HasSuffix.f a0 (⟨#[10]⟩ : ByteArray)).bind fun t300 => (some t300)) = some r := h;clear h;replace H := Option.bind_eq_some_iff.mp H;obtain ⟨t300, A20, H⟩ := H;replace H : (some t300) = some r := H;have A2 := Aside0.mk A20;clear A20;obtain rfl := Option.some.inj H;go_enter Try.func89, Try.ntmps89;go_wp2_with (first | ((with_reducible refine gate_callee (f := 122) rfl ?_);refine goesL_ (some 4) rfl rfl Try.func122 (by kernel_rfl) rfl #[.string a0, .string (⟨#[10]⟩ : ByteArray)] rfl lf_ ?_;(with_reducible refine (strings_HasSuffix.calls a0 (⟨#[10]⟩ : ByteArray) t300 _ A2.out).mono ?_);rintro e w' ⟨rfl, ⟨nd, rfl⟩⟩;refine ⟨_, rfl, ?_⟩));go_ret;exact ⟨by first | rfl | (simp;done) | (simp [*];done), by repeat (first | exact Drawn0.refl _ | apply Drawn0.step)⟩
end Go.Proofs.Ytjngmhngedecdaa.P
end
section
namespace Go.Proofs.Ytjngmhngedecdaa.P
open Go.RowKit Go.Proofs.YtjngmhngedecdaaW.PrintWords Go.Proofs.YtjngmhngedecdaaW.PrintLast Go.Proofs.YtjngmhngedecdaaW.PrintMore
attribute [local go_sem] max2_int min2_int max_two min_two max_three min_three max_four min_four
set_option linter.unusedVariables false
set_option linter.unusedSimpArgs false
mutual
def impl_LinesFault.j0 : Nat → List ByteArray → Bool → Option (Int)
 | 0, _, _ => none
 | k + 1, x0, x13 => if x13 = true then (some 2) else (impl_LinesFault.l0 k x0 x0 (x0.length : Int) 0)
def impl_LinesFault.l0 : Nat → List ByteArray → List ByteArray → Int → Int → Option (Int)
 | 0, _, _, _, _ => none
 | k + 1, x0, x14, x15, x16 => if x16 < x15 then (if 0 ≤ x16 then (if x16 < (x14.length : Int) then ((impl_isLine.f (rdOf ByteArray.empty x14 x16)).bind fun t303 => (if t303 = true then ((impl_isWhole.f (rdOf ByteArray.empty x14 x16)).bind fun t304 => (if t304 = true then (impl_LinesFault.l0 k x0 x14 x15 (wrap64 (x16 + 1))) else (if x16 = (wrap64 ((x0.length : Int) - 1)) then (impl_LinesFault.l0 k x0 x14 x15 (wrap64 (x16 + 1))) else (some 1)))) else (some 1))) else (none)) else (none)) else (some 0)
end
def impl_LinesFault.f (k : Nat) (l0 : List ByteArray) : Option (Int) := if (l0.length : Int) > 100 then (impl_LinesFault.j0 k l0 true) else ((strings_Join.f l0 (⟨#[]⟩ : ByteArray)).bind fun t301 => (impl_LinesFault.j0 k l0 (decide ((t301.size : Int) > 2000))))
set_option maxHeartbeats 8000000 in
set_option maxRecDepth 100000 in
theorem impl_LinesFault.calls (k : Nat) (A0 : Option Addr) (c0 : Nat) (l0 : List ByteArray) (r : Int) (w : World) (hr0 : Kd.C Kd.string w A0 l0.length l0) (hc0 : l0.length ≤ c0) (h : impl_LinesFault.f k l0 = some r) :
  Calls Try.prog 45 #[.slice A0 l0.length c0] w fun e w' => e = .returned (.int .i64 r) ∧ Below w.heap.size w w' := by
 have HR0 := Aside0.mk hr0;have HC0 := Aside0.mk hc0;clear hr0 hc0;have HB := Aside0.mk (Below.refl w.heap.size w);have H : (if (l0.length : Int) > 100 then (impl_LinesFault.j0 k l0 true) else ((strings_Join.f l0 (⟨#[]⟩ : ByteArray)).bind fun t301 => (impl_LinesFault.j0 k l0 (decide ((t301.size : Int) > 2000))))) = some r := h;clear h;have HC2 := Aside0.mk H;clear H;go_enter Try.func45, Try.ntmps45;(go_upto_region 1 with (fail));go_cut [13] (fun v13 wc => ∃ (kq : Nat) (x13_1 : Bool), v13 = .bool x13_1 ∧ Aside0 (impl_LinesFault.j0 kq l0 x13_1 = some r) ∧ Aside0 (kq ≤ k) ∧ Aside0 (Below w.heap.size w wc))
 (case first => have H := HC2.out;clear HC2;by_cases c3 : (l0.length : Int) > 100;(·rw [if_pos c3] at H;have c3b0 : decide (100 < (l0.length : Int)) = true := decide_eq_true c3;have c3b1 : decide (100 < l0.length) = true := decide_eq_true (by omega);clear c3;(first | rw [c3b0] | (simp only [i64_w, i32_w];rw [c3b0]) | skip);have H' := Aside0.mk H;clear H;go_wp2;go_meet;case rel => exact ⟨_, (true), ls_, H', ⟨by first | omega | exact Nat.le_refl _⟩, ⟨bw_ HB.out⟩⟩);·rw [if_neg c3] at H;have c3b0 : decide (100 < (l0.length : Int)) = false := decide_eq_false c3;have c3b1 : decide (100 < l0.length) = false := decide_eq_false (by omega);clear c3;(first | rw [c3b0] | (simp only [i64_w, i32_w];rw [c3b0]) | skip);replace H := Option.bind_eq_some_iff.mp H;obtain ⟨t301, A40, H⟩ := H;replace H : (impl_LinesFault.j0 k l0 (decide ((t301.size : Int) > 2000))) = some r := H;have A4 := Aside0.mk A40;clear A40;have H' := Aside0.mk H;clear H;go_wp2_with (first | (go_at_call 88;(with_reducible refine (strings_Join.calls _ _ l0 (⟨#[]⟩ : ByteArray) t301 _ ?side1 ?side2 A4.out).mono ?_);(case side1 => exact rc_ (Kd.C_below HR0.out HB.out));(case side2 => exact HC0.out);rintro e w5 ⟨rfl, hb⟩;have n0_ := Aside0.mk (below_step (bw_ HB.out) hb);clear HB;have HB := n0_;clear n0_;(try clear hb);(try clear hb2);(try clear hk);(try clear hi)));go_meet;case rel => exact ⟨_, (decide ((t301.size : Int) > 2000)), ls_, H', ⟨by first | omega | exact Nat.le_refl _⟩, ⟨bw_ HB.out⟩⟩)
 case rest =>
  clear HC2
  try clear p2
  try clear c3
  try clear c3b0
  try clear c3b1
  try clear c4
  obtain ⟨kq, x13_1, rfl, HA, HJ1, HB⟩ := hcut
  cases kq with
  | zero => exact absurd HA.out (by simp [impl_LinesFault.j0])
  | succ kj1 =>
   have H := HA.out
   clear HA
   simp only [impl_LinesFault.j0] at H
   by_cases c6 : x13_1 = true
   ·subst c6
    have H1 : (some 2) = some r := by rw [if_pos rfl] at H;exact H
    clear H
    have H := H1
    clear H1
    obtain rfl := Option.some.inj H
    go_wp2
    go_ret
    exact ⟨by first | rfl | (simp [errW_none, errW_some] <;> rfl) | (simp [*, errW_none, errW_some] <;> rfl), bw_ HB.out⟩
   ·replace c6 := Bool.eq_false_iff.mpr c6
    subst c6
    have H1 : (impl_LinesFault.l0 kj1 l0 l0 (l0.length : Int) 0) = some r := by rw [if_neg (show ¬ (false = true) by decide)] at H;exact H
    clear H
    have H := H1
    clear H1
    have H' := Aside0.mk H
    clear H
    go_wp2
    go_loopg [16] kj1 (fun kq v16 w' => ∃ (x16_2 : Int), v16 = .int .i64 x16_2 ∧ Aside0 (impl_LinesFault.l0 kq l0 l0 (l0.length : Int) x16_2 = some r) ∧ Aside0 (kq ≤ kj1) ∧ Aside0 (Below w.heap.size w w'))
    case atStart => exact ⟨(0), ls_, H', ⟨Nat.le_refl _⟩, ⟨bw_ HB.out⟩⟩
    case round =>
     clear H'
     try clear p2
     try clear c3
     try clear c3b0
     try clear c3b1
     try clear c4
     try clear c6
     try clear p2
     obtain ⟨x16_2, rfl, HA, HK2, HB⟩ := hrel
     cases gk with
     | zero => exact absurd HA.out (by simp [impl_LinesFault.l0])
     | succ k2 =>
      have H := HA.out
      clear HA
      simp only [impl_LinesFault.l0] at H
      by_cases c7 : x16_2 < (l0.length : Int)
      ·rw [if_pos c7] at H
       have c7b0 : decide (x16_2 < (l0.length : Int)) = true := decide_eq_true c7
       clear c7
       by_cases c8 : 0 ≤ x16_2
       ·rw [if_pos c8] at H
        have c8b0 : decide (0 ≤ x16_2) = true := decide_eq_true c8
        clear c8
        by_cases c9 : x16_2 < (l0.length : Int)
        ·rw [if_pos c9] at H
         have c9b0 : decide (x16_2 < (l0.length : Int)) = true := decide_eq_true c9
         clear c9
         replace H := Option.bind_eq_some_iff.mp H
         obtain ⟨t303, A100, H⟩ := H
         replace H : (if t303 = true then ((impl_isWhole.f (rdOf ByteArray.empty l0 x16_2)).bind fun t304 => (if t304 = true then (impl_LinesFault.l0 k2 l0 l0 (l0.length : Int) (wrap64 (x16_2 + 1))) else (if x16_2 = (wrap64 ((l0.length : Int) - 1)) then (impl_LinesFault.l0 k2 l0 l0 (l0.length : Int) (wrap64 (x16_2 + 1))) else (some 1)))) else (some 1)) = some r := H
         have A10 := Aside0.mk A100
         clear A100
         by_cases c11 : t303 = true
         ·subst c11
          have H1 : ((impl_isWhole.f (rdOf ByteArray.empty l0 x16_2)).bind fun t304 => (if t304 = true then (impl_LinesFault.l0 k2 l0 l0 (l0.length : Int) (wrap64 (x16_2 + 1))) else (if x16_2 = (wrap64 ((l0.length : Int) - 1)) then (impl_LinesFault.l0 k2 l0 l0 (l0.length : Int) (wrap64 (x16_2 + 1))) else (some 1)))) = some r := by rw [if_pos rfl] at H;exact H
          clear H
          have H := H1
          clear H1
          replace H := Option.bind_eq_some_iff.mp H
          obtain ⟨t304, A120, H⟩ := H
          replace H : (if t304 = true then (impl_LinesFault.l0 k2 l0 l0 (l0.length : Int) (wrap64 (x16_2 + 1))) else (if x16_2 = (wrap64 ((l0.length : Int) - 1)) then (impl_LinesFault.l0 k2 l0 l0 (l0.length : Int) (wrap64 (x16_2 + 1))) else (some 1))) = some r := H
          have A12 := Aside0.mk A120
          clear A120
          by_cases c13 : t304 = true
          ·subst c13
           have H1 : (impl_LinesFault.l0 k2 l0 l0 (l0.length : Int) (wrap64 (x16_2 + 1))) = some r := by rw [if_pos rfl] at H;exact H
           clear H
           have H := H1
           clear H1
           have H' := Aside0.mk H
           clear H
           have p302 : 0 ≤ (x16_2 : Int) := od_
           have q302 : x16_2 < (l0.length : Int) := od_
           obtain ⟨ad302, e302, hx302_0⟩ := Kd.at_string HR0.out x16_2 p302 q302
           cases e302
           replace hx302_0 := hc_ HB.out hx302_0
           replace p302 := eq_true p302
           replace q302 := eq_true q302
           go_wp2_with (first | ((with_reducible refine gate_callee (f := 84) rfl ?_);refine goesL_ (some 22) rfl rfl Try.func84 (by kernel_rfl) rfl #[.string (rdOf ByteArray.empty l0 x16_2)] rfl lf_ ?_;(with_reducible refine (impl_isLine.calls (rdOf ByteArray.empty l0 x16_2) true _ A10.out).mono ?_);rintro e w' ⟨rfl, ⟨nd, rfl⟩⟩;refine ⟨_, rfl, ?_⟩) | (go_at_call 89;(with_reducible refine (impl_isWhole.calls (rdOf ByteArray.empty l0 x16_2) true _ A12.out).mono ?_);rintro e w' ⟨rfl, ⟨nd, rfl⟩⟩))
           go_roundg k2
           case measure => have := HJ1.out;have := HK2.out;omega
           case rel => exact ⟨(wrap64 (x16_2 + 1)), ls_, H', ⟨by have := HJ1.out;have := HK2.out;omega⟩, ⟨bw_ HB.out⟩⟩
          ·replace c13 := Bool.eq_false_iff.mpr c13
           subst c13
           have H1 : (if x16_2 = (wrap64 ((l0.length : Int) - 1)) then (impl_LinesFault.l0 k2 l0 l0 (l0.length : Int) (wrap64 (x16_2 + 1))) else (some 1)) = some r := by rw [if_neg (show ¬ (false = true) by decide)] at H;exact H
           clear H
           have H := H1
           clear H1
           by_cases c14 : x16_2 = (wrap64 ((l0.length : Int) - 1))
           ·rw [if_pos c14] at H
            have c14b0 : (x16_2 == (wrap64 ((l0.length : Int) - 1))) = true := beq_iff_eq.mpr c14
            have c14b1 : (x16_2 != (wrap64 ((l0.length : Int) - 1))) = false := bne_eq_false_iff_eq.mpr c14
            clear c14
            have H' := Aside0.mk H
            clear H
            have p302 : 0 ≤ (x16_2 : Int) := od_
            have q302 : x16_2 < (l0.length : Int) := od_
            obtain ⟨ad302, e302, hx302_0⟩ := Kd.at_string HR0.out x16_2 p302 q302
            cases e302
            replace hx302_0 := hc_ HB.out hx302_0
            replace p302 := eq_true p302
            replace q302 := eq_true q302
            go_wp2_with (first | ((with_reducible refine gate_callee (f := 84) rfl ?_);refine goesL_ (some 22) rfl rfl Try.func84 (by kernel_rfl) rfl #[.string (rdOf ByteArray.empty l0 x16_2)] rfl lf_ ?_;(with_reducible refine (impl_isLine.calls (rdOf ByteArray.empty l0 x16_2) true _ A10.out).mono ?_);rintro e w' ⟨rfl, ⟨nd, rfl⟩⟩;refine ⟨_, rfl, ?_⟩) | (go_at_call 89;(with_reducible refine (impl_isWhole.calls (rdOf ByteArray.empty l0 x16_2) false _ A12.out).mono ?_);rintro e w' ⟨rfl, ⟨nd, rfl⟩⟩))
            go_roundg k2
            case measure => have := HJ1.out;have := HK2.out;omega
            case rel => exact ⟨(wrap64 (x16_2 + 1)), ls_, H', ⟨by have := HJ1.out;have := HK2.out;omega⟩, ⟨bw_ HB.out⟩⟩
           ·rw [if_neg c14] at H
            have c14b0 : (x16_2 == (wrap64 ((l0.length : Int) - 1))) = false := beq_eq_false_iff_ne.mpr c14
            have c14b1 : (x16_2 != (wrap64 ((l0.length : Int) - 1))) = true := bne_iff_ne.mpr c14
            obtain rfl := Option.some.inj H
            have p302 : 0 ≤ (x16_2 : Int) := od_
            have q302 : x16_2 < (l0.length : Int) := od_
            obtain ⟨ad302, e302, hx302_0⟩ := Kd.at_string HR0.out x16_2 p302 q302
            cases e302
            replace hx302_0 := hc_ HB.out hx302_0
            replace p302 := eq_true p302
            replace q302 := eq_true q302
            go_wp2_with (first | ((with_reducible refine gate_callee (f := 84) rfl ?_);refine goesL_ (some 22) rfl rfl Try.func84 (by kernel_rfl) rfl #[.string (rdOf ByteArray.empty l0 x16_2)] rfl lf_ ?_;(with_reducible refine (impl_isLine.calls (rdOf ByteArray.empty l0 x16_2) true _ A10.out).mono ?_);rintro e w' ⟨rfl, ⟨nd, rfl⟩⟩;refine ⟨_, rfl, ?_⟩) | (go_at_call 89;(with_reducible refine (impl_isWhole.calls (rdOf ByteArray.empty l0 x16_2) false _ A12.out).mono ?_);rintro e w' ⟨rfl, ⟨nd, rfl⟩⟩))
            go_ret
            exact ⟨by first | rfl | (simp [errW_none, errW_some] <;> rfl) | (simp [*, errW_none, errW_some] <;> rfl), bw_ HB.out⟩
         ·replace c11 := Bool.eq_false_iff.mpr c11
          subst c11
          have H1 : (some 1) = some r := by rw [if_neg (show ¬ (false = true) by decide)] at H;exact H
          clear H
          have H := H1
          clear H1
          obtain rfl := Option.some.inj H
          have p302 : 0 ≤ (x16_2 : Int) := od_
          have q302 : x16_2 < (l0.length : Int) := od_
          obtain ⟨ad302, e302, hx302_0⟩ := Kd.at_string HR0.out x16_2 p302 q302
          cases e302
          replace hx302_0 := hc_ HB.out hx302_0
          replace p302 := eq_true p302
          replace q302 := eq_true q302
          go_wp2_with (first | ((with_reducible refine gate_callee (f := 84) rfl ?_);refine goesL_ (some 22) rfl rfl Try.func84 (by kernel_rfl) rfl #[.string (rdOf ByteArray.empty l0 x16_2)] rfl lf_ ?_;(with_reducible refine (impl_isLine.calls (rdOf ByteArray.empty l0 x16_2) false _ A10.out).mono ?_);rintro e w' ⟨rfl, ⟨nd, rfl⟩⟩;refine ⟨_, rfl, ?_⟩))
          go_ret
          exact ⟨by first | rfl | (simp [errW_none, errW_some] <;> rfl) | (simp [*, errW_none, errW_some] <;> rfl), bw_ HB.out⟩
        ·rw [if_neg c9] at H
         exact absurd H (by simp)
       ·rw [if_neg c8] at H
        exact absurd H (by simp)
      ·rw [if_neg c7] at H
       have c7b0 : decide (x16_2 < (l0.length : Int)) = false := decide_eq_false c7
       clear c7
       obtain rfl := Option.some.inj H
       go_wp2
       go_ret
       exact ⟨by first | rfl | (simp [errW_none, errW_some] <;> rfl) | (simp [*, errW_none, errW_some] <;> rfl), bw_ HB.out⟩
end Go.Proofs.Ytjngmhngedecdaa.P
end
section
namespace Go.Proofs.Ytjngmhngedecdaa.P
open Go.RowKit Go.Proofs.YtjngmhngedecdaaW.PrintWords Go.Proofs.YtjngmhngedecdaaW.PrintLast Go.Proofs.YtjngmhngedecdaaW.PrintMore
attribute [local go_sem] max2_int min2_int max_two min_two max_three min_three max_four min_four
set_option linter.unusedVariables false
set_option linter.unusedSimpArgs false
def impl_firstCode.l0 : Nat → List Int → Int → Int → Option (Int)
 | 0, _, _, _ => none
 | k + 1, x5, x6, x7 => if x7 < x6 then (if 0 ≤ x7 then (if x7 < (x5.length : Int) then (if (rd x5 x7) = 0 then (impl_firstCode.l0 k x5 x6 (wrap64 (x7 + 1))) else (some (rd x5 x7))) else (none)) else (none)) else (some 0)
def impl_firstCode.f (k : Nat) (l0 : List Int) : Option (Int) := impl_firstCode.l0 k l0 (l0.length : Int) 0
set_option maxHeartbeats 8000000 in
set_option maxRecDepth 100000 in
theorem impl_firstCode.calls (k : Nat) (A0 : Option Addr) (c0 : Nat) (l0 : List Int) (r : Int) (w : World) (hr0 : Kd.C (Kd.int .i64) w A0 l0.length l0) (hc0 : l0.length ≤ c0) (h : impl_firstCode.f k l0 = some r) :
  Calls Try.prog 67 #[.slice A0 l0.length c0] w fun e w' => e = .returned (.int .i64 r) ∧ Drawn0 w w' := by
 have HR0 := Aside0.mk hr0;have HC0 := Aside0.mk hc0;clear hr0 hc0;have H : (impl_firstCode.l0 k l0 (l0.length : Int) 0) = some r := h;clear h;have H' := Aside0.mk H;clear H;go_enter Try.func67, Try.ntmps67;go_wp2;go_loopg [7] k (fun kq v7 w' => ∃ (x7_1 : Int), v7 = .int .i64 x7_1 ∧ Aside0 (impl_firstCode.l0 kq l0 (l0.length : Int) x7_1 = some r) ∧ Aside0 (kq ≤ k) ∧ Drawn0 w w');(case atStart => exact ⟨(0), ls_, H', ⟨Nat.le_refl _⟩, by repeat (first | exact Drawn0.refl _ | apply Drawn0.step)⟩)
 case round =>
  clear H'
  obtain ⟨x7_1, rfl, HA, HK1, ⟨m1, rfl⟩⟩ := hrel
  cases gk with
  | zero => exact absurd HA.out (by simp [impl_firstCode.l0])
  | succ k1 =>
   have H := HA.out
   clear HA
   simp only [impl_firstCode.l0] at H
   by_cases c2 : x7_1 < (l0.length : Int)
   ·rw [if_pos c2] at H
    have c2b0 : decide (x7_1 < (l0.length : Int)) = true := decide_eq_true c2
    clear c2
    by_cases c3 : 0 ≤ x7_1
    ·rw [if_pos c3] at H
     have c3b0 : decide (0 ≤ x7_1) = true := decide_eq_true c3
     clear c3
     by_cases c4 : x7_1 < (l0.length : Int)
     ·rw [if_pos c4] at H
      have c4b0 : decide (x7_1 < (l0.length : Int)) = true := decide_eq_true c4
      clear c4
      by_cases c5 : (rd l0 x7_1) = 0
      ·rw [if_pos c5] at H
       have c5b0 : ((rd l0 x7_1) == 0) = true := beq_iff_eq.mpr c5
       have c5b1 : ((rd l0 x7_1) != 0) = false := bne_eq_false_iff_eq.mpr c5
       clear c5
       have H' := Aside0.mk H
       clear H
       have p305 : 0 ≤ (x7_1 : Int) := od_
       have q305 : x7_1 < (l0.length : Int) := od_
       obtain ⟨ad305, e305, hx305_0⟩ := Kd.at_int HR0.out x7_1 p305 q305
       cases e305
       replace p305 := eq_true p305
       replace q305 := eq_true q305
       go_wp2
       go_roundg k1
       case measure => have := HK1.out;omega
       case rel => exact ⟨(wrap64 (x7_1 + 1)), ls_, H', ⟨by have := HK1.out;omega⟩, by repeat (first | exact Drawn0.refl _ | apply Drawn0.step)⟩
      ·rw [if_neg c5] at H
       have c5b0 : ((rd l0 x7_1) == 0) = false := beq_eq_false_iff_ne.mpr c5
       have c5b1 : ((rd l0 x7_1) != 0) = true := bne_iff_ne.mpr c5
       obtain rfl := Option.some.inj H
       have p305 : 0 ≤ (x7_1 : Int) := od_
       have q305 : x7_1 < (l0.length : Int) := od_
       obtain ⟨ad305, e305, hx305_0⟩ := Kd.at_int HR0.out x7_1 p305 q305
       cases e305
       replace p305 := eq_true p305
       replace q305 := eq_true q305
       go_wp2
       go_ret
       exact ⟨by first | rfl | (simp;done) | (simp [*];done), by repeat (first | exact Drawn0.refl _ | apply Drawn0.step)⟩
     ·rw [if_neg c4] at H
      exact absurd H (by simp)
    ·rw [if_neg c3] at H
     exact absurd H (by simp)
   ·rw [if_neg c2] at H
    have c2b0 : decide (x7_1 < (l0.length : Int)) = false := decide_eq_false c2
    clear c2
    obtain rfl := Option.some.inj H
    go_wp2
    go_ret
    exact ⟨by first | rfl | (simp;done) | (simp [*];done), by repeat (first | exact Drawn0.refl _ | apply Drawn0.step)⟩
end Go.Proofs.Ytjngmhngedecdaa.P
end
section
namespace Go.Proofs.Ytjngmhngedecdaa.P
open Go.RowKit Go.Proofs.YtjngmhngedecdaaW.PrintWords Go.Proofs.YtjngmhngedecdaaW.PrintLast Go.Proofs.YtjngmhngedecdaaW.PrintMore
attribute [local go_sem] max2_int min2_int max_two min_two max_three min_three max_four min_four
set_option linter.unusedVariables false
set_option linter.unusedSimpArgs false
def slices_Equal_string_string.l0 : Nat → List ByteArray → List ByteArray → Int → Int → Option (Bool)
 | 0, _, _, _, _ => none
 | k + 1, x0, x1, x12, x13 => if x13 < x12 then (if 0 ≤ x13 then (if x13 < (x0.length : Int) then (if x13 < (x1.length : Int) then (if (rdOf ByteArray.empty x0 x13).toList = (rdOf ByteArray.empty x1 x13).toList then (slices_Equal_string_string.l0 k x0 x1 x12 (wrap64 (x13 + 1))) else (some false)) else (none)) else (none)) else (none)) else (some true)
def slices_Equal_string_string.f (k : Nat) (l0 : List ByteArray) (l1 : List ByteArray) : Option (Bool) := if (l0.length : Int) = (l1.length : Int) then (slices_Equal_string_string.l0 k l0 l1 (l0.length : Int) 0) else (some false)
theorem slices_Equal_string_string.mono_l : ∀ k, (∀ y0 y1 y2 y3, LeO (slices_Equal_string_string.l0 k y0 y1 y2 y3) (slices_Equal_string_string.l0 (k + 1) y0 y1 y2 y3))
 | 0 => fun _ _ _ _ r h => by simp [slices_Equal_string_string.l0] at h
 | k + 1 => by
  have ih0 := slices_Equal_string_string.mono_l k
  ·intro y0 y1 y2 y3
   unfold slices_Equal_string_string.l0
   repeat' first
   | (with_reducible exact ih0 _ _ _ _)
   | (with_reducible exact LeO.refl _)
   | (with_reducible exact LeO.none _)
   | (with_reducible refine LeO.ite ?_ ?_)
   | (with_reducible refine LeO.bind ?_ (fun _ => ?_))
   | exact ih0 _ _ _ _
   | exact LeO.none _
   | refine LeO.ite ?_ ?_
   | refine LeO.bind ?_ (fun _ => ?_)
theorem slices_Equal_string_string.mono : ∀ a0 a1 k, LeO (slices_Equal_string_string.f k a0 a1) (slices_Equal_string_string.f (k + 1) a0 a1) := by
 intro a0 a1 k;have ih0 := slices_Equal_string_string.mono_l k;unfold slices_Equal_string_string.f
 repeat' first
   | (with_reducible exact ih0 _ _ _ _)
   | (with_reducible exact LeO.refl _)
   | (with_reducible exact LeO.none _)
   | (with_reducible refine LeO.ite ?_ ?_)
   | (with_reducible refine LeO.bind ?_ (fun _ => ?_))
   | exact ih0 _ _ _ _
   | exact LeO.none _
   | refine LeO.ite ?_ ?_
   | refine LeO.bind ?_ (fun _ => ?_)
set_option maxHeartbeats 8000000 in
set_option maxRecDepth 100000 in
theorem slices_Equal_string_string.calls (k : Nat) (A0 : Option Addr) (c0 : Nat) (l0 : List ByteArray) (A1 : Option Addr) (c1 : Nat) (l1 : List ByteArray) (r : Bool) (w : World) (hr0 : Kd.C Kd.string w A0 l0.length l0) (hc0 : l0.length ≤ c0) (hr1 : Kd.C Kd.string w A1 l1.length l1) (hc1 : l1.length ≤ c1) (h : slices_Equal_string_string.f k l0 l1 = some r) :
  Calls Try.prog 90 #[.slice A0 l0.length c0, .slice A1 l1.length c1] w fun e w' => e = .returned (.bool r) ∧ Drawn0 w w' := by
 have HR0 := Aside0.mk hr0;have HC0 := Aside0.mk hc0;clear hr0 hc0;have HR1 := Aside0.mk hr1;have HC1 := Aside0.mk hc1;clear hr1 hc1;have H : (if (l0.length : Int) = (l1.length : Int) then (slices_Equal_string_string.l0 k l0 l1 (l0.length : Int) 0) else (some false)) = some r := h;clear h;by_cases c3 : (l0.length : Int) = (l1.length : Int)
 ·rw [if_pos c3] at H;have c3b0 : ((l0.length : Int) == (l1.length : Int)) = true := beq_iff_eq.mpr c3;have c3b1 : ((l0.length : Int) != (l1.length : Int)) = false := bne_eq_false_iff_eq.mpr c3;(have c3b2 : (l0.length == l1.length) = true := by first | simpa using c3 | (simp at c3 ⊢;omega));clear c3;have H' := Aside0.mk H;clear H;go_enter Try.func90, Try.ntmps90;go_wp2;(repeat (go_quiet (fail);try go_wp2));go_loopg [13] k (fun kq v13 w' => ∃ (x13_1 : Int), v13 = .int .i64 x13_1 ∧ Aside0 (slices_Equal_string_string.l0 kq l0 l1 (l0.length : Int) x13_1 = some r) ∧ Aside0 (kq ≤ k) ∧ Drawn0 w w');(case atStart => exact ⟨(0), ls_, H', ⟨Nat.le_refl _⟩, by repeat (first | exact Drawn0.refl _ | apply Drawn0.step)⟩)
  case round =>
   clear H'
   try clear c1
   try clear p2
   try clear c3
   try clear c3b0
   try clear c3b1
   try clear c3b2
   obtain ⟨x13_1, rfl, HA, HK1, ⟨m1, rfl⟩⟩ := hrel
   cases gk with
   | zero => exact absurd HA.out (by simp [slices_Equal_string_string.l0])
   | succ k1 =>
    have H := HA.out
    clear HA
    simp only [slices_Equal_string_string.l0] at H
    by_cases c4 : x13_1 < (l0.length : Int)
    ·rw [if_pos c4] at H
     have c4b0 : decide (x13_1 < (l0.length : Int)) = true := decide_eq_true c4
     clear c4
     by_cases c5 : 0 ≤ x13_1
     ·rw [if_pos c5] at H
      have c5b0 : decide (0 ≤ x13_1) = true := decide_eq_true c5
      clear c5
      by_cases c6 : x13_1 < (l0.length : Int)
      ·rw [if_pos c6] at H
       have c6b0 : decide (x13_1 < (l0.length : Int)) = true := decide_eq_true c6
       clear c6
       by_cases c7 : x13_1 < (l1.length : Int)
       ·rw [if_pos c7] at H
        have c7b0 : decide (x13_1 < (l1.length : Int)) = true := decide_eq_true c7
        clear c7
        by_cases c8 : (rdOf ByteArray.empty l0 x13_1).toList = (rdOf ByteArray.empty l1 x13_1).toList
        ·rw [if_pos c8] at H
         have c8b0 : ((rdOf ByteArray.empty l0 x13_1).toList == (rdOf ByteArray.empty l1 x13_1).toList) = true := beq_iff_eq.mpr c8
         have c8b1 : ((rdOf ByteArray.empty l0 x13_1).toList != (rdOf ByteArray.empty l1 x13_1).toList) = false := bne_eq_false_iff_eq.mpr c8
         clear c8
         have H' := Aside0.mk H
         clear H
         have p485 : 0 ≤ (x13_1 : Int) := od_
         have q485 : x13_1 < (l0.length : Int) := od_
         obtain ⟨ad485, e485, hx485_0⟩ := Kd.at_string HR0.out x13_1 p485 q485
         cases e485
         replace p485 := eq_true p485
         replace q485 := eq_true q485
         have p486 : 0 ≤ (x13_1 : Int) := od_
         have q486 : x13_1 < (l1.length : Int) := od_
         obtain ⟨ad486, e486, hx486_0⟩ := Kd.at_string HR1.out x13_1 p486 q486
         cases e486
         replace p486 := eq_true p486
         replace q486 := eq_true q486
         go_wp2
         repeat (go_quiet (fail);try go_wp2)
         go_roundg k1
         case measure => have := HK1.out;omega
         case rel => exact ⟨(wrap64 (x13_1 + 1)), ls_, H', ⟨by have := HK1.out;omega⟩, by repeat (first | exact Drawn0.refl _ | apply Drawn0.step)⟩
        ·rw [if_neg c8] at H
         have c8b0 : ((rdOf ByteArray.empty l0 x13_1).toList == (rdOf ByteArray.empty l1 x13_1).toList) = false := beq_eq_false_iff_ne.mpr c8
         have c8b1 : ((rdOf ByteArray.empty l0 x13_1).toList != (rdOf ByteArray.empty l1 x13_1).toList) = true := bne_iff_ne.mpr c8
         obtain rfl := Option.some.inj H
         have p485 : 0 ≤ (x13_1 : Int) := od_
         have q485 : x13_1 < (l0.length : Int) := od_
         obtain ⟨ad485, e485, hx485_0⟩ := Kd.at_string HR0.out x13_1 p485 q485
         cases e485
         replace p485 := eq_true p485
         replace q485 := eq_true q485
         have p486 : 0 ≤ (x13_1 : Int) := od_
         have q486 : x13_1 < (l1.length : Int) := od_
         obtain ⟨ad486, e486, hx486_0⟩ := Kd.at_string HR1.out x13_1 p486 q486
         cases e486
         replace p486 := eq_true p486
         replace q486 := eq_true q486
         go_wp2
         repeat (go_quiet (fail);try go_wp2)
         go_ret
         exact ⟨by first | rfl | (simp;done) | (simp [*];done), by repeat (first | exact Drawn0.refl _ | apply Drawn0.step)⟩
       ·rw [if_neg c7] at H
        exact absurd H (by simp)
      ·rw [if_neg c6] at H
       exact absurd H (by simp)
     ·rw [if_neg c5] at H
      exact absurd H (by simp)
    ·rw [if_neg c4] at H
     have c4b0 : decide (x13_1 < (l0.length : Int)) = false := decide_eq_false c4
     clear c4
     obtain rfl := Option.some.inj H
     go_wp2
     repeat (go_quiet (fail);try go_wp2)
     go_ret
     exact ⟨by first | rfl | (simp;done) | (simp [*];done), by repeat (first | exact Drawn0.refl _ | apply Drawn0.step)⟩
 ·rw [if_neg c3] at H;have c3b0 : ((l0.length : Int) == (l1.length : Int)) = false := beq_eq_false_iff_ne.mpr c3;have c3b1 : ((l0.length : Int) != (l1.length : Int)) = true := bne_iff_ne.mpr c3;(have c3b2 : (l0.length == l1.length) = false := by first | simpa using c3 | (simp at c3 ⊢;omega));obtain rfl := Option.some.inj H;go_enter Try.func90, Try.ntmps90;go_wp2;(repeat (go_quiet (fail);try go_wp2));go_ret;exact ⟨by first | rfl | (simp;done) | (simp [*];done), by repeat (first | exact Drawn0.refl _ | apply Drawn0.step)⟩
end Go.Proofs.Ytjngmhngedecdaa.P
end
section
namespace Go.Proofs.Ytjngmhngedecdaa.P
open Go.RowKit Go.Proofs.YtjngmhngedecdaaW.PrintWords Go.Proofs.YtjngmhngedecdaaW.PrintLast Go.Proofs.YtjngmhngedecdaaW.PrintMore
attribute [local go_sem] max2_int min2_int max_two min_two max_three min_three max_four min_four
set_option linter.unusedVariables false
set_option linter.unusedSimpArgs false
def impl_kindOf.j0 : Nat → Bool → Bool → Bool → Bool → Option (Int)
 | 0, _, _, _, _ => none
 | k + 1, x7, x8, x9, x19 => if x19 = true then (some 0) else (if x8 = true then (some 1) else (if x7 = true then (some 2) else (if x9 = true then (some 3) else (some 4))))
def impl_kindOf.f (k : Nat) (l0 : List ByteArray) (l1 : List ByteArray) (l2 : List ByteArray) : Option (Int) := (slices_Equal_string_string.f k l0 l1).bind fun t487 => ((slices_Equal_string_string.f k l0 l2).bind fun t488 => ((slices_Equal_string_string.f k l1 l2).bind fun t489 => (if t487 = true then (impl_kindOf.j0 k t487 t488 t489 t488) else (impl_kindOf.j0 k t487 t488 t489 false))))
theorem impl_kindOf.mono_l : ∀ k, (∀ y0 y1 y2 y3, LeO (impl_kindOf.j0 k y0 y1 y2 y3) (impl_kindOf.j0 (k + 1) y0 y1 y2 y3))
 | 0 => fun _ _ _ _ r h => by simp [impl_kindOf.j0] at h
 | k + 1 => by
  have ih0 := impl_kindOf.mono_l k
  ·intro y0 y1 y2 y3
   unfold impl_kindOf.j0
   repeat' first
   | (with_reducible exact ih0 _ _ _ _)
   | (with_reducible exact slices_Equal_string_string.mono _ _ _)
   | (with_reducible exact LeO.refl _)
   | (with_reducible exact LeO.none _)
   | (with_reducible refine LeO.ite ?_ ?_)
   | (with_reducible refine LeO.bind ?_ (fun _ => ?_))
   | exact ih0 _ _ _ _
   | exact slices_Equal_string_string.mono _ _ _
   | exact LeO.none _
   | refine LeO.ite ?_ ?_
   | refine LeO.bind ?_ (fun _ => ?_)
theorem impl_kindOf.mono : ∀ a0 a1 a2 k, LeO (impl_kindOf.f k a0 a1 a2) (impl_kindOf.f (k + 1) a0 a1 a2) := by
 intro a0 a1 a2 k;have ih0 := impl_kindOf.mono_l k;unfold impl_kindOf.f
 repeat' first
   | (with_reducible exact ih0 _ _ _ _)
   | (with_reducible exact slices_Equal_string_string.mono _ _ _)
   | (with_reducible exact LeO.refl _)
   | (with_reducible exact LeO.none _)
   | (with_reducible refine LeO.ite ?_ ?_)
   | (with_reducible refine LeO.bind ?_ (fun _ => ?_))
   | exact ih0 _ _ _ _
   | exact slices_Equal_string_string.mono _ _ _
   | exact LeO.none _
   | refine LeO.ite ?_ ?_
   | refine LeO.bind ?_ (fun _ => ?_)
set_option maxHeartbeats 8000000 in
set_option maxRecDepth 100000 in
theorem impl_kindOf.calls (k : Nat) (A0 : Option Addr) (c0 : Nat) (l0 : List ByteArray) (A1 : Option Addr) (c1 : Nat) (l1 : List ByteArray) (A2 : Option Addr) (c2 : Nat) (l2 : List ByteArray) (r : Int) (w : World) (hr0 : Kd.C Kd.string w A0 l0.length l0) (hc0 : l0.length ≤ c0) (hr1 : Kd.C Kd.string w A1 l1.length l1) (hc1 : l1.length ≤ c1) (hr2 : Kd.C Kd.string w A2 l2.length l2) (hc2 : l2.length ≤ c2) (h : impl_kindOf.f k l0 l1 l2 = some r) :
  Calls Try.prog 81 #[.slice A0 l0.length c0, .slice A1 l1.length c1, .slice A2 l2.length c2] w fun e w' => e = .returned (.int .i64 r) ∧ Drawn0 w w' := by
 have HR0 := Aside0.mk hr0;have HC0 := Aside0.mk hc0;clear hr0 hc0;have HR1 := Aside0.mk hr1;have HC1 := Aside0.mk hc1;clear hr1 hc1;have HR2 := Aside0.mk hr2;have HC2 := Aside0.mk hc2;clear hr2 hc2;have H : ((slices_Equal_string_string.f k l0 l1).bind fun t487 => ((slices_Equal_string_string.f k l0 l2).bind fun t488 => ((slices_Equal_string_string.f k l1 l2).bind fun t489 => (if t487 = true then (impl_kindOf.j0 k t487 t488 t489 t488) else (impl_kindOf.j0 k t487 t488 t489 false))))) = some r := h;clear h;replace H := Option.bind_eq_some_iff.mp H;obtain ⟨t487, A40, H⟩ := H;replace H : ((slices_Equal_string_string.f k l0 l2).bind fun t488 => ((slices_Equal_string_string.f k l1 l2).bind fun t489 => (if t487 = true then (impl_kindOf.j0 k t487 t488 t489 t488) else (impl_kindOf.j0 k t487 t488 t489 false)))) = some r := H;have A4 := Aside0.mk A40;clear A40;replace H := Option.bind_eq_some_iff.mp H;obtain ⟨t488, A50, H⟩ := H;replace H : ((slices_Equal_string_string.f k l1 l2).bind fun t489 => (if t487 = true then (impl_kindOf.j0 k t487 t488 t489 t488) else (impl_kindOf.j0 k t487 t488 t489 false))) = some r := H;have A5 := Aside0.mk A50;clear A50;replace H := Option.bind_eq_some_iff.mp H;obtain ⟨t489, A60, H⟩ := H;replace H : (if t487 = true then (impl_kindOf.j0 k t487 t488 t489 t488) else (impl_kindOf.j0 k t487 t488 t489 false)) = some r := H;have A6 := Aside0.mk A60;clear A60;have HC7 := Aside0.mk H;clear H;go_enter Try.func81, Try.ntmps81;(go_upto_region 2 with (first | ((with_reducible refine gate_callee (f := 90) rfl ?_);refine goesL_ (some 12) rfl rfl Try.func90 (by kernel_rfl) rfl #[.slice A0 l0.length c0, .slice A1 l1.length c1] rfl lf_ ?_;(with_reducible refine (slices_Equal_string_string.calls k _ _ l0 _ _ l1 t487 _ ?side1 ?side2 ?side3 ?side4 A4.out).mono ?_);(case side1 => exact rc_ HR0.out);(case side2 => exact HC0.out);(case side3 => exact rc_ HR1.out);(case side4 => exact HC1.out);rintro e w' ⟨rfl, ⟨nd, rfl⟩⟩;refine ⟨_, rfl, ?_⟩) | ((with_reducible refine gate_callee (f := 90) rfl ?_);refine goesL_ (some 15) rfl rfl Try.func90 (by kernel_rfl) rfl #[.slice A0 l0.length c0, .slice A2 l2.length c2] rfl lf_ ?_;(with_reducible refine (slices_Equal_string_string.calls k _ _ l0 _ _ l2 t488 _ ?side1 ?side2 ?side3 ?side4 A5.out).mono ?_);(case side1 => exact rc_ HR0.out);(case side2 => exact HC0.out);(case side3 => exact rc_ HR2.out);(case side4 => exact HC2.out);rintro e w' ⟨rfl, ⟨nd, rfl⟩⟩;refine ⟨_, rfl, ?_⟩) | ((with_reducible refine gate_callee (f := 90) rfl ?_);refine goesL_ (some 18) rfl rfl Try.func90 (by kernel_rfl) rfl #[.slice A1 l1.length c1, .slice A2 l2.length c2] rfl lf_ ?_;(with_reducible refine (slices_Equal_string_string.calls k _ _ l1 _ _ l2 t489 _ ?side1 ?side2 ?side3 ?side4 A6.out).mono ?_);(case side1 => exact rc_ HR1.out);(case side2 => exact HC1.out);(case side3 => exact rc_ HR2.out);(case side4 => exact HC2.out);rintro e w' ⟨rfl, ⟨nd, rfl⟩⟩;refine ⟨_, rfl, ?_⟩)));(try simp only [Act.put, List.setIfInBounds_toArray, List.set_cons_zero, List.set_cons_succ]);go_cut [19] (fun v19 wc => ∃ (kq : Nat) (x19_6 : Bool), v19 = .bool x19_6 ∧ Aside0 (impl_kindOf.j0 kq t487 t488 t489 x19_6 = some r) ∧ Aside0 (kq ≤ k) ∧ Drawn0 w wc)
 (case first => have H := HC7.out;clear HC7;by_cases c8 : t487 = true;(·subst c8;(have H1 : (impl_kindOf.j0 k true t488 t489 t488) = some r := by rw [if_pos rfl] at H;exact H);clear H;have H := H1;clear H1;have H' := Aside0.mk H;clear H;go_wp2;go_meet;case rel => exact ⟨_, (t488), ls_, H', ⟨by first | omega | exact Nat.le_refl _⟩, by repeat (first | exact Drawn0.refl _ | apply Drawn0.step)⟩);·replace c8 := Bool.eq_false_iff.mpr c8;subst c8;(have H1 : (impl_kindOf.j0 k false t488 t489 false) = some r := by rw [if_neg (show ¬ (false = true) by decide)] at H;exact H);clear H;have H := H1;clear H1;have H' := Aside0.mk H;clear H;go_wp2;go_meet;case rel => exact ⟨_, (false), ls_, H', ⟨by first | omega | exact Nat.le_refl _⟩, by repeat (first | exact Drawn0.refl _ | apply Drawn0.step)⟩)
 case rest =>
  clear HC7
  try clear c1
  try clear c2
  try clear p2
  try clear c8
  obtain ⟨kq, x19_6, rfl, HA, HJ6, ⟨mc6, rfl⟩⟩ := hcut
  cases kq with
  | zero => exact absurd HA.out (by simp [impl_kindOf.j0])
  | succ kj6 =>
   have H := HA.out
   clear HA
   simp only [impl_kindOf.j0] at H
   by_cases c9 : x19_6 = true
   ·subst c9
    have H1 : (some 0) = some r := by rw [if_pos rfl] at H;exact H
    clear H
    have H := H1
    clear H1
    obtain rfl := Option.some.inj H
    go_wp2
    go_ret
    exact ⟨by first | rfl | (simp;done) | (simp [*];done), by repeat (first | exact Drawn0.refl _ | apply Drawn0.step)⟩
   ·replace c9 := Bool.eq_false_iff.mpr c9
    subst c9
    have H1 : (if t488 = true then (some 1) else (if t487 = true then (some 2) else (if t489 = true then (some 3) else (some 4)))) = some r := by rw [if_neg (show ¬ (false = true) by decide)] at H;exact H
    clear H
    have H := H1
    clear H1
    by_cases c10 : t488 = true
    ·subst c10
     have H1 : (some 1) = some r := by rw [if_pos rfl] at H;exact H
     clear H
     have H := H1
     clear H1
     obtain rfl := Option.some.inj H
     go_wp2
     go_ret
     exact ⟨by first | rfl | (simp;done) | (simp [*];done), by repeat (first | exact Drawn0.refl _ | apply Drawn0.step)⟩
    ·replace c10 := Bool.eq_false_iff.mpr c10
     subst c10
     have H1 : (if t487 = true then (some 2) else (if t489 = true then (some 3) else (some 4))) = some r := by rw [if_neg (show ¬ (false = true) by decide)] at H;exact H
     clear H
     have H := H1
     clear H1
     by_cases c11 : t487 = true
     ·subst c11
      have H1 : (some 2) = some r := by rw [if_pos rfl] at H;exact H
      clear H
      have H := H1
      clear H1
      obtain rfl := Option.some.inj H
      go_wp2
      go_ret
      exact ⟨by first | rfl | (simp;done) | (simp [*];done), by repeat (first | exact Drawn0.refl _ | apply Drawn0.step)⟩
     ·replace c11 := Bool.eq_false_iff.mpr c11
      subst c11
      have H1 : (if t489 = true then (some 3) else (some 4)) = some r := by rw [if_neg (show ¬ (false = true) by decide)] at H;exact H
      clear H
      have H := H1
      clear H1
      by_cases c12 : t489 = true
      ·subst c12
       have H1 : (some 3) = some r := by rw [if_pos rfl] at H;exact H
       clear H
       have H := H1
       clear H1
       obtain rfl := Option.some.inj H
       go_wp2
       go_ret
       exact ⟨by first | rfl | (simp;done) | (simp [*];done), by repeat (first | exact Drawn0.refl _ | apply Drawn0.step)⟩
      ·replace c12 := Bool.eq_false_iff.mpr c12
       subst c12
       have H1 : (some 4) = some r := by rw [if_neg (show ¬ (false = true) by decide)] at H;exact H
       clear H
       have H := H1
       clear H1
       obtain rfl := Option.some.inj H
       go_wp2
       go_ret
       exact ⟨by first | rfl | (simp;done) | (simp [*];done), by repeat (first | exact Drawn0.refl _ | apply Drawn0.step)⟩
end Go.Proofs.Ytjngmhngedecdaa.P
end
section
set_option linter.unusedVariables false
set_option linter.unusedSimpArgs false
namespace Go.Proofs.Ytjngmhngedecdaa.P
open Go.RowKit Go.Proofs.YtjngmhngedecdaaW.PrintWords Go.Proofs.YtjngmhngedecdaaW.PrintLast
def slices_CloneS.f (l0 : List ByteArray) : Option (List ByteArray) := if l0.length ≤ 8796093022208 then some l0 else none
theorem clone_row (W : World) (base e : Nat) (v : Value) (xs : List ByteArray) (ho : W.ownsRow base e 1 v xs.length (xs.map Value.string)) : Kd.R Kd.string e W base (fun _ => True) v xs := by
 refine ⟨fun _ _ => trivial, xs.map Value.string, ho, ⟨?_, ?_⟩⟩;(·show (xs.map Value.string).length = xs.length * 1;simp);·intro j p hj;show ((xs.map Value.string).drop (j * 1)).take 1 = [Value.string p];rw [Nat.mul_one, ← List.map_drop, List.drop_eq_getElem_cons (List.getElem?_eq_some_iff.1 hj).1];simp [(List.getElem?_eq_some_iff.1 hj).2]
theorem slices_CloneS.calls (A0 : Option Addr) (c0 : Nat) (l0 : List ByteArray) (r : List ByteArray) (w : World) (hr0 : Kd.C Kd.string w A0 l0.length l0) (hc0 : l0.length ≤ c0) (h : slices_CloneS.f l0 = some r) :
    Calls Try.prog 143 #[.slice A0 l0.length c0] w fun e w' => ∃ v0_ : Value, e = .returned (v0_) ∧ Kd.R Kd.string 9 w' w.heap.size (fun _ => True) v0_ r ∧ Below w.heap.size w w' := by
  unfold slices_CloneS.f at h
  split at h
  · rename_i hs
    obtain rfl := Option.some.inj h
    rcases Nat.eq_zero_or_pos l0.length with h0 | h0
    · have e0 : l0 = [] := List.length_eq_zero_iff.1 h0
      subst e0
      cases A0 with
      | none => exact (Try.slices_Clone_string_nil 0 c0 w).mono fun e w' ⟨he, hw⟩ => ⟨_, he, Kd.R_nil _ _ _ _ _, hw ▸ Below.refl _ _⟩
      | some a => exact (Try.slices_Clone_string_zero a c0 w).mono fun e w' ⟨v', he, ho, _, hb⟩ => ⟨v', he, clone_row w' _ _ v' [] ho, hb⟩
    · obtain ⟨ad, rfl, hcell⟩ := hr0.2.2 h0
      have hplain : ∀ j p, l0[j]? = some p → w.cell? (ad.add j) = some (.string p) := fun j p hj => by
        obtain ⟨c, _, hc, hu⟩ := hcell j p hj
        have hc' : c = [.string p] := hc
        subst hc'
        have := hu 0 (.string p) rfl
        simpa [Kd.string, Kd.scalar] using this
      obtain ⟨bk, o, z⟩ := ad
      have hz : z = none := by
        have h1 := hplain 0 (l0[0]'h0) (List.getElem?_eq_getElem h0)
        cases z with
        | none => rfl
        | some q =>
          simp [World.cell?, Addr.add] at h1
          split at h1 <;> cases h1
      subst hz
      have hadd : ∀ j, (⟨bk, o, none⟩ : Addr).add j = ⟨bk, o + j, none⟩ := fun j => by cases j <;> rfl
      refine (Try.slices_Clone_string bk o l0.length c0 l0 w (Nat.le_refl _) (by omega) (fun j hj => ?_)).mono fun e w' ⟨v', he, ho, _, hb⟩ => ⟨v', he, clone_row w' _ _ v' l0 (by rwa [List.take_length] at ho), hb⟩
      rw [← hadd, hplain j (l0[j]'hj) (List.getElem?_eq_getElem hj), List.getD_eq_getElem?_getD, List.getElem?_eq_getElem hj]
      rfl
  · cases h
end Go.Proofs.Ytjngmhngedecdaa.P
end
