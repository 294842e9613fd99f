/- FnExactGetObject: the law of the program holds at every input: the Go function returns true, and its arguments read afterwards as before.
Conditions: none beyond the given statement's own (what can be read as data, of a size that memory bears). -/
import Derived.Lib.Strings
import Derived.Lib.Bytealg
import Derived.Lib.Split
import Derived.Lib.SplitLaws
import Derived.Lib.Repeat
import Derived.SliceStrings
import Derived.DataReads
import Derived.DataElems
import Derived.Test.YtclbcoejblnjjaaDoorCards
import Derived.Test.YtclbcoejblnjjaaDoorTie
import Derived.Lay
import Derived.LaidOnce
import Derived.SevenTiedAt
import Derived.Lib.LaidTab
import Derived.Test.YtclbcoejblnjjaaDoorRows
import Derived.WalkKit
import Derived.ProofKit
import Derived.OpenShut
import Derived.ShutString
import Derived.ChangeOld
import Derived.Below
import Derived.SizedLaws
import Derived.Carry
import Derived.Test.YtclbcoejblnjjaaDoorCFnExactGetObject1
import Derived.Test.YtclbcoejblnjjaaDoorCFnExactGetObject2
import Derived.Test.YtclbcoejblnjjaaDoorCFnExactGetObject3
import Derived.Test.YtclbcoejblnjjaaDoorCFnExactGetObject4
section
namespace Go.Proofs.YtclbcoejblnjjaaDoor.P
open Go.RowKit Go.Proofs.YtclbcoejblnjjaaDoorW.PrintWords Go.Proofs.YtclbcoejblnjjaaDoorW.PrintLast Go.Proofs.YtclbcoejblnjjaaDoorW.PrintMore
attribute [local go_sem] max2_int min2_int max_two min_two max_three min_three max_four min_four
set_option linter.unusedVariables false
set_option linter.unusedSimpArgs false
def laws_eqObjectResult.f (a0_0 : Int) (a0_1 : ByteArray) (a0_2 : Int) (a0_3 : ByteArray) (a1_0 : Int) (a1_1 : ByteArray) (a1_2 : Int) (a1_3 : ByteArray) : Option (Bool) := if a0_0 = a1_0 then ((laws_eqObject.f a0_1 a0_2 a0_3 a1_1 a1_2 a1_3).bind fun t199 => (if t199 = true then (some true) else (some false))) else (some false)
set_option maxHeartbeats 8000000 in
set_option maxRecDepth 100000 in
theorem laws_eqObjectResult.calls (a0_0 : Int) (a0_1 : ByteArray) (a0_2 : Int) (a0_3 : ByteArray) (a1_0 : Int) (a1_1 : ByteArray) (a1_2 : Int) (a1_3 : ByteArray) (r : Bool) (w : World) (h : laws_eqObjectResult.f a0_0 a0_1 a0_2 a0_3 a1_0 a1_1 a1_2 a1_3 = some r) :
  Calls Tryd.prog 9 #[.agg #[.int .i64 a0_0, .string a0_1, .int .i64 a0_2, .string a0_3], .agg #[.int .i64 a1_0, .string a1_1, .int .i64 a1_2, .string a1_3]] w fun e w' => e = .returned (.bool r) ∧ Below w.heap.size w w' := by
 have hu27 := Tryd.underlying27
 have hu25 := Tryd.underlying25
 have HB := Aside0.mk (Below.refl w.heap.size w)
 have H : (if a0_0 = a1_0 then ((laws_eqObject.f a0_1 a0_2 a0_3 a1_1 a1_2 a1_3).bind fun t199 => (if t199 = true then (some true) else (some false))) else (some false)) = some r := h
 clear h
 by_cases c3 : a0_0 = a1_0
 ·rw [if_pos c3] at H
  have c3b0 : (a0_0 == a1_0) = true := beq_iff_eq.mpr c3
  have c3b1 : (a0_0 != a1_0) = false := bne_eq_false_iff_eq.mpr c3
  clear c3
  replace H := Option.bind_eq_some_iff.mp H
  obtain ⟨t199, A40, H⟩ := H
  replace H : (if t199 = true then (some true) else (some false)) = some r := H
  have A4 := Aside0.mk A40
  clear A40
  by_cases c5 : t199 = true
  ·subst c5
   have H1 : (some true) = some r := by rw [if_pos rfl] at H; exact H
   clear H
   have H := H1
   clear H1
   obtain rfl := Option.some.inj H
   go_enter Tryd.func9, Tryd.ntmps9
   go_wp2_with (first | ((with_reducible refine gate_dst (N := 2) rfl ?_); refine box_event ?hg (N := 2) ?hd (cs := #[.int .i64 a0_0, .string a0_1, .int .i64 a0_2, .string a0_3]) (t := 27) ?hr ?_; (case hd => rfl); (case hg => rfl); (case hr => first | (go_simp; done) | (go_simp; rfl)); intro gb197 hg w6 hbox hb; have n0_ := Aside0.mk (below_step (by repeat (first | (with_reducible first | exact HB.out | apply below_alloc | apply pw_below_drewN | apply below_drew1) | exact HB.out)) hb); have n1_ := Aside0.mk (hbox); have n2_ := Aside0.mk ((by rw [hg]; exact (below_size (by repeat (first | (with_reducible first | exact HB.out | apply below_alloc | apply pw_below_drewN | apply below_drew1) | exact HB.out))) : w.heap.size ≤ gb197)); have n3_ := Aside0.mk ((by rw [hg]; exact (below_size (by repeat (first | (with_reducible first | exact HB.out | apply below_alloc | apply pw_below_drewN | apply below_drew1) | exact HB.out))) : w.heap.size ≤ gb197)); clear HB; have HB := n0_; have BK197 := n1_; have GW197 := n2_; have GE197 := n3_; clear n0_ n1_ n2_ n3_; clear hb hbox hg) | ((with_reducible refine gate_dst (N := 3) rfl ?_); refine box_event ?hg (N := 3) ?hd (cs := #[.int .i64 a1_0, .string a1_1, .int .i64 a1_2, .string a1_3]) (t := 27) ?hr ?_; (case hd => rfl); (case hg => rfl); (case hr => first | (go_simp; done) | (go_simp; rfl)); intro gb198 hg w7 hbox hb; have n0_ := Aside0.mk (blk_below (g := gb197) (o := .cells #[.int .i64 a0_0, .string a0_1, .int .i64 a0_2, .string a0_3] 27 (0, 0)) (by (with_reducible repeat (first | refine blk_drewN ?_ _ | refine blk_drew ?_ | refine blk_alloc ?_ _)); exact BK197.out) hb); have n1_ := Aside0.mk (below_step (by repeat (first | (with_reducible first | exact HB.out | apply below_alloc | apply pw_below_drewN | apply below_drew1 | refine below_set ?_ GE197.out) | exact HB.out)) hb); have n2_ := Aside0.mk (hbox); have n3_ := Aside0.mk ((by rw [hg]; exact (below_size (by repeat (first | (with_reducible first | exact HB.out | apply below_alloc | apply pw_below_drewN | apply below_drew1 | refine below_set ?_ GE197.out) | exact HB.out))) : w.heap.size ≤ gb198)); have n4_ := Aside0.mk ((by rw [hg]; exact (below_size (by repeat (first | (with_reducible first | exact HB.out | apply below_alloc | apply pw_below_drewN | apply below_drew1 | refine below_set ?_ GE197.out) | exact HB.out))) : w.heap.size ≤ gb198)); have n5_ := Aside0.mk ((by rw [hg]; exact Nat.ne_of_lt (blk_lt (g := gb197) (o := .cells #[.int .i64 a0_0, .string a0_1, .int .i64 a0_2, .string a0_3] 27 (0, 0)) (by (with_reducible repeat (first | refine blk_drewN ?_ _ | refine blk_drew ?_ | refine blk_alloc ?_ _)); exact BK197.out)) : gb197 ≠ gb198)); have n6_ := Aside0.mk ((by rw [hg]; exact Nat.ne_of_gt (blk_lt (g := gb197) (o := .cells #[.int .i64 a0_0, .string a0_1, .int .i64 a0_2, .string a0_3] 27 (0, 0)) (by (with_reducible repeat (first | refine blk_drewN ?_ _ | refine blk_drew ?_ | refine blk_alloc ?_ _)); exact BK197.out)) : gb198 ≠ gb197)); clear BK197; clear HB; have BK197 := n0_; have HB := n1_; have BK198 := n2_; have GW198 := n3_; have GE198 := n4_; have NB197_198 := n5_; have NB198_197 := n6_; clear n0_ n1_ n2_ n3_ n4_ n5_ n6_; clear hb hbox hg; have hnb8 := NB197_198.out; have hnc8 := NB198_197.out; have hcz9_0 : w7.cell? ⟨gb197, 0, none⟩ = some (.int .i64 a0_0) := (blk_cell BK197.out 0).trans rfl; have hcz9_1 : w7.cell? ⟨gb197, 1, none⟩ = some (.string a0_1) := (blk_cell BK197.out 1).trans rfl; have hcz9_2 : w7.cell? ⟨gb197, 2, none⟩ = some (.int .i64 a0_2) := (blk_cell BK197.out 2).trans rfl; have hcz9_3 : w7.cell? ⟨gb197, 3, none⟩ = some (.string a0_3) := (blk_cell BK197.out 3).trans rfl; have hfz9_0 := blk_frozen BK197.out 0; have hfz9_1 := blk_frozen BK197.out 1; have hfz9_2 := blk_frozen BK197.out 2; have hfz9_3 := blk_frozen BK197.out 3; have hcz10_0 : w7.cell? ⟨gb198, 0, none⟩ = some (.int .i64 a1_0) := (blk_cell BK198.out 0).trans rfl; have hcz10_1 : w7.cell? ⟨gb198, 1, none⟩ = some (.string a1_1) := (blk_cell BK198.out 1).trans rfl; have hcz10_2 : w7.cell? ⟨gb198, 2, none⟩ = some (.int .i64 a1_2) := (blk_cell BK198.out 2).trans rfl; have hcz10_3 : w7.cell? ⟨gb198, 3, none⟩ = some (.string a1_3) := (blk_cell BK198.out 3).trans rfl; have hfz10_0 := blk_frozen BK198.out 0; have hfz10_1 := blk_frozen BK198.out 1; have hfz10_2 := blk_frozen BK198.out 2; have hfz10_3 := blk_frozen BK198.out 3) | ((with_reducible refine gate_callee (f := 25) rfl ?_); refine goesL_ (some 14) rfl rfl Tryd.func25 (by kernel_rfl) rfl #[.agg #[.string a0_1, .int .i64 a0_2, .string a0_3], .agg #[.string a1_1, .int .i64 a1_2, .string a1_3]] rfl (by (try simp only [List.map_toArray, List.map_cons, List.map_nil]); first | done | rfl | (simp only [List.length_drop, List.length_take]; rfl)) ?_; (with_reducible refine (laws_eqObject.calls a0_1 a0_2 a0_3 a1_1 a1_2 a1_3 true _ A4.out).mono ?_); rintro e w11 ⟨rfl, hb⟩; refine ⟨_, rfl, ?_⟩; have n0_ := Aside0.mk (blk_below (g := gb197) (o := .cells #[.int .i64 a0_0, .string a0_1, .int .i64 a0_2, .string a0_3] 27 (0, 0)) (by (with_reducible repeat (first | refine blk_drewN ?_ _ | refine blk_drew ?_ | refine blk_alloc ?_ _)); exact BK197.out) hb); have n1_ := Aside0.mk (blk_below (g := gb198) (o := .cells #[.int .i64 a1_0, .string a1_1, .int .i64 a1_2, .string a1_3] 27 (0, 0)) (by (with_reducible repeat (first | refine blk_drewN ?_ _ | refine blk_drew ?_ | refine blk_alloc ?_ _)); exact BK198.out) hb); have n2_ := Aside0.mk (below_step (by repeat (first | (with_reducible first | exact HB.out | apply below_alloc | apply pw_below_drewN | apply below_drew1 | refine below_set ?_ GE197.out | refine below_set ?_ GE198.out) | exact HB.out)) hb); clear BK197; clear BK198; clear HB; have BK197 := n0_; have BK198 := n1_; have HB := n2_; clear n0_ n1_ n2_; (try clear hb); (try clear hb2); (try clear hk); (try clear hi)))
   go_ret
   exact ⟨by first | rfl | (simp [errW_none, errW_some] <;> rfl) | (simp [*, errW_none, errW_some] <;> rfl), by repeat (first | (with_reducible first | exact HB.out | apply below_alloc | apply pw_below_drewN | apply below_drew1 | refine below_set ?_ GE197.out | refine below_set ?_ GE198.out) | exact HB.out)⟩
  ·replace c5 := Bool.eq_false_iff.mpr c5
   subst c5
   have H1 : (some false) = some r := by rw [if_neg (show ¬ (false = true) by decide)] at H; exact H
   clear H
   have H := H1
   clear H1
   obtain rfl := Option.some.inj H
   go_enter Tryd.func9, Tryd.ntmps9
   go_wp2_with (first | ((with_reducible refine gate_dst (N := 2) rfl ?_); refine box_event ?hg (N := 2) ?hd (cs := #[.int .i64 a0_0, .string a0_1, .int .i64 a0_2, .string a0_3]) (t := 27) ?hr ?_; (case hd => rfl); (case hg => rfl); (case hr => first | (go_simp; done) | (go_simp; rfl)); intro gb197 hg w12 hbox hb; have n0_ := Aside0.mk (below_step (by repeat (first | (with_reducible first | exact HB.out | apply below_alloc | apply pw_below_drewN | apply below_drew1) | exact HB.out)) hb); have n1_ := Aside0.mk (hbox); have n2_ := Aside0.mk ((by rw [hg]; exact (below_size (by repeat (first | (with_reducible first | exact HB.out | apply below_alloc | apply pw_below_drewN | apply below_drew1) | exact HB.out))) : w.heap.size ≤ gb197)); have n3_ := Aside0.mk ((by rw [hg]; exact (below_size (by repeat (first | (with_reducible first | exact HB.out | apply below_alloc | apply pw_below_drewN | apply below_drew1) | exact HB.out))) : w.heap.size ≤ gb197)); clear HB; have HB := n0_; have BK197 := n1_; have GW197 := n2_; have GE197 := n3_; clear n0_ n1_ n2_ n3_; clear hb hbox hg) | ((with_reducible refine gate_dst (N := 3) rfl ?_); refine box_event ?hg (N := 3) ?hd (cs := #[.int .i64 a1_0, .string a1_1, .int .i64 a1_2, .string a1_3]) (t := 27) ?hr ?_; (case hd => rfl); (case hg => rfl); (case hr => first | (go_simp; done) | (go_simp; rfl)); intro gb198 hg w13 hbox hb; have n0_ := Aside0.mk (blk_below (g := gb197) (o := .cells #[.int .i64 a0_0, .string a0_1, .int .i64 a0_2, .string a0_3] 27 (0, 0)) (by (with_reducible repeat (first | refine blk_drewN ?_ _ | refine blk_drew ?_ | refine blk_alloc ?_ _)); exact BK197.out) hb); have n1_ := Aside0.mk (below_step (by repeat (first | (with_reducible first | exact HB.out | apply below_alloc | apply pw_below_drewN | apply below_drew1 | refine below_set ?_ GE197.out) | exact HB.out)) hb); have n2_ := Aside0.mk (hbox); have n3_ := Aside0.mk ((by rw [hg]; exact (below_size (by repeat (first | (with_reducible first | exact HB.out | apply below_alloc | apply pw_below_drewN | apply below_drew1 | refine below_set ?_ GE197.out) | exact HB.out))) : w.heap.size ≤ gb198)); have n4_ := Aside0.mk ((by rw [hg]; exact (below_size (by repeat (first | (with_reducible first | exact HB.out | apply below_alloc | apply pw_below_drewN | apply below_drew1 | refine below_set ?_ GE197.out) | exact HB.out))) : w.heap.size ≤ gb198)); have n5_ := Aside0.mk ((by rw [hg]; exact Nat.ne_of_lt (blk_lt (g := gb197) (o := .cells #[.int .i64 a0_0, .string a0_1, .int .i64 a0_2, .string a0_3] 27 (0, 0)) (by (with_reducible repeat (first | refine blk_drewN ?_ _ | refine blk_drew ?_ | refine blk_alloc ?_ _)); exact BK197.out)) : gb197 ≠ gb198)); have n6_ := Aside0.mk ((by rw [hg]; exact Nat.ne_of_gt (blk_lt (g := gb197) (o := .cells #[.int .i64 a0_0, .string a0_1, .int .i64 a0_2, .string a0_3] 27 (0, 0)) (by (with_reducible repeat (first | refine blk_drewN ?_ _ | refine blk_drew ?_ | refine blk_alloc ?_ _)); exact BK197.out)) : gb198 ≠ gb197)); clear BK197; clear HB; have BK197 := n0_; have HB := n1_; have BK198 := n2_; have GW198 := n3_; have GE198 := n4_; have NB197_198 := n5_; have NB198_197 := n6_; clear n0_ n1_ n2_ n3_ n4_ n5_ n6_; clear hb hbox hg; have hnb14 := NB197_198.out; have hnc14 := NB198_197.out; have hcz15_0 : w13.cell? ⟨gb197, 0, none⟩ = some (.int .i64 a0_0) := (blk_cell BK197.out 0).trans rfl; have hcz15_1 : w13.cell? ⟨gb197, 1, none⟩ = some (.string a0_1) := (blk_cell BK197.out 1).trans rfl; have hcz15_2 : w13.cell? ⟨gb197, 2, none⟩ = some (.int .i64 a0_2) := (blk_cell BK197.out 2).trans rfl; have hcz15_3 : w13.cell? ⟨gb197, 3, none⟩ = some (.string a0_3) := (blk_cell BK197.out 3).trans rfl; have hfz15_0 := blk_frozen BK197.out 0; have hfz15_1 := blk_frozen BK197.out 1; have hfz15_2 := blk_frozen BK197.out 2; have hfz15_3 := blk_frozen BK197.out 3; have hcz16_0 : w13.cell? ⟨gb198, 0, none⟩ = some (.int .i64 a1_0) := (blk_cell BK198.out 0).trans rfl; have hcz16_1 : w13.cell? ⟨gb198, 1, none⟩ = some (.string a1_1) := (blk_cell BK198.out 1).trans rfl; have hcz16_2 : w13.cell? ⟨gb198, 2, none⟩ = some (.int .i64 a1_2) := (blk_cell BK198.out 2).trans rfl; have hcz16_3 : w13.cell? ⟨gb198, 3, none⟩ = some (.string a1_3) := (blk_cell BK198.out 3).trans rfl; have hfz16_0 := blk_frozen BK198.out 0; have hfz16_1 := blk_frozen BK198.out 1; have hfz16_2 := blk_frozen BK198.out 2; have hfz16_3 := blk_frozen BK198.out 3) | ((with_reducible refine gate_callee (f := 25) rfl ?_); refine goesL_ (some 14) rfl rfl Tryd.func25 (by kernel_rfl) rfl #[.agg #[.string a0_1, .int .i64 a0_2, .string a0_3], .agg #[.string a1_1, .int .i64 a1_2, .string a1_3]] rfl (by (try simp only [List.map_toArray, List.map_cons, List.map_nil]); first | done | rfl | (simp only [List.length_drop, List.length_take]; rfl)) ?_; (with_reducible refine (laws_eqObject.calls a0_1 a0_2 a0_3 a1_1 a1_2 a1_3 false _ A4.out).mono ?_); rintro e w17 ⟨rfl, hb⟩; refine ⟨_, rfl, ?_⟩; have n0_ := Aside0.mk (blk_below (g := gb197) (o := .cells #[.int .i64 a0_0, .string a0_1, .int .i64 a0_2, .string a0_3] 27 (0, 0)) (by (with_reducible repeat (first | refine blk_drewN ?_ _ | refine blk_drew ?_ | refine blk_alloc ?_ _)); exact BK197.out) hb); have n1_ := Aside0.mk (blk_below (g := gb198) (o := .cells #[.int .i64 a1_0, .string a1_1, .int .i64 a1_2, .string a1_3] 27 (0, 0)) (by (with_reducible repeat (first | refine blk_drewN ?_ _ | refine blk_drew ?_ | refine blk_alloc ?_ _)); exact BK198.out) hb); have n2_ := Aside0.mk (below_step (by repeat (first | (with_reducible first | exact HB.out | apply below_alloc | apply pw_below_drewN | apply below_drew1 | refine below_set ?_ GE197.out | refine below_set ?_ GE198.out) | exact HB.out)) hb); clear BK197; clear BK198; clear HB; have BK197 := n0_; have BK198 := n1_; have HB := n2_; clear n0_ n1_ n2_; (try clear hb); (try clear hb2); (try clear hk); (try clear hi)))
   go_ret
   exact ⟨by first | rfl | (simp [errW_none, errW_some] <;> rfl) | (simp [*, errW_none, errW_some] <;> rfl), by repeat (first | (with_reducible first | exact HB.out | apply below_alloc | apply pw_below_drewN | apply below_drew1 | refine below_set ?_ GE197.out | refine below_set ?_ GE198.out) | exact HB.out)⟩
 ·rw [if_neg c3] at H
  have c3b0 : (a0_0 == a1_0) = false := beq_eq_false_iff_ne.mpr c3
  have c3b1 : (a0_0 != a1_0) = true := bne_iff_ne.mpr c3
  obtain rfl := Option.some.inj H
  go_enter Tryd.func9, Tryd.ntmps9
  go_wp2_with (first | ((with_reducible refine gate_dst (N := 2) rfl ?_); refine box_event ?hg (N := 2) ?hd (cs := #[.int .i64 a0_0, .string a0_1, .int .i64 a0_2, .string a0_3]) (t := 27) ?hr ?_; (case hd => rfl); (case hg => rfl); (case hr => first | (go_simp; done) | (go_simp; rfl)); intro gb197 hg w18 hbox hb; have n0_ := Aside0.mk (below_step (by repeat (first | (with_reducible first | exact HB.out | apply below_alloc | apply pw_below_drewN | apply below_drew1) | exact HB.out)) hb); have n1_ := Aside0.mk (hbox); have n2_ := Aside0.mk ((by rw [hg]; exact (below_size (by repeat (first | (with_reducible first | exact HB.out | apply below_alloc | apply pw_below_drewN | apply below_drew1) | exact HB.out))) : w.heap.size ≤ gb197)); have n3_ := Aside0.mk ((by rw [hg]; exact (below_size (by repeat (first | (with_reducible first | exact HB.out | apply below_alloc | apply pw_below_drewN | apply below_drew1) | exact HB.out))) : w.heap.size ≤ gb197)); clear HB; have HB := n0_; have BK197 := n1_; have GW197 := n2_; have GE197 := n3_; clear n0_ n1_ n2_ n3_; clear hb hbox hg) | ((with_reducible refine gate_dst (N := 3) rfl ?_); refine box_event ?hg (N := 3) ?hd (cs := #[.int .i64 a1_0, .string a1_1, .int .i64 a1_2, .string a1_3]) (t := 27) ?hr ?_; (case hd => rfl); (case hg => rfl); (case hr => first | (go_simp; done) | (go_simp; rfl)); intro gb198 hg w19 hbox hb; have n0_ := Aside0.mk (blk_below (g := gb197) (o := .cells #[.int .i64 a0_0, .string a0_1, .int .i64 a0_2, .string a0_3] 27 (0, 0)) (by (with_reducible repeat (first | refine blk_drewN ?_ _ | refine blk_drew ?_ | refine blk_alloc ?_ _)); exact BK197.out) hb); have n1_ := Aside0.mk (below_step (by repeat (first | (with_reducible first | exact HB.out | apply below_alloc | apply pw_below_drewN | apply below_drew1 | refine below_set ?_ GE197.out) | exact HB.out)) hb); have n2_ := Aside0.mk (hbox); have n3_ := Aside0.mk ((by rw [hg]; exact (below_size (by repeat (first | (with_reducible first | exact HB.out | apply below_alloc | apply pw_below_drewN | apply below_drew1 | refine below_set ?_ GE197.out) | exact HB.out))) : w.heap.size ≤ gb198)); have n4_ := Aside0.mk ((by rw [hg]; exact (below_size (by repeat (first | (with_reducible first | exact HB.out | apply below_alloc | apply pw_below_drewN | apply below_drew1 | refine below_set ?_ GE197.out) | exact HB.out))) : w.heap.size ≤ gb198)); have n5_ := Aside0.mk ((by rw [hg]; exact Nat.ne_of_lt (blk_lt (g := gb197) (o := .cells #[.int .i64 a0_0, .string a0_1, .int .i64 a0_2, .string a0_3] 27 (0, 0)) (by (with_reducible repeat (first | refine blk_drewN ?_ _ | refine blk_drew ?_ | refine blk_alloc ?_ _)); exact BK197.out)) : gb197 ≠ gb198)); have n6_ := Aside0.mk ((by rw [hg]; exact Nat.ne_of_gt (blk_lt (g := gb197) (o := .cells #[.int .i64 a0_0, .string a0_1, .int .i64 a0_2, .string a0_3] 27 (0, 0)) (by (with_reducible repeat (first | refine blk_drewN ?_ _ | refine blk_drew ?_ | refine blk_alloc ?_ _)); exact BK197.out)) : gb198 ≠ gb197)); clear BK197; clear HB; have BK197 := n0_; have HB := n1_; have BK198 := n2_; have GW198 := n3_; have GE198 := n4_; have NB197_198 := n5_; have NB198_197 := n6_; clear n0_ n1_ n2_ n3_ n4_ n5_ n6_; clear hb hbox hg; have hnb20 := NB197_198.out; have hnc20 := NB198_197.out; have hcz21_0 : w19.cell? ⟨gb197, 0, none⟩ = some (.int .i64 a0_0) := (blk_cell BK197.out 0).trans rfl; have hcz21_1 : w19.cell? ⟨gb197, 1, none⟩ = some (.string a0_1) := (blk_cell BK197.out 1).trans rfl; have hcz21_2 : w19.cell? ⟨gb197, 2, none⟩ = some (.int .i64 a0_2) := (blk_cell BK197.out 2).trans rfl; have hcz21_3 : w19.cell? ⟨gb197, 3, none⟩ = some (.string a0_3) := (blk_cell BK197.out 3).trans rfl; have hfz21_0 := blk_frozen BK197.out 0; have hfz21_1 := blk_frozen BK197.out 1; have hfz21_2 := blk_frozen BK197.out 2; have hfz21_3 := blk_frozen BK197.out 3; have hcz22_0 : w19.cell? ⟨gb198, 0, none⟩ = some (.int .i64 a1_0) := (blk_cell BK198.out 0).trans rfl; have hcz22_1 : w19.cell? ⟨gb198, 1, none⟩ = some (.string a1_1) := (blk_cell BK198.out 1).trans rfl; have hcz22_2 : w19.cell? ⟨gb198, 2, none⟩ = some (.int .i64 a1_2) := (blk_cell BK198.out 2).trans rfl; have hcz22_3 : w19.cell? ⟨gb198, 3, none⟩ = some (.string a1_3) := (blk_cell BK198.out 3).trans rfl; have hfz22_0 := blk_frozen BK198.out 0; have hfz22_1 := blk_frozen BK198.out 1; have hfz22_2 := blk_frozen BK198.out 2; have hfz22_3 := blk_frozen BK198.out 3))
  go_ret
  exact ⟨by first | rfl | (simp [errW_none, errW_some] <;> rfl) | (simp [*, errW_none, errW_some] <;> rfl), by repeat (first | (with_reducible first | exact HB.out | apply below_alloc | apply pw_below_drewN | apply below_drew1 | refine below_set ?_ GE197.out | refine below_set ?_ GE198.out) | exact HB.out)⟩
end Go.Proofs.YtclbcoejblnjjaaDoor.P
end
section
namespace Go.Proofs.YtclbcoejblnjjaaDoor.P
open Go.RowKit Go.Proofs.YtclbcoejblnjjaaDoorW.PrintWords Go.Proofs.YtclbcoejblnjjaaDoorW.PrintLast Go.Proofs.YtclbcoejblnjjaaDoorW.PrintMore
attribute [local go_sem] max2_int min2_int max_two min_two max_three min_three max_four min_four
set_option linter.unusedVariables false
set_option linter.unusedSimpArgs false
def laws_FnExactGetObject.f (k : Nat) (l0 : List (S43)) (a1 : Int) (a2 : ByteArray) : Option (Bool) := if (a2.size : Int) > 1048576 then (some true) else ((laws_szObjectS.f k l0 1048576).bind fun t203 => (if t203 < 0 then (some true) else ((laws_toObjectS.f k l0).bind fun t204 => ((spec_GetObject.f k t204 a1 a2).bind fun bt207 => ((laws_toObjectS.f k l0).bind fun t212 => ((impl_GetObject.f k t212 a1 a2).bind fun bt215 => ((laws_eqObjectResult.f bt215.1 bt215.2.1 bt215.2.2.1 bt215.2.2.2 bt207.1 bt207.2.1 bt207.2.2.1 bt207.2.2.2).bind fun t220 => (if t220 = true then ((laws_toObjectS.f k l0).bind fun t221 => ((laws_eqObjectS.f k t212 t221).bind fun t224 => (if t224 = true then (some true) else (some false)))) else (some false)))))))))
set_option maxHeartbeats 8000000 in
set_option maxRecDepth 100000 in
theorem laws_FnExactGetObject.calls (k : Nat) (A0 : Option Addr) (c0 : Nat) (l0 : List (S43)) (a1 : Int) (a2 : ByteArray) (r : Bool) (w : World) (hT : TabW w) (hr0 : Kd.C k43 w A0 l0.length l0) (hc0 : l0.length ≤ c0) (h : laws_FnExactGetObject.f k l0 a1 a2 = some r) (hlaw : r = true) :
  Calls Tryd.prog 3 #[.slice A0 l0.length c0, .int .i64 a1, .string a2] w fun e w' => e = .returned (.bool r) ∧ Below w.heap.size w w' := by
 have HTW := Aside0.mk hT
 clear hT
 have hu27 := Tryd.underlying27
 have HR0 := Aside0.mk hr0
 have HC0 := Aside0.mk hc0
 clear hr0 hc0
 have HB := Aside0.mk (Below.refl w.heap.size w)
 have HLAW := Aside0.mk hlaw
 clear hlaw
 have H : (if (a2.size : Int) > 1048576 then (some true) else ((laws_szObjectS.f k l0 1048576).bind fun t203 => (if t203 < 0 then (some true) else ((laws_toObjectS.f k l0).bind fun t204 => ((spec_GetObject.f k t204 a1 a2).bind fun bt207 => ((laws_toObjectS.f k l0).bind fun t212 => ((impl_GetObject.f k t212 a1 a2).bind fun bt215 => ((laws_eqObjectResult.f bt215.1 bt215.2.1 bt215.2.2.1 bt215.2.2.2 bt207.1 bt207.2.1 bt207.2.2.1 bt207.2.2.2).bind fun t220 => (if t220 = true then ((laws_toObjectS.f k l0).bind fun t221 => ((laws_eqObjectS.f k t212 t221).bind fun t224 => (if t224 = true then (some true) else (some false)))) else (some false)))))))))) = some r := h
 clear h
 by_cases c4 : (a2.size : Int) > 1048576
 ·rw [if_pos c4] at H
  have c4b0 : decide (1048576 < (a2.size : Int)) = true := decide_eq_true c4
  have c4b1 : decide (1048576 < a2.size) = true := decide_eq_true (by omega)
  clear c4
  obtain rfl := Option.some.inj H
  go_enter Tryd.func3, Tryd.ntmps3
  go_wp2
  go_ret
  exact ⟨by first | rfl | (simp [errW_none, errW_some] <;> rfl) | (simp [*, errW_none, errW_some] <;> rfl), by repeat (first | (with_reducible first | exact HB.out | apply below_alloc | apply pw_below_drewN | apply below_drew1) | exact HB.out)⟩
 ·rw [if_neg c4] at H
  have c4b0 : decide (1048576 < (a2.size : Int)) = false := decide_eq_false c4
  have c4b1 : decide (1048576 < a2.size) = false := decide_eq_false (by omega)
  clear c4
  replace H := Option.bind_eq_some_iff.mp H
  obtain ⟨t203, A50, H⟩ := H
  replace H : (if t203 < 0 then (some true) else ((laws_toObjectS.f k l0).bind fun t204 => ((spec_GetObject.f k t204 a1 a2).bind fun bt207 => ((laws_toObjectS.f k l0).bind fun t212 => ((impl_GetObject.f k t212 a1 a2).bind fun bt215 => ((laws_eqObjectResult.f bt215.1 bt215.2.1 bt215.2.2.1 bt215.2.2.2 bt207.1 bt207.2.1 bt207.2.2.1 bt207.2.2.2).bind fun t220 => (if t220 = true then ((laws_toObjectS.f k l0).bind fun t221 => ((laws_eqObjectS.f k t212 t221).bind fun t224 => (if t224 = true then (some true) else (some false)))) else (some false)))))))) = some r := H
  have A5 := Aside0.mk A50
  clear A50
  by_cases c6 : t203 < 0
  ·rw [if_pos c6] at H
   have c6b0 : decide (t203 < 0) = true := decide_eq_true c6
   clear c6
   obtain rfl := Option.some.inj H
   go_enter Tryd.func3, Tryd.ntmps3
   go_wp2_with (first | ((with_reducible refine gate_callee (f := 5) rfl ?_); refine goesL_ (some 16) rfl rfl Tryd.func5 (by kernel_rfl) rfl #[.slice A0 l0.length c0, .int .i64 1048576] rfl (by (try simp only [List.map_toArray, List.map_cons, List.map_nil]); first | done | rfl | (simp only [List.length_drop, List.length_take]; rfl)) ?_; (with_reducible refine (laws_szObjectS.calls k _ _ l0 1048576 t203 _ ?side1 ?side2 A5.out).mono ?_); (case side1 => repeat (first | exact HR0.out | (with_reducible refine Kd.C_alloc ?_ _) | (with_reducible refine Kd.C_drewN ?_ _) | (with_reducible refine Kd.C_drew ?_))); (case side2 => exact HC0.out); rintro e w7 ⟨rfl, hb⟩; refine ⟨_, rfl, ?_⟩; have n0_ := Aside0.mk (below_step (by repeat (first | (with_reducible first | exact HB.out | apply below_alloc | apply pw_below_drewN | apply below_drew1) | exact HB.out)) hb); clear HB; have HB := n0_; clear n0_; (try clear hb); (try clear hb2); (try clear hk); (try clear hi)))
   go_ret
   exact ⟨by first | rfl | (simp [errW_none, errW_some] <;> rfl) | (simp [*, errW_none, errW_some] <;> rfl), by repeat (first | (with_reducible first | exact HB.out | apply below_alloc | apply pw_below_drewN | apply below_drew1) | exact HB.out)⟩
  ·rw [if_neg c6] at H
   have c6b0 : decide (t203 < 0) = false := decide_eq_false c6
   clear c6
   replace H := Option.bind_eq_some_iff.mp H
   obtain ⟨t204, A80, H⟩ := H
   replace H : ((spec_GetObject.f k t204 a1 a2).bind fun bt207 => ((laws_toObjectS.f k l0).bind fun t212 => ((impl_GetObject.f k t212 a1 a2).bind fun bt215 => ((laws_eqObjectResult.f bt215.1 bt215.2.1 bt215.2.2.1 bt215.2.2.2 bt207.1 bt207.2.1 bt207.2.2.1 bt207.2.2.2).bind fun t220 => (if t220 = true then ((laws_toObjectS.f k l0).bind fun t221 => ((laws_eqObjectS.f k t212 t221).bind fun t224 => (if t224 = true then (some true) else (some false)))) else (some false)))))) = some r := H
   have A8 := Aside0.mk A80
   clear A80
   replace H := Option.bind_eq_some_iff.mp H
   obtain ⟨⟨t207, t208, t209, t210⟩, A90, H⟩ := H
   replace H : ((laws_toObjectS.f k l0).bind fun t212 => ((impl_GetObject.f k t212 a1 a2).bind fun bt215 => ((laws_eqObjectResult.f bt215.1 bt215.2.1 bt215.2.2.1 bt215.2.2.2 t207 t208 t209 t210).bind fun t220 => (if t220 = true then ((laws_toObjectS.f k l0).bind fun t221 => ((laws_eqObjectS.f k t212 t221).bind fun t224 => (if t224 = true then (some true) else (some false)))) else (some false))))) = some r := H
   have A9 := Aside0.mk A90
   clear A90
   replace H := Option.bind_eq_some_iff.mp H
   obtain ⟨t212, A100, H⟩ := H
   replace H : ((impl_GetObject.f k t212 a1 a2).bind fun bt215 => ((laws_eqObjectResult.f bt215.1 bt215.2.1 bt215.2.2.1 bt215.2.2.2 t207 t208 t209 t210).bind fun t220 => (if t220 = true then ((laws_toObjectS.f k l0).bind fun t221 => ((laws_eqObjectS.f k t212 t221).bind fun t224 => (if t224 = true then (some true) else (some false)))) else (some false)))) = some r := H
   have A10 := Aside0.mk A100
   clear A100
   replace H := Option.bind_eq_some_iff.mp H
   obtain ⟨⟨t215, t216, t217, t218⟩, A110, H⟩ := H
   replace H : ((laws_eqObjectResult.f t215 t216 t217 t218 t207 t208 t209 t210).bind fun t220 => (if t220 = true then ((laws_toObjectS.f k l0).bind fun t221 => ((laws_eqObjectS.f k t212 t221).bind fun t224 => (if t224 = true then (some true) else (some false)))) else (some false))) = some r := H
   have A11 := Aside0.mk A110
   clear A110
   replace H := Option.bind_eq_some_iff.mp H
   obtain ⟨t220, A120, H⟩ := H
   replace H : (if t220 = true then ((laws_toObjectS.f k l0).bind fun t221 => ((laws_eqObjectS.f k t212 t221).bind fun t224 => (if t224 = true then (some true) else (some false)))) else (some false)) = some r := H
   have A12 := Aside0.mk A120
   clear A120
   by_cases c13 : t220 = true
   ·subst c13
    have H1 : ((laws_toObjectS.f k l0).bind fun t221 => ((laws_eqObjectS.f k t212 t221).bind fun t224 => (if t224 = true then (some true) else (some false)))) = some r := by rw [if_pos rfl] at H; exact H
    clear H
    have H := H1
    clear H1
    replace H := Option.bind_eq_some_iff.mp H
    obtain ⟨t221, A140, H⟩ := H
    replace H : ((laws_eqObjectS.f k t212 t221).bind fun t224 => (if t224 = true then (some true) else (some false))) = some r := H
    have A14 := Aside0.mk A140
    clear A140
    replace H := Option.bind_eq_some_iff.mp H
    obtain ⟨t224, A150, H⟩ := H
    replace H : (if t224 = true then (some true) else (some false)) = some r := H
    have A15 := Aside0.mk A150
    clear A150
    by_cases c16 : t224 = true
    ·subst c16
     have H1 : (some true) = some r := by rw [if_pos rfl] at H; exact H
     clear H
     have H := H1
     clear H1
     obtain rfl := Option.some.inj H
     go_enter Tryd.func3, Tryd.ntmps3
     go_wp2_with (first | ((with_reducible refine gate_callee (f := 5) rfl ?_); refine goesL_ (some 16) rfl rfl Tryd.func5 (by kernel_rfl) rfl #[.slice A0 l0.length c0, .int .i64 1048576] rfl (by (try simp only [List.map_toArray, List.map_cons, List.map_nil]); first | done | rfl | (simp only [List.length_drop, List.length_take]; rfl)) ?_; (with_reducible refine (laws_szObjectS.calls k _ _ l0 1048576 t203 _ ?side1 ?side2 A5.out).mono ?_); (case side1 => repeat (first | exact HR0.out | (with_reducible refine Kd.C_alloc ?_ _) | (with_reducible refine Kd.C_drewN ?_ _) | (with_reducible refine Kd.C_drew ?_))); (case side2 => exact HC0.out); rintro e w17 ⟨rfl, hb⟩; refine ⟨_, rfl, ?_⟩; have n0_ := Aside0.mk (below_step (by repeat (first | (with_reducible first | exact HB.out | apply below_alloc | apply pw_below_drewN | apply below_drew1) | exact HB.out)) hb); clear HB; have HB := n0_; clear n0_; (try clear hb); (try clear hb2); (try clear hk); (try clear hi)) | ((with_reducible refine gate_callee (f := 7) rfl ?_); refine goesL_ (some 20) rfl rfl Tryd.func7 (by kernel_rfl) rfl #[.slice A0 l0.length c0] rfl (by (try simp only [List.map_toArray, List.map_cons, List.map_nil]); first | done | rfl | (simp only [List.length_drop, List.length_take]; rfl)) ?_; (with_reducible refine (laws_toObjectS.calls k _ _ l0 t204 _ ?side1 ?side2 A8.out).mono ?_); (case side1 => repeat (first | exact (Kd.C_below HR0.out HB.out) | (with_reducible refine Kd.C_alloc ?_ _) | (with_reducible refine Kd.C_drewN ?_ _) | (with_reducible refine Kd.C_drew ?_))); (case side2 => exact HC0.out); rintro e w18 ⟨v205, rfl, ho0, hb⟩; refine ⟨_, rfl, ?_⟩; have n0_ := Aside0.mk (Kd.R_lower ho0 (below_size (by repeat (first | (with_reducible first | exact HB.out | apply below_alloc | apply pw_below_drewN | apply below_drew1) | exact HB.out)))); have n1_ := Aside0.mk (below_step (by repeat (first | (with_reducible first | exact HB.out | apply below_alloc | apply pw_below_drewN | apply below_drew1) | exact HB.out)) hb); clear HB; have HO206 := n0_; have HB := n1_; clear n0_ n1_; (try clear hb); (try clear hb2); (try clear hk); (try clear hi); (try clear ho0); obtain ⟨Ao19, co19, eo19⟩ := Kd.R_slice HO206.out; subst eo19) | ((with_reducible refine gate_callee (f := 6) rfl ?_); refine goesL_ (some 23) rfl rfl Tryd.func6 (by kernel_rfl) rfl #[.slice Ao19 t204.length co19, .int .i64 a1, .string a2] rfl (by (try simp only [List.map_toArray, List.map_cons, List.map_nil]); first | done | rfl | (simp only [List.length_drop, List.length_take]; rfl)) ?_; (with_reducible refine (spec_GetObject.calls k _ _ t204 a1 a2 t207 t208 t209 t210 _ ?side1 ?side2 A9.out).mono ?_); (case side1 => repeat (first | exact (Kd.R_reads' HO206.out).2.2 | (with_reducible refine Kd.C_alloc ?_ _) | (with_reducible refine Kd.C_drewN ?_ _) | (with_reducible refine Kd.C_drew ?_))); (case side2 => exact (Kd.R_reads' HO206.out).2.1); rintro e w20 ⟨rfl, hb⟩; refine ⟨_, rfl, ?_⟩; have n0_ := Aside0.mk (Kd.R_below (by (with_reducible repeat (first | apply Kd.R_alloc | apply Kd.R_drewN | apply Kd.R_drew)); exact HO206.out) hb); have n1_ := Aside0.mk (below_step (by repeat (first | (with_reducible first | exact HB.out | apply below_alloc | apply pw_below_drewN | apply below_drew1) | exact HB.out)) hb); clear HO206; clear HB; have HO206 := n0_; have HB := n1_; clear n0_ n1_; (try clear hb); (try clear hb2); (try clear hk); (try clear hi)) | ((with_reducible refine gate_dst (N := 8) rfl ?_); refine box_event ?hg (N := 8) ?hd (cs := #[.int .i64 0, .string (⟨#[]⟩ : ByteArray), .int .i64 0, .string (⟨#[]⟩ : ByteArray)]) (t := 27) ?hr ?_; (case hd => rfl); (case hg => rfl); (case hr => first | (go_simp; done) | (go_simp; rfl)); intro gb211 hg w21 hbox hb; have n0_ := Aside0.mk (Kd.R_below (by (with_reducible repeat (first | apply Kd.R_alloc | apply Kd.R_drewN | apply Kd.R_drew)); exact HO206.out) hb); have n1_ := Aside0.mk (below_step (by repeat (first | (with_reducible first | exact HB.out | apply below_alloc | apply pw_below_drewN | apply below_drew1) | exact HB.out)) hb); have n2_ := Aside0.mk (hbox); have n3_ := Aside0.mk ((by rw [hg]; exact (below_size (by repeat (first | (with_reducible first | exact HB.out | apply below_alloc | apply pw_below_drewN | apply below_drew1) | exact HB.out))) : w.heap.size ≤ gb211)); have n4_ := Aside0.mk ((by rw [hg]; exact (below_size (by repeat (first | (with_reducible first | exact HB.out | apply below_alloc | apply pw_below_drewN | apply below_drew1) | exact HB.out))) : w.heap.size ≤ gb211)); clear HO206; clear HB; have HO206 := n0_; have HB := n1_; have BK211 := n2_; have GW211 := n3_; have GE211 := n4_; clear n0_ n1_ n2_ n3_ n4_; clear hb hbox hg; have hcz22_0 : w21.cell? ⟨gb211, 0, none⟩ = some (.int .i64 0) := (blk_cell BK211.out 0).trans rfl; have hcz22_1 : w21.cell? ⟨gb211, 1, none⟩ = some (.string (⟨#[]⟩ : ByteArray)) := (blk_cell BK211.out 1).trans rfl; have hcz22_2 : w21.cell? ⟨gb211, 2, none⟩ = some (.int .i64 0) := (blk_cell BK211.out 2).trans rfl; have hcz22_3 : w21.cell? ⟨gb211, 3, none⟩ = some (.string (⟨#[]⟩ : ByteArray)) := (blk_cell BK211.out 3).trans rfl; have hfz22_0 := blk_frozen BK211.out 0; have hfz22_1 := blk_frozen BK211.out 1; have hfz22_2 := blk_frozen BK211.out 2; have hfz22_3 := blk_frozen BK211.out 3) | ((with_reducible refine gate_callee (f := 7) rfl ?_); refine goesL_ (some 25) rfl rfl Tryd.func7 (by kernel_rfl) rfl #[.slice A0 l0.length c0] rfl (by (try simp only [List.map_toArray, List.map_cons, List.map_nil]); first | done | rfl | (simp only [List.length_drop, List.length_take]; rfl)) ?_; (with_reducible refine (laws_toObjectS.calls k _ _ l0 t212 _ ?side1 ?side2 A10.out).mono ?_); (case side1 => exact Kd.C_below HR0.out (by repeat (first | (with_reducible first | exact HB.out | apply below_alloc | apply pw_below_drewN | apply below_drew1 | refine below_set ?_ GE211.out) | exact HB.out))); (case side2 => exact HC0.out); rintro e w23 ⟨v213, rfl, ho0, hb⟩; refine ⟨_, rfl, ?_⟩; have n0_ := Aside0.mk (Kd.R_elder' (by (with_reducible repeat (first | apply Kd.R_alloc | apply Kd.R_drewN | apply Kd.R_drew)); exact (Kd.R_mono (Kd.R_far (p := ⟨gb211, 3, none⟩) (Kd.R_far (p := ⟨gb211, 2, none⟩) (Kd.R_far (p := ⟨gb211, 1, none⟩) (Kd.R_far (p := ⟨gb211, 0, none⟩) (Kd.R_types HO206.out BK211.out (by decide)) (fun _ hk => hk.2) (.int .i64 t207)) (fun _ hk => hk.2) (.string t208)) (fun _ hk => hk.2) (.int .i64 t209)) (fun _ hk => hk.2) (.string t210)) (fun _ h_ => h_.1))) (Kd.R_base ho0) hb); have n1_ := Aside0.mk (Kd.R_lower (Kd.R_new' ho0 (Kd.R_lt (by (with_reducible repeat (first | apply Kd.R_alloc | apply Kd.R_drewN | apply Kd.R_drew)); exact (Kd.R_mono (Kd.R_far (p := ⟨gb211, 3, none⟩) (Kd.R_far (p := ⟨gb211, 2, none⟩) (Kd.R_far (p := ⟨gb211, 1, none⟩) (Kd.R_far (p := ⟨gb211, 0, none⟩) (Kd.R_types HO206.out BK211.out (by decide)) (fun _ hk => hk.2) (.int .i64 t207)) (fun _ hk => hk.2) (.string t208)) (fun _ hk => hk.2) (.int .i64 t209)) (fun _ hk => hk.2) (.string t210)) (fun _ h_ => h_.1))))) (below_size (by repeat (first | (with_reducible first | exact HB.out | apply below_alloc | apply pw_below_drewN | apply below_drew1 | refine below_set ?_ GE211.out) | exact HB.out)))); have n2_ := Aside0.mk (blk_below (g := gb211) (o := .cells #[.int .i64 t207, .string t208, .int .i64 t209, .string t210] 27 (0, 0)) (by (with_reducible repeat (first | refine blk_drewN ?_ _ | refine blk_drew ?_ | refine blk_alloc ?_ _)); refine blk_put (cs := #[.int .i64 t207, .string t208, .int .i64 t209, .string (⟨#[]⟩ : ByteArray)]) ?_ 3 _ rfl; (with_reducible repeat (first | refine blk_drewN ?_ _ | refine blk_drew ?_ | refine blk_alloc ?_ _)); refine blk_put (cs := #[.int .i64 t207, .string t208, .int .i64 0, .string (⟨#[]⟩ : ByteArray)]) ?_ 2 _ rfl; (with_reducible repeat (first | refine blk_drewN ?_ _ | refine blk_drew ?_ | refine blk_alloc ?_ _)); refine blk_put (cs := #[.int .i64 t207, .string (⟨#[]⟩ : ByteArray), .int .i64 0, .string (⟨#[]⟩ : ByteArray)]) ?_ 1 _ rfl; (with_reducible repeat (first | refine blk_drewN ?_ _ | refine blk_drew ?_ | refine blk_alloc ?_ _)); refine blk_put (cs := #[.int .i64 0, .string (⟨#[]⟩ : ByteArray), .int .i64 0, .string (⟨#[]⟩ : ByteArray)]) ?_ 0 _ rfl; (with_reducible repeat (first | refine blk_drewN ?_ _ | refine blk_drew ?_ | refine blk_alloc ?_ _)); exact BK211.out) hb); have n3_ := Aside0.mk (below_step (by repeat (first | (with_reducible first | exact HB.out | apply below_alloc | apply pw_below_drewN | apply below_drew1 | refine below_set ?_ GE211.out) | exact HB.out)) hb); clear HO206; clear BK211; clear HB; have HO206 := n0_; have HO214 := n1_; have BK211 := n2_; have HB := n3_; clear n0_ n1_ n2_ n3_; (try clear hb); (try clear hb2); (try clear hk); (try clear hi); (try clear ho0); obtain ⟨Ao24, co24, eo24⟩ := Kd.R_slice HO214.out; subst eo24) | ((with_reducible refine gate_callee (f := 8) rfl ?_); refine goesL_ (some 29) rfl rfl Tryd.func8 (by kernel_rfl) rfl #[.slice Ao24 t212.length co24, .int .i64 a1, .string a2] rfl (by (try simp only [List.map_toArray, List.map_cons, List.map_nil]); first | done | rfl | (simp only [List.length_drop, List.length_take]; rfl)) ?_; (with_reducible refine (impl_GetObject.calls (hT := ?sideT) k _ _ t212 a1 a2 t215 t216 t217 t218 _ ?side1 ?side2 A11.out).mono ?_); (case sideT => exact TabW.below HTW.out (by repeat (first | (with_reducible first | exact HB.out | apply below_alloc | apply pw_below_drewN | apply below_drew1 | refine below_set ?_ GE211.out) | exact HB.out))); (case side1 => repeat (first | exact (Kd.R_reads' HO214.out).2.2 | (with_reducible refine Kd.C_alloc ?_ _) | (with_reducible refine Kd.C_drewN ?_ _) | (with_reducible refine Kd.C_drew ?_))); (case side2 => exact (Kd.R_reads' HO214.out).2.1); rintro e w25 ⟨rfl, hb⟩; refine ⟨_, rfl, ?_⟩; have n0_ := Aside0.mk (Kd.R_below (by (with_reducible repeat (first | apply Kd.R_alloc | apply Kd.R_drewN | apply Kd.R_drew)); exact HO206.out) hb); have n1_ := Aside0.mk (Kd.R_below (by (with_reducible repeat (first | apply Kd.R_alloc | apply Kd.R_drewN | apply Kd.R_drew)); exact HO214.out) hb); have n2_ := Aside0.mk (blk_below (g := gb211) (o := .cells #[.int .i64 t207, .string t208, .int .i64 t209, .string t210] 27 (0, 0)) (by (with_reducible repeat (first | refine blk_drewN ?_ _ | refine blk_drew ?_ | refine blk_alloc ?_ _)); exact BK211.out) hb); have n3_ := Aside0.mk (below_step (by repeat (first | (with_reducible first | exact HB.out | apply below_alloc | apply pw_below_drewN | apply below_drew1 | refine below_set ?_ GE211.out) | exact HB.out)) hb); clear HO206; clear HO214; clear BK211; clear HB; have HO206 := n0_; have HO214 := n1_; have BK211 := n2_; have HB := n3_; clear n0_ n1_ n2_ n3_; (try clear hb); (try clear hb2); (try clear hk); (try clear hi)) | ((with_reducible refine gate_dst (N := 10) rfl ?_); refine box_event ?hg (N := 10) ?hd (cs := #[.int .i64 0, .string (⟨#[]⟩ : ByteArray), .int .i64 0, .string (⟨#[]⟩ : ByteArray)]) (t := 27) ?hr ?_; (case hd => rfl); (case hg => rfl); (case hr => first | (go_simp; done) | (go_simp; rfl)); intro gb219 hg w26 hbox hb; have n0_ := Aside0.mk (Kd.R_below (by (with_reducible repeat (first | apply Kd.R_alloc | apply Kd.R_drewN | apply Kd.R_drew)); exact HO206.out) hb); have n1_ := Aside0.mk (Kd.R_below (by (with_reducible repeat (first | apply Kd.R_alloc | apply Kd.R_drewN | apply Kd.R_drew)); exact HO214.out) hb); have n2_ := Aside0.mk (blk_below (g := gb211) (o := .cells #[.int .i64 t207, .string t208, .int .i64 t209, .string t210] 27 (0, 0)) (by (with_reducible repeat (first | refine blk_drewN ?_ _ | refine blk_drew ?_ | refine blk_alloc ?_ _)); exact BK211.out) hb); have n3_ := Aside0.mk (below_step (by repeat (first | (with_reducible first | exact HB.out | apply below_alloc | apply pw_below_drewN | apply below_drew1 | refine below_set ?_ GE211.out) | exact HB.out)) hb); have n4_ := Aside0.mk (hbox); have n5_ := Aside0.mk ((by rw [hg]; exact (below_size (by repeat (first | (with_reducible first | exact HB.out | apply below_alloc | apply pw_below_drewN | apply below_drew1 | refine below_set ?_ GE211.out) | exact HB.out))) : w.heap.size ≤ gb219)); have n6_ := Aside0.mk ((by rw [hg]; exact (below_size (by repeat (first | (with_reducible first | exact HB.out | apply below_alloc | apply pw_below_drewN | apply below_drew1 | refine below_set ?_ GE211.out) | exact HB.out))) : w.heap.size ≤ gb219)); have n7_ := Aside0.mk ((by rw [hg]; exact Nat.ne_of_lt (blk_lt (g := gb211) (o := .cells #[.int .i64 t207, .string t208, .int .i64 t209, .string t210] 27 (0, 0)) (by (with_reducible repeat (first | refine blk_drewN ?_ _ | refine blk_drew ?_ | refine blk_alloc ?_ _)); exact BK211.out)) : gb211 ≠ gb219)); have n8_ := Aside0.mk ((by rw [hg]; exact Nat.ne_of_gt (blk_lt (g := gb211) (o := .cells #[.int .i64 t207, .string t208, .int .i64 t209, .string t210] 27 (0, 0)) (by (with_reducible repeat (first | refine blk_drewN ?_ _ | refine blk_drew ?_ | refine blk_alloc ?_ _)); exact BK211.out)) : gb219 ≠ gb211)); clear HO206; clear HO214; clear BK211; clear HB; have HO206 := n0_; have HO214 := n1_; have BK211 := n2_; have HB := n3_; have BK219 := n4_; have GW219 := n5_; have GE219 := n6_; have NB211_219 := n7_; have NB219_211 := n8_; clear n0_ n1_ n2_ n3_ n4_ n5_ n6_ n7_ n8_; clear hb hbox hg; have hnb27 := NB219_211.out; have hnc27 := NB211_219.out; have hcz28_0 : w26.cell? ⟨gb219, 0, none⟩ = some (.int .i64 0) := (blk_cell BK219.out 0).trans rfl; have hcz28_1 : w26.cell? ⟨gb219, 1, none⟩ = some (.string (⟨#[]⟩ : ByteArray)) := (blk_cell BK219.out 1).trans rfl; have hcz28_2 : w26.cell? ⟨gb219, 2, none⟩ = some (.int .i64 0) := (blk_cell BK219.out 2).trans rfl; have hcz28_3 : w26.cell? ⟨gb219, 3, none⟩ = some (.string (⟨#[]⟩ : ByteArray)) := (blk_cell BK219.out 3).trans rfl; have hfz28_0 := blk_frozen BK219.out 0; have hfz28_1 := blk_frozen BK219.out 1; have hfz28_2 := blk_frozen BK219.out 2; have hfz28_3 := blk_frozen BK219.out 3; have hcz29_0 : w26.cell? ⟨gb211, 0, none⟩ = some (.int .i64 t207) := (blk_cell BK211.out 0).trans rfl; have hcz29_1 : w26.cell? ⟨gb211, 1, none⟩ = some (.string t208) := (blk_cell BK211.out 1).trans rfl; have hcz29_2 : w26.cell? ⟨gb211, 2, none⟩ = some (.int .i64 t209) := (blk_cell BK211.out 2).trans rfl; have hcz29_3 : w26.cell? ⟨gb211, 3, none⟩ = some (.string t210) := (blk_cell BK211.out 3).trans rfl; have hfz29_0 := blk_frozen BK211.out 0; have hfz29_1 := blk_frozen BK211.out 1; have hfz29_2 := blk_frozen BK211.out 2; have hfz29_3 := blk_frozen BK211.out 3) | ((with_reducible refine gate_callee (f := 9) rfl ?_); refine goesL_ (some 32) rfl rfl Tryd.func9 (by kernel_rfl) rfl #[.agg #[.int .i64 t215, .string t216, .int .i64 t217, .string t218], .agg #[.int .i64 t207, .string t208, .int .i64 t209, .string t210]] rfl (by (try simp only [List.map_toArray, List.map_cons, List.map_nil]); first | done | rfl | (simp only [List.length_drop, List.length_take]; rfl)) ?_; (with_reducible refine (laws_eqObjectResult.calls t215 t216 t217 t218 t207 t208 t209 t210 true _ A12.out).mono ?_); rintro e w30 ⟨rfl, hb⟩; refine ⟨_, rfl, ?_⟩; have n0_ := Aside0.mk (Kd.R_below (by (with_reducible repeat (first | apply Kd.R_alloc | apply Kd.R_drewN | apply Kd.R_drew)); exact (Kd.R_mono (Kd.R_far (p := ⟨gb219, 3, none⟩) (Kd.R_far (p := ⟨gb219, 2, none⟩) (Kd.R_far (p := ⟨gb219, 1, none⟩) (Kd.R_far (p := ⟨gb219, 0, none⟩) (Kd.R_types HO206.out BK219.out (by decide)) (fun _ hk => hk.2) (.int .i64 t215)) (fun _ hk => hk.2) (.string t216)) (fun _ hk => hk.2) (.int .i64 t217)) (fun _ hk => hk.2) (.string t218)) (fun _ h_ => h_.1))) hb); have n1_ := Aside0.mk (Kd.R_below (by (with_reducible repeat (first | apply Kd.R_alloc | apply Kd.R_drewN | apply Kd.R_drew)); exact (Kd.R_mono (Kd.R_far (p := ⟨gb219, 3, none⟩) (Kd.R_far (p := ⟨gb219, 2, none⟩) (Kd.R_far (p := ⟨gb219, 1, none⟩) (Kd.R_far (p := ⟨gb219, 0, none⟩) (Kd.R_types HO214.out BK219.out (by decide)) (fun _ hk => hk.2) (.int .i64 t215)) (fun _ hk => hk.2) (.string t216)) (fun _ hk => hk.2) (.int .i64 t217)) (fun _ hk => hk.2) (.string t218)) (fun _ h_ => h_.1))) hb); have n2_ := Aside0.mk (blk_below (g := gb211) (o := .cells #[.int .i64 t207, .string t208, .int .i64 t209, .string t210] 27 (0, 0)) (by (with_reducible repeat (first | refine blk_drewN ?_ _ | refine blk_drew ?_ | refine blk_alloc ?_ _)); refine blk_far ?_ NB211_219.out _; (with_reducible repeat (first | refine blk_drewN ?_ _ | refine blk_drew ?_ | refine blk_alloc ?_ _)); refine blk_far ?_ NB211_219.out _; (with_reducible repeat (first | refine blk_drewN ?_ _ | refine blk_drew ?_ | refine blk_alloc ?_ _)); refine blk_far ?_ NB211_219.out _; (with_reducible repeat (first | refine blk_drewN ?_ _ | refine blk_drew ?_ | refine blk_alloc ?_ _)); refine blk_far ?_ NB211_219.out _; (with_reducible repeat (first | refine blk_drewN ?_ _ | refine blk_drew ?_ | refine blk_alloc ?_ _)); exact BK211.out) hb); have n3_ := Aside0.mk (blk_below (g := gb219) (o := .cells #[.int .i64 t215, .string t216, .int .i64 t217, .string t218] 27 (0, 0)) (by (with_reducible repeat (first | refine blk_drewN ?_ _ | refine blk_drew ?_ | refine blk_alloc ?_ _)); refine blk_put (cs := #[.int .i64 t215, .string t216, .int .i64 t217, .string (⟨#[]⟩ : ByteArray)]) ?_ 3 _ rfl; (with_reducible repeat (first | refine blk_drewN ?_ _ | refine blk_drew ?_ | refine blk_alloc ?_ _)); refine blk_put (cs := #[.int .i64 t215, .string t216, .int .i64 0, .string (⟨#[]⟩ : ByteArray)]) ?_ 2 _ rfl; (with_reducible repeat (first | refine blk_drewN ?_ _ | refine blk_drew ?_ | refine blk_alloc ?_ _)); refine blk_put (cs := #[.int .i64 t215, .string (⟨#[]⟩ : ByteArray), .int .i64 0, .string (⟨#[]⟩ : ByteArray)]) ?_ 1 _ rfl; (with_reducible repeat (first | refine blk_drewN ?_ _ | refine blk_drew ?_ | refine blk_alloc ?_ _)); refine blk_put (cs := #[.int .i64 0, .string (⟨#[]⟩ : ByteArray), .int .i64 0, .string (⟨#[]⟩ : ByteArray)]) ?_ 0 _ rfl; (with_reducible repeat (first | refine blk_drewN ?_ _ | refine blk_drew ?_ | refine blk_alloc ?_ _)); exact BK219.out) hb); have n4_ := Aside0.mk (below_step (by repeat (first | (with_reducible first | exact HB.out | apply below_alloc | apply pw_below_drewN | apply below_drew1 | refine below_set ?_ GE211.out | refine below_set ?_ GE219.out) | exact HB.out)) hb); clear HO206; clear HO214; clear BK211; clear BK219; clear HB; have HO206 := n0_; have HO214 := n1_; have BK211 := n2_; have BK219 := n3_; have HB := n4_; clear n0_ n1_ n2_ n3_ n4_; (try clear hb); (try clear hb2); (try clear hk); (try clear hi)) | ((with_reducible refine gate_callee (f := 7) rfl ?_); refine goesL_ (some 36) rfl rfl Tryd.func7 (by kernel_rfl) rfl #[.slice A0 l0.length c0] rfl (by (try simp only [List.map_toArray, List.map_cons, List.map_nil]); first | done | rfl | (simp only [List.length_drop, List.length_take]; rfl)) ?_; (with_reducible refine (laws_toObjectS.calls k _ _ l0 t221 _ ?side1 ?side2 A14.out).mono ?_); (case side1 => repeat (first | exact (Kd.C_below HR0.out HB.out) | (with_reducible refine Kd.C_alloc ?_ _) | (with_reducible refine Kd.C_drewN ?_ _) | (with_reducible refine Kd.C_drew ?_))); (case side2 => exact HC0.out); rintro e w31 ⟨v222, rfl, ho0, hb⟩; refine ⟨_, rfl, ?_⟩; have n0_ := Aside0.mk (Kd.R_elder' (by (with_reducible repeat (first | apply Kd.R_alloc | apply Kd.R_drewN | apply Kd.R_drew)); exact HO206.out) (Kd.R_base ho0) hb); have n1_ := Aside0.mk (Kd.R_elder' (by (with_reducible repeat (first | apply Kd.R_alloc | apply Kd.R_drewN | apply Kd.R_drew)); exact HO214.out) (Kd.R_base ho0) hb); have n2_ := Aside0.mk (Kd.R_lower (Kd.R_new' (Kd.R_new' ho0 (Kd.R_lt (by (with_reducible repeat (first | apply Kd.R_alloc | apply Kd.R_drewN | apply Kd.R_drew)); exact HO206.out))) (Kd.R_lt (by (with_reducible repeat (first | apply Kd.R_alloc | apply Kd.R_drewN | apply Kd.R_drew)); exact HO214.out))) (below_size (by repeat (first | (with_reducible first | exact HB.out | apply below_alloc | apply pw_below_drewN | apply below_drew1 | refine below_set ?_ GE211.out | refine below_set ?_ GE219.out) | exact HB.out)))); have n3_ := Aside0.mk (blk_below (g := gb211) (o := .cells #[.int .i64 t207, .string t208, .int .i64 t209, .string t210] 27 (0, 0)) (by (with_reducible repeat (first | refine blk_drewN ?_ _ | refine blk_drew ?_ | refine blk_alloc ?_ _)); exact BK211.out) hb); have n4_ := Aside0.mk (blk_below (g := gb219) (o := .cells #[.int .i64 t215, .string t216, .int .i64 t217, .string t218] 27 (0, 0)) (by (with_reducible repeat (first | refine blk_drewN ?_ _ | refine blk_drew ?_ | refine blk_alloc ?_ _)); exact BK219.out) hb); have n5_ := Aside0.mk (below_step (by repeat (first | (with_reducible first | exact HB.out | apply below_alloc | apply pw_below_drewN | apply below_drew1 | refine below_set ?_ GE211.out | refine below_set ?_ GE219.out) | exact HB.out)) hb); clear HO206; clear HO214; clear BK211; clear BK219; clear HB; have HO206 := n0_; have HO214 := n1_; have HO223 := n2_; have BK211 := n3_; have BK219 := n4_; have HB := n5_; clear n0_ n1_ n2_ n3_ n4_ n5_; (try clear hb); (try clear hb2); (try clear hk); (try clear hi); (try clear ho0); obtain ⟨Ao32, co32, eo32⟩ := Kd.R_slice HO223.out; subst eo32) | ((with_reducible refine gate_callee (f := 10) rfl ?_); refine goesL_ (some 37) rfl rfl Tryd.func10 (by kernel_rfl) rfl #[.slice Ao24 t212.length co24, .slice Ao32 t221.length co32] rfl (by (try simp only [List.map_toArray, List.map_cons, List.map_nil]); first | done | rfl | (simp only [List.length_drop, List.length_take]; rfl)) ?_; (with_reducible refine (laws_eqObjectS.calls k _ _ t212 _ _ t221 true _ ?side1 ?side2 ?side3 ?side4 A15.out).mono ?_); (case side1 => repeat (first | exact (Kd.R_reads' HO214.out).2.2 | (with_reducible refine Kd.C_alloc ?_ _) | (with_reducible refine Kd.C_drewN ?_ _) | (with_reducible refine Kd.C_drew ?_))); (case side2 => exact (Kd.R_reads' HO214.out).2.1); (case side3 => repeat (first | exact (Kd.R_reads' HO223.out).2.2 | (with_reducible refine Kd.C_alloc ?_ _) | (with_reducible refine Kd.C_drewN ?_ _) | (with_reducible refine Kd.C_drew ?_))); (case side4 => exact (Kd.R_reads' HO223.out).2.1); rintro e w33 ⟨rfl, hb⟩; refine ⟨_, rfl, ?_⟩; have n0_ := Aside0.mk (Kd.R_below (by (with_reducible repeat (first | apply Kd.R_alloc | apply Kd.R_drewN | apply Kd.R_drew)); exact HO206.out) hb); have n1_ := Aside0.mk (Kd.R_below (by (with_reducible repeat (first | apply Kd.R_alloc | apply Kd.R_drewN | apply Kd.R_drew)); exact HO214.out) hb); have n2_ := Aside0.mk (Kd.R_below (by (with_reducible repeat (first | apply Kd.R_alloc | apply Kd.R_drewN | apply Kd.R_drew)); exact HO223.out) hb); have n3_ := Aside0.mk (blk_below (g := gb211) (o := .cells #[.int .i64 t207, .string t208, .int .i64 t209, .string t210] 27 (0, 0)) (by (with_reducible repeat (first | refine blk_drewN ?_ _ | refine blk_drew ?_ | refine blk_alloc ?_ _)); exact BK211.out) hb); have n4_ := Aside0.mk (blk_below (g := gb219) (o := .cells #[.int .i64 t215, .string t216, .int .i64 t217, .string t218] 27 (0, 0)) (by (with_reducible repeat (first | refine blk_drewN ?_ _ | refine blk_drew ?_ | refine blk_alloc ?_ _)); exact BK219.out) hb); have n5_ := Aside0.mk (below_step (by repeat (first | (with_reducible first | exact HB.out | apply below_alloc | apply pw_below_drewN | apply below_drew1 | refine below_set ?_ GE211.out | refine below_set ?_ GE219.out) | exact HB.out)) hb); clear HO206; clear HO214; clear HO223; clear BK211; clear BK219; clear HB; have HO206 := n0_; have HO214 := n1_; have HO223 := n2_; have BK211 := n3_; have BK219 := n4_; have HB := n5_; clear n0_ n1_ n2_ n3_ n4_ n5_; (try clear hb); (try clear hb2); (try clear hk); (try clear hi)))
     go_ret
     exact ⟨by first | rfl | (simp [errW_none, errW_some] <;> rfl) | (simp [*, errW_none, errW_some] <;> rfl), by repeat (first | (with_reducible first | exact HB.out | apply below_alloc | apply pw_below_drewN | apply below_drew1 | refine below_set ?_ GE211.out | refine below_set ?_ GE219.out) | exact HB.out)⟩
    ·replace c16 := Bool.eq_false_iff.mpr c16
     subst c16
     have H1 : (some false) = some r := by rw [if_neg (show ¬ (false = true) by decide)] at H; exact H
     clear H
     have H := H1
     clear H1
     exact absurd ((Option.some.inj H).trans HLAW.out) (by decide)
   ·replace c13 := Bool.eq_false_iff.mpr c13
    subst c13
    have H1 : (some false) = some r := by rw [if_neg (show ¬ (false = true) by decide)] at H; exact H
    clear H
    have H := H1
    clear H1
    exact absurd ((Option.some.inj H).trans HLAW.out) (by decide)
end Go.Proofs.YtclbcoejblnjjaaDoor.P
end
section
set_option linter.unusedVariables false
namespace Go.Proofs.YtclbcoejblnjjaaDoor.P
open Go.RowKit Go.Proofs.YtclbcoejblnjjaaDoorW.PrintWords Go.Proofs.YtclbcoejblnjjaaDoorW.PrintLast
namespace UFnExactGetObject
def G43 (x : S43) : Prop := ((((x.f0)).size ≤ 9223372036854775807) ∧ (((Lit.int .i64 (x.f1)).wf = true) ∧ (((x.f2)).size ≤ 9223372036854775807)))
def Pure : Prop := ∀ (l0 : List S43) (a1 : Int) (a2 : ByteArray), (l0.length ≤ 9223372036854775807 ∧ ∀ x ∈ l0, G43 x) → ((Lit.int .i64 a1).wf = true) → (a2.size ≤ 9223372036854775807) → ∃ k, laws_FnExactGetObject.f k l0 a1 a2 = some true
end UFnExactGetObject
end Go.Proofs.YtclbcoejblnjjaaDoor.P
end
section
set_option linter.unusedVariables false
set_option linter.unusedSimpArgs false
namespace Go.Proofs.YtclbcoejblnjjaaDoor.P
open Go.RowKit Go.Proofs.YtclbcoejblnjjaaDoorW.PrintWords Go.Proofs.YtclbcoejblnjjaaDoorW.PrintLast
theorem wid {x : Int} (h0 : -9223372036854775808 ≤ x) (h1 : x ≤ 9223372036854775807) : wrap64 x = x := by
  unfold wrap64
  omega
theorem wsucc {i n : Nat} (h : i < n) (hn : n ≤ 9223372036854775807) : wrap64 ((i : Int) + 1) = ((i + 1 : Nat) : Int) := by
  rw [wid (by omega) (by omega)]
  rfl
theorem Ev_if {α : Type} {c : Prop} [Decidable c] {a b : Nat → Option α} {r : α} (hp : c → Ev a r) (hn : ¬ c → Ev b r) : Ev (fun k => if c then a k else b k) r := by
  by_cases h : c
  · exact (hp h).congr (fun k => if_pos h)
  · exact (hn h).congr (fun k => if_neg h)
theorem Ev_pos {α : Type} {c : Prop} [Decidable c] {a b : Nat → Option α} {r : α} (hc : c) (h : Ev a r) : Ev (fun k => if c then a k else b k) r := h.congr (fun k => if_pos hc)
theorem Ev_neg {α : Type} {c : Prop} [Decidable c] {a b : Nat → Option α} {r : α} (hc : ¬ c) (h : Ev b r) : Ev (fun k => if c then a k else b k) r := h.congr (fun k => if_neg hc)
theorem Ev_call {α β : Type} {g : Nat → Option α} {f : Nat → α → Option β} {a : α} {r : β} (h : Ev g a) (k : Ev (fun n => f n a) r) : Ev (fun n => (g n).bind (f n)) r := Ev.bind h k
theorem Ev_const {α β : Type} {g : Option α} {f : Nat → α → Option β} {a : α} {r : β} (h : g = some a) (k : Ev (fun n => f n a) r) : Ev (fun n => g.bind (f n)) r :=
  Ev.bind (g := fun _ => g) ⟨0, fun _ _ => h⟩ k
theorem Ev_eq {α : Type} {g : Nat → Option α} {r r' : α} (h : Ev g r) (e : r = r') : Ev g r' := e ▸ h
theorem Ev_val {α : Type} {r r' : α} (h : r = r') : Ev (fun _ => some r) r' := ⟨0, fun _ _ => by rw [h]⟩
theorem rd_nat {α : Type} (d : α) {xs : List α} {i : Nat} (h : i < xs.length) : rdOf d xs (i : Int) = xs[i] := by
  unfold rdOf
  rw [Int.toNat_natCast, List.getD_eq_getElem?_getD, List.getElem?_eq_getElem h]
  rfl
theorem rdi_nat {xs : List Int} {i : Nat} (h : i < xs.length) : rd xs (i : Int) = xs[i] := by
  unfold rd
  rw [Int.toNat_natCast, List.getD_eq_getElem?_getD, List.getElem?_eq_getElem h]
  rfl
theorem bt_nat {s : ByteArray} {i : Nat} (h : i < s.data.toList.length) : bt s (i : Int) = ((s.data.toList[i]).toNat : Int) := by
  have h' : i < s.size := by simpa using h
  unfold bt
  rw [dif_pos (by rw [Int.toNat_natCast]; exact h')]
  simp [ByteArray.getElem_eq_getElem_data]
theorem data_eq {a b : ByteArray} : a.toList = b.toList ↔ a = b := by
  rw [ByteArray.toList_eq, ByteArray.toList_eq]
  constructor
  · intro h
    cases a
    cases b
    simpa using h
  · rintro rfl
    rfl
theorem toList_nil {a : ByteArray} : a.toList = ([] : List UInt8) ↔ a.data.toList = [] := by rw [ByteArray.toList_eq]
theorem size_data (a : ByteArray) : a.data.toList.length = a.size := by simp
theorem drop_at {α : Type} {xs : List α} {i : Nat} (h : i < xs.length) : xs.drop i = xs[i] :: xs.drop (i + 1) := List.drop_eq_getElem_cons h
end Go.Proofs.YtclbcoejblnjjaaDoor.P
end
section
set_option linter.unusedVariables false
set_option linter.unusedSimpArgs false
namespace Go.Proofs.YtclbcoejblnjjaaDoor.P
open Go.RowKit
theorem index_low (l : List UInt8) (c : UInt8) : -1 ≤ Lib.indexByte l c := by
  induction l with
  | nil => simp [Lib.indexByte]
  | cons b l ih =>
    unfold Lib.indexByte
    split
    · omega
    · split
      · omega
      · omega
end Go.Proofs.YtclbcoejblnjjaaDoor.P
end
section
set_option linter.unusedVariables false
set_option linter.unusedSimpArgs false
namespace Go.Proofs.YtclbcoejblnjjaaDoor.P
open Go.RowKit Go.Proofs.YtclbcoejblnjjaaDoorW.PrintWords Go.Proofs.YtclbcoejblnjjaaDoorW.PrintLast
def pieces : List UInt8 → List UInt8 → List (List UInt8)
  | cur, [] => [cur]
  | cur, b :: l => if b = 10 then (cur ++ [b]) :: pieces [] l else pieces (cur ++ [b]) l
def linesL : List UInt8 → List UInt8 → List (List UInt8)
  | cur, [] => if cur = [] then [] else [cur]
  | cur, b :: l => if b = 10 then (cur ++ [b]) :: linesL [] l else linesL (cur ++ [b]) l
def toB (l : List UInt8) : ByteArray := ⟨l.toArray⟩
theorem toB_data (s : ByteArray) : toB s.data.toList = s := by cases s; simp [toB]
theorem data_toB (l : List UInt8) : (toB l).data.toList = l := by simp [toB]
def LNB (s : ByteArray) : List ByteArray := (linesL [] s.data.toList).map toB
theorem extract_data (s : ByteArray) (a b : Nat) : (s.extract a b).data.toList = (s.data.toList.drop a).take (b - a) := by
  rw [ByteArray.data_extract, Array.toList_extract, List.extract_eq_take_drop]
theorem extract_toB (s : ByteArray) (a b : Nat) : s.extract a b = toB ((s.data.toList.drop a).take (b - a)) := by
  rw [← extract_data, toB_data]
theorem take_more {l : List UInt8} {f i : Nat} (hf : f ≤ i) (hi : i < l.length) : (l.drop f).take (i + 1 - f) = (l.drop f).take (i - f) ++ [l[i]] := by
  have e : i + 1 - f = (i - f) + 1 := by omega
  rw [e, List.take_add_one, List.getElem?_drop]
  have e2 : f + (i - f) = i := by omega
  rw [e2, List.getElem?_eq_getElem hi]
  rfl
theorem split_loop (s : ByteArray) (hs : s.size ≤ 1048576) : ∀ (d i f : Nat) (out : List ByteArray), s.size - i = d → i ≤ s.size → f ≤ i → out.length ≤ f →
    Ev (fun k => spec_l1Split.l0 k s out (f : Int) (i : Int)) (out ++ (linesL ((s.data.toList.drop f).take (i - f)) (s.data.toList.drop i)).map toB) := by
  intro d
  induction d with
  | zero =>
    intro i f out hd hi hf ho
    have hi' : i = s.size := by omega
    subst hi'
    refine Ev.step (fun k => by rw [spec_l1Split.l0]) ?_
    refine Ev_neg (by omega) ?_
    rw [List.drop_eq_nil_of_le (Nat.le_of_eq (size_data s)), linesL]
    refine Ev_if (fun h => ?_) (fun h => ?_)
    · refine Ev_pos (by omega) (Ev_pos (by omega) (Ev_pos (by omega) (Ev_val ?_)))
      have e1 : ((f : Int)).toNat = f := by omega
      rw [extract_toB, if_neg (fun e => ?_)]
      · rfl
      · have := congrArg List.length e
        simp only [List.length_take, List.length_drop, size_data, List.length_nil] at this
        omega
    · refine Ev_val ?_
      have : f = s.size := by omega
      subst this
      rw [if_pos (by simp)]
      simp
  | succ d ih =>
    intro i f out hd hi hf ho
    have hlt : i < s.data.toList.length := by rw [size_data]; omega
    refine Ev.step (fun k => by rw [spec_l1Split.l0]) (Ev_pos (by omega) (Ev_pos (by omega) ?_))
    rw [bt_nat hlt, drop_at hlt, wsucc (n := s.size) (by omega) (by omega)]
    rw [linesL, ← take_more hf hlt]
    refine Ev_if (fun h => ?_) (fun h => ?_)
    · have hb : s.data.toList[i] = 10 := by
        apply UInt8.toNat_inj.1
        have h2 : s.data.toList[i].toNat = 10 := by omega
        exact h2
      refine Ev_pos (by omega) (Ev_pos (by omega) (Ev_pos (by omega) (Ev_pos (by omega) ?_)))
      rw [if_pos hb]
      refine Ev_eq (ih (i + 1) (i + 1) _ (by omega) (by omega) (Nat.le_refl _) (by rw [List.length_append, List.length_singleton]; omega)) ?_
      have e1 : ((f : Int)).toNat = f := by omega
      have e2 : (((i + 1 : Nat) : Int)).toNat = i + 1 := by omega
      rw [e1, e2, extract_toB, Nat.sub_self, List.take_zero, List.append_assoc]
      rfl
    · have : ¬ s.data.toList[i] = 10 := fun e => h (by rw [e]; rfl)
      rw [if_neg this]
      exact ih (i + 1) f out (by omega) (by omega) (by omega) ho
theorem split_tells (s : ByteArray) (hs : s.size ≤ 1048576) : Ev (fun k => spec_l1Split.f k s) (LNB s) := by
  unfold spec_l1Split.f
  have h := split_loop s hs _ 0 0 [] rfl (by omega) (by omega) (by simp)
  rw [List.drop_zero, Nat.sub_self, List.take_zero] at h
  exact h
def ahead (cur : List UInt8) : List (List UInt8) → List (List UInt8)
  | [] => [cur]
  | x :: r => (cur ++ x) :: r
theorem pieces_ne (cur l : List UInt8) : pieces cur l ≠ [] := by
  induction l generalizing cur with
  | nil => simp [pieces]
  | cons b l ih =>
    rw [pieces]
    split
    · simp
    · exact ih _
theorem ahead_ahead (a b : List UInt8) {xs : List (List UInt8)} (h : xs ≠ []) : ahead a (ahead b xs) = ahead (a ++ b) xs := by
  cases xs with
  | nil => exact absurd rfl h
  | cons x r => simp [ahead]
theorem pieces_cur (cur l : List UInt8) : pieces cur l = ahead cur (pieces [] l) := by
  induction l generalizing cur with
  | nil => simp [pieces, ahead]
  | cons b l ih =>
    rw [pieces, pieces]
    by_cases h : b = 10
    · rw [if_pos h, if_pos h]
      simp [ahead]
    · rw [if_neg h, if_neg h, ih (cur ++ [b]), ih ([] ++ [b]), ahead_ahead _ _ (pieces_ne _ _)]
      rfl
theorem splitK_cons (b : UInt8) (l : List UInt8) (h : b ≠ 10) (k : Nat) : Lib.splitK [10] 1 k (b :: l) = ahead [b] (Lib.splitK [10] 1 k l) := by
  cases k with
  | zero => rfl
  | succ k =>
    have hge := index_low l 10
    have e : Lib.indexByte (b :: l) 10 = if Lib.indexByte l 10 < 0 then -1 else Lib.indexByte l 10 + 1 := by
      rw [Lib.indexByte]
      simp only [beq_iff_eq, h, if_false]
      by_cases q : Lib.indexByte l 10 = -1
      · rw [if_pos q, if_pos (by omega)]
      · rw [if_neg q, if_neg (by omega)]
    rw [Lib.splitK, Lib.splitK, Lib.index_one, Lib.index_one, e]
    by_cases hn : Lib.indexByte l 10 < 0
    · have e2 : Lib.indexByte l 10 = -1 := by omega
      rw [if_pos hn, e2, if_pos (beq_self_eq_true _), if_pos (beq_self_eq_true _)]
      rfl
    · rw [if_neg hn, if_neg (fun q => by have := beq_iff_eq.1 q; omega), if_neg (fun q => by have := beq_iff_eq.1 q; omega)]
      obtain ⟨o, ho⟩ : ∃ o : Nat, Lib.indexByte l 10 = (o : Int) := ⟨(Lib.indexByte l 10).toNat, by omega⟩
      rw [ho]
      have e3 : ((o : Int) + 1).toNat = o + 1 := by omega
      have e4 : ((o : Int)).toNat = o := by omega
      rw [e3, e4]
      rfl
theorem splitK_pieces (l : List UInt8) : Lib.splitK [10] 1 (l.count 10) l = pieces [] l := by
  induction l with
  | nil => rfl
  | cons b l ih =>
    rw [pieces]
    by_cases h : b = 10
    · subst h
      rw [if_pos rfl, List.count_cons_self, Lib.splitK, Lib.index_one]
      have e : Lib.indexByte (10 :: l) 10 = 0 := by rw [Lib.indexByte]; simp
      rw [e, if_neg (by decide)]
      show _ :: Lib.splitK [10] 1 (l.count 10) l = _
      rw [ih]
      rfl
    · rw [if_neg h, List.count_cons_of_ne (fun e => h e), splitK_cons b l h, ih]
      exact (pieces_cur [b] l).symm
theorem pieces_lines (cur l : List UInt8) : ∃ p ps, pieces cur l = ps ++ [p] ∧ linesL cur l = if p = [] then ps else ps ++ [p] := by
  induction l generalizing cur with
  | nil =>
    refine ⟨cur, [], rfl, ?_⟩
    simp [linesL]
  | cons b l ih =>
    rw [pieces, linesL]
    by_cases h : b = 10
    · rw [if_pos h, if_pos h]
      obtain ⟨p, ps, e1, e2⟩ := ih []
      refine ⟨p, (cur ++ [b]) :: ps, by rw [e1]; rfl, ?_⟩
      rw [e2]
      split <;> rfl
    · rw [if_neg h, if_neg h]
      exact ih _
theorem linesOf_tells (s : ByteArray) (hs : s.size ≤ 1048576) : impl_linesOf.f s = some (LNB s) := by
  have e1 : strings_SplitAfter.f s (⟨#[10]⟩ : ByteArray) = some ((pieces [] s.data.toList).map toB) := by
    unfold strings_SplitAfter.f
    have : strings_genSplit.f s (⟨#[10]⟩ : ByteArray) (((⟨#[10]⟩ : ByteArray).size : Nat) : Int) (-1) = some ((pieces [] s.data.toList).map toB) := by
      unfold strings_genSplit.f
      show (if s.size < 4294967281 ∧ (1 : Int) = 1 ∧ (-1 : Int) = -1 then some (Lib.splitB ⟨⟨[10]⟩⟩ 1 (Lib.countB s ⟨⟨[10]⟩⟩) s) else none) = _
      rw [if_pos ⟨by omega, rfl, rfl⟩]
      congr 1
      have h := Lib.splitB_data ⟨⟨[10]⟩⟩ 1 (Lib.countB s ⟨⟨[10]⟩⟩) s
      have e0 : Lib.countB s ⟨⟨[10]⟩⟩ = s.data.toList.count 10 := Lib.count_one 10 s.data.toList
      rw [e0] at h ⊢
      have h2 := h.trans (splitK_pieces s.data.toList)
      rw [← h2, List.map_map]
      have : (toB ∘ fun x : ByteArray => x.data.toList) = id := funext toB_data
      rw [this, List.map_id]
    rw [this]
    rfl
  unfold impl_linesOf.f
  rw [e1]
  obtain ⟨p, ps, e2, e3⟩ := pieces_lines [] s.data.toList
  show (if 0 ≤ wrap64 ((((pieces [] s.data.toList).map toB).length : Int) - 1) then _ else none) = _
  have hl : ((pieces [] s.data.toList).map toB).length = ps.length + 1 := by rw [e2]; simp
  have hle : ps.length ≤ s.size := by
    have h1 : ∀ (cur l : List UInt8), (pieces cur l).length ≤ l.length + 1 := by
      intro cur l
      induction l generalizing cur with
      | nil => simp [pieces]
      | cons b l ih =>
        rw [pieces]
        split
        · have := ih []; simp only [List.length_cons]; omega
        · have := ih (cur ++ [b]); simp only [List.length_cons]; omega
    have := h1 [] s.data.toList
    rw [List.length_map] at hl
    rw [hl, size_data] at this
    omega
  rw [hl]
  have ew : wrap64 (((ps.length + 1 : Nat) : Int) - 1) = (ps.length : Int) := by rw [wid (by omega) (by omega)]; omega
  rw [ew, if_pos (by omega), if_pos (by omega)]
  have hlt : ps.length < ((pieces [] s.data.toList).map toB).length := by omega
  rw [rd_nat _ hlt]
  have hget : ((pieces [] s.data.toList).map toB)[ps.length] = toB p := by
    simp [e2]
  rw [hget]
  have hq : (toB p).toList = ([] : List UInt8) ↔ p = [] := by rw [toList_nil, data_toB]
  unfold LNB
  rw [e3]
  by_cases hp : p = []
  · rw [if_pos (hq.2 hp), if_pos (by omega), if_pos hp, e2]
    have : ((ps.length : Int)).toNat = ps.length := by omega
    rw [this]
    simp
  · rw [if_neg (fun e => hp (hq.1 e)), if_neg hp, e2]
end Go.Proofs.YtclbcoejblnjjaaDoor.P
end
section
set_option linter.unusedVariables false
set_option linter.unusedSimpArgs false
namespace Go.Proofs.YtclbcoejblnjjaaDoor.P
open Go.RowKit Go.Proofs.YtclbcoejblnjjaaDoorW.PrintWords Go.Proofs.YtclbcoejblnjjaaDoorW.PrintLast
def TF (a0 : ByteArray) : Int := if (a0.size : Int) > 2000 then 2 else if ((LNB a0).length : Int) > 100 then 2 else 0
theorem stf_tells (a0 : ByteArray) (hs : a0.size ≤ 1048576) : Ev (fun k => spec_TextFault.f k a0) (TF a0) := by
  unfold spec_TextFault.f TF
  refine Ev_if (fun h1 => by rw [if_pos h1]; exact Ev.now _) (fun h1 => ?_)
  rw [if_neg h1]
  refine Ev_call (split_tells a0 hs) (Ev_if (fun h2 => by rw [if_pos h2]; exact Ev.now _) (fun h2 => by rw [if_neg h2]; exact Ev.now _))
theorem itf_tells (a0 : ByteArray) (hs : a0.size ≤ 1048576) : impl_TextFault.f a0 = some (TF a0) := by
  unfold impl_TextFault.f TF
  by_cases h1 : (a0.size : Int) > 2000
  · rw [if_pos h1, if_pos h1]
  · rw [if_neg h1, if_neg h1, linesOf_tells a0 hs]
    by_cases h2 : ((LNB a0).length : Int) > 100
    · rw [if_pos h2]; exact if_pos h2
    · rw [if_neg h2]; exact if_neg h2
end Go.Proofs.YtclbcoejblnjjaaDoor.P
end
section
namespace Go.Proofs.YtclbcoejblnjjaaDoor.P
open Go.RowKit
theorem wsucc' {i : Nat} (hn : i < 9223372036854775807) : wrap64 ((i : Int) + 1) = ((i + 1 : Nat) : Int) := by
  rw [wid (by omega) (by omega)]
  omega
end Go.Proofs.YtclbcoejblnjjaaDoor.P
end
section
set_option linter.unusedVariables false
set_option linter.unusedSimpArgs false
namespace Go.Proofs.YtclbcoejblnjjaaDoor.P
open Go.RowKit Go.Proofs.YtclbcoejblnjjaaDoorW.PrintWords Go.Proofs.YtclbcoejblnjjaaDoorW.PrintLast
def firstN : List Int → Int
  | [] => 0
  | c :: l => if c = 0 then firstN l else c
theorem firstN_loop (xs : List Int) (hl : xs.length ≤ 9223372036854775807) : ∀ (d i : Nat), xs.length - i = d → i ≤ xs.length → Ev (fun k => impl_firstCode.l0 k xs (xs.length : Int) (i : Int)) (firstN (xs.drop i)) := by
  intro d
  induction d with
  | zero =>
    intro i hd hi
    refine Ev.step (fun k => by rw [impl_firstCode.l0]) (Ev_neg (by omega) (Ev_val ?_))
    rw [List.drop_eq_nil_of_le (by omega)]
    rfl
  | succ d ih =>
    intro i hd hi
    have hlt : i < xs.length := by omega
    refine Ev.step (fun k => by rw [impl_firstCode.l0]) (Ev_pos (by omega) (Ev_pos (by omega) (Ev_pos (by omega) ?_)))
    rw [rdi_nat hlt, drop_at hlt, wsucc hlt hl, firstN]
    refine Ev_if (fun h => ?_) (fun h => ?_)
    · rw [if_pos h]
      exact ih (i + 1) (by omega) (by omega)
    · rw [if_neg h]
      exact Ev.now _
theorem firstN_tells (xs : List Int) (hl : xs.length ≤ 9223372036854775807) : Ev (fun k => impl_firstCode.f k xs) (firstN xs) := by
  unfold impl_firstCode.f
  have := firstN_loop xs hl _ 0 rfl (by omega)
  rw [List.drop_zero] at this
  exact this
def DGf : List UInt8 → Nat → Nat
  | [], h => h
  | b :: l, h => DGf l ((h * 131 + b.toNat) % 65521)
theorem DGf_lt : ∀ (l : List UInt8) (h : Nat), h < 65521 → DGf l h < 65521 := by
  intro l
  induction l with
  | nil => intro h hh; exact hh
  | cons b l ih => intro h hh; exact ih _ (Nat.mod_lt _ (by omega))
theorem dg_step {b : UInt8} {h : Nat} (hh : h < 65521) : Int.tmod (wrap64 ((wrap64 ((h : Int) * 131)) + (wrap64 ((b.toNat : Int))))) 65521 = (((h * 131 + b.toNat) % 65521 : Nat) : Int) := by
  have hb := UInt8.toNat_lt b
  rw [wid (x := (h : Int) * 131) (by omega) (by omega), wid (x := (b.toNat : Int)) (by omega) (by omega), wid (by omega) (by omega), Int.tmod_eq_emod_of_nonneg (by omega)]
  omega
theorem sdg_loop (s : ByteArray) (hs : s.size ≤ 9223372036854775807) : ∀ (d i h : Nat), s.size - i = d → i ≤ s.size → h < 65521 →
    Ev (fun k => spec_DigestOf.l0 k s (h : Int) (i : Int)) ((DGf (s.data.toList.drop i) h : Nat) : Int) ∧ Ev (fun k => impl_DigestOf.l0 k s (h : Int) (s.size : Int) (i : Int)) ((DGf (s.data.toList.drop i) h : Nat) : Int) := by
  intro d
  induction d with
  | zero =>
    intro i h hd hi hh
    rw [List.drop_eq_nil_of_le (by rw [size_data]; omega)]
    rw [DGf]
    refine ⟨Ev.step (fun k => by rw [spec_DigestOf.l0]) ?_, Ev.step (fun k => by rw [impl_DigestOf.l0]) ?_⟩
    · exact Ev_neg (by omega) (Ev.now _)
    · exact Ev_neg (by omega) (Ev.now _)
  | succ d ih =>
    intro i h hd hi hh
    have hlt : i < s.data.toList.length := by rw [size_data]; omega
    have e := ih (i + 1) ((h * 131 + s.data.toList[i].toNat) % 65521) (by omega) (by omega) (Nat.mod_lt _ (by omega))
    rw [drop_at hlt, DGf]
    refine ⟨Ev.step (fun k => by rw [spec_DigestOf.l0]) ?_, Ev.step (fun k => by rw [impl_DigestOf.l0]) ?_⟩
    · refine Ev_pos (by omega) (Ev_pos (by omega) ?_)
      rw [bt_nat hlt, dg_step hh, wsucc (n := s.size) (by omega) hs]
      exact e.1
    · refine Ev_pos (by omega) (Ev_pos (by omega) (Ev_pos (by omega) ?_))
      rw [bt_nat hlt, dg_step hh, wsucc (n := s.size) (by omega) hs]
      exact e.2
def DGn (s : ByteArray) : Nat := DGf s.data.toList 7
theorem DGn_lt (s : ByteArray) : DGn s < 65521 := DGf_lt _ 7 (by omega)
theorem sdg_tells (s : ByteArray) (hs : s.size ≤ 9223372036854775807) : Ev (fun k => spec_DigestOf.f k s) ((DGn s : Nat) : Int) := by
  unfold spec_DigestOf.f
  exact (sdg_loop s hs _ 0 7 rfl (by omega) (by omega)).1
theorem idg_tells (s : ByteArray) (hs : s.size ≤ 9223372036854775807) : Ev (fun k => impl_DigestOf.f k s) ((DGn s : Nat) : Int) := by
  unfold impl_DigestOf.f
  exact (sdg_loop s hs _ 0 7 rfl (by omega) (by omega)).2
def letB (k : Int) : ByteArray := (⟨#[63, 98, 116, 99]⟩ : ByteArray).extract k.toNat (k + 1).toNat
def hex4 (h : Nat) : ByteArray := ⟨#[hexd (h / 4096 % 16), hexd (h / 256 % 16), hexd (h / 16 % 16), hexd (h % 16)]⟩
def idB (k : Int) (s : ByteArray) : ByteArray := letB k ++ hex4 (DGn s)
theorem letB_size {k : Int} (h1 : 1 ≤ k) (h3 : k ≤ 3) : (letB k).size = 1 := by
  have : k = 1 ∨ k = 2 ∨ k = 3 := by omega
  rcases this with rfl | rfl | rfl <;> rfl
theorem letB_impl {k : Int} (h1 : 1 ≤ k) (h3 : k ≤ 3) : (⟨#[98, 116, 99]⟩ : ByteArray).extract (k - 1).toNat k.toNat = letB k := by
  have : k = 1 ∨ k = 2 ∨ k = 3 := by omega
  rcases this with rfl | rfl | rfl <;> rfl
theorem dig_fin : ∀ n : Fin 16, ((⟨#[48, 49, 50, 51, 52, 53, 54, 55, 56, 57, 97, 98, 99, 100, 101, 102]⟩ : ByteArray).extract n.val (n.val + 1)).data.toList = [hexd n.val] := by decide +kernel
theorem dig_at {n : Nat} (h : n < 16) : (⟨#[48, 49, 50, 51, 52, 53, 54, 55, 56, 57, 97, 98, 99, 100, 101, 102]⟩ : ByteArray).extract n (n + 1) = toB [hexd n] := by
  rw [← dig_fin ⟨n, h⟩, toB_data]
theorem toB_size (l : List UInt8) : (toB l).size = l.length := by simp [toB, ByteArray.size]
theorem toB_app (a b : List UInt8) : toB a ++ toB b = toB (a ++ b) := by
  apply data_eq.1
  rw [ByteArray.toList_eq, ByteArray.toList_eq, ByteArray.data_append, Array.toList_append, data_toB, data_toB, data_toB]
theorem id_step (a : Int) (h j : Nat) (o : List UInt8) (hh : h < 65536) (hj : j < 4) (ho : o.length ≤ 10) {R : ByteArray}
    (hK : Ev (fun k => spec_l5Id.l0 k a ((h / 16 : Nat) : Int) (toB (hexd (h % 16) :: o)) ((j + 1 : Nat) : Int)) R) : Ev (fun k => spec_l5Id.l0 k a (h : Int) (toB o) (j : Int)) R := by
  have e1 : Int.tmod (h : Int) 16 = ((h % 16 : Nat) : Int) := by rw [Int.tmod_eq_emod_of_nonneg (by omega)]; omega
  have e2 : Int.tdiv (h : Int) 16 = ((h / 16 : Nat) : Int) := by rw [Int.tdiv_eq_ediv_of_nonneg (by omega)]; omega
  have e3 : wrap64 (((h % 16 : Nat) : Int) + 1) = ((h % 16 + 1 : Nat) : Int) := wsucc' (by omega)
  have e4 : (toB [hexd (h % 16)]).size = 1 := rfl
  have e5 : (toB o).size = o.length := by simp [toB, ByteArray.size]
  refine Ev.step (fun k => by rw [spec_l5Id.l0]) ?_
  rw [e1, e3, e2, Int.toNat_natCast, Int.toNat_natCast, dig_at (Nat.mod_lt _ (by omega)), wid (x := ((h / 16 : Nat) : Int)) (by omega) (by omega), wsucc' (i := j) (by omega), toB_app]
  exact Ev_pos (by omega) (Ev_pos (by omega) (Ev_pos (by omega) (Ev_pos (by omega) (Ev_pos (by omega) hK))))
theorem sid_tells (a : Int) (s : ByteArray) (h1 : 1 ≤ a) (h3 : a ≤ 3) (hs : s.size ≤ 9223372036854775807) : Ev (fun k => spec_l5Id.f k a s) (idB a s) := by
  have hlt := DGn_lt s
  have hl := letB_size h1 h3
  unfold spec_l5Id.f
  refine Ev_call (sdg_tells s hs) ?_
  refine id_step a (DGn s) 0 [] (by omega) (by omega) (by simp) ?_
  refine id_step a (DGn s / 16) 1 _ (by omega) (by omega) (by simp) ?_
  refine id_step a (DGn s / 16 / 16) 2 _ (by omega) (by omega) (by simp) ?_
  refine id_step a (DGn s / 16 / 16 / 16) 3 _ (by omega) (by omega) (by simp) ?_
  refine Ev.step (fun k => by rw [spec_l5Id.l0]) ?_
  refine Ev_neg (by omega) (Ev_const (a := letB a) ?_ ?_)
  · unfold spec_l5Letter.f letB
    rw [wid (x := a + 1) (by omega) (by omega), if_pos (by omega), if_pos (by omega), if_pos (by omega)]
  · refine Ev_pos ?_ (Ev_val ?_)
    · rw [hl]
      show 1 + 4 ≤ _
      omega
    · unfold idB hex4
      congr 1
      show toB _ = _
      have e1 : DGn s / 16 / 16 / 16 % 16 = DGn s / 4096 % 16 := by omega
      have e2 : DGn s / 16 / 16 % 16 = DGn s / 256 % 16 := by omega
      rw [e1, e2]
      rfl
theorem pad4 (h : Nat) (hh : h < 65536) : (hexF 3 h).length ≤ 4 ∧ 1 ≤ (hexF 3 h).length ∧ (Lib.repeatL [48] (4 - (hexF 3 h).length)) ++ hexF 3 h = [hexd (h / 4096 % 16), hexd (h / 256 % 16), hexd (h / 16 % 16), hexd (h % 16)] := by
  have z : hexd 0 = 48 := rfl
  by_cases c1 : h < 16
  · rw [hexF_small _ c1]
    have e1 : h / 4096 % 16 = 0 := by omega
    have e2 : h / 256 % 16 = 0 := by omega
    have e3 : h / 16 % 16 = 0 := by omega
    have e4 : h % 16 = h := by omega
    rw [e1, e2, e3, e4, z]
    exact ⟨by simp, by simp, rfl⟩
  · have u1 : hexF 3 h = hexF 2 (h / 16) ++ [hexd (h % 16)] := by rw [hexF, if_neg c1]
    by_cases c2 : h / 16 < 16
    · rw [u1, hexF_small _ c2]
      have e1 : h / 4096 % 16 = 0 := by omega
      have e2 : h / 256 % 16 = 0 := by omega
      have e3 : h / 16 % 16 = h / 16 := by omega
      rw [e1, e2, e3, z]
      exact ⟨by simp, by simp, rfl⟩
    · have u2 : hexF 2 (h / 16) = hexF 1 (h / 16 / 16) ++ [hexd (h / 16 % 16)] := by rw [hexF, if_neg c2]
      by_cases c3 : h / 16 / 16 < 16
      · rw [u1, u2, hexF_small _ c3]
        have e1 : h / 4096 % 16 = 0 := by omega
        have e2 : h / 256 % 16 = h / 16 / 16 := by omega
        rw [e1, e2, z]
        exact ⟨by simp, by simp, rfl⟩
      · have u3 : hexF 1 (h / 16 / 16) = [hexd (h / 16 / 16 / 16)] ++ [hexd (h / 16 / 16 % 16)] := if_neg c3
        rw [u1, u2, u3]
        have e1 : h / 4096 % 16 = h / 16 / 16 / 16 := by omega
        have e2 : h / 256 % 16 = h / 16 / 16 % 16 := by omega
        rw [e1, e2]
        exact ⟨by simp, by simp, rfl⟩
theorem iid_tells (a : Int) (s : ByteArray) (h1 : 1 ≤ a) (h3 : a ≤ 3) (hs : s.size ≤ 9223372036854775807) : Ev (fun k => impl_idOf.f k a s) (idB a s) := by
  have hlt := DGn_lt s
  have hl := letB_size h1 h3
  obtain ⟨p1, p2, p3⟩ := pad4 (DGn s) (by omega)
  have es : (⟨(hexF 3 (DGn s)).toArray⟩ : ByteArray).size = (hexF 3 (DGn s)).length := by simp [ByteArray.size]
  unfold impl_idOf.f
  refine Ev_call (idg_tells s hs) (Ev_const (a := toB (hexF 3 (DGn s))) ?_ ?_)
  · unfold strconv_FormatInt.f
    rw [if_pos rfl, if_pos (by omega), if_pos (by omega), Int.toNat_natCast]
    rfl
  · have e0 : (toB (hexF 3 (DGn s))).size = (hexF 3 (DGn s)).length := es
    rw [wid (x := a - 1) (by omega) (by omega), e0, wid (x := 4 - ((hexF 3 (DGn s)).length : Int)) (by omega) (by omega), letB_impl h1 h3]
    refine Ev_pos (by omega) (Ev_pos (by omega) (Ev_pos (by omega) ?_))
    have hr : (Lib.repeatL [48] (4 - (hexF 3 (DGn s)).length)).length = 4 - (hexF 3 (DGn s)).length := by rw [Lib.repeatL_length]; simp
    refine Ev_const (a := toB (Lib.repeatL [48] (4 - (hexF 3 (DGn s)).length))) ?_ ?_
    · unfold strings_Repeat.f
      rw [if_pos (by omega), if_pos (by omega), if_pos (by decide)]
      have : (4 - ((hexF 3 (DGn s)).length : Int)).toNat = 4 - (hexF 3 (DGn s)).length := by omega
      rw [this]
      rfl
    · have e6 : (toB (Lib.repeatL [48] (4 - (hexF 3 (DGn s)).length))).size = 4 - (hexF 3 (DGn s)).length := by
        exact (toB_size _).trans hr
      refine Ev_pos (by rw [hl, e6]; omega) (Ev_pos (by rw [ByteArray.size_append, hl, e6]; omega) (Ev_val ?_))
      unfold idB
      rw [ByteArray.append_assoc, toB_app, p3]
      rfl
def IdO (a : Int) (s : ByteArray) : Int × ByteArray := if 1 ≤ a ∧ a ≤ 3 then (if TF s = 0 then (0, idB a s) else (TF s, (⟨#[]⟩ : ByteArray))) else (3, (⟨#[]⟩ : ByteArray))
def DC (a : Int) (s : ByteArray) : Int := if 1 ≤ a ∧ a ≤ 3 then TF s else 3
theorem IO_code (a : Int) (s : ByteArray) : (IdO a s).1 = DC a s := by
  unfold IdO DC
  split
  · split
    · rename_i h; exact h.symm
    · rfl
  · rfl
theorem kind_tells (a : Int) : spec_l5Kind.f a = some (decide (1 ≤ a ∧ a ≤ 3)) := by
  unfold spec_l5Kind.f spec_l1In.f
  by_cases h : a ≥ 1
  · rw [if_pos h]
    by_cases h2 : a ≤ 3
    · rw [show decide (1 ≤ a ∧ a ≤ 3) = true from decide_eq_true ⟨h, h2⟩, show decide (a ≤ 3) = true from decide_eq_true h2]; rfl
    · rw [show decide (1 ≤ a ∧ a ≤ 3) = false from decide_eq_false (fun e => h2 e.2), show decide (a ≤ 3) = false from decide_eq_false h2]; rfl
  · rw [if_neg h, show decide (1 ≤ a ∧ a ≤ 3) = false from decide_eq_false (fun e => h e.1)]; rfl
theorem ikind_tells (a : Int) : impl_isKind.f a = some (decide (1 ≤ a ∧ a ≤ 3)) := by
  unfold impl_isKind.f impl_within.f
  by_cases h : a ≥ 1
  · rw [if_pos h]
    by_cases h2 : a ≤ 3
    · rw [show decide (1 ≤ a ∧ a ≤ 3) = true from decide_eq_true ⟨h, h2⟩, show decide (a ≤ 3) = true from decide_eq_true h2]; rfl
    · rw [show decide (1 ≤ a ∧ a ≤ 3) = false from decide_eq_false (fun e => h2 e.2), show decide (a ≤ 3) = false from decide_eq_false h2]; rfl
  · rw [if_neg h, show decide (1 ≤ a ∧ a ≤ 3) = false from decide_eq_false (fun e => h e.1)]; rfl
theorem sio_tells (a : Int) (s : ByteArray) (hs : s.size ≤ 1048576) : Ev (fun k => spec_IdOf.f k a s) (IdO a s) := by
  unfold spec_IdOf.f IdO
  refine Ev_const (kind_tells a) (Ev_if (fun h => ?_) (fun h => ?_))
  · have h' := of_decide_eq_true h
    rw [if_pos h']
    refine Ev_call (stf_tells s hs) (Ev_if (fun h2 => ?_) (fun h2 => by rw [if_neg h2]; exact Ev.now _))
    rw [if_pos h2]
    exact Ev_call (sid_tells a s h'.1 h'.2 (by omega)) (Ev.now _)
  · rw [if_neg (fun e => h (decide_eq_true e))]
    exact Ev.now _
theorem dc_tells (a : Int) (s : ByteArray) (hs : s.size ≤ 1048576) : Ev (fun k => impl_dataCode.f k a s) (DC a s) := by
  unfold impl_dataCode.f DC
  refine Ev_const (ikind_tells a) ?_
  by_cases h : 1 ≤ a ∧ a ≤ 3
  · rw [if_pos h]
    refine Ev_const (a := 0) (by unfold impl_codeIf.f; simp [h]) (Ev_const (itf_tells s hs) (Ev_call (firstN_tells _ (by simp)) (Ev_val ?_)))
    show (if (0 : Int) = 0 then (if TF s = 0 then 0 else TF s) else 0) = TF s
    rw [if_pos rfl]
    split <;> omega
  · rw [if_neg h]
    refine Ev_const (a := 3) (by unfold impl_codeIf.f; simp [h]) (Ev_const (itf_tells s hs) (Ev_call (firstN_tells _ (by simp)) (Ev_val ?_)))
    simp [firstN]
end Go.Proofs.YtclbcoejblnjjaaDoor.P
end
section
set_option linter.unusedVariables false
set_option linter.unusedSimpArgs false
namespace Go.Proofs.YtclbcoejblnjjaaDoor.P
open Go.RowKit Go.Proofs.YtclbcoejblnjjaaDoorW.PrintWords Go.Proofs.YtclbcoejblnjjaaDoorW.PrintLast
theorem rdo_nat {l : List S25} {i : Nat} (h : i < l.length) : rd_T25 l (i : Int) = l[i] := by
  unfold rd_T25
  rw [Int.toNat_natCast, List.getD_eq_getElem?_getD, List.getElem?_eq_getElem h]
  rfl
theorem rdp_nat {l : List S43} {i : Nat} (h : i < l.length) : rd_T43 l (i : Int) = l[i] := by
  unfold rd_T43
  rw [Int.toNat_natCast, List.getD_eq_getElem?_getD, List.getElem?_eq_getElem h]
  rfl
def SmallO (l : List S25) : Prop := (∀ o ∈ l, o.f0.size ≤ 1048576 ∧ o.f2.size ≤ 1048576) ∧ l.length ≤ 1048576
def ch5 (x : S43) : S25 := ⟨x.f0, x.f1, x.f2⟩
theorem szo_tells (a : ByteArray) (b : Int) (c : ByteArray) (n : Int) (ha : a.size ≤ 9223372036854775807) (hc : c.size ≤ 9223372036854775807) (h0 : 0 ≤ n) (h1 : n ≤ 1048576) : ∃ r, laws_szObject.f a b c n = some r ∧ (r < 0 ∨ (0 ≤ r ∧ r ≤ n ∧ a.size ≤ 1048576 ∧ c.size ≤ 1048576)) := by
  unfold laws_szObject.f
  rw [wid (x := n - (a.size : Int)) (by omega) (by omega)]
  by_cases c1 : n - (a.size : Int) < 0
  · rw [if_pos c1]; exact ⟨-1, rfl, .inl (by omega)⟩
  · rw [if_neg c1, wid (x := n - (a.size : Int) - (c.size : Int)) (by omega) (by omega)]
    by_cases c2 : n - (a.size : Int) - (c.size : Int) < 0
    · rw [if_pos c2]; exact ⟨-1, rfl, .inl (by omega)⟩
    · rw [if_neg c2]; exact ⟨_, rfl, .inr ⟨by omega, by omega, by omega, by omega⟩⟩
theorem szos_loop (xs : List S43) (hg : ∀ c ∈ xs, c.f0.size ≤ 9223372036854775807 ∧ c.f2.size ≤ 9223372036854775807) (hl : xs.length ≤ 9223372036854775807) : ∀ (d i : Nat) (n : Int), xs.length - i = d → i ≤ xs.length → 0 ≤ n → n ≤ 1048576 →
    ∃ r, Ev (fun k => laws_szObjectS.l0 k xs n (i : Int)) r ∧ (r < 0 ∨ (0 ≤ r ∧ r ≤ n ∧ ∀ o ∈ xs.drop i, o.f0.size ≤ 1048576 ∧ o.f2.size ≤ 1048576)) := by
  intro d
  induction d with
  | zero =>
    intro i n hd hi h0 h1
    refine ⟨n, Ev.step (fun k => by rw [laws_szObjectS.l0]) ?_, .inr ⟨h0, Int.le_refl _, ?_⟩⟩
    · exact Ev_neg (by omega) (Ev.now _)
    · rw [List.drop_eq_nil_of_le (by omega)]
      intro o ho
      exact absurd ho (by simp)
  | succ d ih =>
    intro i n hd hi h0 h1
    have hlt : i < xs.length := by omega
    have g := hg xs[i] (List.getElem_mem hlt)
    obtain ⟨r, e, p⟩ := szo_tells xs[i].f0 xs[i].f1 xs[i].f2 n g.1 g.2 h0 h1
    rcases p with p | ⟨a1, b1, c1, d1⟩
    · refine ⟨-1, Ev.step (fun k => by rw [laws_szObjectS.l0]) ?_, .inl (by omega)⟩
      rw [rdp_nat hlt]
      exact Ev_pos (by omega) (Ev_pos (by omega) (Ev_const e (Ev_pos p (Ev.now _))))
    · obtain ⟨r2, hr, hp⟩ := ih (i + 1) r (by omega) (by omega) a1 (by omega)
      refine ⟨r2, Ev.step (fun k => by rw [laws_szObjectS.l0]) ?_, ?_⟩
      · rw [rdp_nat hlt, wsucc hlt hl]
        exact Ev_pos (by omega) (Ev_pos (by omega) (Ev_const e (Ev_neg (by omega) hr)))
      · rcases hp with hp | ⟨h2, h3, h4⟩
        · exact .inl hp
        · refine .inr ⟨h2, by omega, ?_⟩
          rw [drop_at hlt]
          intro o ho
          rcases List.mem_cons.1 ho with rfl | ho
          · exact ⟨c1, d1⟩
          · exact h4 o ho
theorem guard_objects (xs : List S43) (hg : ∀ c ∈ xs, c.f0.size ≤ 9223372036854775807 ∧ c.f2.size ≤ 9223372036854775807) (hl : xs.length ≤ 9223372036854775807) (n : Int) (h0 : 0 ≤ n) (h1 : n ≤ 1048576) {F : Nat → Int → Option Bool}
    (h : ∀ r, 0 ≤ r → r ≤ n → SmallO (xs.map ch5) → Ev (fun k => F k r) true) : Ev (fun k => (laws_szObjectS.f k xs n).bind fun t => (if t < 0 then (some true) else F k t)) true := by
  by_cases hc : n - (xs.length : Int) < 0
  · refine Ev_call (a := -1) ?_ (Ev_pos (by omega) (Ev.now _))
    unfold laws_szObjectS.f
    rw [wid (by omega) (by omega)]
    exact Ev_pos hc (Ev.now _)
  · obtain ⟨r, hr, hp⟩ := szos_loop xs hg hl _ 0 (n - (xs.length : Int)) rfl (by omega) (by omega) (by omega)
    refine Ev_call (a := r) ?_ ?_
    · unfold laws_szObjectS.f
      rw [wid (by omega) (by omega)]
      exact Ev_neg hc hr
    · rcases hp with hp | ⟨h2, h3, h4⟩
      · exact Ev_pos hp (Ev.now _)
      · rw [List.drop_zero] at h4
        refine Ev_neg (by omega) (h r h2 (by omega) ⟨?_, by rw [List.length_map]; omega⟩)
        intro c hc
        obtain ⟨x, hx, rfl⟩ := List.mem_map.1 hc
        exact h4 x hx
theorem toos_loop (xs : List S43) (hl : xs.length ≤ 1048576) : ∀ (d i : Nat) (ys : List S25), xs.length - i = d → i ≤ xs.length → ys.length = xs.length →
    Ev (fun k => laws_toObjectS.l0 k xs ys (i : Int)) (ys.take i ++ (xs.drop i).map ch5) := by
  intro d
  induction d with
  | zero =>
    intro i ys hd hi hy
    refine Ev.step (fun k => by rw [laws_toObjectS.l0]) ?_
    refine Ev_neg (by omega) (Ev_val ?_)
    rw [List.drop_eq_nil_of_le (show xs.length ≤ i by omega), List.map_nil, List.append_nil, List.take_of_length_le (by omega)]
  | succ d ih =>
    intro i ys hd hi hy
    have hlt : i < xs.length := by omega
    refine Ev.step (fun k => by rw [laws_toObjectS.l0]) ?_
    refine Ev_pos (by omega) (Ev_pos (by omega) ?_)
    rw [rdp_nat hlt, wsucc hlt (by omega)]
    refine Ev_const (a := (xs[i].f0, xs[i].f1, xs[i].f2)) (by unfold laws_toObject.f; rfl) (Ev_pos (by omega) ?_)
    rw [Int.toNat_natCast]
    refine Ev_eq (ih (i + 1) (ys.set i (ch5 xs[i])) (by omega) (by omega) (by rw [List.length_set]; exact hy)) ?_
    rw [drop_at hlt, List.map_cons, List.take_succ_eq_append_getElem (by rw [List.length_set]; omega), List.getElem_set_self, List.take_set_of_le (by omega), List.append_assoc]
    rfl
theorem toos_tells {xs : List S43} (hl : xs.length ≤ 1048576) : Ev (fun k => laws_toObjectS.f k xs) (xs.map ch5) := by
  unfold laws_toObjectS.f
  refine Ev_pos (by omega) (Ev_pos (by rw [Int.toNat_natCast]; omega) ?_)
  have h := toos_loop xs hl _ 0 (List.replicate ((xs.length : Int) : Int).toNat z25) rfl (by omega) (by simp)
  exact Ev_eq h (by simp)
theorem eqos_loop (xs : List S25) (hl : xs.length ≤ 1048576) : ∀ (d i : Nat), xs.length - i = d → i ≤ xs.length → Ev (fun k => laws_eqObjectS.l0 k xs xs (i : Int)) true := by
  intro d
  induction d with
  | zero =>
    intro i hd hi
    refine Ev.step (fun k => by rw [laws_eqObjectS.l0]) ?_
    exact Ev_neg (by omega) (Ev.now _)
  | succ d ih =>
    intro i hd hi
    have hlt : i < xs.length := by omega
    refine Ev.step (fun k => by rw [laws_eqObjectS.l0]) ?_
    refine Ev_pos (by omega) (Ev_pos (by omega) (Ev_pos (by omega) ?_))
    rw [rdo_nat hlt, wsucc hlt (by omega)]
    exact Ev_const (a := true) (by unfold laws_eqObject.f; rw [if_pos rfl, if_pos rfl, if_pos rfl]) (Ev_pos rfl (ih (i + 1) (by omega) (by omega)))
theorem eqos_tells {xs : List S25} (hl : xs.length ≤ 1048576) : Ev (fun k => laws_eqObjectS.f k xs xs) true := by
  unfold laws_eqObjectS.f
  exact Ev_pos rfl (eqos_loop xs hl _ 0 rfl (by omega))
def SFi (l : List S25) : Nat → Nat → Int
  | 0, _ => 0
  | d + 1, i => if DC (rd_T25 l (i : Int)).f1 (rd_T25 l (i : Int)).f2 = 0 then (if (rd_T25 l (i : Int)).f0 = idB (rd_T25 l (i : Int)).f1 (rd_T25 l (i : Int)).f2 then (if 0 < i then (if (Op.bytesLess (rd_T25 l (wrap64 ((i : Int) - 1))).f0.toList (rd_T25 l (i : Int)).f0.toList) = true then SFi l d (i + 1) else 1) else SFi l d (i + 1)) else 1) else DC (rd_T25 l (i : Int)).f1 (rd_T25 l (i : Int)).f2
def SF (l : List S25) : Int := if l.length > 200 then 2 else SFi l l.length 0
theorem DC_zero {a : Int} {s : ByteArray} (h : DC a s = 0) : (1 ≤ a ∧ a ≤ 3) ∧ IdO a s = (0, idB a s) := by
  unfold DC at h
  split at h
  · rename_i hk
    exact ⟨hk, by unfold IdO; rw [if_pos hk, if_pos h]⟩
  · cases h
theorem ssf_loop {l : List S25} (hs : SmallO l) : ∀ (d i : Nat), l.length - i = d → i ≤ l.length → Ev (fun k => spec_StoreFault.l0 k l (i : Int)) (SFi l d i) := by
  have hl := hs.2
  intro d
  induction d with
  | zero =>
    intro i hd hi
    refine Ev.step (fun k => by rw [spec_StoreFault.l0]) ?_
    exact Ev_neg (by omega) (Ev.now _)
  | succ d ih =>
    intro i hd hi
    have hlt : i < l.length := by omega
    have hz := hs.1 l[i] (List.getElem_mem hlt)
    rw [← rdo_nat hlt] at hz
    have next := ih (i + 1) (by omega) (by omega)
    refine Ev.step (fun k => by rw [spec_StoreFault.l0]) ?_
    rw [wsucc hlt (by omega)]
    refine Ev_pos (by omega) (Ev_pos (by omega) (Ev_call (sio_tells _ _ hz.2) ?_))
    rw [SFi, IO_code]
    refine Ev_if (fun h => ?_) (fun h => by rw [if_neg h]; exact Ev.now _)
    rw [if_pos h, (DC_zero h).2]
    refine Ev_if (fun h2 => ?_) (fun h2 => by rw [if_neg (fun e => h2 (by rw [e]))]; exact Ev.now _)
    rw [if_pos (data_eq.1 h2).symm]
    refine Ev_if (fun h3 => ?_) (fun h3 => by rw [if_neg (by omega)]; exact next)
    rw [if_pos (by omega)]
    have hw : wrap64 ((i : Int) - 1) = ((i - 1 : Nat) : Int) := by rw [wid (by omega) (by omega)]; omega
    refine Ev_pos (by rw [hw]; omega) (Ev_pos (by rw [hw]; omega) ?_)
    exact Ev_if (fun h4 => by rw [if_pos h4]; exact next) (fun h4 => by rw [if_neg h4]; exact Ev.now _)
theorem isf_loop {l : List S25} (hs : SmallO l) : ∀ (d i : Nat), l.length - i = d → i ≤ l.length → Ev (fun k => impl_StoreFault.l0 k l l (l.length : Int) (i : Int)) (SFi l d i) := by
  have hl := hs.2
  intro d
  induction d with
  | zero =>
    intro i hd hi
    refine Ev.step (fun k => by rw [impl_StoreFault.l0]) ?_
    exact Ev_neg (by omega) (Ev.now _)
  | succ d ih =>
    intro i hd hi
    have hlt : i < l.length := by omega
    have hz := hs.1 l[i] (List.getElem_mem hlt)
    rw [← rdo_nat hlt] at hz
    have next := ih (i + 1) (by omega) (by omega)
    refine Ev.step (fun k => by rw [impl_StoreFault.l0]) ?_
    rw [wsucc hlt (by omega)]
    refine Ev_pos (by omega) (Ev_pos (by omega) (Ev_pos (by omega) (Ev_call (dc_tells _ _ hz.2) ?_)))
    rw [SFi]
    refine Ev_if (fun h => ?_) (fun h => by rw [if_neg h]; exact Ev.now _)
    rw [if_pos h]
    refine Ev_call (iid_tells _ _ (DC_zero h).1.1 (DC_zero h).1.2 (by omega)) ?_
    refine Ev_if (fun h2 => ?_) (fun h2 => by rw [if_neg (fun e => h2 (by rw [e]))]; exact Ev.now _)
    rw [if_pos (data_eq.1 h2)]
    refine Ev_if (fun h3 => ?_) (fun h3 => by rw [if_neg (by omega)]; exact next)
    rw [if_pos (by omega)]
    have hw : wrap64 ((i : Int) - 1) = ((i - 1 : Nat) : Int) := by rw [wid (by omega) (by omega)]; omega
    refine Ev_pos (by rw [hw]; omega) (Ev_pos (by rw [hw]; omega) ?_)
    exact Ev_if (fun h4 => by rw [if_pos h4]; exact next) (fun h4 => by rw [if_neg h4]; exact Ev.now _)
theorem ssf_tells {l : List S25} (hs : SmallO l) : Ev (fun k => spec_StoreFault.f k l) (SF l) := by
  unfold spec_StoreFault.f SF
  refine Ev_if (fun h => by rw [if_pos (by omega)]; exact Ev.now _) (fun h => ?_)
  rw [if_neg (by omega)]
  exact ssf_loop hs _ 0 rfl (by omega)
theorem isf_tells {l : List S25} (hs : SmallO l) : Ev (fun k => impl_StoreFault.f k l) (SF l) := by
  unfold impl_StoreFault.f SF
  refine Ev_if (fun h => by rw [if_pos (by omega)]; exact Ev.now _) (fun h => ?_)
  rw [if_neg (by omega)]
  exact isf_loop hs _ 0 rfl (by omega)
end Go.Proofs.YtclbcoejblnjjaaDoor.P
end
section
set_option linter.unusedVariables false
set_option linter.unusedSimpArgs false
namespace Go.Proofs.YtclbcoejblnjjaaDoor.P
open Go.RowKit Go.Proofs.YtclbcoejblnjjaaDoorW.PrintWords Go.Proofs.YtclbcoejblnjjaaDoorW.PrintLast
theorem bl_trans : ∀ (a b c : List UInt8), Op.bytesLess a b = true → Op.bytesLess b c = true → Op.bytesLess a c = true := by
  intro a
  induction a with
  | nil =>
    intro b c h1 h2
    cases c with
    | nil => cases b <;> simp [Op.bytesLess] at h2
    | cons z c => rfl
  | cons x a ih =>
    intro b c h1 h2
    cases b with
    | nil => simp [Op.bytesLess] at h1
    | cons y b =>
      cases c with
      | nil => simp [Op.bytesLess] at h2
      | cons z c =>
        simp only [Op.bytesLess, Bool.or_eq_true, decide_eq_true_eq, Bool.and_eq_true, beq_iff_eq] at h1 h2 ⊢
        rcases h1 with h1 | ⟨rfl, h1⟩
        · rcases h2 with h2 | ⟨rfl, h2⟩
          · left
            rw [UInt8.lt_iff_toNat_lt] at *
            omega
          · exact .inl h1
        · rcases h2 with h2 | ⟨rfl, h2⟩
          · exact .inl h2
          · exact .inr ⟨rfl, ih b c h1 h2⟩
theorem cmp_lt : ∀ (a b : List UInt8), Lib.compareBytes a b < 0 ↔ Op.bytesLess a b = true := by
  intro a
  induction a with
  | nil =>
    intro b
    cases b <;> simp [Lib.compareBytes, Op.bytesLess]
  | cons x a ih =>
    intro b
    cases b with
    | nil => simp [Lib.compareBytes, Op.bytesLess]
    | cons y b =>
      simp only [Lib.compareBytes, Op.bytesLess, Bool.or_eq_true, decide_eq_true_eq, Bool.and_eq_true, beq_iff_eq]
      by_cases h1 : x < y
      · simp [h1]
      · rw [if_neg h1]
        by_cases h2 : y < x
        · rw [if_pos h2]
          have h3 : ¬ x = y := fun e => by subst e; exact h1 h2
          simp [h1, h3]
        · rw [if_neg h2, ih b]
          have h3 : x = y := UInt8.toNat_inj.1 (by
            have e1 : ¬ x.toNat < y.toNat := fun h => h1 (UInt8.lt_iff_toNat_lt.2 h)
            have e2 : ¬ y.toNat < x.toNat := fun h => h2 (UInt8.lt_iff_toNat_lt.2 h)
            omega)
          simp [h1, h3]
theorem cmp_eq : ∀ (a b : List UInt8), Lib.compareBytes a b = 0 ↔ a = b := by
  intro a
  induction a with
  | nil =>
    intro b
    cases b <;> simp [Lib.compareBytes]
  | cons x a ih =>
    intro b
    cases b with
    | nil => simp [Lib.compareBytes]
    | cons y b =>
      simp only [Lib.compareBytes]
      by_cases h1 : x < y
      · have h3 : ¬ x = y := fun e => by subst e; exact absurd (UInt8.lt_iff_toNat_lt.1 h1) (by omega)
        simp [h1, h3]
      · rw [if_neg h1]
        by_cases h2 : y < x
        · have h3 : ¬ x = y := fun e => by subst e; exact h1 h2
          simp [h2, h3]
        · rw [if_neg h2, ih b]
          have h3 : x = y := UInt8.toNat_inj.1 (by
            have e1 : ¬ x.toNat < y.toNat := fun h => h1 (UInt8.lt_iff_toNat_lt.2 h)
            have e2 : ¬ y.toNat < x.toNat := fun h => h2 (UInt8.lt_iff_toNat_lt.2 h)
            omega)
          simp [h3]
def Asc (l : List S25) : Prop := ∀ p q, p < q → (hq : q < l.length) → (hp : p < l.length) → Op.bytesLess l[p].f0.toList l[q].f0.toList = true
theorem SFi_good {l : List S25} (hl : l.length ≤ 1048576) : ∀ (d i : Nat), l.length - i = d → SFi l d i = 0 → ∀ q, i ≤ q → (hq : q < l.length) → DC l[q].f1 l[q].f2 = 0 ∧ l[q].f0 = idB l[q].f1 l[q].f2 ∧ ∀ p, p + 1 = q → (hp : p < l.length) → Op.bytesLess l[p].f0.toList l[q].f0.toList = true := by
  intro d
  induction d with
  | zero => intro i hd h q hiq hq; omega
  | succ d ih =>
    intro i hd h q hiq hq
    have hlt : i < l.length := by omega
    rw [SFi, rdo_nat hlt] at h
    split at h
    case isFalse => rename_i h1; exact absurd h h1
    rename_i h1
    split at h
    case isFalse => cases h
    rename_i h2
    by_cases e : i = q
    · subst e
      refine ⟨h1, h2, fun p hp hpl => ?_⟩
      rw [if_pos (by omega)] at h
      have hw : wrap64 ((i : Int) - 1) = (p : Int) := by rw [wid (by omega) (by omega)]; omega
      rw [hw, rdo_nat hpl] at h
      split at h
      · assumption
      · cases h
    · by_cases h0 : 0 < i
      · rw [if_pos h0] at h
        split at h
        · exact ih (i + 1) (by omega) h q (by omega) hq
        · cases h
      · rw [if_neg h0] at h
        exact ih (i + 1) (by omega) h q (by omega) hq
theorem SF_asc {l : List S25} (hl : l.length ≤ 1048576) (h : SF l = 0) : Asc l := by
  unfold SF at h
  split at h
  · cases h
  have g := SFi_good hl _ 0 rfl h
  intro p q hpq hq
  induction q with
  | zero => omega
  | succ q ih =>
    intro hp
    have s := (g (q + 1) (by omega) hq).2.2 q rfl (by omega)
    by_cases e : p = q
    · subst e; exact s
    · exact bl_trans _ _ _ (ih (by omega) (by omega) hp) s
def FO (id : ByteArray) : List S25 → Option Nat
  | [] => none
  | o :: l => if o.f0 = id then some 0 else (FO id l).map (· + 1)
theorem FO_at (id : ByteArray) : ∀ (l : List S25) (i : Nat) (hi : i < l.length), l[i].f0 = id → (∀ p (hp : p < i), l[p].f0 ≠ id) → FO id l = some i := by
  intro l
  induction l with
  | nil => intro i hi; exact absurd hi (by simp)
  | cons o l ih =>
    intro i hi he hn
    rw [FO]
    cases i with
    | zero => rw [if_pos (by simpa using he)]
    | succ i =>
      rw [if_neg (by have := hn 0 (by omega); simpa using this), ih i (by simpa using hi) (by simpa using he) (fun p hp => by have := hn (p + 1) (by omega); simpa using this)]
      rfl
theorem FO_none (id : ByteArray) : ∀ (l : List S25), (∀ o ∈ l, o.f0 ≠ id) → FO id l = none := by
  intro l
  induction l with
  | nil => intro _; rfl
  | cons o l ih =>
    intro h
    rw [FO, if_neg (h o (by simp)), ih (fun x hx => h x (by simp [hx]))]
    rfl
theorem FO_some (id : ByteArray) : ∀ (l : List S25) (i : Nat), FO id l = some i → ∃ hi : i < l.length, l[i].f0 = id := by
  intro l
  induction l with
  | nil => intro i h; cases h
  | cons o l ih =>
    intro i h
    rw [FO] at h
    split at h
    · rename_i e
      obtain rfl := Option.some.inj h
      exact ⟨by simp, e⟩
    · cases hf : FO id l with
      | none => rw [hf] at h; cases h
      | some j =>
        rw [hf] at h
        obtain rfl := Option.some.inj h
        obtain ⟨hj, e⟩ := ih j hf
        exact ⟨by simpa using hj, by simpa using e⟩
end Go.Proofs.YtclbcoejblnjjaaDoor.P
end
section
set_option linter.unusedVariables false
set_option linter.unusedSimpArgs false
namespace Go.Proofs.YtclbcoejblnjjaaDoor.P.VFnExactGetObject
open Go.RowKit Go.Proofs.YtclbcoejblnjjaaDoorW.PrintWords Go.Proofs.YtclbcoejblnjjaaDoorW.PrintLast
def foI (i : Nat) : Option Nat → Int
  | some p => ((i + p : Nat) : Int)
  | none => -1
theorem sfind_loop (l : List S25) (hl : l.length ≤ 1048576) (id : ByteArray) : ∀ (d i : Nat), l.length - i = d → i ≤ l.length → Ev (fun k => spec_l5Find.l0 k l id (i : Int)) (foI i (FO id (l.drop i))) := by
  intro d
  induction d with
  | zero =>
    intro i hd hi
    refine Ev.step (fun k => by rw [spec_l5Find.l0]) ?_
    refine Ev_neg (by omega) (Ev_val ?_)
    rw [List.drop_eq_nil_of_le (by omega)]
    rfl
  | succ d ih =>
    intro i hd hi
    have hlt : i < l.length := by omega
    refine Ev.step (fun k => by rw [spec_l5Find.l0]) ?_
    rw [rdo_nat hlt, wsucc hlt (by omega), drop_at hlt, FO]
    refine Ev_pos (by omega) (Ev_pos (by omega) (Ev_if (fun h => ?_) (fun h => ?_)))
    · rw [if_pos (data_eq.1 h)]
      exact Ev_val rfl
    · rw [if_neg (fun e => h (by rw [e]))]
      refine Ev_eq (ih (i + 1) (by omega) (by omega)) ?_
      cases FO id (l.drop (i + 1)) with
      | none => rfl
      | some p => show ((i + 1 + p : Nat) : Int) = ((i + (p + 1) : Nat) : Int); omega
def GT (l : List S25) (a : Int) (id : ByteArray) : ByteArray × Bool := match FO id l with
  | some i => if (rd_T25 l (i : Int)).f1 = a then ((rd_T25 l (i : Int)).f2, true) else ((⟨#[]⟩ : ByteArray), false)
  | none => ((⟨#[]⟩ : ByteArray), false)
theorem sget_tells (l : List S25) (hl : l.length ≤ 1048576) (a : Int) (id : ByteArray) : Ev (fun k => spec_l5Get.f k l a id) (GT l a id) := by
  unfold spec_l5Get.f GT
  have h := sfind_loop l hl id _ 0 rfl (by omega)
  rw [List.drop_zero] at h
  refine Ev_call (a := foI 0 (FO id l)) (by unfold spec_l5Find.f; exact h) ?_
  cases hf : FO id l with
  | none => exact Ev_pos (by show (-1 : Int) < 0; omega) (Ev.now _)
  | some i =>
    obtain ⟨hi, e⟩ := FO_some id l i hf
    have e0 : foI 0 (some i) = (i : Int) := by show ((0 + i : Nat) : Int) = _; omega
    rw [e0]
    show Ev _ (if (rd_T25 l (i : Int)).f1 = a then ((rd_T25 l (i : Int)).f2, true) else ((⟨#[]⟩ : ByteArray), false))
    exact Ev_neg (by omega) (Ev_pos (by omega) (Ev_pos (by omega) (Ev_if (fun h => by rw [if_pos h]; exact Ev.now _) (fun h => by rw [if_neg h]; exact Ev.now _))))
theorem cmpO_at {l : List S25} {id : ByteArray} {p : Nat} (hp : p < l.length) : cmpO l id p = Lib.compareBytes l[p].f0.toList id.toList := by
  unfold cmpO
  rw [rdo_nat hp, ByteArray.toList_eq, ByteArray.toList_eq]
theorem cmpO_lt {l : List S25} (ha : Asc l) {id : ByteArray} {p q : Nat} (hpq : p < q) (hq : q < l.length) (h : cmpO l id q < 0) : cmpO l id p < 0 := by
  rw [cmpO_at hq, cmp_lt] at h
  rw [cmpO_at (by omega), cmp_lt]
  exact bl_trans _ _ _ (ha p q hpq hq (by omega)) h
theorem find_loop {l : List S25} (ha : Asc l) (id : ByteArray) : ∀ (d i j : Nat), j - i ≤ d → i ≤ j → j ≤ l.length → (∀ p, p < i → cmpO l id p < 0) → (∀ p, j ≤ p → p < l.length → ¬ cmpO l id p < 0) →
    ∃ r, r ≤ l.length ∧ Ev (fun k => impl_find.l0 k l id i j) ((r : Int), decide (r < l.length ∧ cmpO l id r = 0)) ∧ (∀ p, p < r → cmpO l id p < 0) ∧ (∀ p, r ≤ p → p < l.length → ¬ cmpO l id p < 0) := by
  intro d
  induction d with
  | zero =>
    intro i j hd hij hj h1 h2
    refine ⟨i, by omega, Ev.step (fun k => by rw [impl_find.l0]) ?_, h1, fun p hp => h2 p (by omega)⟩
    refine Ev_neg (by omega) (Ev_if (fun c => Ev_val ?_) (fun c => Ev_val ?_))
    · congr 1
      simp [c]
    · congr 1
      simp [c]
  | succ d ih =>
    intro i j hd hij hj h1 h2
    by_cases c : i < j
    · by_cases c2 : cmpO l id ((i + j) / 2) < 0
      · obtain ⟨r, hr, hE, g1, g2⟩ := ih ((i + j) / 2 + 1) j (by omega) (by omega) hj (fun p hp => by
          by_cases e : p = (i + j) / 2
          · rw [e]; exact c2
          · exact cmpO_lt ha (show p < (i + j) / 2 by omega) (by omega) c2) h2
        exact ⟨r, hr, Ev.step (fun k => by rw [impl_find.l0]) (Ev_pos c (Ev_pos c2 hE)), g1, g2⟩
      · obtain ⟨r, hr, hE, g1, g2⟩ := ih i ((i + j) / 2) (by omega) (by omega) (by omega) h1 (fun p hp hpl => by
          by_cases e : p = (i + j) / 2
          · rw [e]; exact c2
          · exact fun hc => c2 (cmpO_lt ha (show (i + j) / 2 < p by omega) hpl hc))
        exact ⟨r, hr, Ev.step (fun k => by rw [impl_find.l0]) (Ev_pos c (Ev_neg c2 hE)), g1, g2⟩
    · refine ⟨i, by omega, Ev.step (fun k => by rw [impl_find.l0]) ?_, h1, fun p hp => h2 p (by omega)⟩
      refine Ev_neg c (Ev_if (fun c => Ev_val ?_) (fun c => Ev_val ?_))
      · congr 1
        simp [c]
      · congr 1
        simp [c]
theorem ifind_tells {l : List S25} (hl : l.length ≤ 200) (ha : Asc l) (id : ByteArray) : ∃ r : Nat, Ev (fun k => impl_find.f k l id) ((r : Int), (FO id l).isSome) ∧ ∀ i, FO id l = some i → r = i := by
  obtain ⟨r, hr, hE, g1, g2⟩ := find_loop ha id _ 0 l.length (Nat.le_refl _) (Nat.zero_le _) (Nat.le_refl _) (fun p hp => by omega) (fun p hp hpl => by omega)
  have key : decide (r < l.length ∧ cmpO l id r = 0) = (FO id l).isSome ∧ ∀ i, FO id l = some i → r = i := by
    by_cases c : r < l.length ∧ cmpO l id r = 0
    · have e : l[r].f0 = id := data_eq.1 ((cmp_eq _ _).1 ((cmpO_at c.1).symm.trans c.2))
      have hf : FO id l = some r := FO_at id l r c.1 e (fun p hp he => by
        have h := g1 p hp
        rw [cmpO_at (by omega), he, (cmp_eq _ _).2 rfl] at h
        omega)
      rw [hf]
      exact ⟨by simp [c], fun i h => Option.some.inj h⟩
    · have hf : FO id l = none := FO_none id l (fun o ho he => by
        obtain ⟨p, hp, rfl⟩ := List.mem_iff_getElem.1 ho
        have h0 : cmpO l id p = 0 := by rw [cmpO_at hp, he, (cmp_eq _ _).2 rfl]
        by_cases c1 : p < r
        · have := g1 p c1; omega
        · by_cases c2 : p = r
          · subst c2; exact c ⟨hp, h0⟩
          · have hb := ha r p (by omega) hp (by omega)
            rw [he] at hb
            have := g2 r (Nat.le_refl _) (by omega)
            rw [cmpO_at (by omega), cmp_lt] at this
            exact this hb)
      rw [hf]
      exact ⟨by simp only [Option.isSome_none]; exact decide_eq_false c, fun i h => by cases h⟩
  refine ⟨r, ?_, key.2⟩
  unfold impl_find.f
  rw [← key.1]
  exact Ev_pos (by omega) hE
theorem iget_tells {l : List S25} (hl : l.length ≤ 200) (ha : Asc l) (a : Int) (id : ByteArray) : Ev (fun k => impl_get.f k l a id) (GT l a id) := by
  obtain ⟨r, hE, hr⟩ := ifind_tells hl ha id
  unfold impl_get.f GT
  refine Ev_call hE ?_
  cases hf : FO id l with
  | none => exact Ev_neg (by simp) (Ev.now _)
  | some i =>
    have e := hr i hf
    subst e
    obtain ⟨hi, e⟩ := FO_some id l r hf
    show Ev _ (if (rd_T25 l (r : Int)).f1 = a then ((rd_T25 l (r : Int)).f2, true) else ((⟨#[]⟩ : ByteArray), false))
    refine Ev_pos rfl (Ev_pos (by show (0 : Int) ≤ (r : Int); omega) (Ev_pos (by show (r : Int) < _; omega) ?_))
    exact Ev_if (fun h => by rw [if_pos (show (rd_T25 l (r : Int)).f1 = a from h)]; exact Ev.now _) (fun h => by rw [if_neg (show ¬ (rd_T25 l (r : Int)).f1 = a from h)]; exact Ev.now _)
def GO (l : List S25) (a : Int) (id : ByteArray) : Int × ByteArray × Int × ByteArray := if SF l = 0 then (if 1 ≤ a ∧ a ≤ 3 then (if (GT l a id).2 = true then (0, id, a, (GT l a id).1) else (4, (⟨#[]⟩ : ByteArray), 0, (⟨#[]⟩ : ByteArray))) else (3, (⟨#[]⟩ : ByteArray), 0, (⟨#[]⟩ : ByteArray))) else (SF l, (⟨#[]⟩ : ByteArray), 0, (⟨#[]⟩ : ByteArray))
theorem s_tells {l : List S25} (hs : SmallO l) (a : Int) (id : ByteArray) : Ev (fun k => spec_GetObject.f k l a id) (GO l a id) := by
  unfold spec_GetObject.f GO
  refine Ev_call (ssf_tells hs) (Ev_if (fun h => ?_) (fun h => by rw [if_neg h]; exact Ev.now _))
  rw [if_pos h]
  refine Ev_const (kind_tells a) (Ev_if (fun h2 => ?_) (fun h2 => by rw [if_neg (fun e => h2 (decide_eq_true e))]; exact Ev.now _))
  rw [if_pos (of_decide_eq_true h2)]
  exact Ev_call (sget_tells l hs.2 a id) (Ev_if (fun h3 => by rw [if_pos h3]; exact Ev.now _) (fun h3 => by rw [if_neg h3]; exact Ev.now _))
theorem i_tells {l : List S25} (hs : SmallO l) (a : Int) (id : ByteArray) : Ev (fun k => impl_GetObject.f k l a id) (GO l a id) := by
  unfold impl_GetObject.f GO
  refine Ev_call (isf_tells hs) (Ev_const (ikind_tells a) ?_)
  by_cases hk : 1 ≤ a ∧ a ≤ 3
  · refine Ev_const (a := 0) (by unfold impl_codeIf.f; simp [hk]) (Ev_call (firstN_tells _ (by simp)) ?_)
    have e : firstN [SF l, 0] = SF l := by
      show (if SF l = 0 then (if (0 : Int) = 0 then 0 else 0) else SF l) = SF l
      split
      · rename_i h; rw [h]; rfl
      · rfl
    rw [e]
    refine Ev_if (fun h => ?_) (fun h => by rw [if_neg h]; exact Ev.now _)
    rw [if_pos h, if_pos hk]
    have hl : l.length ≤ 200 := by
      unfold SF at h
      split at h
      · cases h
      · omega
    exact Ev_call (iget_tells hl (SF_asc hs.2 h) a id) (Ev_if (fun h3 => by rw [if_pos h3]; exact Ev.now _) (fun h3 => by rw [if_neg h3]; exact Ev.now _))
  · refine Ev_const (a := 3) (by unfold impl_codeIf.f; simp [hk]) (Ev_call (firstN_tells _ (by simp)) ?_)
    by_cases h : SF l = 0
    · have e : firstN [SF l, 3] = 3 := by
        show (if SF l = 0 then (if (3 : Int) = 0 then 0 else 3) else SF l) = 3
        rw [if_pos h]; rfl
      rw [e, if_pos h, if_neg hk]
      exact Ev_neg (by omega) (Ev.now _)
    · have e : firstN [SF l, 3] = SF l := by
        show (if SF l = 0 then (if (3 : Int) = 0 then 0 else 3) else SF l) = SF l
        rw [if_neg h]
      rw [e, if_neg h]
      exact Ev_neg h (Ev.now _)
theorem proof : UFnExactGetObject.Pure := by
  intro l0 a1 a2 g0 g1 g2
  apply Ev.rounds
  unfold laws_FnExactGetObject.f
  refine Ev_if (fun h => Ev.now _) (fun h => ?_)
  refine guard_objects l0 (fun c hc => ⟨(g0.2 c hc).1, (g0.2 c hc).2.2⟩) g0.1 1048576 (by omega) (by omega) (fun r h0 h1 hs => ?_)
  have hl := hs.2
  rw [List.length_map] at hl
  have tc := toos_tells hl
  have heq : laws_eqObjectResult.f (GO (l0.map ch5) a1 a2).1 (GO (l0.map ch5) a1 a2).2.1 (GO (l0.map ch5) a1 a2).2.2.1 (GO (l0.map ch5) a1 a2).2.2.2 (GO (l0.map ch5) a1 a2).1 (GO (l0.map ch5) a1 a2).2.1 (GO (l0.map ch5) a1 a2).2.2.1 (GO (l0.map ch5) a1 a2).2.2.2 = some true := by
    unfold laws_eqObjectResult.f laws_eqObject.f
    rw [if_pos rfl, if_pos rfl, if_pos rfl, if_pos rfl]
    rfl
  exact Ev_call tc (Ev_call (s_tells hs a1 a2) (Ev_call tc (Ev_call (i_tells hs a1 a2) (Ev_const heq (Ev_pos rfl (Ev_call tc (Ev_call (eqos_tells hs.2) (Ev_pos rfl (Ev.now _)))))))))
end Go.Proofs.YtclbcoejblnjjaaDoor.P.VFnExactGetObject
end
section
set_option linter.unusedVariables false
set_option linter.unusedSimpArgs false
namespace Go.Proofs.YtclbcoejblnjjaaDoor.O
open Go.RowKit Go.ChangeShapes Go.WideShapes Go.Proofs.YtclbcoejblnjjaaDoorW.PrintWords
def Opens {α : Type} (P : Program) (t : TypeId) (d : Kd α) (G : α → Prop) : Prop :=
  P.cellsOf t = d.sz ∧ ∀ {H : Type} {enc : TypeId × Value → H} {w : World} {base : Nat} {spare : Nat → Bool} {held : Bool} {fuel : Nat} {cs : List Value} {x : DataW H × List MemPlace},
    DataW.trod enc P w base spare held fuel t cs = some x → ∃ a, d.K w a cs ∧ G a
theorem list_of {α : Type} {Q : Nat → α → Prop} : ∀ n : Nat, (∀ j, j < n → ∃ p, Q j p) → ∃ xs : List α, xs.length = n ∧ ∀ j p, xs[j]? = some p → Q j p
  | 0, _ => ⟨[], rfl, fun j p h => by simp at h⟩
  | n + 1, h => by
    obtain ⟨xs, hl, hx⟩ := list_of n (fun j hj => h j (Nat.lt_succ_of_lt hj))
    obtain ⟨p, hp⟩ := h n (Nat.lt_succ_self n)
    refine ⟨xs ++ [p], by simp [hl], fun j q hq => ?_⟩
    rcases Nat.lt_or_ge j xs.length with hj | hj
    · rw [List.getElem?_append_left hj] at hq
      exact hx j q hq
    · have hj' : j = xs.length := by
        have := (List.getElem?_eq_some_iff.1 hq).1
        rw [List.length_append, List.length_singleton] at this
        omega
      subst hj'
      have e : p = q := by simpa using hq
      subst e
      rw [hl]
      exact hp
theorem cells_get {w : World} {base : Nat} {a : Addr} {n : Nat} {cs : List Value} (h : w.cells? base a n = some cs) : cs.length = n ∧ ∀ i u, cs[i]? = some u → w.cell? (a.add i) = some u := by
  unfold World.cells? at h
  split at h
  · have hl := mapM_some_length h
    rw [List.length_range] at hl
    refine ⟨hl, fun i u hu => ?_⟩
    have hi : i < n := by
      have := (List.getElem?_eq_some_iff.1 hu).1
      omega
    have := mapM_some_get h i i (by simp [hi])
    rw [this, hu]
  · simp at h
theorem opens_int {P : Program} {t : TypeId} {k : IntKind} (ht : P.underlying t = some (.int k)) (hc : P.cellsOf t = 1) : Opens P t (Kd.int k) (fun x => (Lit.int k x).wf = true) :=
  ⟨hc, fun h => by
    obtain ⟨n, rfl, _, hw⟩ := DataW.trod_int ht h
    exact ⟨n, rfl, hw⟩⟩
theorem opens_string {P : Program} {t : TypeId} (ht : P.underlying t = some .string) (hc : P.cellsOf t = 1) : Opens P t Kd.string (fun s => s.size ≤ 9223372036854775807) :=
  ⟨hc, fun h => by
    obtain ⟨s, rfl, _, hw⟩ := DataW.trod_string ht h
    exact ⟨s, rfl, hw⟩⟩
theorem opens_slice {α : Type} {P : Program} {t e : TypeId} {d : Kd α} {G : α → Prop} (ht : P.underlying t = some (.slice e)) (hc : P.cellsOf t = 1) (he : Opens P e d G) :
    Opens P t (Kd.slice e d) (fun l => l.length ≤ 9223372036854775807 ∧ ∀ x ∈ l, G x) := by
  refine ⟨hc, fun {H enc w base spare held fuel cs x} h => ?_⟩
  rcases DataW.trod_slice ht h with ⟨rfl, _⟩ | ⟨a, len, cap, elems, rest, n, _, rfl, _, hb, hl, hm, hlen, hel, _, _⟩
  · exact ⟨[], ⟨none, 0, rfl, Nat.le_refl _, rfl, by simp, fun hp => absurd hp (by simp)⟩, by simp, by simp⟩
  · have hcap : cap ≤ 9223372036854775807 := hm
    obtain ⟨xs, hxl, hx⟩ := list_of (Q := fun j p => (∃ c : List Value, c.length = d.sz ∧ d.K w p c ∧ ∀ i u, c[i]? = some u → w.cell? (a.add (j * d.sz + i)) = some u) ∧ G p) len (fun j hj => by
      have h1 := hel j hj
      rw [List.getElem?_eq_getElem (by omega), Option.bind_eq_some_iff] at h1
      obtain ⟨cs', hcs, hy⟩ := h1
      obtain ⟨p, hK, hG⟩ := he.2 hy
      obtain ⟨hcl, hcell⟩ := cells_get hcs
      refine ⟨p, ⟨cs', by rw [hcl, he.1], hK, fun i u hu => ?_⟩, hG⟩
      have := hcell i u hu
      rw [he.1] at this
      rw [← Addr.add_add]
      exact this)
    have hlen2 : xs.length ≤ cap := by omega
    refine ⟨xs, ⟨some a, cap, ?_, hlen2, rfl, by omega, fun _ => ⟨a, rfl, fun j p hj => (hx j p hj).1⟩⟩, by omega, fun y hy => ?_⟩
    · rw [hxl]
    · obtain ⟨j, hj⟩ := List.getElem?_of_mem hy
      exact (hx j y hj).2
def OpensTail {α : Type} (P : Program) (fs : List Field) (off : Nat) (d : Kd α) (G : α → Prop) : Prop :=
  ∀ {H : Type} {enc : TypeId × Value → H} {w : World} {base : Nat} {spare : Nat → Bool} {held : Bool} {fuel : Nat} {cs : List Value},
    (∀ f ∈ fs, ∃ y, DataW.trod enc P w base spare held fuel f.type ((cs.drop f.offset).take (P.cellsOf f.type)) = some y) → cs.length = off + d.sz → ∃ a, d.K w a (cs.drop off) ∧ G a
theorem tail_one {α : Type} {P : Program} {f : Field} {off : Nat} {d : Kd α} {G : α → Prop} (ho : f.offset = off) (h : Opens P f.type d G) : OpensTail P [f] off d G := by
  intro H enc w base spare held fuel cs hy hl
  obtain ⟨y, hy⟩ := hy f (List.mem_singleton.2 rfl)
  obtain ⟨a, hK, hG⟩ := h.2 hy
  refine ⟨a, ?_, hG⟩
  rw [ho, h.1, List.take_of_length_le (by rw [List.length_drop]; omega)] at hK
  exact hK
theorem tail_cons {α β : Type} {P : Program} {f : Field} {fs : List Field} {off off2 : Nat} {d : Kd α} {d2 : Kd β} {G : α → Prop} {G2 : β → Prop} (ho : f.offset = off) (h : Opens P f.type d G) (ho2 : off2 = off + d.sz) (h2 : OpensTail P fs off2 d2 G2) :
    OpensTail P (f :: fs) off (Kd.pair d d2) (fun x => G x.1 ∧ G2 x.2) := by
  intro H enc w base spare held fuel cs hy hl
  obtain ⟨y, hy1⟩ := hy f List.mem_cons_self
  obtain ⟨a, hK, hG⟩ := h.2 hy1
  have hl' : cs.length = off2 + d2.sz := by rw [hl, ho2]; exact (Nat.add_assoc _ _ _).symm
  obtain ⟨b, hK2, hG2⟩ := h2 (fun f' hf' => hy f' (List.mem_cons_of_mem _ hf')) hl'
  refine ⟨(a, b), ⟨(cs.drop off).take d.sz, (cs.drop off).drop d.sz, (List.take_append_drop _ _).symm, ?_, ?_⟩, hG, hG2⟩
  · rw [ho, h.1] at hK
    exact hK
  · rw [List.drop_drop, ← ho2]
    exact hK2
theorem opens_struct {α β : Type} {P : Program} {t : TypeId} {fs : Array Field} {d : Kd α} {f : β → α} {g : α → β} {G : α → Prop} (ht : P.underlying t = some (.struct fs)) (hc : P.cellsOf t = d.sz) (hfg : ∀ a, f (g a) = a) (h : OpensTail P fs.toList 0 d G) :
    Opens P t (Kd.iso d f) (fun b => G (f b)) := by
  refine ⟨hc, fun {H enc w base spare held fuel cs x} hx => ?_⟩
  obtain ⟨xs, n, rfl, _, hl, hxl, hf⟩ := DataW.trod_struct ht hx
  obtain ⟨a, hK, hG⟩ := h (enc := enc) (w := w) (base := base) (spare := spare) (held := held) (fuel := n) (cs := cs) (fun f' hf' => by
    obtain ⟨i, hi⟩ := List.getElem?_of_mem hf'
    have hi' : fs[i]? = some f' := by simpa using hi
    have hlt : i < fs.size := (Array.getElem?_eq_some_iff.1 hi').1
    exact ⟨xs[i]'(by omega), by rw [hf i f' hi', List.getElem?_eq_getElem]⟩) (by rw [hl, hc, Nat.zero_add])
  refine ⟨g a, ?_, ?_⟩
  · show d.K w (f (g a)) cs
    rw [hfg]
    simpa using hK
  · show G (f (g a))
    rw [hfg]
    exact hG
end Go.Proofs.YtclbcoejblnjjaaDoor.O
end
namespace Go.Proofs.YtclbcoejblnjjaaDoor.fnExactGetObject
open Go.ChangeShapes Go.WideShapes Go.ChangeAt Go.RowKit
open Go.ChangeMaps (open_string shut_string)
open Go.Proofs.YtclbcoejblnjjaaDoor.P Go.Proofs.YtclbcoejblnjjaaDoor.P.UFnExactGetObject Go.Proofs.YtclbcoejblnjjaaDoorW.PrintWords
set_option linter.unusedVariables false
theorem own : ownKnob Tryd.prog.godebug = none := by kernel_rfl
theorem laidOut : laidOutB Tryd.prog = true := by kernel_rfl
set_option maxRecDepth 100000 in
theorem opens43 : O.Opens Tryd.prog 43 k43 (fun x => G43 x) := by
  have h := O.opens_struct (P := Tryd.prog) (t := 43) (f := fun x : S43 => (x.f0, x.f1, x.f2)) (g := fun a => (⟨a.1, a.2.1, a.2.2⟩ : S43)) Tryd.underlying43 (by kernel_rfl) (fun _ => rfl) (O.tail_cons rfl (O.opens_string Tryd.underlying9 (by kernel_rfl)) rfl (O.tail_cons rfl (O.opens_int Tryd.underlying2 (by kernel_rfl)) rfl (O.tail_one rfl (O.opens_string Tryd.underlying9 (by kernel_rfl)))))
  exact h
theorem tabW_of_laid {W : World} (h : laidMetH Tryd.prog Rows.fnExactGetObjectRow.laid W) : TabW W := by
  rw [MakeChecks.laidMetH_plain _ _ _ (by kernel_rfl)] at h
  obtain ⟨ps, ⟨g0_, t0_, cs0_, f0_, p0_, q0_, hg0_, ht0_, hv0_, hd0_, ⟨g_, t_, cs_, f_, p_, q_, hg_, ht_, hv_, hd_, _, _⟩, _⟩, _⟩ := h
  obtain rfl := Option.some.inj ((show Tryd.prog.globalNamed "math/bits.deBruijn64tab" = some 3 by kernel_rfl).symm.trans hg_)
  obtain rfl := Option.some.inj ((show (Tryd.prog.globals[3]?).map (·.type) = some 134 by kernel_rfl).symm.trans ht_)
  have hc := Lib.cells_of_tab (zs := [0, 1, 56, 2, 57, 49, 28, 3, 61, 58, 42, 50, 38, 29, 17, 4, 62, 47, 59, 36, 45, 43, 51, 22, 53, 39, 33, 30, 24, 18, 12, 5, 63, 55, 48, 27, 60, 41, 37, 16, 46, 35, 44, 21, 52, 32, 23, 11, 54, 26, 40, 15, 34, 20, 31, 10, 25, 14, 19, 9, 13, 8, 7, 6]) Tryd.underlying134 Tryd.underlying5 (by kernel_rfl) (by kernel_rfl) hd_
  have hx := World.var?_cell hg_ hv_ 15
  have hs : cs_[15]? = some (.int .u8 4) := by
    have e_ : cs_ = (cs_.toList).toArray := by simp
    rw [e_, hc]
    rfl
  exact hx.trans hs
set_option maxRecDepth 100000 in
theorem lifted (os : Os) (started : os.Started) (H : Type) (enc : TypeId × Value → H) :
    ReturnsInHanded {} Tryd.checked os 3 .any (fun w args => (Rows.fnExactGetObjectSpec.pre enc Tryd.prog Tryd.f3 [] false w args ∧ laidMetH Tryd.prog Rows.fnExactGetObjectRow.laid w) ∧ sizedMet enc Tryd.prog Tryd.f3 (OpenSpec.ofChange Rows.fnExactGetObjectSpec) false w args)
      (Rows.fnExactGetObjectSpec.post enc Tryd.prog Tryd.f3 false true false false) := by
  refine returnsInHanded_of_change_and (C := Tryd.checked) (X := fun w _ => laidMetH Tryd.prog Rows.fnExactGetObjectRow.laid w) (fun _ _ _ hh h => h.of_heap hh) own started (by kernel_rfl) Tryd.func3
    (ChangeSpec.witness_shaped (enc := enc) (C := Tryd.checked) (os := os) (X := fun w _ => laidMetH Tryd.prog Rows.fnExactGetObjectRow.laid w) false (World.laidAll Tryd.prog os Rows.fnExactGetObjectRow.laid) #[.slice none 0 0, .int .i64 0, .string ByteArray.empty] 8 (World.laidAll_os _ _ _)
      (World.shaped_of_ZipB (by kernel_rfl) (by kernel_rfl)) (by kernel_rfl) (by kernel_rfl) (by kernel_rfl)
      (by rw [MakeChecks.laidMetH_plain _ _ _ (by kernel_rfl)]; exact laidMet_laidAll _ (by kernel_rfl) (by kernel_rfl))) ?_
  intro W base args ds gs before hval0 hW hcnd hsz0 hL _
  have hval : ∀ (j : Nat) t v, Tryd.f3.params[j]? = some t → args[j]? = some v → Value.okWide Tryd.prog W .any base t v := hval0
  have hW' := hW
  obtain ⟨p, q, hA0, hV, rfl, hfz, hnd⟩ := hW
  have hA : DataW.TrodAll enc Tryd.prog W 0 (fun _ => true) true Tryd.f3.params.toList args.toList ds p := hA0
  rw [Tryd.params3] at hA hval
  obtain ⟨v0, vs0, d0, ds0, p0, q0, hargs, rfl, rfl, h0, r0⟩ := trodAll_cons hA
  obtain ⟨v1, vs1, d1, ds1, p1, q1, rfl, rfl, rfl, h1, r1⟩ := trodAll_cons r0
  obtain ⟨v2, vs2, d2, ds2, p2, q2, rfl, rfl, rfl, h2, r2⟩ := trodAll_cons r1
  obtain ⟨rfl, rfl, rfl⟩ := trodAll_nil r2
  obtain rfl : args = #[v0, v1, v2] := by cases args; simp_all
  obtain ⟨rfl, rfl⟩ := trodVars_none hV
  have k0_ := h0
  have lt0 : ∀ x ∈ p0, x.block < W.heap.size := by obtain ⟨m, hm⟩ := k0_; exact DataW.trod_lt m _ _ _ hm
  obtain ⟨b0, len0, cap0, rfl⟩ := okWide_slice Tryd.underlying22 (hval 0 22 v0 rfl rfl)
  obtain ⟨fuel0, hf0⟩ := h0
  obtain ⟨l0, ⟨A0, c0, hcs0, hc0, hr0⟩, g0⟩ := (O.opens_slice Tryd.underlying22 (by kernel_rfl) opens43).2 hf0
  simp [Value.cells] at hcs0
  obtain ⟨rfl, rfl, rfl⟩ := hcs0
  obtain ⟨a1, rfl, rfl, rfl, w1⟩ := open_int Tryd.underlying2 (hval 1 2 v1 rfl rfl) h1
  obtain ⟨a2, rfl, rfl, rfl, y2⟩ := open_string Tryd.underlying9 (hval 2 9 v2 rfl rfl) h2
  clear hA0 hval0 hsz0
  obtain ⟨k, h⟩ := VFnExactGetObject.proof l0 a1 a2 g0 w1 y2
  have hTW := tabW_of_laid hL
  refine (laws_FnExactGetObject.calls (hT := hTW) k _ _ l0 a1 a2 true W hr0 hc0 h rfl).mono fun e W' hend => ?_
  obtain ⟨rfl, hbel⟩ := hend
  have bel : Below W.heap.size W W' := hbel
  exact ⟨_, rfl, _, _, _, [], _, [], hW', trodAll_mk1 (shut_bool Tryd.underlying4 _), (trodAll_cons_mk (Below.trod laidOut (by kernel_rfl) (of_decide_eq_true (by kernel_rfl)) k0_ bel lt0) (trodAll_cons_mk (shut_int Tryd.underlying2 w1) (trodAll_cons_mk (shut_string Tryd.underlying9 y2) trodAll_mk0))), rfl, bel.frame _, fun h => by cases h⟩
theorem over : Rows.fnExactGetObjectRow.holds Tryd.pinned (OpenSpec.ofChange Rows.fnExactGetObjectSpec) :=
  OpenClaim.holds_of_wide 3 Tryd.f3 rfl rfl rfl rfl rfl rfl rfl ⟨rfl, rfl, rfl, rfl, rfl⟩ rfl rfl rfl rfl rfl (by kernel_rfl) Tryd.func3 (by kernel_rfl)
    (of_decide_eq_true (by kernel_rfl)) (by unfold Func.isWrapper; first | (rw [if_pos (by decide +kernel)]; kernel_rfl) | (rw [if_neg (by decide +kernel)]; exact ⟨rfl, rfl⟩))
    (fun os started H enc _ => lifted os started H enc)
set_option maxRecDepth 100000 in
theorem proved : Rows.FnExactGetObjectCardSaid :=
  Claim7.holds_tied_plain_at .later [] [.data, .data, .data, .data, .pinned] true (true, "7b2b6aafe30b34e91ad4b9252cbae0932aa078fc65f283f8829ce7957c36f621") false over (fun _ h => by cases h) (by kernel_rfl) (fun _ h => by cases h) fnExactGetObject_row_tie rfl ⟨rfl, rfl⟩ (by kernel_rfl) rfl
    (fun f fn hf hfn => by
      obtain rfl : f = 3 := Option.some.inj ((show Tryd.prog.funcNamed "loop.example/g00172/laws.FnExactGetObject" = some 3 by kernel_rfl).symm.trans hf) |>.symm
      obtain rfl : fn = Tryd.f3 := (Option.some.inj (Tryd.func3.symm.trans hfn)).symm
      exact ⟨by kernel_rfl, fun j t ht => by
        rw [Tryd.params3] at ht
        have hm : t ∈ [22, 2, 9] := by simpa using Array.mem_of_getElem? ht
        have hall : ([22, 2, 9].all fun u => !Tryd.prog.wantsStandIn u) = true := by kernel_rfl
        exact (show Tryd.prog.wantsStandIn t = false by simpa using List.all_eq_true.1 hall t hm)⟩)
    (by kernel_rfl)
#print axioms proved
end Go.Proofs.YtclbcoejblnjjaaDoor.fnExactGetObject
namespace Go.Proofs.YtclbcoejblnjjaaDoor
theorem fnExactGetObject_holds : Rows.FnExactGetObjectCardSaid := fnExactGetObject.proved
end Go.Proofs.YtclbcoejblnjjaaDoor
