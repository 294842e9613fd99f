/- FnExactWeaveSide: the law of the program holds at every input: the Go function returns true, and its arguments read afterwards as before.
Conditions: none beyond the given statement's own (what can be read as data, of a size that memory bears). -/
import Derived.Lib.Strings
import Derived.Lib.Bytealg
import Derived.Laws.BytesArg
import Derived.SliceStrings
import Derived.DataReads
import Derived.DataElems
import Derived.Test.YtjngmhngedecdaaRows
import Derived.WalkKit
import Derived.ProofKit
import Derived.OpenShut
import Derived.ShutString
import Derived.ChangeOld
import Derived.Below
import Derived.SizedLaws
import Derived.Carry
import Derived.Test.YtjngmhngedecdaaCFnExactWeaveSide1
import Derived.Test.YtjngmhngedecdaaCFnExactWeaveSide2
import Derived.Test.YtjngmhngedecdaaCFnExactWeaveSide3
section
namespace Go.Proofs.Ytjngmhngedecdaa.P
open Go.RowKit Go.Proofs.YtjngmhngedecdaaW.PrintWords Go.Proofs.YtjngmhngedecdaaW.PrintLast Go.Proofs.YtjngmhngedecdaaW.PrintMore
attribute [local go_sem] max2_int min2_int max_two min_two max_three min_three max_four min_four
set_option linter.unusedVariables false
set_option linter.unusedSimpArgs false
def laws_eqChunk.f (k : Nat) (a0_0 : Int) (l0_1 : List ByteArray) (l0_2 : List ByteArray) (l0_3 : List ByteArray) (a1_0 : Int) (l1_1 : List ByteArray) (l1_2 : List ByteArray) (l1_3 : List ByteArray) : Option (Bool) := if a0_0 = a1_0 then ((laws_eqStringS.f k l0_1 l1_1).bind fun t523 => (if t523 = true then ((laws_eqStringS.f k l0_2 l1_2).bind fun t524 => (if t524 = true then ((laws_eqStringS.f k l0_3 l1_3).bind fun t525 => (if t525 = true then (some true) else (some false))) else (some false))) else (some false))) else (some false)
set_option maxHeartbeats 8000000 in
set_option maxRecDepth 100000 in
theorem laws_eqChunk.calls (k : Nat) (a0_0 : Int) (A0_1 : Option Addr) (c0_1 : Nat) (l0_1 : List ByteArray) (A0_2 : Option Addr) (c0_2 : Nat) (l0_2 : List ByteArray) (A0_3 : Option Addr) (c0_3 : Nat) (l0_3 : List ByteArray) (a1_0 : Int) (A1_1 : Option Addr) (c1_1 : Nat) (l1_1 : List ByteArray) (A1_2 : Option Addr) (c1_2 : Nat) (l1_2 : List ByteArray) (A1_3 : Option Addr) (c1_3 : Nat) (l1_3 : List ByteArray) (r : Bool) (w : World) (hr0_1 : Kd.C Kd.string w A0_1 l0_1.length l0_1) (hc0_1 : l0_1.length ≤ c0_1) (hr0_2 : Kd.C Kd.string w A0_2 l0_2.length l0_2) (hc0_2 : l0_2.length ≤ c0_2) (hr0_3 : Kd.C Kd.string w A0_3 l0_3.length l0_3) (hc0_3 : l0_3.length ≤ c0_3) (hr1_1 : Kd.C Kd.string w A1_1 l1_1.length l1_1) (hc1_1 : l1_1.length ≤ c1_1) (hr1_2 : Kd.C Kd.string w A1_2 l1_2.length l1_2) (hc1_2 : l1_2.length ≤ c1_2) (hr1_3 : Kd.C Kd.string w A1_3 l1_3.length l1_3) (hc1_3 : l1_3.length ≤ c1_3) (h : laws_eqChunk.f k a0_0 l0_1 l0_2 l0_3 a1_0 l1_1 l1_2 l1_3 = some r) :
  Calls Try.prog 42 #[.agg #[.int .i64 a0_0, .slice A0_1 l0_1.length c0_1, .slice A0_2 l0_2.length c0_2, .slice A0_3 l0_3.length c0_3], .agg #[.int .i64 a1_0, .slice A1_1 l1_1.length c1_1, .slice A1_2 l1_2.length c1_2, .slice A1_3 l1_3.length c1_3]] w fun e w' => e = .returned (.bool r) ∧ Below w.heap.size w w' := by
 have hu58 := Try.underlying58
 have HR0_1 := Aside0.mk hr0_1
 have HC0_1 := Aside0.mk hc0_1
 clear hr0_1 hc0_1
 have HR0_2 := Aside0.mk hr0_2
 have HC0_2 := Aside0.mk hc0_2
 clear hr0_2 hc0_2
 have HR0_3 := Aside0.mk hr0_3
 have HC0_3 := Aside0.mk hc0_3
 clear hr0_3 hc0_3
 have HR1_1 := Aside0.mk hr1_1
 have HC1_1 := Aside0.mk hc1_1
 clear hr1_1 hc1_1
 have HR1_2 := Aside0.mk hr1_2
 have HC1_2 := Aside0.mk hc1_2
 clear hr1_2 hc1_2
 have HR1_3 := Aside0.mk hr1_3
 have HC1_3 := Aside0.mk hc1_3
 clear hr1_3 hc1_3
 have HB := Aside0.mk (Below.refl w.heap.size w)
 have H : (if a0_0 = a1_0 then ((laws_eqStringS.f k l0_1 l1_1).bind fun t523 => (if t523 = true then ((laws_eqStringS.f k l0_2 l1_2).bind fun t524 => (if t524 = true then ((laws_eqStringS.f k l0_3 l1_3).bind fun t525 => (if t525 = true then (some true) else (some false))) else (some false))) else (some false))) else (some false)) = some r := h
 clear h
 by_cases c3 : a0_0 = a1_0
 ·rw [if_pos c3] at H
  have c3b0 : (a0_0 == a1_0) = true := beq_iff_eq.mpr c3
  have c3b1 : (a0_0 != a1_0) = false := bne_eq_false_iff_eq.mpr c3
  clear c3
  replace H := Option.bind_eq_some_iff.mp H
  obtain ⟨t523, A40, H⟩ := H
  replace H : (if t523 = true then ((laws_eqStringS.f k l0_2 l1_2).bind fun t524 => (if t524 = true then ((laws_eqStringS.f k l0_3 l1_3).bind fun t525 => (if t525 = true then (some true) else (some false))) else (some false))) else (some false)) = some r := H
  have A4 := Aside0.mk A40
  clear A40
  by_cases c5 : t523 = true
  ·subst c5
   have H1 : ((laws_eqStringS.f k l0_2 l1_2).bind fun t524 => (if t524 = true then ((laws_eqStringS.f k l0_3 l1_3).bind fun t525 => (if t525 = true then (some true) else (some false))) else (some false))) = some r := by rw [if_pos rfl] at H; exact H
   clear H
   have H := H1
   clear H1
   replace H := Option.bind_eq_some_iff.mp H
   obtain ⟨t524, A60, H⟩ := H
   replace H : (if t524 = true then ((laws_eqStringS.f k l0_3 l1_3).bind fun t525 => (if t525 = true then (some true) else (some false))) else (some false)) = some r := H
   have A6 := Aside0.mk A60
   clear A60
   by_cases c7 : t524 = true
   ·subst c7
    have H1 : ((laws_eqStringS.f k l0_3 l1_3).bind fun t525 => (if t525 = true then (some true) else (some false))) = some r := by rw [if_pos rfl] at H; exact H
    clear H
    have H := H1
    clear H1
    replace H := Option.bind_eq_some_iff.mp H
    obtain ⟨t525, A80, H⟩ := H
    replace H : (if t525 = true then (some true) else (some false)) = some r := H
    have A8 := Aside0.mk A80
    clear A80
    by_cases c9 : t525 = true
    ·subst c9
     have H1 : (some true) = some r := by rw [if_pos rfl] at H; exact H
     clear H
     have H := H1
     clear H1
     obtain rfl := Option.some.inj H
     go_enter Try.func42, Try.ntmps42
     go_wp2_with (first | ((with_reducible refine gate_dst (N := 2) rfl ?_); refine box_event ?hg (N := 2) ?hd (cs := #[.int .i64 a0_0, .slice A0_1 l0_1.length c0_1, .slice A0_2 l0_2.length c0_2, .slice A0_3 l0_3.length c0_3]) (t := 58) ?hr ?_; (case hd => rfl); (case hg => rfl); (case hr => first | (go_simp; done) | (go_simp; rfl)); intro gb521 hg w10 hbox hb; have n0_ := Aside0.mk (below_step (by repeat (first | (with_reducible first | exact HB.out | apply below_alloc | apply pw_below_drewN | apply below_drew1) | exact HB.out)) hb); have n1_ := Aside0.mk (hbox); have n2_ := Aside0.mk ((by rw [hg]; exact (below_size (by repeat (first | (with_reducible first | exact HB.out | apply below_alloc | apply pw_below_drewN | apply below_drew1) | exact HB.out))) : w.heap.size ≤ gb521)); have n3_ := Aside0.mk ((by rw [hg]; exact (below_size (by repeat (first | (with_reducible first | exact HB.out | apply below_alloc | apply pw_below_drewN | apply below_drew1) | exact HB.out))) : w.heap.size ≤ gb521)); clear HB; have HB := n0_; have BK521 := n1_; have GW521 := n2_; have GE521 := n3_; clear n0_ n1_ n2_ n3_; clear hb hbox hg) | ((with_reducible refine gate_dst (N := 3) rfl ?_); refine box_event ?hg (N := 3) ?hd (cs := #[.int .i64 a1_0, .slice A1_1 l1_1.length c1_1, .slice A1_2 l1_2.length c1_2, .slice A1_3 l1_3.length c1_3]) (t := 58) ?hr ?_; (case hd => rfl); (case hg => rfl); (case hr => first | (go_simp; done) | (go_simp; rfl)); intro gb522 hg w11 hbox hb; have n0_ := Aside0.mk (blk_below (g := gb521) (o := .cells #[.int .i64 a0_0, .slice A0_1 l0_1.length c0_1, .slice A0_2 l0_2.length c0_2, .slice A0_3 l0_3.length c0_3] 58 (0, 0)) (by (with_reducible repeat (first | refine blk_drewN ?_ _ | refine blk_drew ?_ | refine blk_alloc ?_ _)); exact BK521.out) hb); have n1_ := Aside0.mk (below_step (by repeat (first | (with_reducible first | exact HB.out | apply below_alloc | apply pw_below_drewN | apply below_drew1 | refine below_set ?_ GE521.out) | exact HB.out)) hb); have n2_ := Aside0.mk (hbox); have n3_ := Aside0.mk ((by rw [hg]; exact (below_size (by repeat (first | (with_reducible first | exact HB.out | apply below_alloc | apply pw_below_drewN | apply below_drew1 | refine below_set ?_ GE521.out) | exact HB.out))) : w.heap.size ≤ gb522)); have n4_ := Aside0.mk ((by rw [hg]; exact (below_size (by repeat (first | (with_reducible first | exact HB.out | apply below_alloc | apply pw_below_drewN | apply below_drew1 | refine below_set ?_ GE521.out) | exact HB.out))) : w.heap.size ≤ gb522)); have n5_ := Aside0.mk ((by rw [hg]; exact Nat.ne_of_lt (blk_lt (g := gb521) (o := .cells #[.int .i64 a0_0, .slice A0_1 l0_1.length c0_1, .slice A0_2 l0_2.length c0_2, .slice A0_3 l0_3.length c0_3] 58 (0, 0)) (by (with_reducible repeat (first | refine blk_drewN ?_ _ | refine blk_drew ?_ | refine blk_alloc ?_ _)); exact BK521.out)) : gb521 ≠ gb522)); have n6_ := Aside0.mk ((by rw [hg]; exact Nat.ne_of_gt (blk_lt (g := gb521) (o := .cells #[.int .i64 a0_0, .slice A0_1 l0_1.length c0_1, .slice A0_2 l0_2.length c0_2, .slice A0_3 l0_3.length c0_3] 58 (0, 0)) (by (with_reducible repeat (first | refine blk_drewN ?_ _ | refine blk_drew ?_ | refine blk_alloc ?_ _)); exact BK521.out)) : gb522 ≠ gb521)); clear BK521; clear HB; have BK521 := n0_; have HB := n1_; have BK522 := n2_; have GW522 := n3_; have GE522 := n4_; have NB521_522 := n5_; have NB522_521 := n6_; clear n0_ n1_ n2_ n3_ n4_ n5_ n6_; clear hb hbox hg; have hnb12 := NB521_522.out; have hnc12 := NB522_521.out; have hcz13_0 : w11.cell? ⟨gb521, 0, none⟩ = some (.int .i64 a0_0) := (blk_cell BK521.out 0).trans rfl; have hcz13_1 : w11.cell? ⟨gb521, 1, none⟩ = some (.slice A0_1 l0_1.length c0_1) := (blk_cell BK521.out 1).trans rfl; have hcz13_2 : w11.cell? ⟨gb521, 2, none⟩ = some (.slice A0_2 l0_2.length c0_2) := (blk_cell BK521.out 2).trans rfl; have hcz13_3 : w11.cell? ⟨gb521, 3, none⟩ = some (.slice A0_3 l0_3.length c0_3) := (blk_cell BK521.out 3).trans rfl; have hfz13_0 := blk_frozen BK521.out 0; have hfz13_1 := blk_frozen BK521.out 1; have hfz13_2 := blk_frozen BK521.out 2; have hfz13_3 := blk_frozen BK521.out 3; have hcz14_0 : w11.cell? ⟨gb522, 0, none⟩ = some (.int .i64 a1_0) := (blk_cell BK522.out 0).trans rfl; have hcz14_1 : w11.cell? ⟨gb522, 1, none⟩ = some (.slice A1_1 l1_1.length c1_1) := (blk_cell BK522.out 1).trans rfl; have hcz14_2 : w11.cell? ⟨gb522, 2, none⟩ = some (.slice A1_2 l1_2.length c1_2) := (blk_cell BK522.out 2).trans rfl; have hcz14_3 : w11.cell? ⟨gb522, 3, none⟩ = some (.slice A1_3 l1_3.length c1_3) := (blk_cell BK522.out 3).trans rfl; have hfz14_0 := blk_frozen BK522.out 0; have hfz14_1 := blk_frozen BK522.out 1; have hfz14_2 := blk_frozen BK522.out 2; have hfz14_3 := blk_frozen BK522.out 3) | ((with_reducible refine gate_callee (f := 27) rfl ?_); refine goesL_ (some 14) rfl rfl Try.func27 (by kernel_rfl) rfl #[.slice A0_1 l0_1.length c0_1, .slice A1_1 l1_1.length c1_1] rfl (by (try simp only [List.map_toArray, List.map_cons, List.map_nil]); first | done | rfl | (simp only [List.length_drop, List.length_take]; rfl)) ?_; (with_reducible refine (laws_eqStringS.calls k _ _ l0_1 _ _ l1_1 true _ ?side1 ?side2 ?side3 ?side4 A4.out).mono ?_); (case side1 => repeat (first | exact (Kd.C_below HR0_1.out HB.out) | (with_reducible refine Kd.C_alloc ?_ _) | (with_reducible refine Kd.C_drewN ?_ _) | (with_reducible refine Kd.C_drew ?_))); (case side2 => exact HC0_1.out); (case side3 => repeat (first | exact (Kd.C_below HR1_1.out HB.out) | (with_reducible refine Kd.C_alloc ?_ _) | (with_reducible refine Kd.C_drewN ?_ _) | (with_reducible refine Kd.C_drew ?_))); (case side4 => exact HC1_1.out); rintro e w' ⟨rfl, ⟨nd, rfl⟩⟩; refine ⟨_, rfl, ?_⟩) | ((with_reducible refine gate_callee (f := 27) rfl ?_); refine goesL_ (some 20) rfl rfl Try.func27 (by kernel_rfl) rfl #[.slice A0_2 l0_2.length c0_2, .slice A1_2 l1_2.length c1_2] rfl (by (try simp only [List.map_toArray, List.map_cons, List.map_nil]); first | done | rfl | (simp only [List.length_drop, List.length_take]; rfl)) ?_; (with_reducible refine (laws_eqStringS.calls k _ _ l0_2 _ _ l1_2 true _ ?side1 ?side2 ?side3 ?side4 A6.out).mono ?_); (case side1 => repeat (first | exact (Kd.C_below HR0_2.out (by repeat (first | (with_reducible first | exact HB.out | apply below_alloc | apply pw_below_drewN | apply below_drew1 | refine below_set ?_ GE521.out | refine below_set ?_ GE522.out) | exact HB.out))) | (with_reducible refine Kd.C_alloc ?_ _) | (with_reducible refine Kd.C_drewN ?_ _) | (with_reducible refine Kd.C_drew ?_))); (case side2 => exact HC0_2.out); (case side3 => repeat (first | exact (Kd.C_below HR1_2.out (by repeat (first | (with_reducible first | exact HB.out | apply below_alloc | apply pw_below_drewN | apply below_drew1 | refine below_set ?_ GE521.out | refine below_set ?_ GE522.out) | exact HB.out))) | (with_reducible refine Kd.C_alloc ?_ _) | (with_reducible refine Kd.C_drewN ?_ _) | (with_reducible refine Kd.C_drew ?_))); (case side4 => exact HC1_2.out); rintro e w' ⟨rfl, ⟨nd, rfl⟩⟩; refine ⟨_, rfl, ?_⟩) | ((with_reducible refine gate_callee (f := 27) rfl ?_); refine goesL_ (some 26) rfl rfl Try.func27 (by kernel_rfl) rfl #[.slice A0_3 l0_3.length c0_3, .slice A1_3 l1_3.length c1_3] rfl (by (try simp only [List.map_toArray, List.map_cons, List.map_nil]); first | done | rfl | (simp only [List.length_drop, List.length_take]; rfl)) ?_; (with_reducible refine (laws_eqStringS.calls k _ _ l0_3 _ _ l1_3 true _ ?side1 ?side2 ?side3 ?side4 A8.out).mono ?_); (case side1 => repeat (first | exact (Kd.C_below HR0_3.out (by repeat (first | (with_reducible first | exact HB.out | apply below_alloc | apply pw_below_drewN | apply below_drew1 | refine below_set ?_ GE521.out | refine below_set ?_ GE522.out) | exact HB.out))) | (with_reducible refine Kd.C_alloc ?_ _) | (with_reducible refine Kd.C_drewN ?_ _) | (with_reducible refine Kd.C_drew ?_))); (case side2 => exact HC0_3.out); (case side3 => repeat (first | exact (Kd.C_below HR1_3.out (by repeat (first | (with_reducible first | exact HB.out | apply below_alloc | apply pw_below_drewN | apply below_drew1 | refine below_set ?_ GE521.out | refine below_set ?_ GE522.out) | exact HB.out))) | (with_reducible refine Kd.C_alloc ?_ _) | (with_reducible refine Kd.C_drewN ?_ _) | (with_reducible refine Kd.C_drew ?_))); (case side4 => exact HC1_3.out); rintro e w' ⟨rfl, ⟨nd, rfl⟩⟩; refine ⟨_, rfl, ?_⟩))
     go_ret
     exact ⟨by first | rfl | (simp [errW_none, errW_some] <;> rfl) | (simp [*, errW_none, errW_some] <;> rfl), by repeat (first | (with_reducible first | exact HB.out | apply below_alloc | apply pw_below_drewN | apply below_drew1 | refine below_set ?_ GE521.out | refine below_set ?_ GE522.out) | exact HB.out)⟩
    ·replace c9 := Bool.eq_false_iff.mpr c9
     subst c9
     have H1 : (some false) = some r := by rw [if_neg (show ¬ (false = true) by decide)] at H; exact H
     clear H
     have H := H1
     clear H1
     obtain rfl := Option.some.inj H
     go_enter Try.func42, Try.ntmps42
     go_wp2_with (first | ((with_reducible refine gate_dst (N := 2) rfl ?_); refine box_event ?hg (N := 2) ?hd (cs := #[.int .i64 a0_0, .slice A0_1 l0_1.length c0_1, .slice A0_2 l0_2.length c0_2, .slice A0_3 l0_3.length c0_3]) (t := 58) ?hr ?_; (case hd => rfl); (case hg => rfl); (case hr => first | (go_simp; done) | (go_simp; rfl)); intro gb521 hg w15 hbox hb; have n0_ := Aside0.mk (below_step (by repeat (first | (with_reducible first | exact HB.out | apply below_alloc | apply pw_below_drewN | apply below_drew1) | exact HB.out)) hb); have n1_ := Aside0.mk (hbox); have n2_ := Aside0.mk ((by rw [hg]; exact (below_size (by repeat (first | (with_reducible first | exact HB.out | apply below_alloc | apply pw_below_drewN | apply below_drew1) | exact HB.out))) : w.heap.size ≤ gb521)); have n3_ := Aside0.mk ((by rw [hg]; exact (below_size (by repeat (first | (with_reducible first | exact HB.out | apply below_alloc | apply pw_below_drewN | apply below_drew1) | exact HB.out))) : w.heap.size ≤ gb521)); clear HB; have HB := n0_; have BK521 := n1_; have GW521 := n2_; have GE521 := n3_; clear n0_ n1_ n2_ n3_; clear hb hbox hg) | ((with_reducible refine gate_dst (N := 3) rfl ?_); refine box_event ?hg (N := 3) ?hd (cs := #[.int .i64 a1_0, .slice A1_1 l1_1.length c1_1, .slice A1_2 l1_2.length c1_2, .slice A1_3 l1_3.length c1_3]) (t := 58) ?hr ?_; (case hd => rfl); (case hg => rfl); (case hr => first | (go_simp; done) | (go_simp; rfl)); intro gb522 hg w16 hbox hb; have n0_ := Aside0.mk (blk_below (g := gb521) (o := .cells #[.int .i64 a0_0, .slice A0_1 l0_1.length c0_1, .slice A0_2 l0_2.length c0_2, .slice A0_3 l0_3.length c0_3] 58 (0, 0)) (by (with_reducible repeat (first | refine blk_drewN ?_ _ | refine blk_drew ?_ | refine blk_alloc ?_ _)); exact BK521.out) hb); have n1_ := Aside0.mk (below_step (by repeat (first | (with_reducible first | exact HB.out | apply below_alloc | apply pw_below_drewN | apply below_drew1 | refine below_set ?_ GE521.out) | exact HB.out)) hb); have n2_ := Aside0.mk (hbox); have n3_ := Aside0.mk ((by rw [hg]; exact (below_size (by repeat (first | (with_reducible first | exact HB.out | apply below_alloc | apply pw_below_drewN | apply below_drew1 | refine below_set ?_ GE521.out) | exact HB.out))) : w.heap.size ≤ gb522)); have n4_ := Aside0.mk ((by rw [hg]; exact (below_size (by repeat (first | (with_reducible first | exact HB.out | apply below_alloc | apply pw_below_drewN | apply below_drew1 | refine below_set ?_ GE521.out) | exact HB.out))) : w.heap.size ≤ gb522)); have n5_ := Aside0.mk ((by rw [hg]; exact Nat.ne_of_lt (blk_lt (g := gb521) (o := .cells #[.int .i64 a0_0, .slice A0_1 l0_1.length c0_1, .slice A0_2 l0_2.length c0_2, .slice A0_3 l0_3.length c0_3] 58 (0, 0)) (by (with_reducible repeat (first | refine blk_drewN ?_ _ | refine blk_drew ?_ | refine blk_alloc ?_ _)); exact BK521.out)) : gb521 ≠ gb522)); have n6_ := Aside0.mk ((by rw [hg]; exact Nat.ne_of_gt (blk_lt (g := gb521) (o := .cells #[.int .i64 a0_0, .slice A0_1 l0_1.length c0_1, .slice A0_2 l0_2.length c0_2, .slice A0_3 l0_3.length c0_3] 58 (0, 0)) (by (with_reducible repeat (first | refine blk_drewN ?_ _ | refine blk_drew ?_ | refine blk_alloc ?_ _)); exact BK521.out)) : gb522 ≠ gb521)); clear BK521; clear HB; have BK521 := n0_; have HB := n1_; have BK522 := n2_; have GW522 := n3_; have GE522 := n4_; have NB521_522 := n5_; have NB522_521 := n6_; clear n0_ n1_ n2_ n3_ n4_ n5_ n6_; clear hb hbox hg; have hnb17 := NB521_522.out; have hnc17 := NB522_521.out; have hcz18_0 : w16.cell? ⟨gb521, 0, none⟩ = some (.int .i64 a0_0) := (blk_cell BK521.out 0).trans rfl; have hcz18_1 : w16.cell? ⟨gb521, 1, none⟩ = some (.slice A0_1 l0_1.length c0_1) := (blk_cell BK521.out 1).trans rfl; have hcz18_2 : w16.cell? ⟨gb521, 2, none⟩ = some (.slice A0_2 l0_2.length c0_2) := (blk_cell BK521.out 2).trans rfl; have hcz18_3 : w16.cell? ⟨gb521, 3, none⟩ = some (.slice A0_3 l0_3.length c0_3) := (blk_cell BK521.out 3).trans rfl; have hfz18_0 := blk_frozen BK521.out 0; have hfz18_1 := blk_frozen BK521.out 1; have hfz18_2 := blk_frozen BK521.out 2; have hfz18_3 := blk_frozen BK521.out 3; have hcz19_0 : w16.cell? ⟨gb522, 0, none⟩ = some (.int .i64 a1_0) := (blk_cell BK522.out 0).trans rfl; have hcz19_1 : w16.cell? ⟨gb522, 1, none⟩ = some (.slice A1_1 l1_1.length c1_1) := (blk_cell BK522.out 1).trans rfl; have hcz19_2 : w16.cell? ⟨gb522, 2, none⟩ = some (.slice A1_2 l1_2.length c1_2) := (blk_cell BK522.out 2).trans rfl; have hcz19_3 : w16.cell? ⟨gb522, 3, none⟩ = some (.slice A1_3 l1_3.length c1_3) := (blk_cell BK522.out 3).trans rfl; have hfz19_0 := blk_frozen BK522.out 0; have hfz19_1 := blk_frozen BK522.out 1; have hfz19_2 := blk_frozen BK522.out 2; have hfz19_3 := blk_frozen BK522.out 3) | ((with_reducible refine gate_callee (f := 27) rfl ?_); refine goesL_ (some 14) rfl rfl Try.func27 (by kernel_rfl) rfl #[.slice A0_1 l0_1.length c0_1, .slice A1_1 l1_1.length c1_1] rfl (by (try simp only [List.map_toArray, List.map_cons, List.map_nil]); first | done | rfl | (simp only [List.length_drop, List.length_take]; rfl)) ?_; (with_reducible refine (laws_eqStringS.calls k _ _ l0_1 _ _ l1_1 true _ ?side1 ?side2 ?side3 ?side4 A4.out).mono ?_); (case side1 => repeat (first | exact (Kd.C_below HR0_1.out HB.out) | (with_reducible refine Kd.C_alloc ?_ _) | (with_reducible refine Kd.C_drewN ?_ _) | (with_reducible refine Kd.C_drew ?_))); (case side2 => exact HC0_1.out); (case side3 => repeat (first | exact (Kd.C_below HR1_1.out HB.out) | (with_reducible refine Kd.C_alloc ?_ _) | (with_reducible refine Kd.C_drewN ?_ _) | (with_reducible refine Kd.C_drew ?_))); (case side4 => exact HC1_1.out); rintro e w' ⟨rfl, ⟨nd, rfl⟩⟩; refine ⟨_, rfl, ?_⟩) | ((with_reducible refine gate_callee (f := 27) rfl ?_); refine goesL_ (some 20) rfl rfl Try.func27 (by kernel_rfl) rfl #[.slice A0_2 l0_2.length c0_2, .slice A1_2 l1_2.length c1_2] rfl (by (try simp only [List.map_toArray, List.map_cons, List.map_nil]); first | done | rfl | (simp only [List.length_drop, List.length_take]; rfl)) ?_; (with_reducible refine (laws_eqStringS.calls k _ _ l0_2 _ _ l1_2 true _ ?side1 ?side2 ?side3 ?side4 A6.out).mono ?_); (case side1 => repeat (first | exact (Kd.C_below HR0_2.out (by repeat (first | (with_reducible first | exact HB.out | apply below_alloc | apply pw_below_drewN | apply below_drew1 | refine below_set ?_ GE521.out | refine below_set ?_ GE522.out) | exact HB.out))) | (with_reducible refine Kd.C_alloc ?_ _) | (with_reducible refine Kd.C_drewN ?_ _) | (with_reducible refine Kd.C_drew ?_))); (case side2 => exact HC0_2.out); (case side3 => repeat (first | exact (Kd.C_below HR1_2.out (by repeat (first | (with_reducible first | exact HB.out | apply below_alloc | apply pw_below_drewN | apply below_drew1 | refine below_set ?_ GE521.out | refine below_set ?_ GE522.out) | exact HB.out))) | (with_reducible refine Kd.C_alloc ?_ _) | (with_reducible refine Kd.C_drewN ?_ _) | (with_reducible refine Kd.C_drew ?_))); (case side4 => exact HC1_2.out); rintro e w' ⟨rfl, ⟨nd, rfl⟩⟩; refine ⟨_, rfl, ?_⟩) | ((with_reducible refine gate_callee (f := 27) rfl ?_); refine goesL_ (some 26) rfl rfl Try.func27 (by kernel_rfl) rfl #[.slice A0_3 l0_3.length c0_3, .slice A1_3 l1_3.length c1_3] rfl (by (try simp only [List.map_toArray, List.map_cons, List.map_nil]); first | done | rfl | (simp only [List.length_drop, List.length_take]; rfl)) ?_; (with_reducible refine (laws_eqStringS.calls k _ _ l0_3 _ _ l1_3 false _ ?side1 ?side2 ?side3 ?side4 A8.out).mono ?_); (case side1 => repeat (first | exact (Kd.C_below HR0_3.out (by repeat (first | (with_reducible first | exact HB.out | apply below_alloc | apply pw_below_drewN | apply below_drew1 | refine below_set ?_ GE521.out | refine below_set ?_ GE522.out) | exact HB.out))) | (with_reducible refine Kd.C_alloc ?_ _) | (with_reducible refine Kd.C_drewN ?_ _) | (with_reducible refine Kd.C_drew ?_))); (case side2 => exact HC0_3.out); (case side3 => repeat (first | exact (Kd.C_below HR1_3.out (by repeat (first | (with_reducible first | exact HB.out | apply below_alloc | apply pw_below_drewN | apply below_drew1 | refine below_set ?_ GE521.out | refine below_set ?_ GE522.out) | exact HB.out))) | (with_reducible refine Kd.C_alloc ?_ _) | (with_reducible refine Kd.C_drewN ?_ _) | (with_reducible refine Kd.C_drew ?_))); (case side4 => exact HC1_3.out); rintro e w' ⟨rfl, ⟨nd, rfl⟩⟩; refine ⟨_, rfl, ?_⟩))
     go_ret
     exact ⟨by first | rfl | (simp [errW_none, errW_some] <;> rfl) | (simp [*, errW_none, errW_some] <;> rfl), by repeat (first | (with_reducible first | exact HB.out | apply below_alloc | apply pw_below_drewN | apply below_drew1 | refine below_set ?_ GE521.out | refine below_set ?_ GE522.out) | exact HB.out)⟩
   ·replace c7 := Bool.eq_false_iff.mpr c7
    subst c7
    have H1 : (some false) = some r := by rw [if_neg (show ¬ (false = true) by decide)] at H; exact H
    clear H
    have H := H1
    clear H1
    obtain rfl := Option.some.inj H
    go_enter Try.func42, Try.ntmps42
    go_wp2_with (first | ((with_reducible refine gate_dst (N := 2) rfl ?_); refine box_event ?hg (N := 2) ?hd (cs := #[.int .i64 a0_0, .slice A0_1 l0_1.length c0_1, .slice A0_2 l0_2.length c0_2, .slice A0_3 l0_3.length c0_3]) (t := 58) ?hr ?_; (case hd => rfl); (case hg => rfl); (case hr => first | (go_simp; done) | (go_simp; rfl)); intro gb521 hg w20 hbox hb; have n0_ := Aside0.mk (below_step (by repeat (first | (with_reducible first | exact HB.out | apply below_alloc | apply pw_below_drewN | apply below_drew1) | exact HB.out)) hb); have n1_ := Aside0.mk (hbox); have n2_ := Aside0.mk ((by rw [hg]; exact (below_size (by repeat (first | (with_reducible first | exact HB.out | apply below_alloc | apply pw_below_drewN | apply below_drew1) | exact HB.out))) : w.heap.size ≤ gb521)); have n3_ := Aside0.mk ((by rw [hg]; exact (below_size (by repeat (first | (with_reducible first | exact HB.out | apply below_alloc | apply pw_below_drewN | apply below_drew1) | exact HB.out))) : w.heap.size ≤ gb521)); clear HB; have HB := n0_; have BK521 := n1_; have GW521 := n2_; have GE521 := n3_; clear n0_ n1_ n2_ n3_; clear hb hbox hg) | ((with_reducible refine gate_dst (N := 3) rfl ?_); refine box_event ?hg (N := 3) ?hd (cs := #[.int .i64 a1_0, .slice A1_1 l1_1.length c1_1, .slice A1_2 l1_2.length c1_2, .slice A1_3 l1_3.length c1_3]) (t := 58) ?hr ?_; (case hd => rfl); (case hg => rfl); (case hr => first | (go_simp; done) | (go_simp; rfl)); intro gb522 hg w21 hbox hb; have n0_ := Aside0.mk (blk_below (g := gb521) (o := .cells #[.int .i64 a0_0, .slice A0_1 l0_1.length c0_1, .slice A0_2 l0_2.length c0_2, .slice A0_3 l0_3.length c0_3] 58 (0, 0)) (by (with_reducible repeat (first | refine blk_drewN ?_ _ | refine blk_drew ?_ | refine blk_alloc ?_ _)); exact BK521.out) hb); have n1_ := Aside0.mk (below_step (by repeat (first | (with_reducible first | exact HB.out | apply below_alloc | apply pw_below_drewN | apply below_drew1 | refine below_set ?_ GE521.out) | exact HB.out)) hb); have n2_ := Aside0.mk (hbox); have n3_ := Aside0.mk ((by rw [hg]; exact (below_size (by repeat (first | (with_reducible first | exact HB.out | apply below_alloc | apply pw_below_drewN | apply below_drew1 | refine below_set ?_ GE521.out) | exact HB.out))) : w.heap.size ≤ gb522)); have n4_ := Aside0.mk ((by rw [hg]; exact (below_size (by repeat (first | (with_reducible first | exact HB.out | apply below_alloc | apply pw_below_drewN | apply below_drew1 | refine below_set ?_ GE521.out) | exact HB.out))) : w.heap.size ≤ gb522)); have n5_ := Aside0.mk ((by rw [hg]; exact Nat.ne_of_lt (blk_lt (g := gb521) (o := .cells #[.int .i64 a0_0, .slice A0_1 l0_1.length c0_1, .slice A0_2 l0_2.length c0_2, .slice A0_3 l0_3.length c0_3] 58 (0, 0)) (by (with_reducible repeat (first | refine blk_drewN ?_ _ | refine blk_drew ?_ | refine blk_alloc ?_ _)); exact BK521.out)) : gb521 ≠ gb522)); have n6_ := Aside0.mk ((by rw [hg]; exact Nat.ne_of_gt (blk_lt (g := gb521) (o := .cells #[.int .i64 a0_0, .slice A0_1 l0_1.length c0_1, .slice A0_2 l0_2.length c0_2, .slice A0_3 l0_3.length c0_3] 58 (0, 0)) (by (with_reducible repeat (first | refine blk_drewN ?_ _ | refine blk_drew ?_ | refine blk_alloc ?_ _)); exact BK521.out)) : gb522 ≠ gb521)); clear BK521; clear HB; have BK521 := n0_; have HB := n1_; have BK522 := n2_; have GW522 := n3_; have GE522 := n4_; have NB521_522 := n5_; have NB522_521 := n6_; clear n0_ n1_ n2_ n3_ n4_ n5_ n6_; clear hb hbox hg; have hnb22 := NB521_522.out; have hnc22 := NB522_521.out; have hcz23_0 : w21.cell? ⟨gb521, 0, none⟩ = some (.int .i64 a0_0) := (blk_cell BK521.out 0).trans rfl; have hcz23_1 : w21.cell? ⟨gb521, 1, none⟩ = some (.slice A0_1 l0_1.length c0_1) := (blk_cell BK521.out 1).trans rfl; have hcz23_2 : w21.cell? ⟨gb521, 2, none⟩ = some (.slice A0_2 l0_2.length c0_2) := (blk_cell BK521.out 2).trans rfl; have hcz23_3 : w21.cell? ⟨gb521, 3, none⟩ = some (.slice A0_3 l0_3.length c0_3) := (blk_cell BK521.out 3).trans rfl; have hfz23_0 := blk_frozen BK521.out 0; have hfz23_1 := blk_frozen BK521.out 1; have hfz23_2 := blk_frozen BK521.out 2; have hfz23_3 := blk_frozen BK521.out 3; have hcz24_0 : w21.cell? ⟨gb522, 0, none⟩ = some (.int .i64 a1_0) := (blk_cell BK522.out 0).trans rfl; have hcz24_1 : w21.cell? ⟨gb522, 1, none⟩ = some (.slice A1_1 l1_1.length c1_1) := (blk_cell BK522.out 1).trans rfl; have hcz24_2 : w21.cell? ⟨gb522, 2, none⟩ = some (.slice A1_2 l1_2.length c1_2) := (blk_cell BK522.out 2).trans rfl; have hcz24_3 : w21.cell? ⟨gb522, 3, none⟩ = some (.slice A1_3 l1_3.length c1_3) := (blk_cell BK522.out 3).trans rfl; have hfz24_0 := blk_frozen BK522.out 0; have hfz24_1 := blk_frozen BK522.out 1; have hfz24_2 := blk_frozen BK522.out 2; have hfz24_3 := blk_frozen BK522.out 3) | ((with_reducible refine gate_callee (f := 27) rfl ?_); refine goesL_ (some 14) rfl rfl Try.func27 (by kernel_rfl) rfl #[.slice A0_1 l0_1.length c0_1, .slice A1_1 l1_1.length c1_1] rfl (by (try simp only [List.map_toArray, List.map_cons, List.map_nil]); first | done | rfl | (simp only [List.length_drop, List.length_take]; rfl)) ?_; (with_reducible refine (laws_eqStringS.calls k _ _ l0_1 _ _ l1_1 true _ ?side1 ?side2 ?side3 ?side4 A4.out).mono ?_); (case side1 => repeat (first | exact (Kd.C_below HR0_1.out HB.out) | (with_reducible refine Kd.C_alloc ?_ _) | (with_reducible refine Kd.C_drewN ?_ _) | (with_reducible refine Kd.C_drew ?_))); (case side2 => exact HC0_1.out); (case side3 => repeat (first | exact (Kd.C_below HR1_1.out HB.out) | (with_reducible refine Kd.C_alloc ?_ _) | (with_reducible refine Kd.C_drewN ?_ _) | (with_reducible refine Kd.C_drew ?_))); (case side4 => exact HC1_1.out); rintro e w' ⟨rfl, ⟨nd, rfl⟩⟩; refine ⟨_, rfl, ?_⟩) | ((with_reducible refine gate_callee (f := 27) rfl ?_); refine goesL_ (some 20) rfl rfl Try.func27 (by kernel_rfl) rfl #[.slice A0_2 l0_2.length c0_2, .slice A1_2 l1_2.length c1_2] rfl (by (try simp only [List.map_toArray, List.map_cons, List.map_nil]); first | done | rfl | (simp only [List.length_drop, List.length_take]; rfl)) ?_; (with_reducible refine (laws_eqStringS.calls k _ _ l0_2 _ _ l1_2 false _ ?side1 ?side2 ?side3 ?side4 A6.out).mono ?_); (case side1 => repeat (first | exact (Kd.C_below HR0_2.out (by repeat (first | (with_reducible first | exact HB.out | apply below_alloc | apply pw_below_drewN | apply below_drew1 | refine below_set ?_ GE521.out | refine below_set ?_ GE522.out) | exact HB.out))) | (with_reducible refine Kd.C_alloc ?_ _) | (with_reducible refine Kd.C_drewN ?_ _) | (with_reducible refine Kd.C_drew ?_))); (case side2 => exact HC0_2.out); (case side3 => repeat (first | exact (Kd.C_below HR1_2.out (by repeat (first | (with_reducible first | exact HB.out | apply below_alloc | apply pw_below_drewN | apply below_drew1 | refine below_set ?_ GE521.out | refine below_set ?_ GE522.out) | exact HB.out))) | (with_reducible refine Kd.C_alloc ?_ _) | (with_reducible refine Kd.C_drewN ?_ _) | (with_reducible refine Kd.C_drew ?_))); (case side4 => exact HC1_2.out); rintro e w' ⟨rfl, ⟨nd, rfl⟩⟩; refine ⟨_, rfl, ?_⟩))
    go_ret
    exact ⟨by first | rfl | (simp [errW_none, errW_some] <;> rfl) | (simp [*, errW_none, errW_some] <;> rfl), by repeat (first | (with_reducible first | exact HB.out | apply below_alloc | apply pw_below_drewN | apply below_drew1 | refine below_set ?_ GE521.out | refine below_set ?_ GE522.out) | exact HB.out)⟩
  ·replace c5 := Bool.eq_false_iff.mpr c5
   subst c5
   have H1 : (some false) = some r := by rw [if_neg (show ¬ (false = true) by decide)] at H; exact H
   clear H
   have H := H1
   clear H1
   obtain rfl := Option.some.inj H
   go_enter Try.func42, Try.ntmps42
   go_wp2_with (first | ((with_reducible refine gate_dst (N := 2) rfl ?_); refine box_event ?hg (N := 2) ?hd (cs := #[.int .i64 a0_0, .slice A0_1 l0_1.length c0_1, .slice A0_2 l0_2.length c0_2, .slice A0_3 l0_3.length c0_3]) (t := 58) ?hr ?_; (case hd => rfl); (case hg => rfl); (case hr => first | (go_simp; done) | (go_simp; rfl)); intro gb521 hg w25 hbox hb; have n0_ := Aside0.mk (below_step (by repeat (first | (with_reducible first | exact HB.out | apply below_alloc | apply pw_below_drewN | apply below_drew1) | exact HB.out)) hb); have n1_ := Aside0.mk (hbox); have n2_ := Aside0.mk ((by rw [hg]; exact (below_size (by repeat (first | (with_reducible first | exact HB.out | apply below_alloc | apply pw_below_drewN | apply below_drew1) | exact HB.out))) : w.heap.size ≤ gb521)); have n3_ := Aside0.mk ((by rw [hg]; exact (below_size (by repeat (first | (with_reducible first | exact HB.out | apply below_alloc | apply pw_below_drewN | apply below_drew1) | exact HB.out))) : w.heap.size ≤ gb521)); clear HB; have HB := n0_; have BK521 := n1_; have GW521 := n2_; have GE521 := n3_; clear n0_ n1_ n2_ n3_; clear hb hbox hg) | ((with_reducible refine gate_dst (N := 3) rfl ?_); refine box_event ?hg (N := 3) ?hd (cs := #[.int .i64 a1_0, .slice A1_1 l1_1.length c1_1, .slice A1_2 l1_2.length c1_2, .slice A1_3 l1_3.length c1_3]) (t := 58) ?hr ?_; (case hd => rfl); (case hg => rfl); (case hr => first | (go_simp; done) | (go_simp; rfl)); intro gb522 hg w26 hbox hb; have n0_ := Aside0.mk (blk_below (g := gb521) (o := .cells #[.int .i64 a0_0, .slice A0_1 l0_1.length c0_1, .slice A0_2 l0_2.length c0_2, .slice A0_3 l0_3.length c0_3] 58 (0, 0)) (by (with_reducible repeat (first | refine blk_drewN ?_ _ | refine blk_drew ?_ | refine blk_alloc ?_ _)); exact BK521.out) hb); have n1_ := Aside0.mk (below_step (by repeat (first | (with_reducible first | exact HB.out | apply below_alloc | apply pw_below_drewN | apply below_drew1 | refine below_set ?_ GE521.out) | exact HB.out)) hb); have n2_ := Aside0.mk (hbox); have n3_ := Aside0.mk ((by rw [hg]; exact (below_size (by repeat (first | (with_reducible first | exact HB.out | apply below_alloc | apply pw_below_drewN | apply below_drew1 | refine below_set ?_ GE521.out) | exact HB.out))) : w.heap.size ≤ gb522)); have n4_ := Aside0.mk ((by rw [hg]; exact (below_size (by repeat (first | (with_reducible first | exact HB.out | apply below_alloc | apply pw_below_drewN | apply below_drew1 | refine below_set ?_ GE521.out) | exact HB.out))) : w.heap.size ≤ gb522)); have n5_ := Aside0.mk ((by rw [hg]; exact Nat.ne_of_lt (blk_lt (g := gb521) (o := .cells #[.int .i64 a0_0, .slice A0_1 l0_1.length c0_1, .slice A0_2 l0_2.length c0_2, .slice A0_3 l0_3.length c0_3] 58 (0, 0)) (by (with_reducible repeat (first | refine blk_drewN ?_ _ | refine blk_drew ?_ | refine blk_alloc ?_ _)); exact BK521.out)) : gb521 ≠ gb522)); have n6_ := Aside0.mk ((by rw [hg]; exact Nat.ne_of_gt (blk_lt (g := gb521) (o := .cells #[.int .i64 a0_0, .slice A0_1 l0_1.length c0_1, .slice A0_2 l0_2.length c0_2, .slice A0_3 l0_3.length c0_3] 58 (0, 0)) (by (with_reducible repeat (first | refine blk_drewN ?_ _ | refine blk_drew ?_ | refine blk_alloc ?_ _)); exact BK521.out)) : gb522 ≠ gb521)); clear BK521; clear HB; have BK521 := n0_; have HB := n1_; have BK522 := n2_; have GW522 := n3_; have GE522 := n4_; have NB521_522 := n5_; have NB522_521 := n6_; clear n0_ n1_ n2_ n3_ n4_ n5_ n6_; clear hb hbox hg; have hnb27 := NB521_522.out; have hnc27 := NB522_521.out; have hcz28_0 : w26.cell? ⟨gb521, 0, none⟩ = some (.int .i64 a0_0) := (blk_cell BK521.out 0).trans rfl; have hcz28_1 : w26.cell? ⟨gb521, 1, none⟩ = some (.slice A0_1 l0_1.length c0_1) := (blk_cell BK521.out 1).trans rfl; have hcz28_2 : w26.cell? ⟨gb521, 2, none⟩ = some (.slice A0_2 l0_2.length c0_2) := (blk_cell BK521.out 2).trans rfl; have hcz28_3 : w26.cell? ⟨gb521, 3, none⟩ = some (.slice A0_3 l0_3.length c0_3) := (blk_cell BK521.out 3).trans rfl; have hfz28_0 := blk_frozen BK521.out 0; have hfz28_1 := blk_frozen BK521.out 1; have hfz28_2 := blk_frozen BK521.out 2; have hfz28_3 := blk_frozen BK521.out 3; have hcz29_0 : w26.cell? ⟨gb522, 0, none⟩ = some (.int .i64 a1_0) := (blk_cell BK522.out 0).trans rfl; have hcz29_1 : w26.cell? ⟨gb522, 1, none⟩ = some (.slice A1_1 l1_1.length c1_1) := (blk_cell BK522.out 1).trans rfl; have hcz29_2 : w26.cell? ⟨gb522, 2, none⟩ = some (.slice A1_2 l1_2.length c1_2) := (blk_cell BK522.out 2).trans rfl; have hcz29_3 : w26.cell? ⟨gb522, 3, none⟩ = some (.slice A1_3 l1_3.length c1_3) := (blk_cell BK522.out 3).trans rfl; have hfz29_0 := blk_frozen BK522.out 0; have hfz29_1 := blk_frozen BK522.out 1; have hfz29_2 := blk_frozen BK522.out 2; have hfz29_3 := blk_frozen BK522.out 3) | ((with_reducible refine gate_callee (f := 27) rfl ?_); refine goesL_ (some 14) rfl rfl Try.func27 (by kernel_rfl) rfl #[.slice A0_1 l0_1.length c0_1, .slice A1_1 l1_1.length c1_1] rfl (by (try simp only [List.map_toArray, List.map_cons, List.map_nil]); first | done | rfl | (simp only [List.length_drop, List.length_take]; rfl)) ?_; (with_reducible refine (laws_eqStringS.calls k _ _ l0_1 _ _ l1_1 false _ ?side1 ?side2 ?side3 ?side4 A4.out).mono ?_); (case side1 => repeat (first | exact (Kd.C_below HR0_1.out HB.out) | (with_reducible refine Kd.C_alloc ?_ _) | (with_reducible refine Kd.C_drewN ?_ _) | (with_reducible refine Kd.C_drew ?_))); (case side2 => exact HC0_1.out); (case side3 => repeat (first | exact (Kd.C_below HR1_1.out HB.out) | (with_reducible refine Kd.C_alloc ?_ _) | (with_reducible refine Kd.C_drewN ?_ _) | (with_reducible refine Kd.C_drew ?_))); (case side4 => exact HC1_1.out); rintro e w' ⟨rfl, ⟨nd, rfl⟩⟩; refine ⟨_, rfl, ?_⟩))
   go_ret
   exact ⟨by first | rfl | (simp [errW_none, errW_some] <;> rfl) | (simp [*, errW_none, errW_some] <;> rfl), by repeat (first | (with_reducible first | exact HB.out | apply below_alloc | apply pw_below_drewN | apply below_drew1 | refine below_set ?_ GE521.out | refine below_set ?_ GE522.out) | exact HB.out)⟩
 ·rw [if_neg c3] at H
  have c3b0 : (a0_0 == a1_0) = false := beq_eq_false_iff_ne.mpr c3
  have c3b1 : (a0_0 != a1_0) = true := bne_iff_ne.mpr c3
  obtain rfl := Option.some.inj H
  go_enter Try.func42, Try.ntmps42
  go_wp2_with (first | ((with_reducible refine gate_dst (N := 2) rfl ?_); refine box_event ?hg (N := 2) ?hd (cs := #[.int .i64 a0_0, .slice A0_1 l0_1.length c0_1, .slice A0_2 l0_2.length c0_2, .slice A0_3 l0_3.length c0_3]) (t := 58) ?hr ?_; (case hd => rfl); (case hg => rfl); (case hr => first | (go_simp; done) | (go_simp; rfl)); intro gb521 hg w30 hbox hb; have n0_ := Aside0.mk (below_step (by repeat (first | (with_reducible first | exact HB.out | apply below_alloc | apply pw_below_drewN | apply below_drew1) | exact HB.out)) hb); have n1_ := Aside0.mk (hbox); have n2_ := Aside0.mk ((by rw [hg]; exact (below_size (by repeat (first | (with_reducible first | exact HB.out | apply below_alloc | apply pw_below_drewN | apply below_drew1) | exact HB.out))) : w.heap.size ≤ gb521)); have n3_ := Aside0.mk ((by rw [hg]; exact (below_size (by repeat (first | (with_reducible first | exact HB.out | apply below_alloc | apply pw_below_drewN | apply below_drew1) | exact HB.out))) : w.heap.size ≤ gb521)); clear HB; have HB := n0_; have BK521 := n1_; have GW521 := n2_; have GE521 := n3_; clear n0_ n1_ n2_ n3_; clear hb hbox hg) | ((with_reducible refine gate_dst (N := 3) rfl ?_); refine box_event ?hg (N := 3) ?hd (cs := #[.int .i64 a1_0, .slice A1_1 l1_1.length c1_1, .slice A1_2 l1_2.length c1_2, .slice A1_3 l1_3.length c1_3]) (t := 58) ?hr ?_; (case hd => rfl); (case hg => rfl); (case hr => first | (go_simp; done) | (go_simp; rfl)); intro gb522 hg w31 hbox hb; have n0_ := Aside0.mk (blk_below (g := gb521) (o := .cells #[.int .i64 a0_0, .slice A0_1 l0_1.length c0_1, .slice A0_2 l0_2.length c0_2, .slice A0_3 l0_3.length c0_3] 58 (0, 0)) (by (with_reducible repeat (first | refine blk_drewN ?_ _ | refine blk_drew ?_ | refine blk_alloc ?_ _)); exact BK521.out) hb); have n1_ := Aside0.mk (below_step (by repeat (first | (with_reducible first | exact HB.out | apply below_alloc | apply pw_below_drewN | apply below_drew1 | refine below_set ?_ GE521.out) | exact HB.out)) hb); have n2_ := Aside0.mk (hbox); have n3_ := Aside0.mk ((by rw [hg]; exact (below_size (by repeat (first | (with_reducible first | exact HB.out | apply below_alloc | apply pw_below_drewN | apply below_drew1 | refine below_set ?_ GE521.out) | exact HB.out))) : w.heap.size ≤ gb522)); have n4_ := Aside0.mk ((by rw [hg]; exact (below_size (by repeat (first | (with_reducible first | exact HB.out | apply below_alloc | apply pw_below_drewN | apply below_drew1 | refine below_set ?_ GE521.out) | exact HB.out))) : w.heap.size ≤ gb522)); have n5_ := Aside0.mk ((by rw [hg]; exact Nat.ne_of_lt (blk_lt (g := gb521) (o := .cells #[.int .i64 a0_0, .slice A0_1 l0_1.length c0_1, .slice A0_2 l0_2.length c0_2, .slice A0_3 l0_3.length c0_3] 58 (0, 0)) (by (with_reducible repeat (first | refine blk_drewN ?_ _ | refine blk_drew ?_ | refine blk_alloc ?_ _)); exact BK521.out)) : gb521 ≠ gb522)); have n6_ := Aside0.mk ((by rw [hg]; exact Nat.ne_of_gt (blk_lt (g := gb521) (o := .cells #[.int .i64 a0_0, .slice A0_1 l0_1.length c0_1, .slice A0_2 l0_2.length c0_2, .slice A0_3 l0_3.length c0_3] 58 (0, 0)) (by (with_reducible repeat (first | refine blk_drewN ?_ _ | refine blk_drew ?_ | refine blk_alloc ?_ _)); exact BK521.out)) : gb522 ≠ gb521)); clear BK521; clear HB; have BK521 := n0_; have HB := n1_; have BK522 := n2_; have GW522 := n3_; have GE522 := n4_; have NB521_522 := n5_; have NB522_521 := n6_; clear n0_ n1_ n2_ n3_ n4_ n5_ n6_; clear hb hbox hg; have hnb32 := NB521_522.out; have hnc32 := NB522_521.out; have hcz33_0 : w31.cell? ⟨gb521, 0, none⟩ = some (.int .i64 a0_0) := (blk_cell BK521.out 0).trans rfl; have hcz33_1 : w31.cell? ⟨gb521, 1, none⟩ = some (.slice A0_1 l0_1.length c0_1) := (blk_cell BK521.out 1).trans rfl; have hcz33_2 : w31.cell? ⟨gb521, 2, none⟩ = some (.slice A0_2 l0_2.length c0_2) := (blk_cell BK521.out 2).trans rfl; have hcz33_3 : w31.cell? ⟨gb521, 3, none⟩ = some (.slice A0_3 l0_3.length c0_3) := (blk_cell BK521.out 3).trans rfl; have hfz33_0 := blk_frozen BK521.out 0; have hfz33_1 := blk_frozen BK521.out 1; have hfz33_2 := blk_frozen BK521.out 2; have hfz33_3 := blk_frozen BK521.out 3; have hcz34_0 : w31.cell? ⟨gb522, 0, none⟩ = some (.int .i64 a1_0) := (blk_cell BK522.out 0).trans rfl; have hcz34_1 : w31.cell? ⟨gb522, 1, none⟩ = some (.slice A1_1 l1_1.length c1_1) := (blk_cell BK522.out 1).trans rfl; have hcz34_2 : w31.cell? ⟨gb522, 2, none⟩ = some (.slice A1_2 l1_2.length c1_2) := (blk_cell BK522.out 2).trans rfl; have hcz34_3 : w31.cell? ⟨gb522, 3, none⟩ = some (.slice A1_3 l1_3.length c1_3) := (blk_cell BK522.out 3).trans rfl; have hfz34_0 := blk_frozen BK522.out 0; have hfz34_1 := blk_frozen BK522.out 1; have hfz34_2 := blk_frozen BK522.out 2; have hfz34_3 := blk_frozen BK522.out 3))
  go_ret
  exact ⟨by first | rfl | (simp [errW_none, errW_some] <;> rfl) | (simp [*, errW_none, errW_some] <;> rfl), by repeat (first | (with_reducible first | exact HB.out | apply below_alloc | apply pw_below_drewN | apply below_drew1 | refine below_set ?_ GE521.out | refine below_set ?_ GE522.out) | exact HB.out)⟩
end Go.Proofs.Ytjngmhngedecdaa.P
end
section
namespace Go.Proofs.Ytjngmhngedecdaa.P
open Go.RowKit Go.Proofs.YtjngmhngedecdaaW.PrintWords Go.Proofs.YtjngmhngedecdaaW.PrintLast Go.Proofs.YtjngmhngedecdaaW.PrintMore
attribute [local go_sem] max2_int min2_int max_two min_two max_three min_three max_four min_four
set_option linter.unusedVariables false
set_option linter.unusedSimpArgs false
def laws_eqChunkS.l0 : Nat → List (S58) → List (S58) → Int → Option (Bool)
 | 0, _, _, _ => none
 | k + 1, x0, x1, x5 => if x5 < (x0.length : Int) then (if 0 ≤ x5 then (if x5 < (x1.length : Int) then ((laws_eqChunk.f k ((rd_T58 x0 x5).f0) ((rd_T58 x0 x5).f1) ((rd_T58 x0 x5).f2) ((rd_T58 x0 x5).f3) ((rd_T58 x1 x5).f0) ((rd_T58 x1 x5).f1) ((rd_T58 x1 x5).f2) ((rd_T58 x1 x5).f3)).bind fun t528 => (if t528 = true then (laws_eqChunkS.l0 k x0 x1 (wrap64 (x5 + 1))) else (some false))) else (none)) else (none)) else (some true)
def laws_eqChunkS.f (k : Nat) (l0 : List (S58)) (l1 : List (S58)) : Option (Bool) := if (l0.length : Int) = (l1.length : Int) then (laws_eqChunkS.l0 k l0 l1 0) else (some false)
def laws_eqChunkS.T6 : Bool × List (List Nat × List Nat) := (true, [([], []), ([], []), ([0, 1], [0, 1]), ([2], [2]), ([], []), ([], []), ([4, 5], [4, 5]), ([6], [6]), ([3, 7], [3, 7]), ([8], [8])])
def laws_eqChunkS.B6 : List Nat := [0, 0, 3, 7, 0, 0, 48, 112, 255, 511]
theorem laws_eqChunkS.tab6 : rtab .any (opsOf Try.f35 6) = laws_eqChunkS.T6 := by kernel_rfl
theorem laws_eqChunkS.bits6 : waitsOk laws_eqChunkS.T6.2 laws_eqChunkS.B6 = true := by kernel_rfl
set_option maxHeartbeats 8000000 in
set_option maxRecDepth 100000 in
theorem laws_eqChunkS.calls (k : Nat) (A0 : Option Addr) (c0 : Nat) (l0 : List (S58)) (A1 : Option Addr) (c1 : Nat) (l1 : List (S58)) (r : Bool) (w : World) (hr0 : Kd.C k58 w A0 l0.length l0) (hc0 : l0.length ≤ c0) (hr1 : Kd.C k58 w A1 l1.length l1) (hc1 : l1.length ≤ c1) (h : laws_eqChunkS.f k l0 l1 = some r) :
  Calls Try.prog 35 #[.slice A0 l0.length c0, .slice A1 l1.length c1] w fun e w' => e = .returned (.bool r) ∧ Below w.heap.size w w' := by
 have hu58 := Try.underlying58
 have HR0 := Aside0.mk hr0
 have HC0 := Aside0.mk hc0
 clear hr0 hc0
 have HR1 := Aside0.mk hr1
 have HC1 := Aside0.mk hc1
 clear hr1 hc1
 have HB := Aside0.mk (Below.refl w.heap.size w)
 have H : (if (l0.length : Int) = (l1.length : Int) then (laws_eqChunkS.l0 k l0 l1 0) else (some false)) = some r := h
 clear h
 by_cases c3 : (l0.length : Int) = (l1.length : Int)
 ·rw [if_pos c3] at H
  have c3b0 : ((l0.length : Int) == (l1.length : Int)) = true := beq_iff_eq.mpr c3
  have c3b1 : ((l0.length : Int) != (l1.length : Int)) = false := bne_eq_false_iff_eq.mpr c3
  have c3b2 : (l0.length == l1.length) = true := by first | simpa using c3 | (simp at c3 ⊢; omega)
  clear c3
  have H' := Aside0.mk H
  clear H
  go_enter Try.func35, Try.ntmps35
  go_wp2
  go_loopg [5] k (fun kq v5 w' => ∃ (x5_1 : Int), v5 = .int .i64 x5_1 ∧ Aside0 (laws_eqChunkS.l0 kq l0 l1 x5_1 = some r) ∧ Aside0 (kq ≤ k) ∧ Aside0 (Below w.heap.size w w'))
  case atStart => exact ⟨(0), (by first | rfl | (simp; done) | (simp [*]; done)), H', ⟨Nat.le_refl _⟩, ⟨by repeat (first | (with_reducible first | exact HB.out | apply below_alloc | apply pw_below_drewN | apply below_drew1) | exact HB.out)⟩⟩
  case round =>
   clear H'
   try clear c1
   try clear p2
   try clear c3
   try clear c3b0
   try clear c3b1
   try clear c3b2
   obtain ⟨x5_1, rfl, HA, HK1, HB⟩ := hrel
   cases gk with
   | zero => exact absurd HA.out (by simp [laws_eqChunkS.l0])
   | succ k1 =>
    have H := HA.out
    clear HA
    simp only [laws_eqChunkS.l0] at H
    by_cases c4 : x5_1 < (l0.length : Int)
    ·rw [if_pos c4] at H
     have c4b0 : decide (x5_1 < (l0.length : Int)) = true := decide_eq_true c4
     clear c4
     by_cases c5 : 0 ≤ x5_1
     ·rw [if_pos c5] at H
      have c5b0 : decide (0 ≤ x5_1) = true := decide_eq_true c5
      clear c5
      by_cases c6 : x5_1 < (l1.length : Int)
      ·rw [if_pos c6] at H
       have c6b0 : decide (x5_1 < (l1.length : Int)) = true := decide_eq_true c6
       clear c6
       replace H := Option.bind_eq_some_iff.mp H
       obtain ⟨t528, A70, H⟩ := H
       replace H : (if t528 = true then (laws_eqChunkS.l0 k1 l0 l1 (wrap64 (x5_1 + 1))) else (some false)) = some r := H
       have A7 := Aside0.mk A70
       clear A70
       by_cases c8 : t528 = true
       ·subst c8
        have H1 : (laws_eqChunkS.l0 k1 l0 l1 (wrap64 (x5_1 + 1))) = some r := by rw [if_pos rfl] at H; exact H
        clear H
        have H := H1
        clear H1
        have H' := Aside0.mk H
        clear H
        try go_wp2
        have n0_ := Aside0.mk (below_drew1 HB.out)
        clear HB
        have HB := n0_
        clear n0_
        have p526 : 0 ≤ (x5_1 : Int) := of_decide_eq_true (by first | (with_reducible assumption) | assumption)
        have q526 : x5_1 < (l0.length : Int) := of_decide_eq_true (by first | (with_reducible assumption) | assumption)
        obtain ⟨ad526, A526_1, c526_1, A526_2, c526_2, A526_3, c526_3, e526, hx526_0, hx526_1, hx526_2, hx526_3, hl526_1, hi526_1, hl526_2, hi526_2, hl526_3, hi526_3⟩ := at_T58 HR0.out x5_1 p526 q526
        have hw526_3 := hx526_3
        have hw526_2 := hx526_2
        have hw526_1 := hx526_1
        have hw526_0 := hx526_0
        cases e526
        replace hx526_0 := (HB.out.cell (World.block_lt_of_cell? w _ hx526_0)).trans hx526_0
        replace hx526_1 := (HB.out.cell (World.block_lt_of_cell? w _ hx526_1)).trans hx526_1
        replace hx526_2 := (HB.out.cell (World.block_lt_of_cell? w _ hx526_2)).trans hx526_2
        replace hx526_3 := (HB.out.cell (World.block_lt_of_cell? w _ hx526_3)).trans hx526_3
        have HR526_1 := Aside0.mk hi526_1
        have HC526_1 := Aside0.mk hl526_1
        clear hi526_1 hl526_1
        have HR526_2 := Aside0.mk hi526_2
        have HC526_2 := Aside0.mk hl526_2
        clear hi526_2 hl526_2
        have HR526_3 := Aside0.mk hi526_3
        have HC526_3 := Aside0.mk hl526_3
        clear hi526_3 hl526_3
        replace p526 := eq_true p526
        replace q526 := eq_true q526
        have p527 : 0 ≤ (x5_1 : Int) := of_decide_eq_true (by first | (with_reducible assumption) | assumption)
        have q527 : x5_1 < (l1.length : Int) := of_decide_eq_true (by first | (with_reducible assumption) | assumption)
        obtain ⟨ad527, A527_1, c527_1, A527_2, c527_2, A527_3, c527_3, e527, hx527_0, hx527_1, hx527_2, hx527_3, hl527_1, hi527_1, hl527_2, hi527_2, hl527_3, hi527_3⟩ := at_T58 HR1.out x5_1 p527 q527
        have hw527_3 := hx527_3
        have hw527_2 := hx527_2
        have hw527_1 := hx527_1
        have hw527_0 := hx527_0
        cases e527
        replace hx527_0 := (HB.out.cell (World.block_lt_of_cell? w _ hx527_0)).trans hx527_0
        replace hx527_1 := (HB.out.cell (World.block_lt_of_cell? w _ hx527_1)).trans hx527_1
        replace hx527_2 := (HB.out.cell (World.block_lt_of_cell? w _ hx527_2)).trans hx527_2
        replace hx527_3 := (HB.out.cell (World.block_lt_of_cell? w _ hx527_3)).trans hx527_3
        have HR527_1 := Aside0.mk hi527_1
        have HC527_1 := Aside0.mk hl527_1
        clear hi527_1 hl527_1
        have HR527_2 := Aside0.mk hi527_2
        have HC527_2 := Aside0.mk hl527_2
        clear hi527_2 hl527_2
        have HR527_3 := Aside0.mk hi527_3
        have HC527_3 := Aside0.mk hl527_3
        clear hi527_3 hl527_3
        replace p527 := eq_true p527
        replace q527 := eq_true q527
        refine start_ (n := 10) (S := fun w' => w'.cell? (ad526.add ((x5_1).toNat * 4)) = some (.int .i64 ((rd_T58 l0 x5_1).f0)) ∧ w'.cell? ⟨(ad526.add ((x5_1).toNat * 4)).block, (ad526.add ((x5_1).toNat * 4)).off + 1, none⟩ = some (.slice A526_1 ((rd_T58 l0 x5_1).f1).length c526_1) ∧ w'.cell? ⟨(ad526.add ((x5_1).toNat * 4)).block, (ad526.add ((x5_1).toNat * 4)).off + 2, none⟩ = some (.slice A526_2 ((rd_T58 l0 x5_1).f2).length c526_2) ∧ w'.cell? ⟨(ad526.add ((x5_1).toNat * 4)).block, (ad526.add ((x5_1).toNat * 4)).off + 3, none⟩ = some (.slice A526_3 ((rd_T58 l0 x5_1).f3).length c526_3) ∧ w'.cell? (ad527.add ((x5_1).toNat * 4)) = some (.int .i64 ((rd_T58 l1 x5_1).f0)) ∧ w'.cell? ⟨(ad527.add ((x5_1).toNat * 4)).block, (ad527.add ((x5_1).toNat * 4)).off + 1, none⟩ = some (.slice A527_1 ((rd_T58 l1 x5_1).f1).length c527_1) ∧ w'.cell? ⟨(ad527.add ((x5_1).toNat * 4)).block, (ad527.add ((x5_1).toNat * 4)).off + 2, none⟩ = some (.slice A527_2 ((rd_T58 l1 x5_1).f2).length c527_2) ∧ w'.cell? ⟨(ad527.add ((x5_1).toNat * 4)).block, (ad527.add ((x5_1).toNat * 4)).off + 3, none⟩ = some (.slice A527_3 ((rd_T58 l1 x5_1).f3).length c527_3)) (ds := []) #[false, false, false, false, false, false, false, false, false, false] (by kernel_rfl) rfl rfl ⟨((HB.out.cell (World.block_lt_of_cell? w _ hw526_0)).trans hw526_0), ((HB.out.cell (World.block_lt_of_cell? w _ hw526_1)).trans hw526_1), ((HB.out.cell (World.block_lt_of_cell? w _ hw526_2)).trans hw526_2), ((HB.out.cell (World.block_lt_of_cell? w _ hw526_3)).trans hw526_3), ((HB.out.cell (World.block_lt_of_cell? w _ hw527_0)).trans hw527_0), ((HB.out.cell (World.block_lt_of_cell? w _ hw527_1)).trans hw527_1), ((HB.out.cell (World.block_lt_of_cell? w _ hw527_2)).trans hw527_2), ((HB.out.cell (World.block_lt_of_cell? w _ hw527_3)).trans hw527_3)⟩ (fun hHeld => ?_); refine with_tabW laws_eqChunkS.tab6 laws_eqChunkS.bits6 (fun HT_ HW_ => ?_)
        generalize wr.drew = w9 at HB HR526_1 HR526_2 HR526_3 HR527_1 HR527_2 HR527_3 hx526_0 hx526_1 hx526_2 hx526_3 hx527_0 hx527_1 hx527_2 hx527_3 hHeld ⊢
        refine pure_ (i := 0) (N := some 17) (v := ?_) (a' := ?_) #[true, false, false, false, false, false, false, false, false, false] rfl rfl (any_of HT_.out (by kernel_rfl)) (fun _ _ _ h => h) (Or.inl ⟨by rfl, ?_⟩) ?_ ?_
        rotate_left
        ·intro w'
         go_simp
         with_reducible rfl
        rotate_left
        ·simp only [Act.put, List.setIfInBounds_toArray, List.set_cons_zero, List.set_cons_succ, i64_w, i32_w]
         rfl
        refine pure_ (i := 1) (N := some 18) (v := ?_) (a' := ?_) #[true, true, false, false, false, false, false, false, false, false] rfl rfl (any_of HT_.out (by kernel_rfl)) (fun _ _ _ h => h) (Or.inl ⟨by rfl, ?_⟩) ?_ ?_
        rotate_left
        ·intro w'
         go_simp
         with_reducible rfl
        rotate_left
        ·simp only [Act.put, List.setIfInBounds_toArray, List.set_cons_zero, List.set_cons_succ, i64_w, i32_w]
         rfl
        refine pure_ (i := 2) (N := some 19) (v := ?_) (a' := ?_) #[true, true, true, false, false, false, false, false, false, false] rfl rfl (any_of HT_.out (by kernel_rfl)) (fun _ _ _ h => h) (Or.inl ⟨by rfl, ?_⟩) ?_ ?_
        rotate_left
        ·intro w'
         go_simp
         with_reducible rfl
        rotate_left
        ·simp only [Act.put, List.setIfInBounds_toArray, List.set_cons_zero, List.set_cons_succ, i64_w, i32_w]
         rfl
        refine pure_ (i := 4) (N := some 21) (v := ?_) (a' := ?_) #[true, true, true, false, true, false, false, false, false, false] rfl rfl (any_of HT_.out (by kernel_rfl)) (fun _ _ _ h => h) (Or.inl ⟨by rfl, ?_⟩) ?_ ?_
        rotate_left
        ·intro w'
         go_simp
         with_reducible rfl
        rotate_left
        ·simp only [Act.put, List.setIfInBounds_toArray, List.set_cons_zero, List.set_cons_succ, i64_w, i32_w]
         rfl
        refine pure_ (i := 5) (N := some 22) (v := ?_) (a' := ?_) #[true, true, true, false, true, true, false, false, false, false] rfl rfl (any_of HT_.out (by kernel_rfl)) (fun _ _ _ h => h) (Or.inl ⟨by rfl, ?_⟩) ?_ ?_
        rotate_left
        ·intro w'
         go_simp
         with_reducible rfl
        rotate_left
        ·simp only [Act.put, List.setIfInBounds_toArray, List.set_cons_zero, List.set_cons_succ, i64_w, i32_w]
         rfl
        refine pure_ (i := 6) (N := some 23) (v := ?_) (a' := ?_) #[true, true, true, false, true, true, true, false, false, false] rfl rfl (any_of HT_.out (by kernel_rfl)) (fun _ _ _ h => h) (Or.inl ⟨by rfl, ?_⟩) ?_ ?_
        rotate_left
        ·intro w'
         go_simp
         with_reducible rfl
        rotate_left
        ·simp only [Act.put, List.setIfInBounds_toArray, List.set_cons_zero, List.set_cons_succ, i64_w, i32_w]
         rfl
        refine take_ (i := 3) (N := some 20) (v := ?_) (a' := ?_) #[true, true, true, true, true, true, true, false, false, false] rfl rfl (take_ofW HT_.out HW_.out (by kernel_rfl)) (fun _ _ _ h => h) (Or.inl ⟨by rfl, ?_⟩) hHeld ?_ ?_
        rotate_left
        ·rintro w' ⟨s0, s1, s2, s3, s4, s5, s6, s7⟩
         go_simp
         with_reducible rfl
        rotate_left
        ·simp only [Act.put, List.setIfInBounds_toArray, List.set_cons_zero, List.set_cons_succ, i64_w, i32_w]
         rfl
        refine take_ (i := 7) (N := some 24) (v := ?_) (a' := ?_) #[true, true, true, true, true, true, true, true, false, false] rfl rfl (take_ofW HT_.out HW_.out (by kernel_rfl)) (fun _ _ _ h => h) (Or.inl ⟨by rfl, ?_⟩) hHeld ?_ ?_
        rotate_left
        ·rintro w' ⟨s0, s1, s2, s3, s4, s5, s6, s7⟩
         go_simp
         with_reducible rfl
        rotate_left
        ·simp only [Act.put, List.setIfInBounds_toArray, List.set_cons_zero, List.set_cons_succ, i64_w, i32_w]
         rfl
        refine one_ (i := 8) (N := some 25) #[true, true, true, true, true, true, true, true, true, false] rfl rfl (one_of HT_.out (by kernel_rfl)) (by decide) (fun K hK => ?_)
        refine goes_ Try.func42 (by kernel_rfl) rfl #[.agg #[.int .i64 ((rd_T58 l0 x5_1).f0), .slice A526_1 ((rd_T58 l0 x5_1).f1).length c526_1, .slice A526_2 ((rd_T58 l0 x5_1).f2).length c526_2, .slice A526_3 ((rd_T58 l0 x5_1).f3).length c526_3], .agg #[.int .i64 ((rd_T58 l1 x5_1).f0), .slice A527_1 ((rd_T58 l1 x5_1).f1).length c527_1, .slice A527_2 ((rd_T58 l1 x5_1).f2).length c527_2, .slice A527_3 ((rd_T58 l1 x5_1).f3).length c527_3]] (by rfl) rfl rfl (by (try simp only [List.map_toArray, List.map_cons, List.map_nil]); first | done | rfl | (simp only [List.length_drop, List.length_take]; rfl)) ?_
        with_reducible refine (laws_eqChunk.calls k1 ((rd_T58 l0 x5_1).f0) _ _ ((rd_T58 l0 x5_1).f1) _ _ ((rd_T58 l0 x5_1).f2) _ _ ((rd_T58 l0 x5_1).f3) ((rd_T58 l1 x5_1).f0) _ _ ((rd_T58 l1 x5_1).f1) _ _ ((rd_T58 l1 x5_1).f2) _ _ ((rd_T58 l1 x5_1).f3) true _ ?side1 ?side2 ?side3 ?side4 ?side5 ?side6 ?side7 ?side8 ?side9 ?side10 ?side11 ?side12 A7.out).mono ?_
        (case side1 => repeat (first | exact (Kd.C_below HR526_1.out HB.out) | (with_reducible refine Kd.C_alloc ?_ _) | (with_reducible refine Kd.C_drewN ?_ _) | (with_reducible refine Kd.C_drew ?_)))
        (case side2 => exact HC526_1.out)
        (case side3 => repeat (first | exact (Kd.C_below HR526_2.out HB.out) | (with_reducible refine Kd.C_alloc ?_ _) | (with_reducible refine Kd.C_drewN ?_ _) | (with_reducible refine Kd.C_drew ?_)))
        (case side4 => exact HC526_2.out)
        (case side5 => repeat (first | exact (Kd.C_below HR526_3.out HB.out) | (with_reducible refine Kd.C_alloc ?_ _) | (with_reducible refine Kd.C_drewN ?_ _) | (with_reducible refine Kd.C_drew ?_)))
        (case side6 => exact HC526_3.out)
        (case side7 => repeat (first | exact (Kd.C_below HR527_1.out HB.out) | (with_reducible refine Kd.C_alloc ?_ _) | (with_reducible refine Kd.C_drewN ?_ _) | (with_reducible refine Kd.C_drew ?_)))
        (case side8 => exact HC527_1.out)
        (case side9 => repeat (first | exact (Kd.C_below HR527_2.out HB.out) | (with_reducible refine Kd.C_alloc ?_ _) | (with_reducible refine Kd.C_drewN ?_ _) | (with_reducible refine Kd.C_drew ?_)))
        (case side10 => exact HC527_2.out)
        (case side11 => repeat (first | exact (Kd.C_below HR527_3.out HB.out) | (with_reducible refine Kd.C_alloc ?_ _) | (with_reducible refine Kd.C_drewN ?_ _) | (with_reducible refine Kd.C_drew ?_)))
        (case side12 => exact HC527_3.out)
        rintro e w10 ⟨rfl, hb⟩
        refine ⟨_, rfl, ?_⟩
        have n0_ := Aside0.mk (below_step (by repeat (first | (with_reducible first | exact HB.out | apply below_alloc | apply pw_below_drewN | apply below_drew1) | exact HB.out)) hb)
        clear HB
        have HB := n0_
        clear n0_
        (try clear hb)
        (try clear hb2)
        (try clear hk)
        (try clear hi)
        refine hK.out _ _ ⟨((HB.out.cell (World.block_lt_of_cell? w _ hw526_0)).trans hw526_0), ((HB.out.cell (World.block_lt_of_cell? w _ hw526_1)).trans hw526_1), ((HB.out.cell (World.block_lt_of_cell? w _ hw526_2)).trans hw526_2), ((HB.out.cell (World.block_lt_of_cell? w _ hw526_3)).trans hw526_3), ((HB.out.cell (World.block_lt_of_cell? w _ hw527_0)).trans hw527_0), ((HB.out.cell (World.block_lt_of_cell? w _ hw527_1)).trans hw527_1), ((HB.out.cell (World.block_lt_of_cell? w _ hw527_2)).trans hw527_2), ((HB.out.cell (World.block_lt_of_cell? w _ hw527_3)).trans hw527_3)⟩ (fun hHeld => ?_)
        clear hK K
        refine norm_ (a' := ?_) ?_ ?_
        rotate_left
        ·show Act.put _ (some 25) _ = _
         simp only [Act.put, List.setIfInBounds_toArray, List.set_cons_zero, List.set_cons_succ, i64_w, i32_w]
         rfl
        refine pure_ (i := 9) (N := some 26) (v := ?_) (a' := ?_) #[true, true, true, true, true, true, true, true, true, true] rfl rfl (any_of HT_.out (by kernel_rfl)) (fun _ _ _ h => h) (Or.inl ⟨by rfl, ?_⟩) ?_ ?_
        rotate_left
        ·intro w'
         go_simp
         with_reducible rfl
        rotate_left
        ·simp only [Act.put, List.setIfInBounds_toArray, List.set_cons_zero, List.set_cons_succ, i64_w, i32_w]
         rfl
        refine done_ (done_of HT_.out (by kernel_rfl)) ?_
        try go_wp2
        go_roundg k1
        case measure => have := HK1.out; omega
        case rel => exact ⟨(wrap64 (x5_1 + 1)), (by first | rfl | (simp; done) | (simp [*]; done)), H', ⟨by have := HK1.out; omega⟩, ⟨by repeat (first | (with_reducible first | exact HB.out | apply below_alloc | apply pw_below_drewN | apply below_drew1) | exact HB.out)⟩⟩
       ·replace c8 := Bool.eq_false_iff.mpr c8
        subst c8
        have H1 : (some false) = some r := by rw [if_neg (show ¬ (false = true) by decide)] at H; exact H
        clear H
        have H := H1
        clear H1
        obtain rfl := Option.some.inj H
        try go_wp2
        have n0_ := Aside0.mk (below_drew1 HB.out)
        clear HB
        have HB := n0_
        clear n0_
        have p526 : 0 ≤ (x5_1 : Int) := of_decide_eq_true (by first | (with_reducible assumption) | assumption)
        have q526 : x5_1 < (l0.length : Int) := of_decide_eq_true (by first | (with_reducible assumption) | assumption)
        obtain ⟨ad526, A526_1, c526_1, A526_2, c526_2, A526_3, c526_3, e526, hx526_0, hx526_1, hx526_2, hx526_3, hl526_1, hi526_1, hl526_2, hi526_2, hl526_3, hi526_3⟩ := at_T58 HR0.out x5_1 p526 q526
        have hw526_3 := hx526_3
        have hw526_2 := hx526_2
        have hw526_1 := hx526_1
        have hw526_0 := hx526_0
        cases e526
        replace hx526_0 := (HB.out.cell (World.block_lt_of_cell? w _ hx526_0)).trans hx526_0
        replace hx526_1 := (HB.out.cell (World.block_lt_of_cell? w _ hx526_1)).trans hx526_1
        replace hx526_2 := (HB.out.cell (World.block_lt_of_cell? w _ hx526_2)).trans hx526_2
        replace hx526_3 := (HB.out.cell (World.block_lt_of_cell? w _ hx526_3)).trans hx526_3
        have HR526_1 := Aside0.mk hi526_1
        have HC526_1 := Aside0.mk hl526_1
        clear hi526_1 hl526_1
        have HR526_2 := Aside0.mk hi526_2
        have HC526_2 := Aside0.mk hl526_2
        clear hi526_2 hl526_2
        have HR526_3 := Aside0.mk hi526_3
        have HC526_3 := Aside0.mk hl526_3
        clear hi526_3 hl526_3
        replace p526 := eq_true p526
        replace q526 := eq_true q526
        have p527 : 0 ≤ (x5_1 : Int) := of_decide_eq_true (by first | (with_reducible assumption) | assumption)
        have q527 : x5_1 < (l1.length : Int) := of_decide_eq_true (by first | (with_reducible assumption) | assumption)
        obtain ⟨ad527, A527_1, c527_1, A527_2, c527_2, A527_3, c527_3, e527, hx527_0, hx527_1, hx527_2, hx527_3, hl527_1, hi527_1, hl527_2, hi527_2, hl527_3, hi527_3⟩ := at_T58 HR1.out x5_1 p527 q527
        have hw527_3 := hx527_3
        have hw527_2 := hx527_2
        have hw527_1 := hx527_1
        have hw527_0 := hx527_0
        cases e527
        replace hx527_0 := (HB.out.cell (World.block_lt_of_cell? w _ hx527_0)).trans hx527_0
        replace hx527_1 := (HB.out.cell (World.block_lt_of_cell? w _ hx527_1)).trans hx527_1
        replace hx527_2 := (HB.out.cell (World.block_lt_of_cell? w _ hx527_2)).trans hx527_2
        replace hx527_3 := (HB.out.cell (World.block_lt_of_cell? w _ hx527_3)).trans hx527_3
        have HR527_1 := Aside0.mk hi527_1
        have HC527_1 := Aside0.mk hl527_1
        clear hi527_1 hl527_1
        have HR527_2 := Aside0.mk hi527_2
        have HC527_2 := Aside0.mk hl527_2
        clear hi527_2 hl527_2
        have HR527_3 := Aside0.mk hi527_3
        have HC527_3 := Aside0.mk hl527_3
        clear hi527_3 hl527_3
        replace p527 := eq_true p527
        replace q527 := eq_true q527
        refine start_ (n := 10) (S := fun w' => w'.cell? (ad526.add ((x5_1).toNat * 4)) = some (.int .i64 ((rd_T58 l0 x5_1).f0)) ∧ w'.cell? ⟨(ad526.add ((x5_1).toNat * 4)).block, (ad526.add ((x5_1).toNat * 4)).off + 1, none⟩ = some (.slice A526_1 ((rd_T58 l0 x5_1).f1).length c526_1) ∧ w'.cell? ⟨(ad526.add ((x5_1).toNat * 4)).block, (ad526.add ((x5_1).toNat * 4)).off + 2, none⟩ = some (.slice A526_2 ((rd_T58 l0 x5_1).f2).length c526_2) ∧ w'.cell? ⟨(ad526.add ((x5_1).toNat * 4)).block, (ad526.add ((x5_1).toNat * 4)).off + 3, none⟩ = some (.slice A526_3 ((rd_T58 l0 x5_1).f3).length c526_3) ∧ w'.cell? (ad527.add ((x5_1).toNat * 4)) = some (.int .i64 ((rd_T58 l1 x5_1).f0)) ∧ w'.cell? ⟨(ad527.add ((x5_1).toNat * 4)).block, (ad527.add ((x5_1).toNat * 4)).off + 1, none⟩ = some (.slice A527_1 ((rd_T58 l1 x5_1).f1).length c527_1) ∧ w'.cell? ⟨(ad527.add ((x5_1).toNat * 4)).block, (ad527.add ((x5_1).toNat * 4)).off + 2, none⟩ = some (.slice A527_2 ((rd_T58 l1 x5_1).f2).length c527_2) ∧ w'.cell? ⟨(ad527.add ((x5_1).toNat * 4)).block, (ad527.add ((x5_1).toNat * 4)).off + 3, none⟩ = some (.slice A527_3 ((rd_T58 l1 x5_1).f3).length c527_3)) (ds := []) #[false, false, false, false, false, false, false, false, false, false] (by kernel_rfl) rfl rfl ⟨((HB.out.cell (World.block_lt_of_cell? w _ hw526_0)).trans hw526_0), ((HB.out.cell (World.block_lt_of_cell? w _ hw526_1)).trans hw526_1), ((HB.out.cell (World.block_lt_of_cell? w _ hw526_2)).trans hw526_2), ((HB.out.cell (World.block_lt_of_cell? w _ hw526_3)).trans hw526_3), ((HB.out.cell (World.block_lt_of_cell? w _ hw527_0)).trans hw527_0), ((HB.out.cell (World.block_lt_of_cell? w _ hw527_1)).trans hw527_1), ((HB.out.cell (World.block_lt_of_cell? w _ hw527_2)).trans hw527_2), ((HB.out.cell (World.block_lt_of_cell? w _ hw527_3)).trans hw527_3)⟩ (fun hHeld => ?_); refine with_tabW laws_eqChunkS.tab6 laws_eqChunkS.bits6 (fun HT_ HW_ => ?_)
        generalize wr.drew = w11 at HB HR526_1 HR526_2 HR526_3 HR527_1 HR527_2 HR527_3 hx526_0 hx526_1 hx526_2 hx526_3 hx527_0 hx527_1 hx527_2 hx527_3 hHeld ⊢
        refine pure_ (i := 0) (N := some 17) (v := ?_) (a' := ?_) #[true, false, false, false, false, false, false, false, false, false] rfl rfl (any_of HT_.out (by kernel_rfl)) (fun _ _ _ h => h) (Or.inl ⟨by rfl, ?_⟩) ?_ ?_
        rotate_left
        ·intro w'
         go_simp
         with_reducible rfl
        rotate_left
        ·simp only [Act.put, List.setIfInBounds_toArray, List.set_cons_zero, List.set_cons_succ, i64_w, i32_w]
         rfl
        refine pure_ (i := 1) (N := some 18) (v := ?_) (a' := ?_) #[true, true, false, false, false, false, false, false, false, false] rfl rfl (any_of HT_.out (by kernel_rfl)) (fun _ _ _ h => h) (Or.inl ⟨by rfl, ?_⟩) ?_ ?_
        rotate_left
        ·intro w'
         go_simp
         with_reducible rfl
        rotate_left
        ·simp only [Act.put, List.setIfInBounds_toArray, List.set_cons_zero, List.set_cons_succ, i64_w, i32_w]
         rfl
        refine pure_ (i := 2) (N := some 19) (v := ?_) (a' := ?_) #[true, true, true, false, false, false, false, false, false, false] rfl rfl (any_of HT_.out (by kernel_rfl)) (fun _ _ _ h => h) (Or.inl ⟨by rfl, ?_⟩) ?_ ?_
        rotate_left
        ·intro w'
         go_simp
         with_reducible rfl
        rotate_left
        ·simp only [Act.put, List.setIfInBounds_toArray, List.set_cons_zero, List.set_cons_succ, i64_w, i32_w]
         rfl
        refine pure_ (i := 4) (N := some 21) (v := ?_) (a' := ?_) #[true, true, true, false, true, false, false, false, false, false] rfl rfl (any_of HT_.out (by kernel_rfl)) (fun _ _ _ h => h) (Or.inl ⟨by rfl, ?_⟩) ?_ ?_
        rotate_left
        ·intro w'
         go_simp
         with_reducible rfl
        rotate_left
        ·simp only [Act.put, List.setIfInBounds_toArray, List.set_cons_zero, List.set_cons_succ, i64_w, i32_w]
         rfl
        refine pure_ (i := 5) (N := some 22) (v := ?_) (a' := ?_) #[true, true, true, false, true, true, false, false, false, false] rfl rfl (any_of HT_.out (by kernel_rfl)) (fun _ _ _ h => h) (Or.inl ⟨by rfl, ?_⟩) ?_ ?_
        rotate_left
        ·intro w'
         go_simp
         with_reducible rfl
        rotate_left
        ·simp only [Act.put, List.setIfInBounds_toArray, List.set_cons_zero, List.set_cons_succ, i64_w, i32_w]
         rfl
        refine pure_ (i := 6) (N := some 23) (v := ?_) (a' := ?_) #[true, true, true, false, true, true, true, false, false, false] rfl rfl (any_of HT_.out (by kernel_rfl)) (fun _ _ _ h => h) (Or.inl ⟨by rfl, ?_⟩) ?_ ?_
        rotate_left
        ·intro w'
         go_simp
         with_reducible rfl
        rotate_left
        ·simp only [Act.put, List.setIfInBounds_toArray, List.set_cons_zero, List.set_cons_succ, i64_w, i32_w]
         rfl
        refine take_ (i := 3) (N := some 20) (v := ?_) (a' := ?_) #[true, true, true, true, true, true, true, false, false, false] rfl rfl (take_ofW HT_.out HW_.out (by kernel_rfl)) (fun _ _ _ h => h) (Or.inl ⟨by rfl, ?_⟩) hHeld ?_ ?_
        rotate_left
        ·rintro w' ⟨s0, s1, s2, s3, s4, s5, s6, s7⟩
         go_simp
         with_reducible rfl
        rotate_left
        ·simp only [Act.put, List.setIfInBounds_toArray, List.set_cons_zero, List.set_cons_succ, i64_w, i32_w]
         rfl
        refine take_ (i := 7) (N := some 24) (v := ?_) (a' := ?_) #[true, true, true, true, true, true, true, true, false, false] rfl rfl (take_ofW HT_.out HW_.out (by kernel_rfl)) (fun _ _ _ h => h) (Or.inl ⟨by rfl, ?_⟩) hHeld ?_ ?_
        rotate_left
        ·rintro w' ⟨s0, s1, s2, s3, s4, s5, s6, s7⟩
         go_simp
         with_reducible rfl
        rotate_left
        ·simp only [Act.put, List.setIfInBounds_toArray, List.set_cons_zero, List.set_cons_succ, i64_w, i32_w]
         rfl
        refine one_ (i := 8) (N := some 25) #[true, true, true, true, true, true, true, true, true, false] rfl rfl (one_of HT_.out (by kernel_rfl)) (by decide) (fun K hK => ?_)
        refine goes_ Try.func42 (by kernel_rfl) rfl #[.agg #[.int .i64 ((rd_T58 l0 x5_1).f0), .slice A526_1 ((rd_T58 l0 x5_1).f1).length c526_1, .slice A526_2 ((rd_T58 l0 x5_1).f2).length c526_2, .slice A526_3 ((rd_T58 l0 x5_1).f3).length c526_3], .agg #[.int .i64 ((rd_T58 l1 x5_1).f0), .slice A527_1 ((rd_T58 l1 x5_1).f1).length c527_1, .slice A527_2 ((rd_T58 l1 x5_1).f2).length c527_2, .slice A527_3 ((rd_T58 l1 x5_1).f3).length c527_3]] (by rfl) rfl rfl (by (try simp only [List.map_toArray, List.map_cons, List.map_nil]); first | done | rfl | (simp only [List.length_drop, List.length_take]; rfl)) ?_
        with_reducible refine (laws_eqChunk.calls k1 ((rd_T58 l0 x5_1).f0) _ _ ((rd_T58 l0 x5_1).f1) _ _ ((rd_T58 l0 x5_1).f2) _ _ ((rd_T58 l0 x5_1).f3) ((rd_T58 l1 x5_1).f0) _ _ ((rd_T58 l1 x5_1).f1) _ _ ((rd_T58 l1 x5_1).f2) _ _ ((rd_T58 l1 x5_1).f3) false _ ?side1 ?side2 ?side3 ?side4 ?side5 ?side6 ?side7 ?side8 ?side9 ?side10 ?side11 ?side12 A7.out).mono ?_
        (case side1 => repeat (first | exact (Kd.C_below HR526_1.out HB.out) | (with_reducible refine Kd.C_alloc ?_ _) | (with_reducible refine Kd.C_drewN ?_ _) | (with_reducible refine Kd.C_drew ?_)))
        (case side2 => exact HC526_1.out)
        (case side3 => repeat (first | exact (Kd.C_below HR526_2.out HB.out) | (with_reducible refine Kd.C_alloc ?_ _) | (with_reducible refine Kd.C_drewN ?_ _) | (with_reducible refine Kd.C_drew ?_)))
        (case side4 => exact HC526_2.out)
        (case side5 => repeat (first | exact (Kd.C_below HR526_3.out HB.out) | (with_reducible refine Kd.C_alloc ?_ _) | (with_reducible refine Kd.C_drewN ?_ _) | (with_reducible refine Kd.C_drew ?_)))
        (case side6 => exact HC526_3.out)
        (case side7 => repeat (first | exact (Kd.C_below HR527_1.out HB.out) | (with_reducible refine Kd.C_alloc ?_ _) | (with_reducible refine Kd.C_drewN ?_ _) | (with_reducible refine Kd.C_drew ?_)))
        (case side8 => exact HC527_1.out)
        (case side9 => repeat (first | exact (Kd.C_below HR527_2.out HB.out) | (with_reducible refine Kd.C_alloc ?_ _) | (with_reducible refine Kd.C_drewN ?_ _) | (with_reducible refine Kd.C_drew ?_)))
        (case side10 => exact HC527_2.out)
        (case side11 => repeat (first | exact (Kd.C_below HR527_3.out HB.out) | (with_reducible refine Kd.C_alloc ?_ _) | (with_reducible refine Kd.C_drewN ?_ _) | (with_reducible refine Kd.C_drew ?_)))
        (case side12 => exact HC527_3.out)
        rintro e w12 ⟨rfl, hb⟩
        refine ⟨_, rfl, ?_⟩
        have n0_ := Aside0.mk (below_step (by repeat (first | (with_reducible first | exact HB.out | apply below_alloc | apply pw_below_drewN | apply below_drew1) | exact HB.out)) hb)
        clear HB
        have HB := n0_
        clear n0_
        (try clear hb)
        (try clear hb2)
        (try clear hk)
        (try clear hi)
        refine hK.out _ _ ⟨((HB.out.cell (World.block_lt_of_cell? w _ hw526_0)).trans hw526_0), ((HB.out.cell (World.block_lt_of_cell? w _ hw526_1)).trans hw526_1), ((HB.out.cell (World.block_lt_of_cell? w _ hw526_2)).trans hw526_2), ((HB.out.cell (World.block_lt_of_cell? w _ hw526_3)).trans hw526_3), ((HB.out.cell (World.block_lt_of_cell? w _ hw527_0)).trans hw527_0), ((HB.out.cell (World.block_lt_of_cell? w _ hw527_1)).trans hw527_1), ((HB.out.cell (World.block_lt_of_cell? w _ hw527_2)).trans hw527_2), ((HB.out.cell (World.block_lt_of_cell? w _ hw527_3)).trans hw527_3)⟩ (fun hHeld => ?_)
        clear hK K
        refine norm_ (a' := ?_) ?_ ?_
        rotate_left
        ·show Act.put _ (some 25) _ = _
         simp only [Act.put, List.setIfInBounds_toArray, List.set_cons_zero, List.set_cons_succ, i64_w, i32_w]
         rfl
        refine pure_ (i := 9) (N := some 26) (v := ?_) (a' := ?_) #[true, true, true, true, true, true, true, true, true, true] rfl rfl (any_of HT_.out (by kernel_rfl)) (fun _ _ _ h => h) (Or.inl ⟨by rfl, ?_⟩) ?_ ?_
        rotate_left
        ·intro w'
         go_simp
         with_reducible rfl
        rotate_left
        ·simp only [Act.put, List.setIfInBounds_toArray, List.set_cons_zero, List.set_cons_succ, i64_w, i32_w]
         rfl
        refine done_ (done_of HT_.out (by kernel_rfl)) ?_
        try go_wp2
        go_ret
        exact ⟨by first | rfl | (simp [errW_none, errW_some] <;> rfl) | (simp [*, errW_none, errW_some] <;> rfl), by repeat (first | (with_reducible first | exact HB.out | apply below_alloc | apply pw_below_drewN | apply below_drew1) | exact HB.out)⟩
      ·rw [if_neg c6] at H
       exact absurd H (by simp)
     ·rw [if_neg c5] at H
      exact absurd H (by simp)
    ·rw [if_neg c4] at H
     have c4b0 : decide (x5_1 < (l0.length : Int)) = false := decide_eq_false c4
     clear c4
     obtain rfl := Option.some.inj H
     go_wp2
     go_ret
     exact ⟨by first | rfl | (simp [errW_none, errW_some] <;> rfl) | (simp [*, errW_none, errW_some] <;> rfl), by repeat (first | (with_reducible first | exact HB.out | apply below_alloc | apply pw_below_drewN | apply below_drew1) | exact HB.out)⟩
 ·rw [if_neg c3] at H
  have c3b0 : ((l0.length : Int) == (l1.length : Int)) = false := beq_eq_false_iff_ne.mpr c3
  have c3b1 : ((l0.length : Int) != (l1.length : Int)) = true := bne_iff_ne.mpr c3
  have c3b2 : (l0.length == l1.length) = false := by first | simpa using c3 | (simp at c3 ⊢; omega)
  obtain rfl := Option.some.inj H
  go_enter Try.func35, Try.ntmps35
  go_wp2
  go_ret
  exact ⟨by first | rfl | (simp [errW_none, errW_some] <;> rfl) | (simp [*, errW_none, errW_some] <;> rfl), by repeat (first | (with_reducible first | exact HB.out | apply below_alloc | apply pw_below_drewN | apply below_drew1) | exact HB.out)⟩
end Go.Proofs.Ytjngmhngedecdaa.P
end
section
namespace Go.Proofs.Ytjngmhngedecdaa.P
open Go.RowKit Go.Proofs.YtjngmhngedecdaaW.PrintWords Go.Proofs.YtjngmhngedecdaaW.PrintLast Go.Proofs.YtjngmhngedecdaaW.PrintMore
attribute [local go_sem] max2_int min2_int max_two min_two max_three min_three max_four min_four
set_option linter.unusedVariables false
set_option linter.unusedSimpArgs false
theorem mark_inner1 (k : Nat) (i : Int) (xs : List S58) (ok : Nat → Prop) (g n cap : Nat) (A : Option Addr) (c : Nat) (a1 r1 : Int) (r2 : List ByteArray) (w0 w : World) (hS : Kd.S k58 58 w w0.heap.size ok (.slice (some ⟨g, 0, none⟩) n cap) xs) (h0 : 0 ≤ i) (h1 : i < (n : Int))
    (hc : w.cell? ⟨g, i.toNat * 4 + 1, none⟩ = some (.slice A ((rd_T58 xs i).f1).length c)) (hB : Below w0.heap.size w0 w) (h : laws_markStringS.f k ((rd_T58 xs i).f1) a1 = some (r1, r2)) :
    Calls Try.prog 28 #[.slice A ((rd_T58 xs i).f1).length c, .int .i64 a1] w fun e w' => e = .returned (.int .i64 r1) ∧ Kd.S k58 58 w' w0.heap.size ok (.slice (some ⟨g, 0, none⟩) n cap) (xs.set i.toNat (⟨(rd_T58 xs i).f0, r2, (rd_T58 xs i).f2, (rd_T58 xs i).f3⟩ : S58)) ∧ Below w0.heap.size w0 w' ∧ Kept w w' ok := by
  obtain ⟨oki, cs, hcl, hM, hcc, hoki, hH⟩ := Kd.S_lend hS z58 i h0 h1
  have hD := k58_openD hM
  obtain ⟨ve1, ve2, ve3, rfl, ge1, ge2, ge3⟩ := k58_openM hM
  replace hD := hD _ _ _ _ rfl
  have hv := hcc 1 _ rfl
  have he : ve1 = .slice A ((rd_T58 xs i).f1).length c := Option.some.inj (hv.symm.trans hc)
  subst he
  refine (laws_markStringS.calls k (fun k_ => some k_ = (Value.slice A ((rd_T58 xs i).f1).length c).ownBlock) _ ((rd_T58 xs i).f1) a1 r1 r2 w0 w hB (Kd.R_tight rfl ge1) h).mono (fun e w' hend => ?_)
  obtain ⟨rfl, hy, hb, hkp⟩ := hend
  refine ⟨rfl, ?_, hb, hkp.mono (fun k_ e_ => (hoki k_ (ge1.1 k_ e_.symm)).1)⟩
  have hH2 := Kd.H_step (w1 := w') hH (fun k_ _ hn hlt => hkp.2 k_ hlt (fun e_ => hn (ge1.1 k_ e_.symm)))
  exact Kd.H_back hH2 (okp := oki) (x' := (⟨(rd_T58 xs i).f0, r2, (rd_T58 xs i).f2, (rd_T58 xs i).f3⟩ : S58)) (k58_mkM _ _ _ (⟨(rd_T58 xs i).f0, r2, (rd_T58 xs i).f2, (rd_T58 xs i).f3⟩ : S58) (Kd.R_reok rfl hy (fun k_ e_ => ge1.1 k_ e_)) (Kd.R_reok rfl (Kd.R_kept (Kd.R_tight rfl ge2) hkp (fun k_ e1_ e2_ => (hD.1 k_ e2_.symm).1 e1_.symm)) (fun k_ e_ => ge2.1 k_ e_)) (Kd.R_reok rfl (Kd.R_kept (Kd.R_tight rfl ge3) hkp (fun k_ e1_ e2_ => (hD.1 k_ e2_.symm).2 e1_.symm)) (fun k_ e_ => ge3.1 k_ e_)) (hD := hD)) (fun _ hk => hk)
theorem mark_inner2 (k : Nat) (i : Int) (xs : List S58) (ok : Nat → Prop) (g n cap : Nat) (A : Option Addr) (c : Nat) (a1 r1 : Int) (r2 : List ByteArray) (w0 w : World) (hS : Kd.S k58 58 w w0.heap.size ok (.slice (some ⟨g, 0, none⟩) n cap) xs) (h0 : 0 ≤ i) (h1 : i < (n : Int))
    (hc : w.cell? ⟨g, i.toNat * 4 + 2, none⟩ = some (.slice A ((rd_T58 xs i).f2).length c)) (hB : Below w0.heap.size w0 w) (h : laws_markStringS.f k ((rd_T58 xs i).f2) a1 = some (r1, r2)) :
    Calls Try.prog 28 #[.slice A ((rd_T58 xs i).f2).length c, .int .i64 a1] w fun e w' => e = .returned (.int .i64 r1) ∧ Kd.S k58 58 w' w0.heap.size ok (.slice (some ⟨g, 0, none⟩) n cap) (xs.set i.toNat (⟨(rd_T58 xs i).f0, (rd_T58 xs i).f1, r2, (rd_T58 xs i).f3⟩ : S58)) ∧ Below w0.heap.size w0 w' ∧ Kept w w' ok := by
  obtain ⟨oki, cs, hcl, hM, hcc, hoki, hH⟩ := Kd.S_lend hS z58 i h0 h1
  have hD := k58_openD hM
  obtain ⟨ve1, ve2, ve3, rfl, ge1, ge2, ge3⟩ := k58_openM hM
  replace hD := hD _ _ _ _ rfl
  have hv := hcc 2 _ rfl
  have he : ve2 = .slice A ((rd_T58 xs i).f2).length c := Option.some.inj (hv.symm.trans hc)
  subst he
  refine (laws_markStringS.calls k (fun k_ => some k_ = (Value.slice A ((rd_T58 xs i).f2).length c).ownBlock) _ ((rd_T58 xs i).f2) a1 r1 r2 w0 w hB (Kd.R_tight rfl ge2) h).mono (fun e w' hend => ?_)
  obtain ⟨rfl, hy, hb, hkp⟩ := hend
  refine ⟨rfl, ?_, hb, hkp.mono (fun k_ e_ => (hoki k_ (ge2.1 k_ e_.symm)).1)⟩
  have hH2 := Kd.H_step (w1 := w') hH (fun k_ _ hn hlt => hkp.2 k_ hlt (fun e_ => hn (ge2.1 k_ e_.symm)))
  exact Kd.H_back hH2 (okp := oki) (x' := (⟨(rd_T58 xs i).f0, (rd_T58 xs i).f1, r2, (rd_T58 xs i).f3⟩ : S58)) (k58_mkM _ _ _ (⟨(rd_T58 xs i).f0, (rd_T58 xs i).f1, r2, (rd_T58 xs i).f3⟩ : S58) (Kd.R_reok rfl (Kd.R_kept (Kd.R_tight rfl ge1) hkp (fun k_ e1_ e2_ => (hD.1 k_ e1_.symm).1 e2_.symm)) (fun k_ e_ => ge1.1 k_ e_)) (Kd.R_reok rfl hy (fun k_ e_ => ge2.1 k_ e_)) (Kd.R_reok rfl (Kd.R_kept (Kd.R_tight rfl ge3) hkp (fun k_ e1_ e2_ => hD.2 k_ e2_.symm e1_.symm)) (fun k_ e_ => ge3.1 k_ e_)) (hD := hD)) (fun _ hk => hk)
theorem mark_inner3 (k : Nat) (i : Int) (xs : List S58) (ok : Nat → Prop) (g n cap : Nat) (A : Option Addr) (c : Nat) (a1 r1 : Int) (r2 : List ByteArray) (w0 w : World) (hS : Kd.S k58 58 w w0.heap.size ok (.slice (some ⟨g, 0, none⟩) n cap) xs) (h0 : 0 ≤ i) (h1 : i < (n : Int))
    (hc : w.cell? ⟨g, i.toNat * 4 + 3, none⟩ = some (.slice A ((rd_T58 xs i).f3).length c)) (hB : Below w0.heap.size w0 w) (h : laws_markStringS.f k ((rd_T58 xs i).f3) a1 = some (r1, r2)) :
    Calls Try.prog 28 #[.slice A ((rd_T58 xs i).f3).length c, .int .i64 a1] w fun e w' => e = .returned (.int .i64 r1) ∧ Kd.S k58 58 w' w0.heap.size ok (.slice (some ⟨g, 0, none⟩) n cap) (xs.set i.toNat (⟨(rd_T58 xs i).f0, (rd_T58 xs i).f1, (rd_T58 xs i).f2, r2⟩ : S58)) ∧ Below w0.heap.size w0 w' ∧ Kept w w' ok := by
  obtain ⟨oki, cs, hcl, hM, hcc, hoki, hH⟩ := Kd.S_lend hS z58 i h0 h1
  have hD := k58_openD hM
  obtain ⟨ve1, ve2, ve3, rfl, ge1, ge2, ge3⟩ := k58_openM hM
  replace hD := hD _ _ _ _ rfl
  have hv := hcc 3 _ rfl
  have he : ve3 = .slice A ((rd_T58 xs i).f3).length c := Option.some.inj (hv.symm.trans hc)
  subst he
  refine (laws_markStringS.calls k (fun k_ => some k_ = (Value.slice A ((rd_T58 xs i).f3).length c).ownBlock) _ ((rd_T58 xs i).f3) a1 r1 r2 w0 w hB (Kd.R_tight rfl ge3) h).mono (fun e w' hend => ?_)
  obtain ⟨rfl, hy, hb, hkp⟩ := hend
  refine ⟨rfl, ?_, hb, hkp.mono (fun k_ e_ => (hoki k_ (ge3.1 k_ e_.symm)).1)⟩
  have hH2 := Kd.H_step (w1 := w') hH (fun k_ _ hn hlt => hkp.2 k_ hlt (fun e_ => hn (ge3.1 k_ e_.symm)))
  exact Kd.H_back hH2 (okp := oki) (x' := (⟨(rd_T58 xs i).f0, (rd_T58 xs i).f1, (rd_T58 xs i).f2, r2⟩ : S58)) (k58_mkM _ _ _ (⟨(rd_T58 xs i).f0, (rd_T58 xs i).f1, (rd_T58 xs i).f2, r2⟩ : S58) (Kd.R_reok rfl (Kd.R_kept (Kd.R_tight rfl ge1) hkp (fun k_ e1_ e2_ => (hD.1 k_ e1_.symm).2 e2_.symm)) (fun k_ e_ => ge1.1 k_ e_)) (Kd.R_reok rfl (Kd.R_kept (Kd.R_tight rfl ge2) hkp (fun k_ e1_ e2_ => hD.2 k_ e1_.symm e2_.symm)) (fun k_ e_ => ge2.1 k_ e_)) (Kd.R_reok rfl hy (fun k_ e_ => ge3.1 k_ e_)) (hD := hD)) (fun _ hk => hk)
def laws_markChunkS.l0 : Nat → List (S58) → Int → Int → Option (Int × (List (S58)))
  | 0, _, _, _ => none
  | k + 1, x0, x1, x5 => if x5 < (x0.length : Int) then (if 0 ≤ x5 then ((some (x0.set (x5 : Int).toNat (⟨x1, (rd_T58 x0 x5).f1, (rd_T58 x0 x5).f2, (rd_T58 x0 x5).f3⟩ : S58) : List (S58))).bind fun y520 => ((laws_markStringS.f k ((rd_T58 y520 x5).f1) (wrap64 (x1 + 1))).bind fun bt522 => ((some (y520.set (x5 : Int).toNat (⟨(rd_T58 y520 x5).f0, bt522.2, (rd_T58 y520 x5).f2, (rd_T58 y520 x5).f3⟩ : S58)) : Option (List (S58))).bind fun yy1 => ((laws_markStringS.f k ((rd_T58 yy1 x5).f2) bt522.1).bind fun bt524 => ((some (yy1.set (x5 : Int).toNat (⟨(rd_T58 yy1 x5).f0, (rd_T58 yy1 x5).f1, bt524.2, (rd_T58 yy1 x5).f3⟩ : S58)) : Option (List (S58))).bind fun yy2 => ((laws_markStringS.f k ((rd_T58 yy2 x5).f3) bt524.1).bind fun bt526 => ((some (yy2.set (x5 : Int).toNat (⟨(rd_T58 yy2 x5).f0, (rd_T58 yy2 x5).f1, (rd_T58 yy2 x5).f2, bt526.2⟩ : S58)) : Option (List (S58))).bind fun yy3 => (laws_markChunkS.l0 k yy3 bt526.1 (wrap64 (x5 + 1)))))))))) else (none)) else (some (x1, x0))
def laws_markChunkS.f (k : Nat) (l0 : List (S58)) (a1 : Int) : Option (Int × (List (S58))) := laws_markChunkS.l0 k l0 a1 0
theorem laws_markChunkS.mono_l : ∀ k, (∀ y0 y1 y2, LeO (laws_markChunkS.l0 k y0 y1 y2) (laws_markChunkS.l0 (k + 1) y0 y1 y2))
  | 0 => fun _ _ _ r h => by simp [laws_markChunkS.l0] at h
  | k + 1 => by
    have ih0 := laws_markChunkS.mono_l k
    · intro y0 y1 y2
      unfold laws_markChunkS.l0
      repeat' first
      | (with_reducible exact ih0 _ _ _)
      | (with_reducible exact laws_markStringS.mono _ _ _)
      | (with_reducible exact LeO.refl _)
      | (with_reducible exact LeO.none _)
      | (with_reducible refine LeO.ite ?_ ?_)
      | (with_reducible refine LeO.bind ?_ (fun _ => ?_))
      | exact ih0 _ _ _
      | exact laws_markStringS.mono _ _ _
      | exact LeO.none _
      | refine LeO.ite ?_ ?_
      | refine LeO.bind ?_ (fun _ => ?_)
theorem laws_markChunkS.mono : ∀ a0 a1 k, LeO (laws_markChunkS.f k a0 a1) (laws_markChunkS.f (k + 1) a0 a1) := by
  intro a0 a1 k
  have ih0 := laws_markChunkS.mono_l k
  unfold laws_markChunkS.f
  repeat' first
      | (with_reducible exact ih0 _ _ _)
      | (with_reducible exact laws_markStringS.mono _ _ _)
      | (with_reducible exact LeO.refl _)
      | (with_reducible exact LeO.none _)
      | (with_reducible refine LeO.ite ?_ ?_)
      | (with_reducible refine LeO.bind ?_ (fun _ => ?_))
      | exact ih0 _ _ _
      | exact laws_markStringS.mono _ _ _
      | exact LeO.none _
      | refine LeO.ite ?_ ?_
      | refine LeO.bind ?_ (fun _ => ?_)
set_option maxHeartbeats 8000000 in
set_option maxRecDepth 100000 in
theorem laws_markChunkS.calls (k : Nat) (P0_ : Nat → Prop) (u9000_ : Value) (l0 : List (S58)) (a1 : Int) (r1 : Int) (r2 : List (S58)) (w0 w : World) (hB : Below w0.heap.size w0 w) (ho0 : Kd.S k58 58 w w0.heap.size P0_ u9000_ l0) (h : laws_markChunkS.f k l0 a1 = some (r1, r2)) :
    Calls Try.prog 36 #[u9000_, .int .i64 a1] w fun e w' => e = .returned (.int .i64 r1) ∧ Kd.S k58 58 w' w0.heap.size (fun k_ => P0_ k_) u9000_ r2 ∧ Below w0.heap.size w0 w' ∧ Kept w w' (fun k_ => P0_ k_) := by
  have HO0 := Aside0.mk (show Kd.S k58 58 w w0.heap.size (fun k_ => P0_ k_) u9000_ l0 from Kd.S_mono ho0 (fun k_ hk => hk))
  have HK := Aside0.mk (Kept.refl w (fun k_ => P0_ k_))
  have HW0 := Aside0.mk hB.size
  have HB := Aside0.mk hB
  clear hB
  have H : (laws_markChunkS.l0 k l0 a1 0) = some (r1, r2) := h
  clear h
  have H' := Aside0.mk H
  clear H
  go_enter Try.func36, Try.ntmps36
  go_wp2
  go_loopg [1, 5] k (fun kq v1 v5 w' => ∃ (x0_1 : List (S58)) (x1_1 : Int) (x5_1 : Int), v1 = .int .i64 x1_1 ∧ v5 = .int .i64 x5_1 ∧ Aside0 (laws_markChunkS.l0 kq x0_1 x1_1 x5_1 = some (r1, r2)) ∧ Aside0 (kq ≤ k) ∧ Aside0 (Kd.S k58 58 w' w0.heap.size (fun k_ => P0_ k_) u9000_ x0_1) ∧ Aside0 (Kept w w' (fun k_ => P0_ k_)) ∧ Aside0 (Below w0.heap.size w0 w'))
  case atStart => exact ⟨(l0), (a1), (0), (by first | rfl | (simp; done) | (simp [*]; done)), (by first | rfl | (simp; done) | (simp [*]; done)), H', ⟨Nat.le_refl _⟩, ⟨by (with_reducible repeat (first | apply Kd.S_alloc | apply Kd.S_drewN | apply Kd.S_drew)); exact HO0.out⟩, ⟨by repeat (first | (with_reducible first | exact HK.out | apply Kept.alloc | apply Kept.drewN | apply Kept.drew) | exact HK.out)⟩, ⟨by repeat (first | (with_reducible first | exact HB.out | apply below_alloc | apply pw_below_drewN | apply below_drew1) | exact HB.out)⟩⟩
  case round =>
    clear H'
    try clear p2
    obtain ⟨x0_1, x1_1, x5_1, rfl, rfl, HA, HK1, HO_0, HK, HB⟩ := hrel
    cases gk with
    | zero => exact absurd HA.out (by simp [laws_markChunkS.l0])
    | succ k1 =>
      have H := HA.out
      clear HA
      simp only [laws_markChunkS.l0] at H
      by_cases c3 : x5_1 < (x0_1.length : Int)
      · rw [if_pos c3] at H
        have c3b0 : decide (x5_1 < (x0_1.length : Int)) = true := decide_eq_true c3
        clear c3
        by_cases c4 : 0 ≤ x5_1
        · rw [if_pos c4] at H
          have c4b0 : decide (0 ≤ x5_1) = true := decide_eq_true c4
          clear c4
          obtain ⟨y520, hy520⟩ : ∃ y_ : List (S58), y_ = (x0_1.set (x5_1 : Int).toNat (⟨x1_1, (rd_T58 x0_1 x5_1).f1, (rd_T58 x0_1 x5_1).f2, (rd_T58 x0_1 x5_1).f3⟩ : S58)) := ⟨_, rfl⟩
          replace H : ((laws_markStringS.f k1 ((rd_T58 y520 x5_1).f1) (wrap64 (x1_1 + 1))).bind fun bt522 => ((some (y520.set (x5_1 : Int).toNat (⟨(rd_T58 y520 x5_1).f0, bt522.2, (rd_T58 y520 x5_1).f2, (rd_T58 y520 x5_1).f3⟩ : S58)) : Option (List (S58))).bind fun yy1 => ((laws_markStringS.f k1 ((rd_T58 yy1 x5_1).f2) bt522.1).bind fun bt524 => ((some (yy1.set (x5_1 : Int).toNat (⟨(rd_T58 yy1 x5_1).f0, (rd_T58 yy1 x5_1).f1, bt524.2, (rd_T58 yy1 x5_1).f3⟩ : S58)) : Option (List (S58))).bind fun yy2 => ((laws_markStringS.f k1 ((rd_T58 yy2 x5_1).f3) bt524.1).bind fun bt526 => ((some (yy2.set (x5_1 : Int).toNat (⟨(rd_T58 yy2 x5_1).f0, (rd_T58 yy2 x5_1).f1, (rd_T58 yy2 x5_1).f2, bt526.2⟩ : S58)) : Option (List (S58))).bind fun yy3 => (laws_markChunkS.l0 k1 yy3 bt526.1 (wrap64 (x5_1 + 1))))))))) = some (r1, r2) := by first | (rw [hy520]; with_reducible exact H) | (have H2_ := (Option.bind_some _ _).symm.trans H; rw [hy520]; with_reducible exact H2_) | (rw [hy520]; exact H) | exact H
          have Ny520 := Aside0.mk hy520
          clear hy520
          replace H := Option.bind_eq_some_iff.mp H
          obtain ⟨⟨t522, lt522⟩, Az, H⟩ := H
          have A6 := Aside0.mk Az
          clear Az
          obtain ⟨yy1, hyy1⟩ : ∃ y_ : List (S58), y_ = (y520.set (x5_1 : Int).toNat (⟨(rd_T58 y520 x5_1).f0, lt522, (rd_T58 y520 x5_1).f2, (rd_T58 y520 x5_1).f3⟩ : S58)) := ⟨_, rfl⟩
          replace H := (Option.bind_some _ _).symm.trans H
          replace H : ((laws_markStringS.f k1 ((rd_T58 yy1 x5_1).f2) t522).bind fun bt524 => ((some (yy1.set (x5_1 : Int).toNat (⟨(rd_T58 yy1 x5_1).f0, (rd_T58 yy1 x5_1).f1, bt524.2, (rd_T58 yy1 x5_1).f3⟩ : S58)) : Option (List (S58))).bind fun yy2 => ((laws_markStringS.f k1 ((rd_T58 yy2 x5_1).f3) bt524.1).bind fun bt526 => ((some (yy2.set (x5_1 : Int).toNat (⟨(rd_T58 yy2 x5_1).f0, (rd_T58 yy2 x5_1).f1, (rd_T58 yy2 x5_1).f2, bt526.2⟩ : S58)) : Option (List (S58))).bind fun yy3 => (laws_markChunkS.l0 k1 yy3 bt526.1 (wrap64 (x5_1 + 1))))))) = some (r1, r2) := by rw [hyy1]; first | with_reducible exact H | exact H
          have Nyy1 := Aside0.mk hyy1
          clear hyy1
          replace H := Option.bind_eq_some_iff.mp H
          obtain ⟨⟨t524, lt524⟩, Az, H⟩ := H
          have A7 := Aside0.mk Az
          clear Az
          obtain ⟨yy2, hyy2⟩ : ∃ y_ : List (S58), y_ = (yy1.set (x5_1 : Int).toNat (⟨(rd_T58 yy1 x5_1).f0, (rd_T58 yy1 x5_1).f1, lt524, (rd_T58 yy1 x5_1).f3⟩ : S58)) := ⟨_, rfl⟩
          replace H := (Option.bind_some _ _).symm.trans H
          replace H : ((laws_markStringS.f k1 ((rd_T58 yy2 x5_1).f3) t524).bind fun bt526 => ((some (yy2.set (x5_1 : Int).toNat (⟨(rd_T58 yy2 x5_1).f0, (rd_T58 yy2 x5_1).f1, (rd_T58 yy2 x5_1).f2, bt526.2⟩ : S58)) : Option (List (S58))).bind fun yy3 => (laws_markChunkS.l0 k1 yy3 bt526.1 (wrap64 (x5_1 + 1))))) = some (r1, r2) := by rw [hyy2]; first | with_reducible exact H | exact H
          have Nyy2 := Aside0.mk hyy2
          clear hyy2
          replace H := Option.bind_eq_some_iff.mp H
          obtain ⟨⟨t526, lt526⟩, Az, H⟩ := H
          have A8 := Aside0.mk Az
          clear Az
          obtain ⟨yy3, hyy3⟩ : ∃ y_ : List (S58), y_ = (yy2.set (x5_1 : Int).toNat (⟨(rd_T58 yy2 x5_1).f0, (rd_T58 yy2 x5_1).f1, (rd_T58 yy2 x5_1).f2, lt526⟩ : S58)) := ⟨_, rfl⟩
          replace H := (Option.bind_some _ _).symm.trans H
          replace H : (laws_markChunkS.l0 k1 yy3 t526 (wrap64 (x5_1 + 1))) = some (r1, r2) := by rw [hyy3]; first | with_reducible exact H | exact H
          have Nyy3 := Aside0.mk hyy3
          clear hyy3
          have H' := Aside0.mk H
          clear H
          obtain ⟨Ao9, co9, eo9⟩ := Kd.S_slice HO_0.out
          subst eo9
          have p5 : 0 ≤ (x5_1 : Int) := of_decide_eq_true (by first | (with_reducible assumption) | assumption)
          have q5 : (x5_1 : Int) < ((x0_1.length : Int) : Int) := of_decide_eq_true (by first | (with_reducible assumption) | assumption)
          obtain ⟨go5, co5, eo5, gb5, gl5, cl5, HG5⟩ := Kd.S_form HO_0.out (by omega)
          (first | cases eo5 | (injection eo5 with ea_ en_ ec_; (first | subst ea_ | (injection ea_ with ea_; subst ea_)); subst ec_; clear en_))
          have GB5 := Aside0.mk gb5
          have GG5 := Aside0.mk HG5
          clear gb5 gl5 HG5
          have HMgo5 := Aside0.mk (show P0_ go5 from ((Kd.S_R HO_0.out).1 _ rfl))
          obtain ⟨_, ce5, hcl5, hM5, hcc5, hfr5, _, _⟩ := Kd.S_elem HO_0.out z58 (x5_1 : Int) p5 q5
          obtain ⟨ve5_1, ve5_2, ve5_3, rfl, ge5_1, ge5_2, ge5_3⟩ := k58_openM hM5
          have hx5_0 : wr.cell? ⟨go5, (x5_1 : Int).toNat * 4, none⟩ = some (.int .i64 ((rd_T58 x0_1 x5_1).f0)) := hcc5 0 _ rfl
          have hx5_1 : wr.cell? ⟨go5, (x5_1 : Int).toNat * 4 + 1, none⟩ = some (ve5_1) := hcc5 1 _ rfl
          have hx5_2 : wr.cell? ⟨go5, (x5_1 : Int).toNat * 4 + 2, none⟩ = some (ve5_2) := hcc5 2 _ rfl
          have hx5_3 : wr.cell? ⟨go5, (x5_1 : Int).toNat * 4 + 3, none⟩ = some (ve5_3) := hcc5 3 _ rfl
          have hf5_0 : wr.frozen? ⟨go5, (x5_1 : Int).toNat * 4, none⟩ = false := hfr5 0
          have hf5_1 : wr.frozen? ⟨go5, (x5_1 : Int).toNat * 4 + 1, none⟩ = false := hfr5 1
          have hf5_2 : wr.frozen? ⟨go5, (x5_1 : Int).toNat * 4 + 2, none⟩ = false := hfr5 2
          have hf5_3 : wr.frozen? ⟨go5, (x5_1 : Int).toNat * 4 + 3, none⟩ = false := hfr5 3
          ((try clear hM5); clear hcl5 hcc5 hfr5)
          replace p5 := eq_true p5
          replace q5 := eq_true q5
          have HX10 := Aside0.mk (show Kd.S k58 58 wr w0.heap.size (fun k_ => ((fun k_ => P0_ k_)) k_ ∧ ¬ ((fun _ => False)) k_) (.slice (some ⟨go5, 0, none⟩) x0_1.length co9) x0_1 from (by (with_reducible repeat (first | apply Kd.S_alloc | apply Kd.S_drewN | apply Kd.S_drew)); exact Kd.S_mono HO_0.out (fun k_ hk => ⟨hk, fun e_ => e_⟩)))
          obtain ⟨oki10, ce10, hcl10, hM10, hcc10, hfr10, hoki10, hH10⟩ := Kd.S_elem HX10.out z58 (x5_1 : Int) (of_decide_eq_true (by first | (with_reducible assumption) | assumption)) (by have h_ : (x5_1 : Int) < ((x0_1.length : Int) : Int) := of_decide_eq_true (by first | (with_reducible assumption) | assumption); first | exact h_ | (have e_ := (Kd.S_reads' HO_0.out).1; omega) | simpa using h_)
          have hD_hM10 := k58_openD hM10
          obtain ⟨ve10_1, ve10_2, ve10_3, rfl, ge10_1, ge10_2, ge10_3⟩ := k58_openM hM10
          replace hD_hM10 := hD_hM10 _ _ _ _ rfl
          have HP10 := Kd.S_seg hH10 (of_decide_eq_true (by first | (with_reducible assumption) | assumption)) (by have h_ : (x5_1 : Int) < ((x0_1.length : Int) : Int) := of_decide_eq_true (by first | (with_reducible assumption) | assumption); first | exact h_ | (have e_ := (Kd.S_reads' HO_0.out).1; omega) | simpa using h_) (seg := [.int .i64 x1_1]) (j := 0) (show 1 ≤ 4 from by decide) (x' := (⟨x1_1, (rd_T58 x0_1 x5_1).f1, (rd_T58 x0_1 x5_1).f2, (rd_T58 x0_1 x5_1).f3⟩ : S58)) (k58_mkM _ _ _ (⟨x1_1, (rd_T58 x0_1 x5_1).f1, (rd_T58 x0_1 x5_1).f2, (rd_T58 x0_1 x5_1).f3⟩ : S58) (Kd.R_mono ge10_1 (fun _ h_ => Or.inl h_)) (Kd.R_mono ge10_2 (fun _ h_ => Or.inl h_)) (Kd.R_mono ge10_3 (fun _ h_ => Or.inl h_))) (fun _ hk => hk) (fun k_ hk_ => hk_.elim)
          have hx10_0 := hcc10 0 _ rfl
          (try simp only [show (k58).sz = 4 from rfl, Nat.mul_one, Nat.add_zero] at hx10_0)
          have hf10_0 := hfr10 0
          (try simp only [show (k58).sz = 4 from rfl, Nat.mul_one, Nat.add_zero] at hf10_0)
          ((try clear hM10); clear hcl10 hcc10 hfr10 hoki10 hH10)
          go_wp2_with (first | ((with_reducible refine gate_store (t := 2) (p := 16) rfl ?_); refine store_event (t := 2) (p := 16) (v := ?vo_w11) (w1 := (wr.setCell ⟨go5, (x5_1 : Int).toNat * 4, none⟩ (.int .i64 x1_1))) ?hg ?ho ?hn ?hr ?_; (case ho => rfl); (case hg => rfl); (case hn => rfl); (case hr => first | (go_simp; done) | (go_simp; rfl)); intro w11 hw; have hg : wr.grownBy w11 (some go5) := (by rw [hw]; exact HP10.2); have hp_ : Kd.S k58 58 w11 w0.heap.size (fun k_ => P0_ k_) (.slice (some ⟨go5, 0, none⟩) x0_1.length co9) y520 := (by rw [hw, Ny520.out]; exact HP10.1); clear HP10; have n0_ := Aside0.mk (hp_); have n1_ := Aside0.mk ((by rw [hw]; exact below_set (HB.out) GB5.out : Below w0.heap.size w0 w11)); have n2_ := Aside0.mk (Kept.of_grown (S := (fun k_ => P0_ k_)) hg (by repeat (first | (with_reducible first | exact HK.out | apply Kept.alloc | apply Kept.drewN | apply Kept.drew) | exact HK.out)) (fun k_ e_ => .inl ((Kd.S_R HO_0.out).1 k_ e_))); clear HO_0; clear HB; clear HK; have HO_0 := n0_; have HB := n1_; have HK := n2_; clear n0_ n1_ n2_; clear hg hw hp_; have p521 : 0 ≤ (x5_1 : Int) := of_decide_eq_true (by first | (with_reducible assumption) | assumption); have q521 : x5_1 < (y520.length : Int) := (by have h_ : (x5_1 : Int) < ((x0_1.length : Int) : Int) := of_decide_eq_true (by first | (with_reducible assumption) | assumption); first | (have e_ := (Kd.S_reads' HO_0.out).1; omega) | simpa only [Ny520.out, List.length_set] using h_); have ql521 : ((x5_1 : Int) < ((x0_1.length : Int) : Int)) = True := eq_true (of_decide_eq_true (by first | (with_reducible assumption) | assumption)); obtain ⟨ad521, A521_1, c521_1, A521_2, c521_2, A521_3, c521_3, e521, hx521_0, hx521_1, hx521_2, hx521_3, hl521_1, hi521_1, hl521_2, hi521_2, hl521_3, hi521_3⟩ := at_T58 (Kd.S_reads' HO_0.out).2.2 x5_1 p521 q521; obtain rfl : (⟨go5, 0, none⟩ : Addr) = ad521 := (by injection e521); obtain ⟨ce521, hce521, hMe521, hcc521⟩ := Kd.S_get HO_0.out z58 x5_1 p521 (by first | exact q521 | exact of_decide_eq_true (by first | (with_reducible assumption) | assumption) | (have e_ := (Kd.S_reads' HO_0.out).1; omega)); obtain ⟨ve521_1, ve521_2, ve521_3, rfl, ge521_1, ge521_2, ge521_3⟩ := k58_openM hMe521; have hv521_1 := hcc521 1 _ rfl; rw [add_field _ _ 1 (by omega)] at hv521_1; replace hv521_1 := Option.some.inj (hv521_1.symm.trans hx521_1); rw [hv521_1] at ge521_1; have HL521_1 := Aside0.mk (show Kd.R Kd.string 9 _ _ _ _ ((rd_T58 y520 x5_1).f1) from ge521_1); clear hv521_1 ge521_1; have hv521_2 := hcc521 2 _ rfl; rw [add_field _ _ 2 (by omega)] at hv521_2; replace hv521_2 := Option.some.inj (hv521_2.symm.trans hx521_2); rw [hv521_2] at ge521_2; have HL521_2 := Aside0.mk (show Kd.R Kd.string 9 _ _ _ _ ((rd_T58 y520 x5_1).f2) from ge521_2); clear hv521_2 ge521_2; have hv521_3 := hcc521 3 _ rfl; rw [add_field _ _ 3 (by omega)] at hv521_3; replace hv521_3 := Option.some.inj (hv521_3.symm.trans hx521_3); rw [hv521_3] at ge521_3; have HL521_3 := Aside0.mk (show Kd.R Kd.string 9 _ _ _ _ ((rd_T58 y520 x5_1).f3) from ge521_3); clear hv521_3 ge521_3; clear hcc521 hce521; (first | simp only [add_plain] at hx521_0 | simp only [add_at] at hx521_0 | simp only [Addr.add, Nat.zero_add] at hx521_0 | skip); (first | simp only [add_plain] at hx521_1 | simp only [add_at] at hx521_1 | simp only [Addr.add, Nat.zero_add] at hx521_1 | skip); (first | simp only [add_plain] at hx521_2 | simp only [add_at] at hx521_2 | simp only [Addr.add, Nat.zero_add] at hx521_2 | skip); (first | simp only [add_plain] at hx521_3 | simp only [add_at] at hx521_3 | simp only [Addr.add, Nat.zero_add] at hx521_3 | skip); have HR521_1 := Aside0.mk hi521_1; have HC521_1 := Aside0.mk hl521_1; clear hi521_1 hl521_1; have HR521_2 := Aside0.mk hi521_2; have HC521_2 := Aside0.mk hl521_2; clear hi521_2 hl521_2; have HR521_3 := Aside0.mk hi521_3; have HC521_3 := Aside0.mk hl521_3; clear hi521_3 hl521_3; replace p521 := eq_true p521; replace q521 := eq_true q521) | ((with_reducible refine gate_callee (f := 28) rfl ?_); refine goesL_ (some 25) rfl rfl Try.func28 (by kernel_rfl) rfl #[.slice A521_1 ((rd_T58 y520 x5_1).f1).length c521_1, .int .i64 (wrap64 (x1_1 + 1))] rfl (by (try simp only [List.map_toArray, List.map_cons, List.map_nil]); first | done | rfl | (simp only [List.length_drop, List.length_take]; rfl)) ?_; (with_reducible refine (mark_inner1 k1 x5_1 y520 (fun k_ => P0_ k_) go5 x0_1.length co9 A521_1 c521_1 (wrap64 (x1_1 + 1)) t522 lt522 w0 _ ?side1 ?side2 ?side3 ?side4 ?side5 A6.out).mono ?_); (case side1 => exact (by (with_reducible repeat (first | apply Kd.S_alloc | apply Kd.S_drewN | apply Kd.S_drew)); exact HO_0.out)); (case side2 => exact of_decide_eq_true (by first | (with_reducible assumption) | assumption)); (case side3 => exact of_decide_eq_true (by first | (with_reducible assumption) | assumption)); (case side4 => exact hx521_1); (case side5 => repeat (first | (with_reducible first | exact HB.out | apply below_alloc | apply pw_below_drewN | apply below_drew1) | exact HB.out)); rintro e w12 ⟨rfl, hS_, hb, hkp⟩; refine ⟨_, rfl, ?_⟩; have n0_ := Aside0.mk (show Kd.S k58 58 w12 w0.heap.size (fun k_ => P0_ k_) (.slice (some ⟨go5, 0, none⟩) x0_1.length co9) yy1 from (by rw [Nyy1.out]; exact hS_)); have n3_ := Aside0.mk (Kept.then_ (S := (fun k_ => P0_ k_)) (by repeat (first | (with_reducible first | exact HK.out | apply Kept.alloc | apply Kept.drewN | apply Kept.drew) | exact HK.out)) hkp (fun k_ hs_ => .inl hs_)); have n4_ := Aside0.mk hb; clear HO_0; clear HK; clear HB; clear HL521_1; clear HL521_2; clear HL521_3; clear HR521_1; clear HR521_2; clear HR521_3; have HO_0 := n0_; have HK := n3_; have HB := n4_; clear n0_ n3_ n4_; (try clear hb); (try clear hkp); (try clear hS_); have p523 : 0 ≤ (x5_1 : Int) := of_decide_eq_true (by first | (with_reducible assumption) | assumption); have q523 : x5_1 < (yy1.length : Int) := (by have h_ : (x5_1 : Int) < ((x0_1.length : Int) : Int) := of_decide_eq_true (by first | (with_reducible assumption) | assumption); first | (have e_ := (Kd.S_reads' HO_0.out).1; omega) | simpa only [Ny520.out, List.length_set] using h_); have ql523 : ((x5_1 : Int) < ((x0_1.length : Int) : Int)) = True := eq_true (of_decide_eq_true (by first | (with_reducible assumption) | assumption)); obtain ⟨ad523, A523_1, c523_1, A523_2, c523_2, A523_3, c523_3, e523, hx523_0, hx523_1, hx523_2, hx523_3, hl523_1, hi523_1, hl523_2, hi523_2, hl523_3, hi523_3⟩ := at_T58 (Kd.S_reads' HO_0.out).2.2 x5_1 p523 q523; obtain rfl : (⟨go5, 0, none⟩ : Addr) = ad523 := (by injection e523); obtain ⟨ce523, hce523, hMe523, hcc523⟩ := Kd.S_get HO_0.out z58 x5_1 p523 (by first | exact q523 | exact of_decide_eq_true (by first | (with_reducible assumption) | assumption) | (have e_ := (Kd.S_reads' HO_0.out).1; omega)); obtain ⟨ve523_1, ve523_2, ve523_3, rfl, ge523_1, ge523_2, ge523_3⟩ := k58_openM hMe523; have hv523_1 := hcc523 1 _ rfl; rw [add_field _ _ 1 (by omega)] at hv523_1; replace hv523_1 := Option.some.inj (hv523_1.symm.trans hx523_1); rw [hv523_1] at ge523_1; have HL523_1 := Aside0.mk (show Kd.R Kd.string 9 _ _ _ _ ((rd_T58 yy1 x5_1).f1) from ge523_1); clear hv523_1 ge523_1; have hv523_2 := hcc523 2 _ rfl; rw [add_field _ _ 2 (by omega)] at hv523_2; replace hv523_2 := Option.some.inj (hv523_2.symm.trans hx523_2); rw [hv523_2] at ge523_2; have HL523_2 := Aside0.mk (show Kd.R Kd.string 9 _ _ _ _ ((rd_T58 yy1 x5_1).f2) from ge523_2); clear hv523_2 ge523_2; have hv523_3 := hcc523 3 _ rfl; rw [add_field _ _ 3 (by omega)] at hv523_3; replace hv523_3 := Option.some.inj (hv523_3.symm.trans hx523_3); rw [hv523_3] at ge523_3; have HL523_3 := Aside0.mk (show Kd.R Kd.string 9 _ _ _ _ ((rd_T58 yy1 x5_1).f3) from ge523_3); clear hv523_3 ge523_3; clear hcc523 hce523; (first | simp only [add_plain] at hx523_0 | simp only [add_at] at hx523_0 | simp only [Addr.add, Nat.zero_add] at hx523_0 | skip); (first | simp only [add_plain] at hx523_1 | simp only [add_at] at hx523_1 | simp only [Addr.add, Nat.zero_add] at hx523_1 | skip); (first | simp only [add_plain] at hx523_2 | simp only [add_at] at hx523_2 | simp only [Addr.add, Nat.zero_add] at hx523_2 | skip); (first | simp only [add_plain] at hx523_3 | simp only [add_at] at hx523_3 | simp only [Addr.add, Nat.zero_add] at hx523_3 | skip); have HR523_1 := Aside0.mk hi523_1; have HC523_1 := Aside0.mk hl523_1; clear hi523_1 hl523_1; have HR523_2 := Aside0.mk hi523_2; have HC523_2 := Aside0.mk hl523_2; clear hi523_2 hl523_2; have HR523_3 := Aside0.mk hi523_3; have HC523_3 := Aside0.mk hl523_3; clear hi523_3 hl523_3; replace p523 := eq_true p523; replace q523 := eq_true q523) | ((with_reducible refine gate_callee (f := 28) rfl ?_); refine goesL_ (some 32) rfl rfl Try.func28 (by kernel_rfl) rfl #[.slice A523_2 ((rd_T58 yy1 x5_1).f2).length c523_2, .int .i64 t522] rfl (by (try simp only [List.map_toArray, List.map_cons, List.map_nil]); first | done | rfl | (simp only [List.length_drop, List.length_take]; rfl)) ?_; (with_reducible refine (mark_inner2 k1 x5_1 yy1 (fun k_ => P0_ k_) go5 x0_1.length co9 A523_2 c523_2 t522 t524 lt524 w0 _ ?side1 ?side2 ?side3 ?side4 ?side5 A7.out).mono ?_); (case side1 => exact (by (with_reducible repeat (first | apply Kd.S_alloc | apply Kd.S_drewN | apply Kd.S_drew)); exact HO_0.out)); (case side2 => exact of_decide_eq_true (by first | (with_reducible assumption) | assumption)); (case side3 => exact of_decide_eq_true (by first | (with_reducible assumption) | assumption)); (case side4 => exact hx523_2); (case side5 => repeat (first | (with_reducible first | exact HB.out | apply below_alloc | apply pw_below_drewN | apply below_drew1) | exact HB.out)); rintro e w13 ⟨rfl, hS_, hb, hkp⟩; refine ⟨_, rfl, ?_⟩; have n0_ := Aside0.mk (show Kd.S k58 58 w13 w0.heap.size (fun k_ => P0_ k_) (.slice (some ⟨go5, 0, none⟩) x0_1.length co9) yy2 from (by rw [Nyy2.out]; exact hS_)); have n3_ := Aside0.mk (Kept.then_ (S := (fun k_ => P0_ k_)) (by repeat (first | (with_reducible first | exact HK.out | apply Kept.alloc | apply Kept.drewN | apply Kept.drew) | exact HK.out)) hkp (fun k_ hs_ => .inl hs_)); have n4_ := Aside0.mk hb; clear HO_0; clear HK; clear HB; clear HL523_1; clear HL523_2; clear HL523_3; clear HR523_1; clear HR523_2; clear HR523_3; have HO_0 := n0_; have HK := n3_; have HB := n4_; clear n0_ n3_ n4_; (try clear hb); (try clear hkp); (try clear hS_); have p525 : 0 ≤ (x5_1 : Int) := of_decide_eq_true (by first | (with_reducible assumption) | assumption); have q525 : x5_1 < (yy2.length : Int) := (by have h_ : (x5_1 : Int) < ((x0_1.length : Int) : Int) := of_decide_eq_true (by first | (with_reducible assumption) | assumption); first | (have e_ := (Kd.S_reads' HO_0.out).1; omega) | simpa only [Ny520.out, List.length_set] using h_); have ql525 : ((x5_1 : Int) < ((x0_1.length : Int) : Int)) = True := eq_true (of_decide_eq_true (by first | (with_reducible assumption) | assumption)); obtain ⟨ad525, A525_1, c525_1, A525_2, c525_2, A525_3, c525_3, e525, hx525_0, hx525_1, hx525_2, hx525_3, hl525_1, hi525_1, hl525_2, hi525_2, hl525_3, hi525_3⟩ := at_T58 (Kd.S_reads' HO_0.out).2.2 x5_1 p525 q525; obtain rfl : (⟨go5, 0, none⟩ : Addr) = ad525 := (by injection e525); obtain ⟨ce525, hce525, hMe525, hcc525⟩ := Kd.S_get HO_0.out z58 x5_1 p525 (by first | exact q525 | exact of_decide_eq_true (by first | (with_reducible assumption) | assumption) | (have e_ := (Kd.S_reads' HO_0.out).1; omega)); obtain ⟨ve525_1, ve525_2, ve525_3, rfl, ge525_1, ge525_2, ge525_3⟩ := k58_openM hMe525; have hv525_1 := hcc525 1 _ rfl; rw [add_field _ _ 1 (by omega)] at hv525_1; replace hv525_1 := Option.some.inj (hv525_1.symm.trans hx525_1); rw [hv525_1] at ge525_1; have HL525_1 := Aside0.mk (show Kd.R Kd.string 9 _ _ _ _ ((rd_T58 yy2 x5_1).f1) from ge525_1); clear hv525_1 ge525_1; have hv525_2 := hcc525 2 _ rfl; rw [add_field _ _ 2 (by omega)] at hv525_2; replace hv525_2 := Option.some.inj (hv525_2.symm.trans hx525_2); rw [hv525_2] at ge525_2; have HL525_2 := Aside0.mk (show Kd.R Kd.string 9 _ _ _ _ ((rd_T58 yy2 x5_1).f2) from ge525_2); clear hv525_2 ge525_2; have hv525_3 := hcc525 3 _ rfl; rw [add_field _ _ 3 (by omega)] at hv525_3; replace hv525_3 := Option.some.inj (hv525_3.symm.trans hx525_3); rw [hv525_3] at ge525_3; have HL525_3 := Aside0.mk (show Kd.R Kd.string 9 _ _ _ _ ((rd_T58 yy2 x5_1).f3) from ge525_3); clear hv525_3 ge525_3; clear hcc525 hce525; (first | simp only [add_plain] at hx525_0 | simp only [add_at] at hx525_0 | simp only [Addr.add, Nat.zero_add] at hx525_0 | skip); (first | simp only [add_plain] at hx525_1 | simp only [add_at] at hx525_1 | simp only [Addr.add, Nat.zero_add] at hx525_1 | skip); (first | simp only [add_plain] at hx525_2 | simp only [add_at] at hx525_2 | simp only [Addr.add, Nat.zero_add] at hx525_2 | skip); (first | simp only [add_plain] at hx525_3 | simp only [add_at] at hx525_3 | simp only [Addr.add, Nat.zero_add] at hx525_3 | skip); have HR525_1 := Aside0.mk hi525_1; have HC525_1 := Aside0.mk hl525_1; clear hi525_1 hl525_1; have HR525_2 := Aside0.mk hi525_2; have HC525_2 := Aside0.mk hl525_2; clear hi525_2 hl525_2; have HR525_3 := Aside0.mk hi525_3; have HC525_3 := Aside0.mk hl525_3; clear hi525_3 hl525_3; replace p525 := eq_true p525; replace q525 := eq_true q525) | ((with_reducible refine gate_callee (f := 28) rfl ?_); refine goesL_ (some 39) rfl rfl Try.func28 (by kernel_rfl) rfl #[.slice A525_3 ((rd_T58 yy2 x5_1).f3).length c525_3, .int .i64 t524] rfl (by (try simp only [List.map_toArray, List.map_cons, List.map_nil]); first | done | rfl | (simp only [List.length_drop, List.length_take]; rfl)) ?_; (with_reducible refine (mark_inner3 k1 x5_1 yy2 (fun k_ => P0_ k_) go5 x0_1.length co9 A525_3 c525_3 t524 t526 lt526 w0 _ ?side1 ?side2 ?side3 ?side4 ?side5 A8.out).mono ?_); (case side1 => exact (by (with_reducible repeat (first | apply Kd.S_alloc | apply Kd.S_drewN | apply Kd.S_drew)); exact HO_0.out)); (case side2 => exact of_decide_eq_true (by first | (with_reducible assumption) | assumption)); (case side3 => exact of_decide_eq_true (by first | (with_reducible assumption) | assumption)); (case side4 => exact hx525_3); (case side5 => repeat (first | (with_reducible first | exact HB.out | apply below_alloc | apply pw_below_drewN | apply below_drew1) | exact HB.out)); rintro e w14 ⟨rfl, hS_, hb, hkp⟩; refine ⟨_, rfl, ?_⟩; have n0_ := Aside0.mk (show Kd.S k58 58 w14 w0.heap.size (fun k_ => P0_ k_) (.slice (some ⟨go5, 0, none⟩) x0_1.length co9) yy3 from (by rw [Nyy3.out]; exact hS_)); have n3_ := Aside0.mk (Kept.then_ (S := (fun k_ => P0_ k_)) (by repeat (first | (with_reducible first | exact HK.out | apply Kept.alloc | apply Kept.drewN | apply Kept.drew) | exact HK.out)) hkp (fun k_ hs_ => .inl hs_)); have n4_ := Aside0.mk hb; clear HO_0; clear HK; clear HB; clear HL525_1; clear HL525_2; clear HL525_3; clear HR525_1; clear HR525_2; clear HR525_3; have HO_0 := n0_; have HK := n3_; have HB := n4_; clear n0_ n3_ n4_; (try clear hb); (try clear hkp); (try clear hS_)))
          go_roundg k1
          case measure => have := HK1.out; omega
          case rel => exact ⟨(yy3), (t526), (wrap64 (x5_1 + 1)), (by first | rfl | (simp; done) | (simp [*]; done)), (by first | rfl | (simp; done) | (simp [*]; done)), H', ⟨by have := HK1.out; omega⟩, ⟨by (with_reducible repeat (first | apply Kd.S_alloc | apply Kd.S_drewN | apply Kd.S_drew)); exact HO_0.out⟩, ⟨by repeat (first | (with_reducible first | exact HK.out | apply Kept.alloc | apply Kept.drewN | apply Kept.drew) | exact HK.out)⟩, ⟨by repeat (first | (with_reducible first | exact HB.out | apply below_alloc | apply pw_below_drewN | apply below_drew1) | exact HB.out)⟩⟩
        · rw [if_neg c4] at H
          exact absurd H (by simp)
      · rw [if_neg c3] at H
        have c3b0 : decide (x5_1 < (x0_1.length : Int)) = false := decide_eq_false c3
        clear c3
        simp only [Option.some.injEq, Prod.mk.injEq] at H
        obtain ⟨rfl, rfl⟩ := H
        obtain ⟨Ao15, co15, eo15⟩ := Kd.S_slice HO_0.out
        subst eo15
        go_wp2
        go_ret
        exact ⟨by first | rfl | (simp [errW_none, errW_some] <;> rfl) | (simp [*, errW_none, errW_some] <;> rfl), by (with_reducible repeat (first | apply Kd.S_alloc | apply Kd.S_drewN | apply Kd.S_drew)); exact HO_0.out, by repeat (first | (with_reducible first | exact HB.out | apply below_alloc | apply pw_below_drewN | apply below_drew1) | exact HB.out), by repeat (first | (with_reducible first | exact HK.out | apply Kept.alloc | apply Kept.drewN | apply Kept.drew) | exact HK.out)⟩
end Go.Proofs.Ytjngmhngedecdaa.P
end
section
namespace Go.Proofs.Ytjngmhngedecdaa.P
open Go.RowKit Go.Proofs.YtjngmhngedecdaaW.PrintWords Go.Proofs.YtjngmhngedecdaaW.PrintLast Go.Proofs.YtjngmhngedecdaaW.PrintMore
attribute [local go_sem] max2_int min2_int max_two min_two max_three min_three max_four min_four
set_option linter.unusedVariables false
set_option linter.unusedSimpArgs false
def laws_FnExactWeaveSide.j0 : Nat → List (S53) → Int → Bool → Int → List ByteArray → Int → List ByteArray → Option (Bool)
 | 0, _, _, _, _, _, _, _ => none
 | k + 1, x0, x1, x46, x538000, x538001, x546000, x546001 => if x46 = true then (some false) else ((laws_markLinesResult.f k x546000 x546001 1).bind fun bt554 => ((laws_heldLinesResult.f k x546000 bt554.2 1).bind fun t556 => (if t556 < 0 then (some false) else (if t556 = bt554.1 then ((laws_toChunkS.f k x0).bind fun t557 => ((impl_WeaveSide.f k t557 x1).bind fun bt560 => ((laws_eqLinesResult.f k bt560.1 bt560.2 x538000 x538001).bind fun t565 => (if t565 = true then ((laws_heldLinesResult.f k x546000 bt554.2 1).bind fun t566 => (if t566 < 0 then (some false) else (if t566 = bt554.1 then (some true) else (some false)))) else (some false))))) else (some false)))))
def laws_FnExactWeaveSide.f (k : Nat) (l0 : List (S53)) (a1 : Int) : Option (Bool) := (laws_szChunkS.f k l0 1048576).bind fun t529 => (if t529 < 0 then (some true) else ((laws_toChunkS.f k l0).bind fun t530 => ((spec_WeaveSide.f k t530 a1).bind fun bt533 => ((laws_toChunkS.f k l0).bind fun t538 => ((impl_WeaveSide.f k t538 a1).bind fun bt541 => ((laws_eqLinesResult.f k bt541.1 bt541.2 bt533.1 bt533.2).bind fun t546 => (if t546 = true then ((laws_toChunkS.f k l0).bind fun t547 => ((laws_eqChunkS.f k t538 t547).bind fun t550 => (if t550 = true then ((laws_markChunkS.f k t538 1).bind fun bt551 => (if bt551.1 < 0 then (laws_FnExactWeaveSide.j0 k l0 a1 true bt533.1 bt533.2 bt541.1 bt541.2) else ((laws_eqLinesResult.f k bt541.1 bt541.2 bt533.1 bt533.2).bind fun t553 => (laws_FnExactWeaveSide.j0 k l0 a1 (!t553) bt533.1 bt533.2 bt541.1 bt541.2)))) else (some false)))) else (some false))))))))
set_option maxHeartbeats 8000000 in
set_option maxRecDepth 100000 in
theorem laws_FnExactWeaveSide.calls (k : Nat) (A0 : Option Addr) (c0 : Nat) (l0 : List (S53)) (a1 : Int) (r : Bool) (w : World) (hr0 : Kd.C k53 w A0 l0.length l0) (hc0 : l0.length ≤ c0) (h : laws_FnExactWeaveSide.f k l0 a1 = some r) (hlaw : r = true) :
  Calls Try.prog 5 #[.slice A0 l0.length c0, .int .i64 a1] w fun e w' => e = .returned (.bool r) ∧ Below w.heap.size w w' := by
 have hu37 := Try.underlying37
 have HR0 := Aside0.mk hr0
 have HC0 := Aside0.mk hc0
 clear hr0 hc0
 have HB := Aside0.mk (Below.refl w.heap.size w)
 have HLAW := Aside0.mk hlaw
 clear hlaw
 have H : ((laws_szChunkS.f k l0 1048576).bind fun t529 => (if t529 < 0 then (some true) else ((laws_toChunkS.f k l0).bind fun t530 => ((spec_WeaveSide.f k t530 a1).bind fun bt533 => ((laws_toChunkS.f k l0).bind fun t538 => ((impl_WeaveSide.f k t538 a1).bind fun bt541 => ((laws_eqLinesResult.f k bt541.1 bt541.2 bt533.1 bt533.2).bind fun t546 => (if t546 = true then ((laws_toChunkS.f k l0).bind fun t547 => ((laws_eqChunkS.f k t538 t547).bind fun t550 => (if t550 = true then ((laws_markChunkS.f k t538 1).bind fun bt551 => (if bt551.1 < 0 then (laws_FnExactWeaveSide.j0 k l0 a1 true bt533.1 bt533.2 bt541.1 bt541.2) else ((laws_eqLinesResult.f k bt541.1 bt541.2 bt533.1 bt533.2).bind fun t553 => (laws_FnExactWeaveSide.j0 k l0 a1 (!t553) bt533.1 bt533.2 bt541.1 bt541.2)))) else (some false)))) else (some false))))))))) = some r := h
 clear h
 replace H := Option.bind_eq_some_iff.mp H
 obtain ⟨t529, A30, H⟩ := H
 replace H : (if t529 < 0 then (some true) else ((laws_toChunkS.f k l0).bind fun t530 => ((spec_WeaveSide.f k t530 a1).bind fun bt533 => ((laws_toChunkS.f k l0).bind fun t538 => ((impl_WeaveSide.f k t538 a1).bind fun bt541 => ((laws_eqLinesResult.f k bt541.1 bt541.2 bt533.1 bt533.2).bind fun t546 => (if t546 = true then ((laws_toChunkS.f k l0).bind fun t547 => ((laws_eqChunkS.f k t538 t547).bind fun t550 => (if t550 = true then ((laws_markChunkS.f k t538 1).bind fun bt551 => (if bt551.1 < 0 then (laws_FnExactWeaveSide.j0 k l0 a1 true bt533.1 bt533.2 bt541.1 bt541.2) else ((laws_eqLinesResult.f k bt541.1 bt541.2 bt533.1 bt533.2).bind fun t553 => (laws_FnExactWeaveSide.j0 k l0 a1 (!t553) bt533.1 bt533.2 bt541.1 bt541.2)))) else (some false)))) else (some false)))))))) = some r := H
 have A3 := Aside0.mk A30
 clear A30
 by_cases c4 : t529 < 0
 ·rw [if_pos c4] at H
  have c4b0 : decide (t529 < 0) = true := decide_eq_true c4
  clear c4
  obtain rfl := Option.some.inj H
  go_enter Try.func5, Try.ntmps5
  go_wp2_with (first | ((with_reducible refine gate_callee (f := 31) rfl ?_); refine goesL_ (some 15) rfl rfl Try.func31 (by kernel_rfl) rfl #[.slice A0 l0.length c0, .int .i64 1048576] rfl (by (try simp only [List.map_toArray, List.map_cons, List.map_nil]); first | done | rfl | (simp only [List.length_drop, List.length_take]; rfl)) ?_; (with_reducible refine (laws_szChunkS.calls k _ _ l0 1048576 t529 _ ?side1 ?side2 A3.out).mono ?_); (case side1 => repeat (first | exact HR0.out | (with_reducible refine Kd.C_alloc ?_ _) | (with_reducible refine Kd.C_drewN ?_ _) | (with_reducible refine Kd.C_drew ?_))); (case side2 => exact HC0.out); rintro e w5 ⟨rfl, hb⟩; refine ⟨_, rfl, ?_⟩; have n0_ := Aside0.mk (below_step (by repeat (first | (with_reducible first | exact HB.out | apply below_alloc | apply pw_below_drewN | apply below_drew1) | exact HB.out)) hb); clear HB; have HB := n0_; clear n0_; (try clear hb); (try clear hb2); (try clear hk); (try clear hi)))
  go_ret
  exact ⟨by first | rfl | (simp [errW_none, errW_some] <;> rfl) | (simp [*, errW_none, errW_some] <;> rfl), by repeat (first | (with_reducible first | exact HB.out | apply below_alloc | apply pw_below_drewN | apply below_drew1) | exact HB.out)⟩
 ·rw [if_neg c4] at H
  have c4b0 : decide (t529 < 0) = false := decide_eq_false c4
  clear c4
  replace H := Option.bind_eq_some_iff.mp H
  obtain ⟨t530, A60, H⟩ := H
  replace H : ((spec_WeaveSide.f k t530 a1).bind fun bt533 => ((laws_toChunkS.f k l0).bind fun t538 => ((impl_WeaveSide.f k t538 a1).bind fun bt541 => ((laws_eqLinesResult.f k bt541.1 bt541.2 bt533.1 bt533.2).bind fun t546 => (if t546 = true then ((laws_toChunkS.f k l0).bind fun t547 => ((laws_eqChunkS.f k t538 t547).bind fun t550 => (if t550 = true then ((laws_markChunkS.f k t538 1).bind fun bt551 => (if bt551.1 < 0 then (laws_FnExactWeaveSide.j0 k l0 a1 true bt533.1 bt533.2 bt541.1 bt541.2) else ((laws_eqLinesResult.f k bt541.1 bt541.2 bt533.1 bt533.2).bind fun t553 => (laws_FnExactWeaveSide.j0 k l0 a1 (!t553) bt533.1 bt533.2 bt541.1 bt541.2)))) else (some false)))) else (some false)))))) = some r := H
  have A6 := Aside0.mk A60
  clear A60
  replace H := Option.bind_eq_some_iff.mp H
  obtain ⟨⟨t533, t534⟩, A70, H⟩ := H
  replace H : ((laws_toChunkS.f k l0).bind fun t538 => ((impl_WeaveSide.f k t538 a1).bind fun bt541 => ((laws_eqLinesResult.f k bt541.1 bt541.2 t533 t534).bind fun t546 => (if t546 = true then ((laws_toChunkS.f k l0).bind fun t547 => ((laws_eqChunkS.f k t538 t547).bind fun t550 => (if t550 = true then ((laws_markChunkS.f k t538 1).bind fun bt551 => (if bt551.1 < 0 then (laws_FnExactWeaveSide.j0 k l0 a1 true t533 t534 bt541.1 bt541.2) else ((laws_eqLinesResult.f k bt541.1 bt541.2 t533 t534).bind fun t553 => (laws_FnExactWeaveSide.j0 k l0 a1 (!t553) t533 t534 bt541.1 bt541.2)))) else (some false)))) else (some false))))) = some r := H
  have A7 := Aside0.mk A70
  clear A70
  replace H := Option.bind_eq_some_iff.mp H
  obtain ⟨t538, A80, H⟩ := H
  replace H : ((impl_WeaveSide.f k t538 a1).bind fun bt541 => ((laws_eqLinesResult.f k bt541.1 bt541.2 t533 t534).bind fun t546 => (if t546 = true then ((laws_toChunkS.f k l0).bind fun t547 => ((laws_eqChunkS.f k t538 t547).bind fun t550 => (if t550 = true then ((laws_markChunkS.f k t538 1).bind fun bt551 => (if bt551.1 < 0 then (laws_FnExactWeaveSide.j0 k l0 a1 true t533 t534 bt541.1 bt541.2) else ((laws_eqLinesResult.f k bt541.1 bt541.2 t533 t534).bind fun t553 => (laws_FnExactWeaveSide.j0 k l0 a1 (!t553) t533 t534 bt541.1 bt541.2)))) else (some false)))) else (some false)))) = some r := H
  have A8 := Aside0.mk A80
  clear A80
  replace H := Option.bind_eq_some_iff.mp H
  obtain ⟨⟨t541, t542⟩, A90, H⟩ := H
  replace H : ((laws_eqLinesResult.f k t541 t542 t533 t534).bind fun t546 => (if t546 = true then ((laws_toChunkS.f k l0).bind fun t547 => ((laws_eqChunkS.f k t538 t547).bind fun t550 => (if t550 = true then ((laws_markChunkS.f k t538 1).bind fun bt551 => (if bt551.1 < 0 then (laws_FnExactWeaveSide.j0 k l0 a1 true t533 t534 t541 t542) else ((laws_eqLinesResult.f k t541 t542 t533 t534).bind fun t553 => (laws_FnExactWeaveSide.j0 k l0 a1 (!t553) t533 t534 t541 t542)))) else (some false)))) else (some false))) = some r := H
  have A9 := Aside0.mk A90
  clear A90
  replace H := Option.bind_eq_some_iff.mp H
  obtain ⟨t546, A100, H⟩ := H
  replace H : (if t546 = true then ((laws_toChunkS.f k l0).bind fun t547 => ((laws_eqChunkS.f k t538 t547).bind fun t550 => (if t550 = true then ((laws_markChunkS.f k t538 1).bind fun bt551 => (if bt551.1 < 0 then (laws_FnExactWeaveSide.j0 k l0 a1 true t533 t534 t541 t542) else ((laws_eqLinesResult.f k t541 t542 t533 t534).bind fun t553 => (laws_FnExactWeaveSide.j0 k l0 a1 (!t553) t533 t534 t541 t542)))) else (some false)))) else (some false)) = some r := H
  have A10 := Aside0.mk A100
  clear A100
  by_cases c11 : t546 = true
  ·subst c11
   have H1 : ((laws_toChunkS.f k l0).bind fun t547 => ((laws_eqChunkS.f k t538 t547).bind fun t550 => (if t550 = true then ((laws_markChunkS.f k t538 1).bind fun bt551 => (if bt551.1 < 0 then (laws_FnExactWeaveSide.j0 k l0 a1 true t533 t534 t541 t542) else ((laws_eqLinesResult.f k t541 t542 t533 t534).bind fun t553 => (laws_FnExactWeaveSide.j0 k l0 a1 (!t553) t533 t534 t541 t542)))) else (some false)))) = some r := by rw [if_pos rfl] at H; exact H
   clear H
   have H := H1
   clear H1
   replace H := Option.bind_eq_some_iff.mp H
   obtain ⟨t547, A120, H⟩ := H
   replace H : ((laws_eqChunkS.f k t538 t547).bind fun t550 => (if t550 = true then ((laws_markChunkS.f k t538 1).bind fun bt551 => (if bt551.1 < 0 then (laws_FnExactWeaveSide.j0 k l0 a1 true t533 t534 t541 t542) else ((laws_eqLinesResult.f k t541 t542 t533 t534).bind fun t553 => (laws_FnExactWeaveSide.j0 k l0 a1 (!t553) t533 t534 t541 t542)))) else (some false))) = some r := H
   have A12 := Aside0.mk A120
   clear A120
   replace H := Option.bind_eq_some_iff.mp H
   obtain ⟨t550, A130, H⟩ := H
   replace H : (if t550 = true then ((laws_markChunkS.f k t538 1).bind fun bt551 => (if bt551.1 < 0 then (laws_FnExactWeaveSide.j0 k l0 a1 true t533 t534 t541 t542) else ((laws_eqLinesResult.f k t541 t542 t533 t534).bind fun t553 => (laws_FnExactWeaveSide.j0 k l0 a1 (!t553) t533 t534 t541 t542)))) else (some false)) = some r := H
   have A13 := Aside0.mk A130
   clear A130
   by_cases c14 : t550 = true
   ·subst c14
    have H1 : ((laws_markChunkS.f k t538 1).bind fun bt551 => (if bt551.1 < 0 then (laws_FnExactWeaveSide.j0 k l0 a1 true t533 t534 t541 t542) else ((laws_eqLinesResult.f k t541 t542 t533 t534).bind fun t553 => (laws_FnExactWeaveSide.j0 k l0 a1 (!t553) t533 t534 t541 t542)))) = some r := by rw [if_pos rfl] at H; exact H
    clear H
    have H := H1
    clear H1
    replace H := Option.bind_eq_some_iff.mp H
    obtain ⟨⟨t551, t552⟩, A150, H⟩ := H
    replace H : (if t551 < 0 then (laws_FnExactWeaveSide.j0 k l0 a1 true t533 t534 t541 t542) else ((laws_eqLinesResult.f k t541 t542 t533 t534).bind fun t553 => (laws_FnExactWeaveSide.j0 k l0 a1 (!t553) t533 t534 t541 t542))) = some r := H
    have A15 := Aside0.mk A150
    clear A150
    have HC16 := Aside0.mk H
    clear H
    go_enter Try.func5, Try.ntmps5
    go_upto_region 14 with (first | ((with_reducible refine gate_callee (f := 31) rfl ?_); refine goesL_ (some 15) rfl rfl Try.func31 (by kernel_rfl) rfl #[.slice A0 l0.length c0, .int .i64 1048576] rfl (by (try simp only [List.map_toArray, List.map_cons, List.map_nil]); first | done | rfl | (simp only [List.length_drop, List.length_take]; rfl)) ?_; (with_reducible refine (laws_szChunkS.calls k _ _ l0 1048576 t529 _ ?side1 ?side2 A3.out).mono ?_); (case side1 => repeat (first | exact HR0.out | (with_reducible refine Kd.C_alloc ?_ _) | (with_reducible refine Kd.C_drewN ?_ _) | (with_reducible refine Kd.C_drew ?_))); (case side2 => exact HC0.out); rintro e w17 ⟨rfl, hb⟩; refine ⟨_, rfl, ?_⟩; have n0_ := Aside0.mk (below_step (by repeat (first | (with_reducible first | exact HB.out | apply below_alloc | apply pw_below_drewN | apply below_drew1) | exact HB.out)) hb); clear HB; have HB := n0_; clear n0_; (try clear hb); (try clear hb2); (try clear hk); (try clear hi)) | ((with_reducible refine gate_callee (f := 33) rfl ?_); refine goesL_ (some 19) rfl rfl Try.func33 (by kernel_rfl) rfl #[.slice A0 l0.length c0] rfl (by (try simp only [List.map_toArray, List.map_cons, List.map_nil]); first | done | rfl | (simp only [List.length_drop, List.length_take]; rfl)) ?_; (with_reducible refine (laws_toChunkS.calls k _ _ l0 t530 _ ?side1 ?side2 A6.out).mono ?_); (case side1 => repeat (first | exact (Kd.C_below HR0.out HB.out) | (with_reducible refine Kd.C_alloc ?_ _) | (with_reducible refine Kd.C_drewN ?_ _) | (with_reducible refine Kd.C_drew ?_))); (case side2 => exact HC0.out); rintro e w18 ⟨v531, rfl, ho0, hb⟩; refine ⟨_, rfl, ?_⟩; have n0_ := Aside0.mk (Kd.S_lower ho0 (below_size (by repeat (first | (with_reducible first | exact HB.out | apply below_alloc | apply pw_below_drewN | apply below_drew1) | exact HB.out)))); have n1_ := Aside0.mk (below_step (by repeat (first | (with_reducible first | exact HB.out | apply below_alloc | apply pw_below_drewN | apply below_drew1) | exact HB.out)) hb); clear HB; have HO532 := n0_; have HB := n1_; clear n0_ n1_; (try clear hb); (try clear hb2); (try clear hk); (try clear hi); (try clear ho0); obtain ⟨Ao19, co19, eo19⟩ := Kd.S_slice HO532.out; subst eo19) | ((with_reducible refine gate_callee (f := 32) rfl ?_); refine goesL_ (some 21) rfl rfl Try.func32 (by kernel_rfl) rfl #[.slice Ao19 t530.length co19, .int .i64 a1] rfl (by (try simp only [List.map_toArray, List.map_cons, List.map_nil]); first | done | rfl | (simp only [List.length_drop, List.length_take]; rfl)) ?_; (with_reducible refine (spec_WeaveSide.calls k _ _ t530 a1 t533 t534 _ ?side1 ?side2 A7.out).mono ?_); (case side1 => repeat (first | exact (Kd.S_reads' HO532.out).2.2 | (with_reducible refine Kd.C_alloc ?_ _) | (with_reducible refine Kd.C_drewN ?_ _) | (with_reducible refine Kd.C_drew ?_))); (case side2 => exact (Kd.S_reads' HO532.out).2.1); rintro e w20 ⟨v535, rfl, ho0, hb⟩; refine ⟨_, rfl, ?_⟩; have n0_ := Aside0.mk (Kd.S_elder' (by (with_reducible repeat (first | apply Kd.S_alloc | apply Kd.S_drewN | apply Kd.S_drew)); exact HO532.out) (Kd.R_base ho0) hb); have n1_ := Aside0.mk (Kd.R_lower ho0 (below_size (by repeat (first | (with_reducible first | exact HB.out | apply below_alloc | apply pw_below_drewN | apply below_drew1) | exact HB.out)))); have n2_ := Aside0.mk (below_step (by repeat (first | (with_reducible first | exact HB.out | apply below_alloc | apply pw_below_drewN | apply below_drew1) | exact HB.out)) hb); clear HO532; clear HB; have HO532 := n0_; have HO536 := n1_; have HB := n2_; clear n0_ n1_ n2_; (try clear hb); (try clear hb2); (try clear hk); (try clear hi); (try clear ho0)) | ((with_reducible refine gate_dst (N := 6) rfl ?_); refine box_event ?hg (N := 6) ?hd (cs := #[.int .i64 0, .slice none 0 0]) (t := 37) ?hr ?_; (case hd => rfl); (case hg => rfl); (case hr => first | (go_simp; done) | (go_simp; rfl)); intro gb537 hg w21 hbox hb; have n0_ := Aside0.mk (Kd.S_below (by (with_reducible repeat (first | apply Kd.S_alloc | apply Kd.S_drewN | apply Kd.S_drew)); exact HO532.out) hb); have n1_ := Aside0.mk (Kd.R_below (by (with_reducible repeat (first | apply Kd.R_alloc | apply Kd.R_drewN | apply Kd.R_drew)); exact HO536.out) hb); have n2_ := Aside0.mk (below_step (by repeat (first | (with_reducible first | exact HB.out | apply below_alloc | apply pw_below_drewN | apply below_drew1) | exact HB.out)) hb); have n3_ := Aside0.mk (hbox); have n4_ := Aside0.mk ((by rw [hg]; exact (below_size (by repeat (first | (with_reducible first | exact HB.out | apply below_alloc | apply pw_below_drewN | apply below_drew1) | exact HB.out))) : w.heap.size ≤ gb537)); have n5_ := Aside0.mk ((by rw [hg]; exact (below_size (by repeat (first | (with_reducible first | exact HB.out | apply below_alloc | apply pw_below_drewN | apply below_drew1) | exact HB.out))) : w.heap.size ≤ gb537)); clear HO532; clear HO536; clear HB; have HO532 := n0_; have HO536 := n1_; have HB := n2_; have BK537 := n3_; have GW537 := n4_; have GE537 := n5_; clear n0_ n1_ n2_ n3_ n4_ n5_; clear hb hbox hg; have hcz22_0 : w21.cell? ⟨gb537, 0, none⟩ = some (.int .i64 0) := (blk_cell BK537.out 0).trans rfl; have hcz22_1 : w21.cell? ⟨gb537, 1, none⟩ = some (.slice none 0 0) := (blk_cell BK537.out 1).trans rfl; have hfz22_0 := blk_frozen BK537.out 0; have hfz22_1 := blk_frozen BK537.out 1; obtain ⟨Ao23, co23, eo23⟩ := Kd.R_slice HO536.out; subst eo23) | ((with_reducible refine gate_callee (f := 33) rfl ?_); refine goesL_ (some 23) rfl rfl Try.func33 (by kernel_rfl) rfl #[.slice A0 l0.length c0] rfl (by (try simp only [List.map_toArray, List.map_cons, List.map_nil]); first | done | rfl | (simp only [List.length_drop, List.length_take]; rfl)) ?_; (with_reducible refine (laws_toChunkS.calls k _ _ l0 t538 _ ?side1 ?side2 A8.out).mono ?_); (case side1 => exact Kd.C_below HR0.out (by repeat (first | (with_reducible first | exact HB.out | apply below_alloc | apply pw_below_drewN | apply below_drew1 | refine below_set ?_ GE537.out) | exact HB.out))); (case side2 => exact HC0.out); rintro e w24 ⟨v539, rfl, ho0, hb⟩; refine ⟨_, rfl, ?_⟩; have n0_ := Aside0.mk (Kd.S_elder' (by (with_reducible repeat (first | apply Kd.S_alloc | apply Kd.S_drewN | apply Kd.S_drew)); exact (Kd.S_mono (Kd.S_far (p := ⟨gb537, 1, none⟩) (Kd.S_far (p := ⟨gb537, 0, none⟩) (Kd.S_types HO532.out BK537.out (by decide)) (fun _ hk => hk.2) (.int .i64 t533)) (fun _ hk => hk.2) (.slice Ao23 t534.length co23)) (fun _ h_ => h_.1))) (Kd.S_base ho0) hb); have n1_ := Aside0.mk (Kd.R_below (by (with_reducible repeat (first | apply Kd.R_alloc | apply Kd.R_drewN | apply Kd.R_drew)); exact (Kd.R_mono (Kd.R_far (p := ⟨gb537, 1, none⟩) (Kd.R_far (p := ⟨gb537, 0, none⟩) (Kd.R_types HO536.out BK537.out (by decide)) (fun _ hk => hk.2) (.int .i64 t533)) (fun _ hk => hk.2) (.slice Ao23 t534.length co23)) (fun _ h_ => h_.1))) hb); have n2_ := Aside0.mk (Kd.S_lower (Kd.S_new' (Kd.S_new' ho0 (Kd.S_lt (by (with_reducible repeat (first | apply Kd.S_alloc | apply Kd.S_drewN | apply Kd.S_drew)); exact (Kd.S_mono (Kd.S_far (p := ⟨gb537, 1, none⟩) (Kd.S_far (p := ⟨gb537, 0, none⟩) (Kd.S_types HO532.out BK537.out (by decide)) (fun _ hk => hk.2) (.int .i64 t533)) (fun _ hk => hk.2) (.slice Ao23 t534.length co23)) (fun _ h_ => h_.1))))) (Kd.R_lt (by (with_reducible repeat (first | apply Kd.R_alloc | apply Kd.R_drewN | apply Kd.R_drew)); exact (Kd.R_mono (Kd.R_far (p := ⟨gb537, 1, none⟩) (Kd.R_far (p := ⟨gb537, 0, none⟩) (Kd.R_types HO536.out BK537.out (by decide)) (fun _ hk => hk.2) (.int .i64 t533)) (fun _ hk => hk.2) (.slice Ao23 t534.length co23)) (fun _ h_ => h_.1))))) (below_size (by repeat (first | (with_reducible first | exact HB.out | apply below_alloc | apply pw_below_drewN | apply below_drew1 | refine below_set ?_ GE537.out) | exact HB.out)))); have n3_ := Aside0.mk (blk_below (g := gb537) (o := .cells #[.int .i64 t533, .slice Ao23 t534.length co23] 37 (0, 0)) (by (with_reducible repeat (first | refine blk_drewN ?_ _ | refine blk_drew ?_ | refine blk_alloc ?_ _)); refine blk_put (cs := #[.int .i64 t533, .slice none 0 0]) ?_ 1 _ rfl; (with_reducible repeat (first | refine blk_drewN ?_ _ | refine blk_drew ?_ | refine blk_alloc ?_ _)); refine blk_put (cs := #[.int .i64 0, .slice none 0 0]) ?_ 0 _ rfl; (with_reducible repeat (first | refine blk_drewN ?_ _ | refine blk_drew ?_ | refine blk_alloc ?_ _)); exact BK537.out) hb); have n4_ := Aside0.mk (below_step (by repeat (first | (with_reducible first | exact HB.out | apply below_alloc | apply pw_below_drewN | apply below_drew1 | refine below_set ?_ GE537.out) | exact HB.out)) hb); clear HO532; clear HO536; clear BK537; clear HB; have HO532 := n0_; have HO536 := n1_; have HO540 := n2_; have BK537 := n3_; have HB := n4_; clear n0_ n1_ n2_ n3_ n4_; (try clear hb); (try clear hb2); (try clear hk); (try clear hi); (try clear ho0); obtain ⟨Ao25, co25, eo25⟩ := Kd.S_slice HO540.out; subst eo25) | ((with_reducible refine gate_callee (f := 34) rfl ?_); refine goesL_ (some 26) rfl rfl Try.func34 (by kernel_rfl) rfl #[.slice Ao25 t538.length co25, .int .i64 a1] rfl (by (try simp only [List.map_toArray, List.map_cons, List.map_nil]); first | done | rfl | (simp only [List.length_drop, List.length_take]; rfl)) ?_; (with_reducible refine (impl_WeaveSide.calls k _ _ t538 a1 t541 t542 _ ?side1 ?side2 A9.out).mono ?_); (case side1 => repeat (first | exact (Kd.S_reads' HO540.out).2.2 | (with_reducible refine Kd.C_alloc ?_ _) | (with_reducible refine Kd.C_drewN ?_ _) | (with_reducible refine Kd.C_drew ?_))); (case side2 => exact (Kd.S_reads' HO540.out).2.1); rintro e w26 ⟨v543, rfl, ho0, hb⟩; refine ⟨_, rfl, ?_⟩; have n0_ := Aside0.mk (Kd.S_elder' (by (with_reducible repeat (first | apply Kd.S_alloc | apply Kd.S_drewN | apply Kd.S_drew)); exact HO532.out) (Kd.R_base ho0) hb); have n1_ := Aside0.mk (Kd.R_elder' (by (with_reducible repeat (first | apply Kd.R_alloc | apply Kd.R_drewN | apply Kd.R_drew)); exact HO536.out) (Kd.R_base ho0) hb); have n2_ := Aside0.mk (Kd.S_elder' (by (with_reducible repeat (first | apply Kd.S_alloc | apply Kd.S_drewN | apply Kd.S_drew)); exact HO540.out) (Kd.R_base ho0) hb); have n3_ := Aside0.mk (Kd.R_lower (Kd.R_new' ho0 (Kd.R_lt (by (with_reducible repeat (first | apply Kd.R_alloc | apply Kd.R_drewN | apply Kd.R_drew)); exact HO536.out))) (below_size (by repeat (first | (with_reducible first | exact HB.out | apply below_alloc | apply pw_below_drewN | apply below_drew1 | refine below_set ?_ GE537.out) | exact HB.out)))); have n4_ := Aside0.mk (blk_below (g := gb537) (o := .cells #[.int .i64 t533, .slice Ao23 t534.length co23] 37 (0, 0)) (by (with_reducible repeat (first | refine blk_drewN ?_ _ | refine blk_drew ?_ | refine blk_alloc ?_ _)); exact BK537.out) hb); have n5_ := Aside0.mk (below_step (by repeat (first | (with_reducible first | exact HB.out | apply below_alloc | apply pw_below_drewN | apply below_drew1 | refine below_set ?_ GE537.out) | exact HB.out)) hb); clear HO532; clear HO536; clear HO540; clear BK537; clear HB; have HO532 := n0_; have HO536 := n1_; have HO540 := n2_; have HO544 := n3_; have BK537 := n4_; have HB := n5_; clear n0_ n1_ n2_ n3_ n4_ n5_; (try clear hb); (try clear hb2); (try clear hk); (try clear hi); (try clear ho0)) | ((with_reducible refine gate_dst (N := 8) rfl ?_); refine box_event ?hg (N := 8) ?hd (cs := #[.int .i64 0, .slice none 0 0]) (t := 37) ?hr ?_; (case hd => rfl); (case hg => rfl); (case hr => first | (go_simp; done) | (go_simp; rfl)); intro gb545 hg w27 hbox hb; have n0_ := Aside0.mk (Kd.S_below (by (with_reducible repeat (first | apply Kd.S_alloc | apply Kd.S_drewN | apply Kd.S_drew)); exact HO532.out) hb); have n1_ := Aside0.mk (Kd.R_below (by (with_reducible repeat (first | apply Kd.R_alloc | apply Kd.R_drewN | apply Kd.R_drew)); exact HO536.out) hb); have n2_ := Aside0.mk (Kd.S_below (by (with_reducible repeat (first | apply Kd.S_alloc | apply Kd.S_drewN | apply Kd.S_drew)); exact HO540.out) hb); have n3_ := Aside0.mk (Kd.R_below (by (with_reducible repeat (first | apply Kd.R_alloc | apply Kd.R_drewN | apply Kd.R_drew)); exact HO544.out) hb); have n4_ := Aside0.mk (blk_below (g := gb537) (o := .cells #[.int .i64 t533, .slice Ao23 t534.length co23] 37 (0, 0)) (by (with_reducible repeat (first | refine blk_drewN ?_ _ | refine blk_drew ?_ | refine blk_alloc ?_ _)); exact BK537.out) hb); have n5_ := Aside0.mk (below_step (by repeat (first | (with_reducible first | exact HB.out | apply below_alloc | apply pw_below_drewN | apply below_drew1 | refine below_set ?_ GE537.out) | exact HB.out)) hb); have n6_ := Aside0.mk (hbox); have n7_ := Aside0.mk ((by rw [hg]; exact (below_size (by repeat (first | (with_reducible first | exact HB.out | apply below_alloc | apply pw_below_drewN | apply below_drew1 | refine below_set ?_ GE537.out) | exact HB.out))) : w.heap.size ≤ gb545)); have n8_ := Aside0.mk ((by rw [hg]; exact (below_size (by repeat (first | (with_reducible first | exact HB.out | apply below_alloc | apply pw_below_drewN | apply below_drew1 | refine below_set ?_ GE537.out) | exact HB.out))) : w.heap.size ≤ gb545)); have n9_ := Aside0.mk ((by rw [hg]; exact Nat.ne_of_lt (blk_lt (g := gb537) (o := .cells #[.int .i64 t533, .slice Ao23 t534.length co23] 37 (0, 0)) (by (with_reducible repeat (first | refine blk_drewN ?_ _ | refine blk_drew ?_ | refine blk_alloc ?_ _)); exact BK537.out)) : gb537 ≠ gb545)); have n10_ := Aside0.mk ((by rw [hg]; exact Nat.ne_of_gt (blk_lt (g := gb537) (o := .cells #[.int .i64 t533, .slice Ao23 t534.length co23] 37 (0, 0)) (by (with_reducible repeat (first | refine blk_drewN ?_ _ | refine blk_drew ?_ | refine blk_alloc ?_ _)); exact BK537.out)) : gb545 ≠ gb537)); clear HO532; clear HO536; clear HO540; clear HO544; clear BK537; clear HB; have HO532 := n0_; have HO536 := n1_; have HO540 := n2_; have HO544 := n3_; have BK537 := n4_; have HB := n5_; have BK545 := n6_; have GW545 := n7_; have GE545 := n8_; have NB537_545 := n9_; have NB545_537 := n10_; clear n0_ n1_ n2_ n3_ n4_ n5_ n6_ n7_ n8_ n9_ n10_; clear hb hbox hg; have hnb28 := NB545_537.out; have hnc28 := NB537_545.out; have hcz29_0 : w27.cell? ⟨gb545, 0, none⟩ = some (.int .i64 0) := (blk_cell BK545.out 0).trans rfl; have hcz29_1 : w27.cell? ⟨gb545, 1, none⟩ = some (.slice none 0 0) := (blk_cell BK545.out 1).trans rfl; have hfz29_0 := blk_frozen BK545.out 0; have hfz29_1 := blk_frozen BK545.out 1; obtain ⟨Ao30, co30, eo30⟩ := Kd.R_slice HO544.out; subst eo30; have hcz31_0 : w27.cell? ⟨gb537, 0, none⟩ = some (.int .i64 t533) := (blk_cell BK537.out 0).trans rfl; have hcz31_1 : w27.cell? ⟨gb537, 1, none⟩ = some (.slice Ao23 t534.length co23) := (blk_cell BK537.out 1).trans rfl; have hfz31_0 := blk_frozen BK537.out 0; have hfz31_1 := blk_frozen BK537.out 1) | ((with_reducible refine gate_callee (f := 26) rfl ?_); refine goesL_ (some 29) rfl rfl Try.func26 (by kernel_rfl) rfl #[.agg #[.int .i64 t541, .slice Ao30 t542.length co30], .agg #[.int .i64 t533, .slice Ao23 t534.length co23]] rfl (by (try simp only [List.map_toArray, List.map_cons, List.map_nil]); first | done | rfl | (simp only [List.length_drop, List.length_take]; rfl)) ?_; (with_reducible refine (laws_eqLinesResult.calls k t541 _ _ t542 t533 _ _ t534 true _ ?side1 ?side2 ?side3 ?side4 A10.out).mono ?_); (case side1 => refine (Kd.R_reads' (e := 9) (base := w.heap.size) (ok := fun k_ => (True ∧ some k_ ≠ (.slice Ao23 t534.length co23 : Value).ownBlock)) (n := t542.length) (c := co30) ?_).2.2; exact (by (with_reducible repeat (first | apply Kd.R_alloc | apply Kd.R_drewN | apply Kd.R_drew)); exact (Kd.R_mono (Kd.R_far (p := ⟨gb545, 1, none⟩) (Kd.R_far (p := ⟨gb545, 0, none⟩) (Kd.R_types HO544.out BK545.out (by decide)) (fun _ hk => hk.2) (.int .i64 t541)) (fun _ hk => hk.2) (.slice Ao30 t542.length co30)) (fun _ h_ => h_.1)))); (case side2 => exact (Kd.R_reads' HO544.out).2.1); (case side3 => refine (Kd.R_reads' (e := 9) (base := w.heap.size) (ok := fun k_ => (True ∧ some k_ ≠ (.slice Ao30 t542.length co30 : Value).ownBlock)) (n := t534.length) (c := co23) ?_).2.2; exact (by (with_reducible repeat (first | apply Kd.R_alloc | apply Kd.R_drewN | apply Kd.R_drew)); exact (Kd.R_mono (Kd.R_far (p := ⟨gb545, 1, none⟩) (Kd.R_far (p := ⟨gb545, 0, none⟩) (Kd.R_types HO536.out BK545.out (by decide)) (fun _ hk => hk.2) (.int .i64 t541)) (fun _ hk => hk.2) (.slice Ao30 t542.length co30)) (fun _ h_ => h_.1)))); (case side4 => exact (Kd.R_reads' HO536.out).2.1); rintro e w32 ⟨rfl, hb⟩; refine ⟨_, rfl, ?_⟩; have n0_ := Aside0.mk (Kd.S_below (by (with_reducible repeat (first | apply Kd.S_alloc | apply Kd.S_drewN | apply Kd.S_drew)); exact (Kd.S_mono (Kd.S_far (p := ⟨gb545, 1, none⟩) (Kd.S_far (p := ⟨gb545, 0, none⟩) (Kd.S_types HO532.out BK545.out (by decide)) (fun _ hk => hk.2) (.int .i64 t541)) (fun _ hk => hk.2) (.slice Ao30 t542.length co30)) (fun _ h_ => h_.1))) hb); have n1_ := Aside0.mk (Kd.R_below (by (with_reducible repeat (first | apply Kd.R_alloc | apply Kd.R_drewN | apply Kd.R_drew)); exact (Kd.R_mono (Kd.R_far (p := ⟨gb545, 1, none⟩) (Kd.R_far (p := ⟨gb545, 0, none⟩) (Kd.R_types HO536.out BK545.out (by decide)) (fun _ hk => hk.2) (.int .i64 t541)) (fun _ hk => hk.2) (.slice Ao30 t542.length co30)) (fun _ h_ => h_.1))) hb); have n2_ := Aside0.mk (Kd.S_below (by (with_reducible repeat (first | apply Kd.S_alloc | apply Kd.S_drewN | apply Kd.S_drew)); exact (Kd.S_mono (Kd.S_far (p := ⟨gb545, 1, none⟩) (Kd.S_far (p := ⟨gb545, 0, none⟩) (Kd.S_types HO540.out BK545.out (by decide)) (fun _ hk => hk.2) (.int .i64 t541)) (fun _ hk => hk.2) (.slice Ao30 t542.length co30)) (fun _ h_ => h_.1))) hb); have n3_ := Aside0.mk (Kd.R_below (by (with_reducible repeat (first | apply Kd.R_alloc | apply Kd.R_drewN | apply Kd.R_drew)); exact (Kd.R_mono (Kd.R_far (p := ⟨gb545, 1, none⟩) (Kd.R_far (p := ⟨gb545, 0, none⟩) (Kd.R_types HO544.out BK545.out (by decide)) (fun _ hk => hk.2) (.int .i64 t541)) (fun _ hk => hk.2) (.slice Ao30 t542.length co30)) (fun _ h_ => h_.1))) hb); have n4_ := Aside0.mk (blk_below (g := gb537) (o := .cells #[.int .i64 t533, .slice Ao23 t534.length co23] 37 (0, 0)) (by (with_reducible repeat (first | refine blk_drewN ?_ _ | refine blk_drew ?_ | refine blk_alloc ?_ _)); refine blk_far ?_ NB537_545.out _; (with_reducible repeat (first | refine blk_drewN ?_ _ | refine blk_drew ?_ | refine blk_alloc ?_ _)); refine blk_far ?_ NB537_545.out _; (with_reducible repeat (first | refine blk_drewN ?_ _ | refine blk_drew ?_ | refine blk_alloc ?_ _)); exact BK537.out) hb); have n5_ := Aside0.mk (blk_below (g := gb545) (o := .cells #[.int .i64 t541, .slice Ao30 t542.length co30] 37 (0, 0)) (by (with_reducible repeat (first | refine blk_drewN ?_ _ | refine blk_drew ?_ | refine blk_alloc ?_ _)); refine blk_put (cs := #[.int .i64 t541, .slice none 0 0]) ?_ 1 _ rfl; (with_reducible repeat (first | refine blk_drewN ?_ _ | refine blk_drew ?_ | refine blk_alloc ?_ _)); refine blk_put (cs := #[.int .i64 0, .slice none 0 0]) ?_ 0 _ rfl; (with_reducible repeat (first | refine blk_drewN ?_ _ | refine blk_drew ?_ | refine blk_alloc ?_ _)); exact BK545.out) hb); have n6_ := Aside0.mk (below_step (by repeat (first | (with_reducible first | exact HB.out | apply below_alloc | apply pw_below_drewN | apply below_drew1 | refine below_set ?_ GE537.out | refine below_set ?_ GE545.out) | exact HB.out)) hb); clear HO532; clear HO536; clear HO540; clear HO544; clear BK537; clear BK545; clear HB; have HO532 := n0_; have HO536 := n1_; have HO540 := n2_; have HO544 := n3_; have BK537 := n4_; have BK545 := n5_; have HB := n6_; clear n0_ n1_ n2_ n3_ n4_ n5_ n6_; (try clear hb); (try clear hb2); (try clear hk); (try clear hi)) | ((with_reducible refine gate_callee (f := 33) rfl ?_); refine goesL_ (some 33) rfl rfl Try.func33 (by kernel_rfl) rfl #[.slice A0 l0.length c0] rfl (by (try simp only [List.map_toArray, List.map_cons, List.map_nil]); first | done | rfl | (simp only [List.length_drop, List.length_take]; rfl)) ?_; (with_reducible refine (laws_toChunkS.calls k _ _ l0 t547 _ ?side1 ?side2 A12.out).mono ?_); (case side1 => repeat (first | exact (Kd.C_below HR0.out HB.out) | (with_reducible refine Kd.C_alloc ?_ _) | (with_reducible refine Kd.C_drewN ?_ _) | (with_reducible refine Kd.C_drew ?_))); (case side2 => exact HC0.out); rintro e w33 ⟨v548, rfl, ho0, hb⟩; refine ⟨_, rfl, ?_⟩; have n0_ := Aside0.mk (Kd.S_elder' (by (with_reducible repeat (first | apply Kd.S_alloc | apply Kd.S_drewN | apply Kd.S_drew)); exact HO532.out) (Kd.S_base ho0) hb); have n1_ := Aside0.mk (Kd.R_below (by (with_reducible repeat (first | apply Kd.R_alloc | apply Kd.R_drewN | apply Kd.R_drew)); exact HO536.out) hb); have n2_ := Aside0.mk (Kd.S_elder' (by (with_reducible repeat (first | apply Kd.S_alloc | apply Kd.S_drewN | apply Kd.S_drew)); exact HO540.out) (Kd.S_base ho0) hb); have n3_ := Aside0.mk (Kd.R_below (by (with_reducible repeat (first | apply Kd.R_alloc | apply Kd.R_drewN | apply Kd.R_drew)); exact HO544.out) hb); have n4_ := Aside0.mk (Kd.S_lower (Kd.S_new' (Kd.S_new' (Kd.S_new' (Kd.S_new' ho0 (Kd.S_lt (by (with_reducible repeat (first | apply Kd.S_alloc | apply Kd.S_drewN | apply Kd.S_drew)); exact HO532.out))) (Kd.R_lt (by (with_reducible repeat (first | apply Kd.R_alloc | apply Kd.R_drewN | apply Kd.R_drew)); exact HO536.out))) (Kd.S_lt (by (with_reducible repeat (first | apply Kd.S_alloc | apply Kd.S_drewN | apply Kd.S_drew)); exact HO540.out))) (Kd.R_lt (by (with_reducible repeat (first | apply Kd.R_alloc | apply Kd.R_drewN | apply Kd.R_drew)); exact HO544.out))) (below_size (by repeat (first | (with_reducible first | exact HB.out | apply below_alloc | apply pw_below_drewN | apply below_drew1 | refine below_set ?_ GE537.out | refine below_set ?_ GE545.out) | exact HB.out)))); have n5_ := Aside0.mk (blk_below (g := gb537) (o := .cells #[.int .i64 t533, .slice Ao23 t534.length co23] 37 (0, 0)) (by (with_reducible repeat (first | refine blk_drewN ?_ _ | refine blk_drew ?_ | refine blk_alloc ?_ _)); exact BK537.out) hb); have n6_ := Aside0.mk (blk_below (g := gb545) (o := .cells #[.int .i64 t541, .slice Ao30 t542.length co30] 37 (0, 0)) (by (with_reducible repeat (first | refine blk_drewN ?_ _ | refine blk_drew ?_ | refine blk_alloc ?_ _)); exact BK545.out) hb); have n7_ := Aside0.mk (below_step (by repeat (first | (with_reducible first | exact HB.out | apply below_alloc | apply pw_below_drewN | apply below_drew1 | refine below_set ?_ GE537.out | refine below_set ?_ GE545.out) | exact HB.out)) hb); clear HO532; clear HO536; clear HO540; clear HO544; clear BK537; clear BK545; clear HB; have HO532 := n0_; have HO536 := n1_; have HO540 := n2_; have HO544 := n3_; have HO549 := n4_; have BK537 := n5_; have BK545 := n6_; have HB := n7_; clear n0_ n1_ n2_ n3_ n4_ n5_ n6_ n7_; (try clear hb); (try clear hb2); (try clear hk); (try clear hi); (try clear ho0); obtain ⟨Ao34, co34, eo34⟩ := Kd.S_slice HO549.out; subst eo34) | ((with_reducible refine gate_callee (f := 35) rfl ?_); refine goesL_ (some 34) rfl rfl Try.func35 (by kernel_rfl) rfl #[.slice Ao25 t538.length co25, .slice Ao34 t547.length co34] rfl (by (try simp only [List.map_toArray, List.map_cons, List.map_nil]); first | done | rfl | (simp only [List.length_drop, List.length_take]; rfl)) ?_; (with_reducible refine (laws_eqChunkS.calls k _ _ t538 _ _ t547 true _ ?side1 ?side2 ?side3 ?side4 A13.out).mono ?_); (case side1 => repeat (first | exact (Kd.S_reads' HO540.out).2.2 | (with_reducible refine Kd.C_alloc ?_ _) | (with_reducible refine Kd.C_drewN ?_ _) | (with_reducible refine Kd.C_drew ?_))); (case side2 => exact (Kd.S_reads' HO540.out).2.1); (case side3 => repeat (first | exact (Kd.S_reads' HO549.out).2.2 | (with_reducible refine Kd.C_alloc ?_ _) | (with_reducible refine Kd.C_drewN ?_ _) | (with_reducible refine Kd.C_drew ?_))); (case side4 => exact (Kd.S_reads' HO549.out).2.1); rintro e w35 ⟨rfl, hb⟩; refine ⟨_, rfl, ?_⟩; have n0_ := Aside0.mk (Kd.S_below (by (with_reducible repeat (first | apply Kd.S_alloc | apply Kd.S_drewN | apply Kd.S_drew)); exact HO532.out) hb); have n1_ := Aside0.mk (Kd.R_below (by (with_reducible repeat (first | apply Kd.R_alloc | apply Kd.R_drewN | apply Kd.R_drew)); exact HO536.out) hb); have n2_ := Aside0.mk (Kd.S_below (by (with_reducible repeat (first | apply Kd.S_alloc | apply Kd.S_drewN | apply Kd.S_drew)); exact HO540.out) hb); have n3_ := Aside0.mk (Kd.R_below (by (with_reducible repeat (first | apply Kd.R_alloc | apply Kd.R_drewN | apply Kd.R_drew)); exact HO544.out) hb); have n4_ := Aside0.mk (Kd.S_below (by (with_reducible repeat (first | apply Kd.S_alloc | apply Kd.S_drewN | apply Kd.S_drew)); exact HO549.out) hb); have n5_ := Aside0.mk (blk_below (g := gb537) (o := .cells #[.int .i64 t533, .slice Ao23 t534.length co23] 37 (0, 0)) (by (with_reducible repeat (first | refine blk_drewN ?_ _ | refine blk_drew ?_ | refine blk_alloc ?_ _)); exact BK537.out) hb); have n6_ := Aside0.mk (blk_below (g := gb545) (o := .cells #[.int .i64 t541, .slice Ao30 t542.length co30] 37 (0, 0)) (by (with_reducible repeat (first | refine blk_drewN ?_ _ | refine blk_drew ?_ | refine blk_alloc ?_ _)); exact BK545.out) hb); have n7_ := Aside0.mk (below_step (by repeat (first | (with_reducible first | exact HB.out | apply below_alloc | apply pw_below_drewN | apply below_drew1 | refine below_set ?_ GE537.out | refine below_set ?_ GE545.out) | exact HB.out)) hb); clear HO532; clear HO536; clear HO540; clear HO544; clear HO549; clear BK537; clear BK545; clear HB; have HO532 := n0_; have HO536 := n1_; have HO540 := n2_; have HO544 := n3_; have HO549 := n4_; have BK537 := n5_; have BK545 := n6_; have HB := n7_; clear n0_ n1_ n2_ n3_ n4_ n5_ n6_ n7_; (try clear hb); (try clear hb2); (try clear hk); (try clear hi)) | ((with_reducible refine gate_callee (f := 36) rfl ?_); refine goesL_ (some 38) rfl rfl Try.func36 (by kernel_rfl) rfl #[.slice Ao25 t538.length co25, .int .i64 1] rfl (by (try simp only [List.map_toArray, List.map_cons, List.map_nil]); first | done | rfl | (simp only [List.length_drop, List.length_take]; rfl)) ?_; (with_reducible refine (laws_markChunkS.calls k (fun k_ => (((((True ∧ some k_ ≠ (.slice Ao19 t530.length co19 : Value).ownBlock) ∧ some k_ ≠ (.slice Ao23 t534.length co23 : Value).ownBlock) ∧ some k_ ≠ (.slice Ao30 t542.length co30 : Value).ownBlock) ∧ some k_ ≠ (.slice Ao34 t547.length co34 : Value).ownBlock) ∧ k_ ≠ gb537) ∧ k_ ≠ gb545) (.slice Ao25 t538.length co25) t538 1 t551 t552 w _ ?side1 ?side2 A15.out).mono ?_); (case side1 => repeat (first | (with_reducible first | exact HB.out | apply below_alloc | apply pw_below_drewN | apply below_drew1 | refine below_set ?_ GE537.out | refine below_set ?_ GE545.out) | exact HB.out)); (case side2 => exact Kd.S_types (Kd.S_types HO540.out (by (with_reducible repeat (first | refine blk_drewN ?_ _ | refine blk_drew ?_ | refine blk_alloc ?_ _)); exact BK537.out) (by decide)) (by (with_reducible repeat (first | refine blk_drewN ?_ _ | refine blk_drew ?_ | refine blk_alloc ?_ _)); exact BK545.out) (by decide)); rintro e w36 ⟨rfl, hy0, hb, hkp⟩; refine ⟨_, rfl, ?_⟩; have n1_ := Aside0.mk (Kd.R_reok rfl (Kd.R_keptB (Kd.R_tight rfl HO536.out) hkp (fun k_ hk_ hs_ => hs_.1.1.1.1.2 hk_)) (ok := fun k_ => some k_ ≠ (.slice Ao30 t542.length co30 : Value).ownBlock) (fun k_ e_ => (by have h_ := HO536.out.1 k_ e_; first | exact h_ | exact h_.2))); have n2_ := Aside0.mk (blk_kept (by (with_reducible repeat (first | refine blk_drewN ?_ _ | refine blk_drew ?_ | refine blk_alloc ?_ _)); exact BK537.out) hkp (fun hs_ => hs_.1.2 rfl)); have n4_ := Aside0.mk (Kd.R_reok rfl (Kd.R_keptB (Kd.R_tight rfl HO544.out) hkp (fun k_ hk_ hs_ => hs_.1.1.1.2 hk_)) (ok := fun k_ => some k_ ≠ (.slice Ao23 t534.length co23 : Value).ownBlock) (fun k_ e_ => (by have h_ := HO544.out.1 k_ e_; first | exact h_ | exact h_.2))); have n5_ := Aside0.mk (blk_kept (by (with_reducible repeat (first | refine blk_drewN ?_ _ | refine blk_drew ?_ | refine blk_alloc ?_ _)); exact BK545.out) hkp (fun hs_ => hs_.2 rfl)); have n7_ := Aside0.mk (hb); clear HO532; clear HO536; clear BK537; clear HO540; clear HO544; clear BK545; clear HO549; clear HB; have HO536 := n1_; have BK537 := n2_; have HO544 := n4_; have BK545 := n5_; have HB := n7_; clear n1_ n2_ n4_ n5_ n7_; (try clear hb); (try clear hkp); (try clear hy0)))
    (try simp only [Act.put, List.setIfInBounds_toArray, List.set_cons_zero, List.set_cons_succ])
    go_cut [46] (fun v46 wc => ∃ (kq : Nat) (x46_15 : Bool), v46 = .bool x46_15 ∧ Aside0 (laws_FnExactWeaveSide.j0 kq l0 a1 x46_15 t533 t534 t541 t542 = some r) ∧ Aside0 (kq ≤ k) ∧ Aside0 (Kd.R Kd.string 9 wc w.heap.size (fun k_ => some k_ ≠ ((.slice Ao30 t542.length co30) : Value).ownBlock) (.slice Ao23 t534.length co23) t534) ∧ Aside0 (Kd.R Kd.string 9 wc w.heap.size (fun k_ => some k_ ≠ ((.slice Ao23 t534.length co23) : Value).ownBlock) (.slice Ao30 t542.length co30) t542) ∧ Aside0 (wc.heap[gb537]? = some (.cells #[.int .i64 t533, (.slice Ao23 t534.length co23)] 37 (0, 0))) ∧ Aside0 (wc.heap[gb545]? = some (.cells #[.int .i64 t541, (.slice Ao30 t542.length co30)] 37 (0, 0))) ∧ Aside0 (Below w.heap.size w wc))
    case first =>
     have H := HC16.out
     clear HC16
     by_cases c37 : t551 < 0
     ·rw [if_pos c37] at H
      have c37b0 : decide (t551 < 0) = true := decide_eq_true c37
      clear c37
      (first | rw [c37b0] | (simp only [i64_w, i32_w]; rw [c37b0]) | skip)
      have H' := Aside0.mk H
      clear H
      go_wp2
      go_meet
      case rel => exact ⟨_, (true), (by first | rfl | (simp; done) | (simp [*]; done)), H', ⟨by first | omega | exact Nat.le_refl _⟩, ⟨by (with_reducible repeat (first | apply Kd.R_alloc | apply Kd.R_drewN | apply Kd.R_drew)); exact HO536.out⟩, ⟨by (with_reducible repeat (first | apply Kd.R_alloc | apply Kd.R_drewN | apply Kd.R_drew)); exact HO544.out⟩, ⟨by (with_reducible repeat (first | refine blk_drewN ?_ _ | refine blk_drew ?_ | refine blk_alloc ?_ _)); exact BK537.out⟩, ⟨by (with_reducible repeat (first | refine blk_drewN ?_ _ | refine blk_drew ?_ | refine blk_alloc ?_ _)); exact BK545.out⟩, ⟨by repeat (first | (with_reducible first | exact HB.out | apply below_alloc | apply pw_below_drewN | apply below_drew1 | refine below_set ?_ GE537.out | refine below_set ?_ GE545.out) | exact HB.out)⟩⟩
     ·rw [if_neg c37] at H
      have c37b0 : decide (t551 < 0) = false := decide_eq_false c37
      clear c37
      (first | rw [c37b0] | (simp only [i64_w, i32_w]; rw [c37b0]) | skip)
      replace H := Option.bind_eq_some_iff.mp H
      obtain ⟨t553, A380, H⟩ := H
      replace H : (laws_FnExactWeaveSide.j0 k l0 a1 (!t553) t533 t534 t541 t542) = some r := H
      have A38 := Aside0.mk A380
      clear A380
      have H' := Aside0.mk H
      clear H
      have hnb39 := NB545_537.out
      have hnc39 := NB537_545.out
      have hcz40_0 : w36.cell? ⟨gb545, 0, none⟩ = some (.int .i64 t541) := (blk_cell BK545.out 0).trans rfl
      have hcz40_1 : w36.cell? ⟨gb545, 1, none⟩ = some (.slice Ao30 t542.length co30) := (blk_cell BK545.out 1).trans rfl
      have hfz40_0 := blk_frozen BK545.out 0
      have hfz40_1 := blk_frozen BK545.out 1
      have hcz41_0 : w36.cell? ⟨gb537, 0, none⟩ = some (.int .i64 t533) := (blk_cell BK537.out 0).trans rfl
      have hcz41_1 : w36.cell? ⟨gb537, 1, none⟩ = some (.slice Ao23 t534.length co23) := (blk_cell BK537.out 1).trans rfl
      have hfz41_0 := blk_frozen BK537.out 0
      have hfz41_1 := blk_frozen BK537.out 1
      go_wp2_with (first | (go_at_call 26; (with_reducible refine (laws_eqLinesResult.calls k t541 _ _ t542 t533 _ _ t534 t553 _ ?side1 ?side2 ?side3 ?side4 A38.out).mono ?_); (case side1 => repeat (first | exact (Kd.R_reads' HO544.out).2.2 | (with_reducible refine Kd.C_alloc ?_ _) | (with_reducible refine Kd.C_drewN ?_ _) | (with_reducible refine Kd.C_drew ?_))); (case side2 => exact (Kd.R_reads' HO544.out).2.1); (case side3 => repeat (first | exact (Kd.R_reads' HO536.out).2.2 | (with_reducible refine Kd.C_alloc ?_ _) | (with_reducible refine Kd.C_drewN ?_ _) | (with_reducible refine Kd.C_drew ?_))); (case side4 => exact (Kd.R_reads' HO536.out).2.1); rintro e w42 ⟨rfl, hb⟩; have n1_ := Aside0.mk (Kd.R_below (by (with_reducible repeat (first | apply Kd.R_alloc | apply Kd.R_drewN | apply Kd.R_drew)); exact HO536.out) hb); have n3_ := Aside0.mk (Kd.R_below (by (with_reducible repeat (first | apply Kd.R_alloc | apply Kd.R_drewN | apply Kd.R_drew)); exact HO544.out) hb); have n5_ := Aside0.mk (blk_below (g := gb537) (o := .cells #[.int .i64 t533, .slice Ao23 t534.length co23] 37 (0, 0)) (by (with_reducible repeat (first | refine blk_drewN ?_ _ | refine blk_drew ?_ | refine blk_alloc ?_ _)); exact BK537.out) hb); have n6_ := Aside0.mk (blk_below (g := gb545) (o := .cells #[.int .i64 t541, .slice Ao30 t542.length co30] 37 (0, 0)) (by (with_reducible repeat (first | refine blk_drewN ?_ _ | refine blk_drew ?_ | refine blk_alloc ?_ _)); exact BK545.out) hb); have n7_ := Aside0.mk (below_step (by repeat (first | (with_reducible first | exact HB.out | apply below_alloc | apply pw_below_drewN | apply below_drew1 | refine below_set ?_ GE537.out | refine below_set ?_ GE545.out) | exact HB.out)) hb); clear HO536; clear HO544; clear BK537; clear BK545; clear HB; have HO536 := n1_; have HO544 := n3_; have BK537 := n5_; have BK545 := n6_; have HB := n7_; clear n1_ n3_ n5_ n6_ n7_; (try clear hb); (try clear hb2); (try clear hk); (try clear hi)))
      go_meet
      case rel => exact ⟨_, (!t553), (by first | rfl | (simp; done) | (simp [*]; done)), H', ⟨by first | omega | exact Nat.le_refl _⟩, ⟨by (with_reducible repeat (first | apply Kd.R_alloc | apply Kd.R_drewN | apply Kd.R_drew)); exact HO536.out⟩, ⟨by (with_reducible repeat (first | apply Kd.R_alloc | apply Kd.R_drewN | apply Kd.R_drew)); exact HO544.out⟩, ⟨by (with_reducible repeat (first | refine blk_drewN ?_ _ | refine blk_drew ?_ | refine blk_alloc ?_ _)); exact BK537.out⟩, ⟨by (with_reducible repeat (first | refine blk_drewN ?_ _ | refine blk_drew ?_ | refine blk_alloc ?_ _)); exact BK545.out⟩, ⟨by repeat (first | (with_reducible first | exact HB.out | apply below_alloc | apply pw_below_drewN | apply below_drew1 | refine below_set ?_ GE537.out | refine below_set ?_ GE545.out) | exact HB.out)⟩⟩
    case rest =>
     clear HC16
     try clear c1
     try clear c2
     try clear p2
     try clear c3
     try clear c4
     try clear c4b0
     try clear c5
     try clear c11
     try clear c14
     try clear c26
     try clear c28
     try clear c31
     try clear c32
     try clear c33
     try clear c34
     try clear c35
     try clear c36
     try clear c37
     try clear c37b0
     try clear c39
     try clear hcz22_0
     try clear hcz22_1
     try clear hcz29_0
     try clear hcz29_1
     try clear hcz31_0
     try clear hcz31_1
     try clear hcz40_0
     try clear hcz40_1
     try clear hcz41_0
     try clear hcz41_1
     try clear hfz22_0
     try clear hfz22_1
     try clear hfz29_0
     try clear hfz29_1
     try clear hfz31_0
     try clear hfz31_1
     try clear hfz40_0
     try clear hfz40_1
     try clear hfz41_0
     try clear hfz41_1
     obtain ⟨kq, x46_15, rfl, HA, HJ15, HO_538001, HO_546001, BK537, BK545, HB⟩ := hcut
     cases kq with
     | zero => exact absurd HA.out (by simp [laws_FnExactWeaveSide.j0])
     | succ kj15 =>
      have H := HA.out
      clear HA
      simp only [laws_FnExactWeaveSide.j0] at H
      by_cases c43 : x46_15 = true
      ·subst c43
       have H1 : (some false) = some r := by rw [if_pos rfl] at H; exact H
       clear H
       have H := H1
       clear H1
       exact absurd ((Option.some.inj H).trans HLAW.out) (by decide)
      ·replace c43 := Bool.eq_false_iff.mpr c43
       subst c43
       have H1 : ((laws_markLinesResult.f kj15 t541 t542 1).bind fun bt554 => ((laws_heldLinesResult.f kj15 t541 bt554.2 1).bind fun t556 => (if t556 < 0 then (some false) else (if t556 = bt554.1 then ((laws_toChunkS.f kj15 l0).bind fun t557 => ((impl_WeaveSide.f kj15 t557 a1).bind fun bt560 => ((laws_eqLinesResult.f kj15 bt560.1 bt560.2 t533 t534).bind fun t565 => (if t565 = true then ((laws_heldLinesResult.f kj15 t541 bt554.2 1).bind fun t566 => (if t566 < 0 then (some false) else (if t566 = bt554.1 then (some true) else (some false)))) else (some false))))) else (some false))))) = some r := by rw [if_neg (show ¬ (false = true) by decide)] at H; exact H
       clear H
       have H := H1
       clear H1
       replace H := Option.bind_eq_some_iff.mp H
       obtain ⟨⟨t554, t555⟩, A440, H⟩ := H
       replace H : ((laws_heldLinesResult.f kj15 t541 t555 1).bind fun t556 => (if t556 < 0 then (some false) else (if t556 = t554 then ((laws_toChunkS.f kj15 l0).bind fun t557 => ((impl_WeaveSide.f kj15 t557 a1).bind fun bt560 => ((laws_eqLinesResult.f kj15 bt560.1 bt560.2 t533 t534).bind fun t565 => (if t565 = true then ((laws_heldLinesResult.f kj15 t541 t555 1).bind fun t566 => (if t566 < 0 then (some false) else (if t566 = t554 then (some true) else (some false)))) else (some false))))) else (some false)))) = some r := H
       have A44 := Aside0.mk A440
       clear A440
       replace H := Option.bind_eq_some_iff.mp H
       obtain ⟨t556, A450, H⟩ := H
       replace H : (if t556 < 0 then (some false) else (if t556 = t554 then ((laws_toChunkS.f kj15 l0).bind fun t557 => ((impl_WeaveSide.f kj15 t557 a1).bind fun bt560 => ((laws_eqLinesResult.f kj15 bt560.1 bt560.2 t533 t534).bind fun t565 => (if t565 = true then ((laws_heldLinesResult.f kj15 t541 t555 1).bind fun t566 => (if t566 < 0 then (some false) else (if t566 = t554 then (some true) else (some false)))) else (some false))))) else (some false))) = some r := H
       have A45 := Aside0.mk A450
       clear A450
       by_cases c46 : t556 < 0
       ·rw [if_pos c46] at H
        have c46b0 : decide (t556 < 0) = true := decide_eq_true c46
        clear c46
        exact absurd ((Option.some.inj H).trans HLAW.out) (by decide)
       ·rw [if_neg c46] at H
        have c46b0 : decide (t556 < 0) = false := decide_eq_false c46
        clear c46
        by_cases c47 : t556 = t554
        ·rw [if_pos c47] at H
         have c47b0 : (t556 == t554) = true := beq_iff_eq.mpr c47
         have c47b1 : (t556 != t554) = false := bne_eq_false_iff_eq.mpr c47
         clear c47
         replace H := Option.bind_eq_some_iff.mp H
         obtain ⟨t557, A480, H⟩ := H
         replace H : ((impl_WeaveSide.f kj15 t557 a1).bind fun bt560 => ((laws_eqLinesResult.f kj15 bt560.1 bt560.2 t533 t534).bind fun t565 => (if t565 = true then ((laws_heldLinesResult.f kj15 t541 t555 1).bind fun t566 => (if t566 < 0 then (some false) else (if t566 = t554 then (some true) else (some false)))) else (some false)))) = some r := H
         have A48 := Aside0.mk A480
         clear A480
         replace H := Option.bind_eq_some_iff.mp H
         obtain ⟨⟨t560, t561⟩, A490, H⟩ := H
         replace H : ((laws_eqLinesResult.f kj15 t560 t561 t533 t534).bind fun t565 => (if t565 = true then ((laws_heldLinesResult.f kj15 t541 t555 1).bind fun t566 => (if t566 < 0 then (some false) else (if t566 = t554 then (some true) else (some false)))) else (some false))) = some r := H
         have A49 := Aside0.mk A490
         clear A490
         replace H := Option.bind_eq_some_iff.mp H
         obtain ⟨t565, A500, H⟩ := H
         replace H : (if t565 = true then ((laws_heldLinesResult.f kj15 t541 t555 1).bind fun t566 => (if t566 < 0 then (some false) else (if t566 = t554 then (some true) else (some false)))) else (some false)) = some r := H
         have A50 := Aside0.mk A500
         clear A500
         by_cases c51 : t565 = true
         ·subst c51
          have H1 : ((laws_heldLinesResult.f kj15 t541 t555 1).bind fun t566 => (if t566 < 0 then (some false) else (if t566 = t554 then (some true) else (some false)))) = some r := by rw [if_pos rfl] at H; exact H
          clear H
          have H := H1
          clear H1
          replace H := Option.bind_eq_some_iff.mp H
          obtain ⟨t566, A520, H⟩ := H
          replace H : (if t566 < 0 then (some false) else (if t566 = t554 then (some true) else (some false))) = some r := H
          have A52 := Aside0.mk A520
          clear A520
          by_cases c53 : t566 < 0
          ·rw [if_pos c53] at H
           have c53b0 : decide (t566 < 0) = true := decide_eq_true c53
           clear c53
           exact absurd ((Option.some.inj H).trans HLAW.out) (by decide)
          ·rw [if_neg c53] at H
           have c53b0 : decide (t566 < 0) = false := decide_eq_false c53
           clear c53
           by_cases c54 : t566 = t554
           ·rw [if_pos c54] at H
            have c54b0 : (t566 == t554) = true := beq_iff_eq.mpr c54
            have c54b1 : (t566 != t554) = false := bne_eq_false_iff_eq.mpr c54
            clear c54
            obtain rfl := Option.some.inj H
            have hnb55 := NB545_537.out
            have hnc55 := NB537_545.out
            have hcz56_0 : wc.cell? ⟨gb545, 0, none⟩ = some (.int .i64 t541) := (blk_cell BK545.out 0).trans rfl
            have hcz56_1 : wc.cell? ⟨gb545, 1, none⟩ = some (.slice Ao30 t542.length co30) := (blk_cell BK545.out 1).trans rfl
            have hfz56_0 := blk_frozen BK545.out 0
            have hfz56_1 := blk_frozen BK545.out 1
            go_wp2_with (first | ((with_reducible refine gate_callee (f := 29) rfl ?_); refine goesL_ (some 49) rfl rfl Try.func29 (by kernel_rfl) rfl #[.agg #[.int .i64 t541, .slice Ao30 t542.length co30], .int .i64 1] rfl (by (try simp only [List.map_toArray, List.map_cons, List.map_nil]); first | done | rfl | (simp only [List.length_drop, List.length_take]; rfl)) ?_; (with_reducible refine (laws_markLinesResult.calls kj15 t541 (fun k_ => some k_ = (.slice Ao30 t542.length co30 : Value).ownBlock) (.slice Ao30 t542.length co30) t542 1 t554 t555 w _ ?side1 ?side2 A44.out).mono ?_); (case side1 => repeat (first | (with_reducible first | exact HB.out | apply below_alloc | apply pw_below_drewN | apply below_drew1 | refine below_set ?_ GE537.out | refine below_set ?_ GE545.out) | exact HB.out)); (case side2 => exact Kd.R_tight rfl HO_546001.out); rintro e w57 ⟨rfl, hy0, hb, hkp⟩; refine ⟨_, rfl, ?_⟩; have n0_ := Aside0.mk (Kd.R_mono (ok' := fun k_ => some k_ ≠ (.slice Ao30 t542.length co30 : Value).ownBlock) (Kd.R_keptB (HO_538001.out) hkp (fun k_ hk_ hs_ => (hk_) hs_)) (fun k_ hk_ => hk_.1)); have n1_ := Aside0.mk (Kd.R_reok rfl hy0 (fun k_ e_ => HO_546001.out.1 k_ e_)); have n2_ := Aside0.mk (blk_kept (by (with_reducible repeat (first | refine blk_drewN ?_ _ | refine blk_drew ?_ | refine blk_alloc ?_ _)); exact BK537.out) hkp (fun hs_ => (fun e_ => (Kd.R_ne HO_546001.out BK537.out (by decide)) e_) hs_)); have n3_ := Aside0.mk (blk_kept (by (with_reducible repeat (first | refine blk_drewN ?_ _ | refine blk_drew ?_ | refine blk_alloc ?_ _)); exact BK545.out) hkp (fun hs_ => (fun e_ => (Kd.R_ne HO_546001.out BK545.out (by decide)) e_) hs_)); have n4_ := Aside0.mk (hb); clear HO_538001; clear HO_546001; clear BK537; clear BK545; clear HB; have HO_538001 := n0_; have HO_546001 := n1_; have BK537 := n2_; have BK545 := n3_; have HB := n4_; clear n0_ n1_ n2_ n3_ n4_; (try clear hb); (try clear hkp); (try clear hy0); have hcz58_0 : w57.cell? ⟨gb545, 0, none⟩ = some (.int .i64 t541) := (blk_cell BK545.out 0).trans rfl; have hcz58_1 : w57.cell? ⟨gb545, 1, none⟩ = some (.slice Ao30 t542.length co30) := (blk_cell BK545.out 1).trans rfl; have hfz58_0 := blk_frozen BK545.out 0; have hfz58_1 := blk_frozen BK545.out 1) | ((with_reducible refine gate_callee (f := 30) rfl ?_); refine goesL_ (some 52) rfl rfl Try.func30 (by kernel_rfl) rfl #[.agg #[.int .i64 t541, .slice Ao30 t555.length co30], .int .i64 1] rfl (by (try simp only [List.map_toArray, List.map_cons, List.map_nil]); first | done | (rw [show t555.length = t542.length from (Kd.R_reads' HO_546001.out).1.symm] <;> rfl) | rfl | (simp only [List.length_drop, List.length_take]; rfl)) ?_; (with_reducible refine (laws_heldLinesResult.calls kj15 t541 _ _ t555 1 t556 _ ?side1 ?side2 A45.out).mono ?_); (case side1 => repeat (first | exact (Kd.R_reads' HO_546001.out).2.2 | (with_reducible refine Kd.C_alloc ?_ _) | (with_reducible refine Kd.C_drewN ?_ _) | (with_reducible refine Kd.C_drew ?_))); (case side2 => rw [show t555.length = t542.length from (Kd.R_reads' HO_546001.out).1.symm]; exact (Kd.R_reads' HO_546001.out).2.1); rintro e w59 ⟨rfl, hb⟩; refine ⟨_, rfl, ?_⟩; have n0_ := Aside0.mk (Kd.R_below (by (with_reducible repeat (first | apply Kd.R_alloc | apply Kd.R_drewN | apply Kd.R_drew)); exact HO_538001.out) hb); have n1_ := Aside0.mk (Kd.R_below (by (with_reducible repeat (first | apply Kd.R_alloc | apply Kd.R_drewN | apply Kd.R_drew)); exact HO_546001.out) hb); have n2_ := Aside0.mk (blk_below (g := gb537) (o := .cells #[.int .i64 t533, .slice Ao23 t534.length co23] 37 (0, 0)) (by (with_reducible repeat (first | refine blk_drewN ?_ _ | refine blk_drew ?_ | refine blk_alloc ?_ _)); exact BK537.out) hb); have n3_ := Aside0.mk (blk_below (g := gb545) (o := .cells #[.int .i64 t541, .slice Ao30 t542.length co30] 37 (0, 0)) (by (with_reducible repeat (first | refine blk_drewN ?_ _ | refine blk_drew ?_ | refine blk_alloc ?_ _)); exact BK545.out) hb); have n4_ := Aside0.mk (below_step (by repeat (first | (with_reducible first | exact HB.out | apply below_alloc | apply pw_below_drewN | apply below_drew1 | refine below_set ?_ GE537.out | refine below_set ?_ GE545.out) | exact HB.out)) hb); clear HO_538001; clear HO_546001; clear BK537; clear BK545; clear HB; have HO_538001 := n0_; have HO_546001 := n1_; have BK537 := n2_; have BK545 := n3_; have HB := n4_; clear n0_ n1_ n2_ n3_ n4_; (try clear hb); (try clear hb2); (try clear hk); (try clear hi)) | ((with_reducible refine gate_callee (f := 33) rfl ?_); refine goesL_ (some 59) rfl rfl Try.func33 (by kernel_rfl) rfl #[.slice A0 l0.length c0] rfl (by (try simp only [List.map_toArray, List.map_cons, List.map_nil]); first | done | rfl | (simp only [List.length_drop, List.length_take]; rfl)) ?_; (with_reducible refine (laws_toChunkS.calls kj15 _ _ l0 t557 _ ?side1 ?side2 A48.out).mono ?_); (case side1 => repeat (first | exact (Kd.C_below HR0.out HB.out) | (with_reducible refine Kd.C_alloc ?_ _) | (with_reducible refine Kd.C_drewN ?_ _) | (with_reducible refine Kd.C_drew ?_))); (case side2 => exact HC0.out); rintro e w60 ⟨v558, rfl, ho0, hb⟩; refine ⟨_, rfl, ?_⟩; have n0_ := Aside0.mk (Kd.R_below (by (with_reducible repeat (first | apply Kd.R_alloc | apply Kd.R_drewN | apply Kd.R_drew)); exact HO_538001.out) hb); have n1_ := Aside0.mk (Kd.R_below (by (with_reducible repeat (first | apply Kd.R_alloc | apply Kd.R_drewN | apply Kd.R_drew)); exact HO_546001.out) hb); have n2_ := Aside0.mk (Kd.S_lower (Kd.S_new' (Kd.S_new' ho0 (Kd.R_lt (by (with_reducible repeat (first | apply Kd.R_alloc | apply Kd.R_drewN | apply Kd.R_drew)); exact HO_538001.out))) (Kd.R_lt (by (with_reducible repeat (first | apply Kd.R_alloc | apply Kd.R_drewN | apply Kd.R_drew)); exact HO_546001.out))) (below_size (by repeat (first | (with_reducible first | exact HB.out | apply below_alloc | apply pw_below_drewN | apply below_drew1 | refine below_set ?_ GE537.out | refine below_set ?_ GE545.out) | exact HB.out)))); have n3_ := Aside0.mk (blk_below (g := gb537) (o := .cells #[.int .i64 t533, .slice Ao23 t534.length co23] 37 (0, 0)) (by (with_reducible repeat (first | refine blk_drewN ?_ _ | refine blk_drew ?_ | refine blk_alloc ?_ _)); exact BK537.out) hb); have n4_ := Aside0.mk (blk_below (g := gb545) (o := .cells #[.int .i64 t541, .slice Ao30 t542.length co30] 37 (0, 0)) (by (with_reducible repeat (first | refine blk_drewN ?_ _ | refine blk_drew ?_ | refine blk_alloc ?_ _)); exact BK545.out) hb); have n5_ := Aside0.mk (below_step (by repeat (first | (with_reducible first | exact HB.out | apply below_alloc | apply pw_below_drewN | apply below_drew1 | refine below_set ?_ GE537.out | refine below_set ?_ GE545.out) | exact HB.out)) hb); clear HO_538001; clear HO_546001; clear BK537; clear BK545; clear HB; have HO_538001 := n0_; have HO_546001 := n1_; have HO559 := n2_; have BK537 := n3_; have BK545 := n4_; have HB := n5_; clear n0_ n1_ n2_ n3_ n4_ n5_; (try clear hb); (try clear hb2); (try clear hk); (try clear hi); (try clear ho0); obtain ⟨Ao61, co61, eo61⟩ := Kd.S_slice HO559.out; subst eo61) | ((with_reducible refine gate_callee (f := 34) rfl ?_); refine goesL_ (some 61) rfl rfl Try.func34 (by kernel_rfl) rfl #[.slice Ao61 t557.length co61, .int .i64 a1] rfl (by (try simp only [List.map_toArray, List.map_cons, List.map_nil]); first | done | rfl | (simp only [List.length_drop, List.length_take]; rfl)) ?_; (with_reducible refine (impl_WeaveSide.calls kj15 _ _ t557 a1 t560 t561 _ ?side1 ?side2 A49.out).mono ?_); (case side1 => repeat (first | exact (Kd.S_reads' HO559.out).2.2 | (with_reducible refine Kd.C_alloc ?_ _) | (with_reducible refine Kd.C_drewN ?_ _) | (with_reducible refine Kd.C_drew ?_))); (case side2 => exact (Kd.S_reads' HO559.out).2.1); rintro e w62 ⟨v562, rfl, ho0, hb⟩; refine ⟨_, rfl, ?_⟩; have n0_ := Aside0.mk (Kd.R_elder' (by (with_reducible repeat (first | apply Kd.R_alloc | apply Kd.R_drewN | apply Kd.R_drew)); exact HO_538001.out) (Kd.R_base ho0) hb); have n1_ := Aside0.mk (Kd.R_elder' (by (with_reducible repeat (first | apply Kd.R_alloc | apply Kd.R_drewN | apply Kd.R_drew)); exact HO_546001.out) (Kd.R_base ho0) hb); have n2_ := Aside0.mk (Kd.S_elder' (by (with_reducible repeat (first | apply Kd.S_alloc | apply Kd.S_drewN | apply Kd.S_drew)); exact HO559.out) (Kd.R_base ho0) hb); have n3_ := Aside0.mk (Kd.R_lower (Kd.R_new' (Kd.R_new' ho0 (Kd.R_lt (by (with_reducible repeat (first | apply Kd.R_alloc | apply Kd.R_drewN | apply Kd.R_drew)); exact HO_538001.out))) (Kd.R_lt (by (with_reducible repeat (first | apply Kd.R_alloc | apply Kd.R_drewN | apply Kd.R_drew)); exact HO_546001.out))) (below_size (by repeat (first | (with_reducible first | exact HB.out | apply below_alloc | apply pw_below_drewN | apply below_drew1 | refine below_set ?_ GE537.out | refine below_set ?_ GE545.out) | exact HB.out)))); have n4_ := Aside0.mk (blk_below (g := gb537) (o := .cells #[.int .i64 t533, .slice Ao23 t534.length co23] 37 (0, 0)) (by (with_reducible repeat (first | refine blk_drewN ?_ _ | refine blk_drew ?_ | refine blk_alloc ?_ _)); exact BK537.out) hb); have n5_ := Aside0.mk (blk_below (g := gb545) (o := .cells #[.int .i64 t541, .slice Ao30 t542.length co30] 37 (0, 0)) (by (with_reducible repeat (first | refine blk_drewN ?_ _ | refine blk_drew ?_ | refine blk_alloc ?_ _)); exact BK545.out) hb); have n6_ := Aside0.mk (below_step (by repeat (first | (with_reducible first | exact HB.out | apply below_alloc | apply pw_below_drewN | apply below_drew1 | refine below_set ?_ GE537.out | refine below_set ?_ GE545.out) | exact HB.out)) hb); clear HO_538001; clear HO_546001; clear HO559; clear BK537; clear BK545; clear HB; have HO_538001 := n0_; have HO_546001 := n1_; have HO559 := n2_; have HO563 := n3_; have BK537 := n4_; have BK545 := n5_; have HB := n6_; clear n0_ n1_ n2_ n3_ n4_ n5_ n6_; (try clear hb); (try clear hb2); (try clear hk); (try clear hi); (try clear ho0)) | ((with_reducible refine gate_dst (N := 12) rfl ?_); refine box_event ?hg (N := 12) ?hd (cs := #[.int .i64 0, .slice none 0 0]) (t := 37) ?hr ?_; (case hd => rfl); (case hg => rfl); (case hr => first | (go_simp; done) | (go_simp; rfl)); intro gb564 hg w63 hbox hb; have n0_ := Aside0.mk (Kd.R_below (by (with_reducible repeat (first | apply Kd.R_alloc | apply Kd.R_drewN | apply Kd.R_drew)); exact HO_538001.out) hb); have n1_ := Aside0.mk (Kd.R_below (by (with_reducible repeat (first | apply Kd.R_alloc | apply Kd.R_drewN | apply Kd.R_drew)); exact HO_546001.out) hb); have n2_ := Aside0.mk (Kd.S_below (by (with_reducible repeat (first | apply Kd.S_alloc | apply Kd.S_drewN | apply Kd.S_drew)); exact HO559.out) hb); have n3_ := Aside0.mk (Kd.R_below (by (with_reducible repeat (first | apply Kd.R_alloc | apply Kd.R_drewN | apply Kd.R_drew)); exact HO563.out) hb); have n4_ := Aside0.mk (blk_below (g := gb537) (o := .cells #[.int .i64 t533, .slice Ao23 t534.length co23] 37 (0, 0)) (by (with_reducible repeat (first | refine blk_drewN ?_ _ | refine blk_drew ?_ | refine blk_alloc ?_ _)); exact BK537.out) hb); have n5_ := Aside0.mk (blk_below (g := gb545) (o := .cells #[.int .i64 t541, .slice Ao30 t542.length co30] 37 (0, 0)) (by (with_reducible repeat (first | refine blk_drewN ?_ _ | refine blk_drew ?_ | refine blk_alloc ?_ _)); exact BK545.out) hb); have n6_ := Aside0.mk (below_step (by repeat (first | (with_reducible first | exact HB.out | apply below_alloc | apply pw_below_drewN | apply below_drew1 | refine below_set ?_ GE537.out | refine below_set ?_ GE545.out) | exact HB.out)) hb); have n7_ := Aside0.mk (hbox); have n8_ := Aside0.mk ((by rw [hg]; exact (below_size (by repeat (first | (with_reducible first | exact HB.out | apply below_alloc | apply pw_below_drewN | apply below_drew1 | refine below_set ?_ GE537.out | refine below_set ?_ GE545.out) | exact HB.out))) : w.heap.size ≤ gb564)); have n9_ := Aside0.mk ((by rw [hg]; exact (below_size (by repeat (first | (with_reducible first | exact HB.out | apply below_alloc | apply pw_below_drewN | apply below_drew1 | refine below_set ?_ GE537.out | refine below_set ?_ GE545.out) | exact HB.out))) : w.heap.size ≤ gb564)); have n10_ := Aside0.mk ((by rw [hg]; exact Nat.ne_of_lt (blk_lt (g := gb537) (o := .cells #[.int .i64 t533, .slice Ao23 t534.length co23] 37 (0, 0)) (by (with_reducible repeat (first | refine blk_drewN ?_ _ | refine blk_drew ?_ | refine blk_alloc ?_ _)); exact BK537.out)) : gb537 ≠ gb564)); have n11_ := Aside0.mk ((by rw [hg]; exact Nat.ne_of_gt (blk_lt (g := gb537) (o := .cells #[.int .i64 t533, .slice Ao23 t534.length co23] 37 (0, 0)) (by (with_reducible repeat (first | refine blk_drewN ?_ _ | refine blk_drew ?_ | refine blk_alloc ?_ _)); exact BK537.out)) : gb564 ≠ gb537)); have n12_ := Aside0.mk ((by rw [hg]; exact Nat.ne_of_lt (blk_lt (g := gb545) (o := .cells #[.int .i64 t541, .slice Ao30 t542.length co30] 37 (0, 0)) (by (with_reducible repeat (first | refine blk_drewN ?_ _ | refine blk_drew ?_ | refine blk_alloc ?_ _)); exact BK545.out)) : gb545 ≠ gb564)); have n13_ := Aside0.mk ((by rw [hg]; exact Nat.ne_of_gt (blk_lt (g := gb545) (o := .cells #[.int .i64 t541, .slice Ao30 t542.length co30] 37 (0, 0)) (by (with_reducible repeat (first | refine blk_drewN ?_ _ | refine blk_drew ?_ | refine blk_alloc ?_ _)); exact BK545.out)) : gb564 ≠ gb545)); clear HO_538001; clear HO_546001; clear HO559; clear HO563; clear BK537; clear BK545; clear HB; have HO_538001 := n0_; have HO_546001 := n1_; have HO559 := n2_; have HO563 := n3_; have BK537 := n4_; have BK545 := n5_; have HB := n6_; have BK564 := n7_; have GW564 := n8_; have GE564 := n9_; have NB537_564 := n10_; have NB564_537 := n11_; have NB545_564 := n12_; have NB564_545 := n13_; clear n0_ n1_ n2_ n3_ n4_ n5_ n6_ n7_ n8_ n9_ n10_ n11_ n12_ n13_; clear hb hbox hg; have hnb64 := NB564_537.out; have hnc64 := NB537_564.out; have hnb65 := NB564_545.out; have hnc65 := NB545_564.out; have hcz66_0 : w63.cell? ⟨gb564, 0, none⟩ = some (.int .i64 0) := (blk_cell BK564.out 0).trans rfl; have hcz66_1 : w63.cell? ⟨gb564, 1, none⟩ = some (.slice none 0 0) := (blk_cell BK564.out 1).trans rfl; have hfz66_0 := blk_frozen BK564.out 0; have hfz66_1 := blk_frozen BK564.out 1; obtain ⟨Ao67, co67, eo67⟩ := Kd.R_slice HO563.out; subst eo67; have hcz68_0 : w63.cell? ⟨gb537, 0, none⟩ = some (.int .i64 t533) := (blk_cell BK537.out 0).trans rfl; have hcz68_1 : w63.cell? ⟨gb537, 1, none⟩ = some (.slice Ao23 t534.length co23) := (blk_cell BK537.out 1).trans rfl; have hfz68_0 := blk_frozen BK537.out 0; have hfz68_1 := blk_frozen BK537.out 1) | ((with_reducible refine gate_callee (f := 26) rfl ?_); refine goesL_ (some 64) rfl rfl Try.func26 (by kernel_rfl) rfl #[.agg #[.int .i64 t560, .slice Ao67 t561.length co67], .agg #[.int .i64 t533, .slice Ao23 t534.length co23]] rfl (by (try simp only [List.map_toArray, List.map_cons, List.map_nil]); first | done | rfl | (simp only [List.length_drop, List.length_take]; rfl)) ?_; (with_reducible refine (laws_eqLinesResult.calls kj15 t560 _ _ t561 t533 _ _ t534 true _ ?side1 ?side2 ?side3 ?side4 A50.out).mono ?_); (case side1 => refine (Kd.R_reads' (e := 9) (base := w.heap.size) (ok := fun k_ => ((True ∧ some k_ ≠ (.slice Ao23 t534.length co23 : Value).ownBlock) ∧ some k_ ≠ (.slice Ao30 t542.length co30 : Value).ownBlock)) (n := t561.length) (c := co67) ?_).2.2; exact (by (with_reducible repeat (first | apply Kd.R_alloc | apply Kd.R_drewN | apply Kd.R_drew)); exact (Kd.R_mono (Kd.R_far (p := ⟨gb564, 1, none⟩) (Kd.R_far (p := ⟨gb564, 0, none⟩) (Kd.R_types HO563.out BK564.out (by decide)) (fun _ hk => hk.2) (.int .i64 t560)) (fun _ hk => hk.2) (.slice Ao67 t561.length co67)) (fun _ h_ => h_.1)))); (case side2 => exact (Kd.R_reads' HO563.out).2.1); (case side3 => refine (Kd.R_reads' (e := 9) (base := w.heap.size) (ok := fun k_ => (some k_ ≠ (.slice Ao30 t542.length co30 : Value).ownBlock ∧ some k_ ≠ (.slice Ao67 t561.length co67 : Value).ownBlock)) (n := t534.length) (c := co23) ?_).2.2; exact (by (with_reducible repeat (first | apply Kd.R_alloc | apply Kd.R_drewN | apply Kd.R_drew)); exact (Kd.R_mono (Kd.R_far (p := ⟨gb564, 1, none⟩) (Kd.R_far (p := ⟨gb564, 0, none⟩) (Kd.R_types HO_538001.out BK564.out (by decide)) (fun _ hk => hk.2) (.int .i64 t560)) (fun _ hk => hk.2) (.slice Ao67 t561.length co67)) (fun _ h_ => h_.1)))); (case side4 => exact (Kd.R_reads' HO_538001.out).2.1); rintro e w69 ⟨rfl, hb⟩; refine ⟨_, rfl, ?_⟩; have n0_ := Aside0.mk (Kd.R_below (by (with_reducible repeat (first | apply Kd.R_alloc | apply Kd.R_drewN | apply Kd.R_drew)); exact (Kd.R_mono (Kd.R_far (p := ⟨gb564, 1, none⟩) (Kd.R_far (p := ⟨gb564, 0, none⟩) (Kd.R_types HO_538001.out BK564.out (by decide)) (fun _ hk => hk.2) (.int .i64 t560)) (fun _ hk => hk.2) (.slice Ao67 t561.length co67)) (fun _ h_ => h_.1))) hb); have n1_ := Aside0.mk (Kd.R_below (by (with_reducible repeat (first | apply Kd.R_alloc | apply Kd.R_drewN | apply Kd.R_drew)); exact (Kd.R_mono (Kd.R_far (p := ⟨gb564, 1, none⟩) (Kd.R_far (p := ⟨gb564, 0, none⟩) (Kd.R_types HO_546001.out BK564.out (by decide)) (fun _ hk => hk.2) (.int .i64 t560)) (fun _ hk => hk.2) (.slice Ao67 t561.length co67)) (fun _ h_ => h_.1))) hb); have n2_ := Aside0.mk (Kd.S_below (by (with_reducible repeat (first | apply Kd.S_alloc | apply Kd.S_drewN | apply Kd.S_drew)); exact (Kd.S_mono (Kd.S_far (p := ⟨gb564, 1, none⟩) (Kd.S_far (p := ⟨gb564, 0, none⟩) (Kd.S_types HO559.out BK564.out (by decide)) (fun _ hk => hk.2) (.int .i64 t560)) (fun _ hk => hk.2) (.slice Ao67 t561.length co67)) (fun _ h_ => h_.1))) hb); have n3_ := Aside0.mk (Kd.R_below (by (with_reducible repeat (first | apply Kd.R_alloc | apply Kd.R_drewN | apply Kd.R_drew)); exact (Kd.R_mono (Kd.R_far (p := ⟨gb564, 1, none⟩) (Kd.R_far (p := ⟨gb564, 0, none⟩) (Kd.R_types HO563.out BK564.out (by decide)) (fun _ hk => hk.2) (.int .i64 t560)) (fun _ hk => hk.2) (.slice Ao67 t561.length co67)) (fun _ h_ => h_.1))) hb); have n4_ := Aside0.mk (blk_below (g := gb537) (o := .cells #[.int .i64 t533, .slice Ao23 t534.length co23] 37 (0, 0)) (by (with_reducible repeat (first | refine blk_drewN ?_ _ | refine blk_drew ?_ | refine blk_alloc ?_ _)); refine blk_far ?_ NB537_564.out _; (with_reducible repeat (first | refine blk_drewN ?_ _ | refine blk_drew ?_ | refine blk_alloc ?_ _)); refine blk_far ?_ NB537_564.out _; (with_reducible repeat (first | refine blk_drewN ?_ _ | refine blk_drew ?_ | refine blk_alloc ?_ _)); exact BK537.out) hb); have n5_ := Aside0.mk (blk_below (g := gb545) (o := .cells #[.int .i64 t541, .slice Ao30 t542.length co30] 37 (0, 0)) (by (with_reducible repeat (first | refine blk_drewN ?_ _ | refine blk_drew ?_ | refine blk_alloc ?_ _)); refine blk_far ?_ NB545_564.out _; (with_reducible repeat (first | refine blk_drewN ?_ _ | refine blk_drew ?_ | refine blk_alloc ?_ _)); refine blk_far ?_ NB545_564.out _; (with_reducible repeat (first | refine blk_drewN ?_ _ | refine blk_drew ?_ | refine blk_alloc ?_ _)); exact BK545.out) hb); have n6_ := Aside0.mk (blk_below (g := gb564) (o := .cells #[.int .i64 t560, .slice Ao67 t561.length co67] 37 (0, 0)) (by (with_reducible repeat (first | refine blk_drewN ?_ _ | refine blk_drew ?_ | refine blk_alloc ?_ _)); refine blk_put (cs := #[.int .i64 t560, .slice none 0 0]) ?_ 1 _ rfl; (with_reducible repeat (first | refine blk_drewN ?_ _ | refine blk_drew ?_ | refine blk_alloc ?_ _)); refine blk_put (cs := #[.int .i64 0, .slice none 0 0]) ?_ 0 _ rfl; (with_reducible repeat (first | refine blk_drewN ?_ _ | refine blk_drew ?_ | refine blk_alloc ?_ _)); exact BK564.out) hb); have n7_ := Aside0.mk (below_step (by repeat (first | (with_reducible first | exact HB.out | apply below_alloc | apply pw_below_drewN | apply below_drew1 | refine below_set ?_ GE537.out | refine below_set ?_ GE545.out | refine below_set ?_ GE564.out) | exact HB.out)) hb); clear HO_538001; clear HO_546001; clear HO559; clear HO563; clear BK537; clear BK545; clear BK564; clear HB; have HO_538001 := n0_; have HO_546001 := n1_; have HO559 := n2_; have HO563 := n3_; have BK537 := n4_; have BK545 := n5_; have BK564 := n6_; have HB := n7_; clear n0_ n1_ n2_ n3_ n4_ n5_ n6_ n7_; (try clear hb); (try clear hb2); (try clear hk); (try clear hi); have hcz70_0 : w69.cell? ⟨gb545, 0, none⟩ = some (.int .i64 t541) := (blk_cell BK545.out 0).trans rfl; have hcz70_1 : w69.cell? ⟨gb545, 1, none⟩ = some (.slice Ao30 t542.length co30) := (blk_cell BK545.out 1).trans rfl; have hfz70_0 := blk_frozen BK545.out 0; have hfz70_1 := blk_frozen BK545.out 1) | ((with_reducible refine gate_callee (f := 30) rfl ?_); refine goesL_ (some 68) rfl rfl Try.func30 (by kernel_rfl) rfl #[.agg #[.int .i64 t541, .slice Ao30 t555.length co30], .int .i64 1] rfl (by (try simp only [List.map_toArray, List.map_cons, List.map_nil]); first | done | (rw [show t555.length = t542.length from (Kd.R_reads' HO_546001.out).1.symm] <;> rfl) | rfl | (simp only [List.length_drop, List.length_take]; rfl)) ?_; (with_reducible refine (laws_heldLinesResult.calls kj15 t541 _ _ t555 1 t566 _ ?side1 ?side2 A52.out).mono ?_); (case side1 => repeat (first | exact (Kd.R_reads' HO_546001.out).2.2 | (with_reducible refine Kd.C_alloc ?_ _) | (with_reducible refine Kd.C_drewN ?_ _) | (with_reducible refine Kd.C_drew ?_))); (case side2 => rw [show t555.length = t542.length from (Kd.R_reads' HO_546001.out).1.symm]; exact (Kd.R_reads' HO_546001.out).2.1); rintro e w71 ⟨rfl, hb⟩; refine ⟨_, rfl, ?_⟩; have n0_ := Aside0.mk (Kd.R_below (by (with_reducible repeat (first | apply Kd.R_alloc | apply Kd.R_drewN | apply Kd.R_drew)); exact HO_538001.out) hb); have n1_ := Aside0.mk (Kd.R_below (by (with_reducible repeat (first | apply Kd.R_alloc | apply Kd.R_drewN | apply Kd.R_drew)); exact HO_546001.out) hb); have n2_ := Aside0.mk (Kd.S_below (by (with_reducible repeat (first | apply Kd.S_alloc | apply Kd.S_drewN | apply Kd.S_drew)); exact HO559.out) hb); have n3_ := Aside0.mk (Kd.R_below (by (with_reducible repeat (first | apply Kd.R_alloc | apply Kd.R_drewN | apply Kd.R_drew)); exact HO563.out) hb); have n4_ := Aside0.mk (blk_below (g := gb537) (o := .cells #[.int .i64 t533, .slice Ao23 t534.length co23] 37 (0, 0)) (by (with_reducible repeat (first | refine blk_drewN ?_ _ | refine blk_drew ?_ | refine blk_alloc ?_ _)); exact BK537.out) hb); have n5_ := Aside0.mk (blk_below (g := gb545) (o := .cells #[.int .i64 t541, .slice Ao30 t542.length co30] 37 (0, 0)) (by (with_reducible repeat (first | refine blk_drewN ?_ _ | refine blk_drew ?_ | refine blk_alloc ?_ _)); exact BK545.out) hb); have n6_ := Aside0.mk (blk_below (g := gb564) (o := .cells #[.int .i64 t560, .slice Ao67 t561.length co67] 37 (0, 0)) (by (with_reducible repeat (first | refine blk_drewN ?_ _ | refine blk_drew ?_ | refine blk_alloc ?_ _)); exact BK564.out) hb); have n7_ := Aside0.mk (below_step (by repeat (first | (with_reducible first | exact HB.out | apply below_alloc | apply pw_below_drewN | apply below_drew1 | refine below_set ?_ GE537.out | refine below_set ?_ GE545.out | refine below_set ?_ GE564.out) | exact HB.out)) hb); clear HO_538001; clear HO_546001; clear HO559; clear HO563; clear BK537; clear BK545; clear BK564; clear HB; have HO_538001 := n0_; have HO_546001 := n1_; have HO559 := n2_; have HO563 := n3_; have BK537 := n4_; have BK545 := n5_; have BK564 := n6_; have HB := n7_; clear n0_ n1_ n2_ n3_ n4_ n5_ n6_ n7_; (try clear hb); (try clear hb2); (try clear hk); (try clear hi)))
            go_ret
            exact ⟨by first | rfl | (simp [errW_none, errW_some] <;> rfl) | (simp [*, errW_none, errW_some] <;> rfl), by repeat (first | (with_reducible first | exact HB.out | apply below_alloc | apply pw_below_drewN | apply below_drew1 | refine below_set ?_ GE537.out | refine below_set ?_ GE545.out | refine below_set ?_ GE564.out) | exact HB.out)⟩
           ·rw [if_neg c54] at H
            have c54b0 : (t566 == t554) = false := beq_eq_false_iff_ne.mpr c54
            have c54b1 : (t566 != t554) = true := bne_iff_ne.mpr c54
            exact absurd ((Option.some.inj H).trans HLAW.out) (by decide)
         ·replace c51 := Bool.eq_false_iff.mpr c51
          subst c51
          have H1 : (some false) = some r := by rw [if_neg (show ¬ (false = true) by decide)] at H; exact H
          clear H
          have H := H1
          clear H1
          exact absurd ((Option.some.inj H).trans HLAW.out) (by decide)
        ·rw [if_neg c47] at H
         have c47b0 : (t556 == t554) = false := beq_eq_false_iff_ne.mpr c47
         have c47b1 : (t556 != t554) = true := bne_iff_ne.mpr c47
         exact absurd ((Option.some.inj H).trans HLAW.out) (by decide)
   ·replace c14 := Bool.eq_false_iff.mpr c14
    subst c14
    have H1 : (some false) = some r := by rw [if_neg (show ¬ (false = true) by decide)] at H; exact H
    clear H
    have H := H1
    clear H1
    exact absurd ((Option.some.inj H).trans HLAW.out) (by decide)
  ·replace c11 := Bool.eq_false_iff.mpr c11
   subst c11
   have H1 : (some false) = some r := by rw [if_neg (show ¬ (false = true) by decide)] at H; exact H
   clear H
   have H := H1
   clear H1
   exact absurd ((Option.some.inj H).trans HLAW.out) (by decide)
end Go.Proofs.Ytjngmhngedecdaa.P
end
section
set_option linter.unusedVariables false
namespace Go.Proofs.Ytjngmhngedecdaa.P
open Go.RowKit Go.Proofs.YtjngmhngedecdaaW.PrintWords Go.Proofs.YtjngmhngedecdaaW.PrintLast
namespace UFnExactWeaveSide
def G53 (x : S53) : Prop := (((Lit.int .i64 (x.f0)).wf = true) ∧ (((x.f1).length ≤ 9223372036854775807 ∧ ∀ y ∈ (x.f1), y.size ≤ 9223372036854775807) ∧ (((x.f2).length ≤ 9223372036854775807 ∧ ∀ y ∈ (x.f2), y.size ≤ 9223372036854775807) ∧ ((x.f3).length ≤ 9223372036854775807 ∧ ∀ y ∈ (x.f3), y.size ≤ 9223372036854775807))))
def Pure : Prop := ∀ (l0 : List S53) (a1 : Int), (l0.length ≤ 9223372036854775807 ∧ ∀ x ∈ l0, G53 x) → ((Lit.int .i64 a1).wf = true) → ∃ k, laws_FnExactWeaveSide.f k l0 a1 = some true
end UFnExactWeaveSide
end Go.Proofs.Ytjngmhngedecdaa.P
end
section
set_option linter.unusedVariables false
set_option linter.unusedSimpArgs false
namespace Go.Proofs.Ytjngmhngedecdaa.P
open Go.RowKit Go.Proofs.YtjngmhngedecdaaW.PrintWords Go.Proofs.YtjngmhngedecdaaW.PrintLast
theorem wid {x : Int} (h0 : -9223372036854775808 ≤ x) (h1 : x ≤ 9223372036854775807) : wrap64 x = x := by
  unfold wrap64
  omega
theorem wsucc {i n : Nat} (h : i < n) (hn : n ≤ 9223372036854775807) : wrap64 ((i : Int) + 1) = ((i + 1 : Nat) : Int) := by
  rw [wid (by omega) (by omega)]
  rfl
theorem Ev_if {α : Type} {c : Prop} [Decidable c] {a b : Nat → Option α} {r : α} (hp : c → Ev a r) (hn : ¬ c → Ev b r) : Ev (fun k => if c then a k else b k) r := by
  by_cases h : c
  · exact (hp h).congr (fun k => if_pos h)
  · exact (hn h).congr (fun k => if_neg h)
theorem Ev_pos {α : Type} {c : Prop} [Decidable c] {a b : Nat → Option α} {r : α} (hc : c) (h : Ev a r) : Ev (fun k => if c then a k else b k) r := h.congr (fun k => if_pos hc)
theorem Ev_neg {α : Type} {c : Prop} [Decidable c] {a b : Nat → Option α} {r : α} (hc : ¬ c) (h : Ev b r) : Ev (fun k => if c then a k else b k) r := h.congr (fun k => if_neg hc)
theorem Ev_call {α β : Type} {g : Nat → Option α} {f : Nat → α → Option β} {a : α} {r : β} (h : Ev g a) (k : Ev (fun n => f n a) r) : Ev (fun n => (g n).bind (f n)) r := Ev.bind h k
theorem Ev_const {α β : Type} {g : Option α} {f : Nat → α → Option β} {a : α} {r : β} (h : g = some a) (k : Ev (fun n => f n a) r) : Ev (fun n => g.bind (f n)) r :=
  Ev.bind (g := fun _ => g) ⟨0, fun _ _ => h⟩ k
theorem Ev_eq {α : Type} {g : Nat → Option α} {r r' : α} (h : Ev g r) (e : r = r') : Ev g r' := e ▸ h
theorem Ev_val {α : Type} {r r' : α} (h : r = r') : Ev (fun _ => some r) r' := ⟨0, fun _ _ => by rw [h]⟩
theorem rd_nat {α : Type} (d : α) {xs : List α} {i : Nat} (h : i < xs.length) : rdOf d xs (i : Int) = xs[i] := by
  unfold rdOf
  rw [Int.toNat_natCast, List.getD_eq_getElem?_getD, List.getElem?_eq_getElem h]
  rfl
theorem rdi_nat {xs : List Int} {i : Nat} (h : i < xs.length) : rd xs (i : Int) = xs[i] := by
  unfold rd
  rw [Int.toNat_natCast, List.getD_eq_getElem?_getD, List.getElem?_eq_getElem h]
  rfl
theorem bt_nat {s : ByteArray} {i : Nat} (h : i < s.data.toList.length) : bt s (i : Int) = ((s.data.toList[i]).toNat : Int) := by
  have h' : i < s.size := by simpa using h
  unfold bt
  rw [dif_pos (by rw [Int.toNat_natCast]; exact h')]
  simp [ByteArray.getElem_eq_getElem_data]
theorem data_eq {a b : ByteArray} : a.toList = b.toList ↔ a = b := by
  rw [ByteArray.toList_eq, ByteArray.toList_eq]
  constructor
  · intro h
    cases a
    cases b
    simpa using h
  · rintro rfl
    rfl
theorem toList_nil {a : ByteArray} : a.toList = ([] : List UInt8) ↔ a.data.toList = [] := by rw [ByteArray.toList_eq]
theorem size_data (a : ByteArray) : a.data.toList.length = a.size := by simp
theorem dec_same {α : Type} [DecidableEq α] {x y : α} {l m : List α} (h : x = y) : decide (l = m) = decide (x :: l = y :: m) := by
  subst h
  simp
theorem dec_diff {α : Type} [DecidableEq α] {x y : α} {l m : List α} (h : x ≠ y) : false = decide (x :: l = y :: m) := by simp [h]
theorem drop_at {α : Type} {xs : List α} {i : Nat} (h : i < xs.length) : xs.drop i = xs[i] :: xs.drop (i + 1) := List.drop_eq_getElem_cons h
def total : List ByteArray → Nat
  | [] => 0
  | x :: l => x.size + total l
end Go.Proofs.Ytjngmhngedecdaa.P
end
section
namespace Go.Proofs.Ytjngmhngedecdaa.P
open Go.RowKit Go.Proofs.YtjngmhngedecdaaW.PrintWords Go.Proofs.YtjngmhngedecdaaW.PrintLast Go.Proofs.YtjngmhngedecdaaW.PrintMore
attribute [local go_sem] max2_int min2_int max_two min_two max_three min_three max_four min_four
end Go.Proofs.Ytjngmhngedecdaa.P
end
section
set_option linter.unusedVariables false
set_option linter.unusedSimpArgs false
namespace Go.Proofs.Ytjngmhngedecdaa.P
open Go.RowKit Go.Proofs.YtjngmhngedecdaaW.PrintWords Go.Proofs.YtjngmhngedecdaaW.PrintLast
theorem sz_loop (xs : List ByteArray) (hx : ∀ x ∈ xs, x.size ≤ 9223372036854775807) (hl : xs.length ≤ 9223372036854775807) : ∀ (d i : Nat) (n : Int), xs.length - i = d → i ≤ xs.length → 0 ≤ n → n ≤ 1048576 →
    ∃ r, Ev (fun k => laws_szStringS.l0 k xs n (i : Int)) r ∧ (r < 0 ∨ (0 ≤ r ∧ r ≤ n ∧ (total (xs.drop i) : Int) = n - r)) := by
  intro d
  induction d with
  | zero =>
    intro i n hd hi h0 h1
    have : i = xs.length := by omega
    subst this
    refine ⟨n, Ev.step (fun k => by rw [laws_szStringS.l0]) (Ev_neg (by omega) (Ev.now _)), .inr ⟨h0, Int.le_refl _, ?_⟩⟩
    rw [List.drop_length]
    simp [total]
  | succ d ih =>
    intro i n hd hi h0 h1
    have hlt : i < xs.length := by omega
    have hs := hx xs[i] (List.getElem_mem hlt)
    by_cases hc : n - (xs[i].size : Int) < 0
    · refine ⟨-1, Ev.step (fun k => by rw [laws_szStringS.l0]) (Ev_pos (by omega) (Ev_pos (by omega) ?_)), .inl (by omega)⟩
      rw [rd_nat _ hlt, wid (by omega) (by omega)]
      exact Ev_pos hc (Ev.now _)
    · obtain ⟨r, hr, hp⟩ := ih (i + 1) (n - (xs[i].size : Int)) (by omega) (by omega) (by omega) (by omega)
      refine ⟨r, Ev.step (fun k => by rw [laws_szStringS.l0]) (Ev_pos (by omega) (Ev_pos (by omega) ?_)), ?_⟩
      · rw [rd_nat _ hlt, wid (by omega) (by omega), wsucc hlt hl]
        exact Ev_neg hc hr
      · rcases hp with hp | ⟨h2, h3, h4⟩
        · exact .inl hp
        · refine .inr ⟨h2, by omega, ?_⟩
          rw [drop_at hlt]
          simp only [total]
          omega
theorem sz_tells (xs : List ByteArray) (hg : xs.length ≤ 9223372036854775807 ∧ ∀ x ∈ xs, x.size ≤ 9223372036854775807) (n : Int) (h0 : 0 ≤ n) (h1 : n ≤ 1048576) :
    ∃ r, Ev (fun k => laws_szStringS.f k xs n) r ∧ (r < 0 ∨ (0 ≤ r ∧ r ≤ n ∧ (xs.length : Int) + (total xs : Int) = n - r)) := by
  by_cases hc : n - (xs.length : Int) < 0
  · refine ⟨-1, ?_, .inl (by omega)⟩
    unfold laws_szStringS.f
    rw [wid (by omega) (by omega)]
    exact Ev_pos hc (Ev.now _)
  · obtain ⟨r, hr, hp⟩ := sz_loop xs hg.2 hg.1 _ 0 (n - (xs.length : Int)) rfl (by omega) (by omega) (by omega)
    refine ⟨r, ?_, ?_⟩
    · unfold laws_szStringS.f
      rw [wid (by omega) (by omega)]
      exact Ev_neg hc hr
    · rcases hp with hp | ⟨h2, h3, h4⟩
      · exact .inl hp
      · rw [List.drop_zero] at h4
        exact .inr ⟨h2, by omega, by omega⟩
theorem to_loop (xs : List ByteArray) (hl : xs.length ≤ 9223372036854775807) : ∀ (d i : Nat) (ys : List ByteArray), xs.length - i = d → i ≤ xs.length → ys.length = xs.length →
    Ev (fun k => laws_toStringS.l0 k xs ys (i : Int)) (ys.take i ++ xs.drop i) := by
  intro d
  induction d with
  | zero =>
    intro i ys hd hi hy
    have : i = xs.length := by omega
    subst this
    refine Ev.step (fun k => by rw [laws_toStringS.l0]) (Ev_neg (by omega) (Ev_val ?_))
    rw [List.drop_length, List.append_nil, ← hy, List.take_length]
  | succ d ih =>
    intro i ys hd hi hy
    have hlt : i < xs.length := by omega
    refine Ev.step (fun k => by rw [laws_toStringS.l0]) (Ev_pos (by omega) (Ev_pos (by omega) (Ev_pos (by omega) ?_)))
    rw [rd_nat _ hlt, wsucc hlt hl, Int.toNat_natCast]
    have h := ih (i + 1) (ys.set i xs[i]) (by omega) (by omega) (by rw [List.length_set]; exact hy)
    refine Ev_eq h ?_
    rw [drop_at hlt, List.take_succ_eq_append_getElem (by rw [List.length_set]; omega), List.getElem_set_self, List.take_set_of_le (by omega), List.append_assoc]
    rfl
theorem to_tells (xs : List ByteArray) (hl : xs.length ≤ 17592186044416) : Ev (fun k => laws_toStringS.f k xs) xs := by
  unfold laws_toStringS.f
  refine Ev_pos (by omega) (Ev_pos (by rw [Int.toNat_natCast]; exact hl) ?_)
  have h := to_loop xs (by omega) _ 0 (List.replicate ((xs.length : Int) : Int).toNat (⟨#[]⟩ : ByteArray)) rfl (by omega) (by simp)
  exact Ev_eq h (by simp)
theorem eq_loop (xs : List ByteArray) (hl : xs.length ≤ 9223372036854775807) : ∀ (d i : Nat), xs.length - i = d → i ≤ xs.length → Ev (fun k => laws_eqStringS.l0 k xs xs (i : Int)) true := by
  intro d
  induction d with
  | zero => intro i hd hi; exact Ev.step (fun k => by rw [laws_eqStringS.l0]) (Ev_neg (by omega) (Ev.now _))
  | succ d ih =>
    intro i hd hi
    have hlt : i < xs.length := by omega
    refine Ev.step (fun k => by rw [laws_eqStringS.l0]) (Ev_pos (by omega) (Ev_pos (by omega) (Ev_pos (by omega) (Ev_pos rfl ?_))))
    rw [wsucc hlt hl]
    exact ih (i + 1) (by omega) (by omega)
theorem eq_tells (xs : List ByteArray) (hl : xs.length ≤ 9223372036854775807) : Ev (fun k => laws_eqStringS.f k xs xs) true := by
  unfold laws_eqStringS.f
  exact Ev_pos rfl (eq_loop xs hl _ 0 rfl (by omega))
theorem ssame_loop (xs ys : List ByteArray) (hl : xs.length ≤ 9223372036854775807) (he : xs.length = ys.length) : ∀ (d i : Nat), xs.length - i = d → i ≤ xs.length → Ev (fun k => spec_SameLines.l0 k xs ys (i : Int)) (decide (xs.drop i = ys.drop i)) := by
  intro d
  induction d with
  | zero =>
    intro i hd hi
    refine Ev.step (fun k => by rw [spec_SameLines.l0]) (Ev_neg (by omega) (Ev_val ?_))
    rw [List.drop_eq_nil_of_le (by omega), List.drop_eq_nil_of_le (by omega)]
    simp
  | succ d ih =>
    intro i hd hi
    have hlt : i < xs.length := by omega
    have hlt2 : i < ys.length := by omega
    refine Ev.step (fun k => by rw [spec_SameLines.l0]) (Ev_pos (by omega) (Ev_pos (by omega) (Ev_pos (by omega) ?_)))
    rw [rd_nat _ hlt, rd_nat _ hlt2, wsucc hlt hl, drop_at hlt, drop_at hlt2]
    refine Ev_if (fun h => Ev_eq (ih (i + 1) (by omega) (by omega)) ?_) (fun h => Ev_val ?_)
    · exact dec_same (data_eq.1 h)
    · exact dec_diff (fun e => h (data_eq.2 e))
theorem ssame_tells (xs ys : List ByteArray) (hl : xs.length ≤ 9223372036854775807) : Ev (fun k => spec_SameLines.f k xs ys) (decide (xs = ys)) := by
  unfold spec_SameLines.f
  refine Ev_if (fun h => ?_) (fun h => Ev_val ?_)
  · exact ssame_loop xs ys hl (by omega) _ 0 rfl (by omega)
  · have : xs ≠ ys := fun e => h (by rw [e])
    simp [this]
theorem isame_loop (xs ys : List ByteArray) (hl : xs.length ≤ 9223372036854775807) (he : xs.length = ys.length) : ∀ (d i : Nat), xs.length - i = d → i ≤ xs.length → Ev (fun k => slices_Equal_string_string.l0 k xs ys (xs.length : Int) (i : Int)) (decide (xs.drop i = ys.drop i)) := by
  intro d
  induction d with
  | zero =>
    intro i hd hi
    refine Ev.step (fun k => by rw [slices_Equal_string_string.l0]) (Ev_neg (by omega) (Ev_val ?_))
    rw [List.drop_eq_nil_of_le (by omega), List.drop_eq_nil_of_le (by omega)]
    simp
  | succ d ih =>
    intro i hd hi
    have hlt : i < xs.length := by omega
    have hlt2 : i < ys.length := by omega
    refine Ev.step (fun k => by rw [slices_Equal_string_string.l0]) (Ev_pos (by omega) (Ev_pos (by omega) (Ev_pos (by omega) (Ev_pos (by omega) ?_))))
    rw [rd_nat _ hlt, rd_nat _ hlt2, wsucc hlt hl, drop_at hlt, drop_at hlt2]
    refine Ev_if (fun h => Ev_eq (ih (i + 1) (by omega) (by omega)) ?_) (fun h => Ev_val ?_)
    · exact dec_same (data_eq.1 h)
    · exact dec_diff (fun e => h (data_eq.2 e))
theorem isame_tells (xs ys : List ByteArray) (hl : xs.length ≤ 9223372036854775807) : Ev (fun k => slices_Equal_string_string.f k xs ys) (decide (xs = ys)) := by
  unfold slices_Equal_string_string.f
  refine Ev_if (fun h => ?_) (fun h => Ev_val ?_)
  · exact isame_loop xs ys hl (by omega) _ 0 rfl (by omega)
  · have : xs ≠ ys := fun e => h (by rw [e])
    simp [this]
end Go.Proofs.Ytjngmhngedecdaa.P
end
section
set_option linter.unusedVariables false
set_option linter.unusedSimpArgs false
namespace Go.Proofs.Ytjngmhngedecdaa.P
open Go.RowKit
theorem index_low (l : List UInt8) (c : UInt8) : -1 ≤ Lib.indexByte l c := by
  induction l with
  | nil => simp [Lib.indexByte]
  | cons b l ih =>
    unfold Lib.indexByte
    split
    · omega
    · split
      · omega
      · omega
theorem index_mem (l : List UInt8) (c : UInt8) : Lib.indexByte l c ≥ 0 ↔ c ∈ l := by
  induction l with
  | nil => simp [Lib.indexByte]
  | cons b l ih =>
    have hl := index_low l c
    unfold Lib.indexByte
    by_cases h : b = c
    · subst h
      simp
    · have h2 : (b == c) = false := by simpa using h
      rw [h2, List.mem_cons]
      have h3 : ¬ c = b := fun e => h e.symm
      by_cases h4 : Lib.indexByte l c = -1
      · have h5 : (Lib.indexByte l c == -1) = true := by simpa using h4
        rw [h5]
        have : ¬ c ∈ l := fun hm => by have := ih.2 hm; omega
        simp [h3, this]
      · have h5 : (Lib.indexByte l c == -1) = false := by simpa using h4
        rw [h5]
        have : c ∈ l := ih.1 (by omega)
        simp [this]
        omega
def lineEnd : List UInt8 → Nat
  | [] => 0
  | c :: l => if c = 10 then 0 else lineEnd l + 1
theorem lineEnd_le (l : List UInt8) : lineEnd l ≤ l.length := by
  induction l with
  | nil => simp [lineEnd]
  | cons c l ih =>
    unfold lineEnd
    split
    · omega
    · simp
      omega
theorem lineEnd_mem (l : List UInt8) : lineEnd l < l.length ↔ 10 ∈ l := by
  induction l with
  | nil => simp [lineEnd]
  | cons c l ih =>
    unfold lineEnd
    by_cases h : c = 10
    · subst h
      simp
    · rw [if_neg h, List.length_cons, List.mem_cons]
      have h2 : ¬ (10 : UInt8) = c := fun e => h e.symm
      simp only [h2, false_or]
      rw [← ih]
      omega
theorem lineEnd_early (l : List UInt8) : lineEnd l < l.length - 1 ↔ 10 ∈ l.dropLast := by
  induction l with
  | nil => simp [lineEnd]
  | cons c l ih =>
    cases l with
    | nil =>
      simp [lineEnd]
    | cons d l =>
      unfold lineEnd
      by_cases h : c = 10
      · subst h
        simp
      · rw [if_neg h, List.dropLast_cons_cons, List.mem_cons]
        have h2 : ¬ (10 : UInt8) = c := fun e => h e.symm
        simp only [h2, false_or]
        rw [← ih]
        simp only [List.length_cons]
        omega
theorem suffix_last (l : List UInt8) : Lib.hasSuffix l [10] = true ↔ ∃ r, l = r ++ [10] := by
  unfold Lib.hasSuffix
  rw [List.isSuffixOf_iff_suffix]
  constructor
  · rintro ⟨r, h⟩
    exact ⟨r, h.symm⟩
  · rintro ⟨r, h⟩
    exact ⟨r, h.symm⟩
theorem suffix_iff (l : List UInt8) (h : ¬ 10 ∈ l.dropLast) : Lib.hasSuffix l [10] = true ↔ 10 ∈ l := by
  rw [suffix_last]
  constructor
  · rintro ⟨r, rfl⟩
    simp
  · intro hm
    have hne : l ≠ [] := by
      rintro rfl
      simp at hm
    have e := List.dropLast_concat_getLast hne
    rw [← e] at hm
    rcases List.mem_append.1 hm with h1 | h1
    · exact absurd h1 h
    · refine ⟨l.dropLast, ?_⟩
      have h2 : (10 : UInt8) = l.getLast hne := by simpa using h1
      rw [h2]
      exact e.symm
end Go.Proofs.Ytjngmhngedecdaa.P
end
section
set_option linter.unusedVariables false
set_option linter.unusedSimpArgs false
namespace Go.Proofs.Ytjngmhngedecdaa.P
open Go.RowKit Go.Proofs.YtjngmhngedecdaaW.PrintWords Go.Proofs.YtjngmhngedecdaaW.PrintLast
theorem ended_loop (s : ByteArray) (hs : s.size ≤ 9223372036854775807) : ∀ (d i : Nat), s.size - i = d → i ≤ s.size → Ev (fun k => spec_l1Ended.l0 k s (i : Int)) (((i + lineEnd (s.data.toList.drop i) : Nat)) : Int) := by
  intro d
  induction d with
  | zero =>
    intro i hd hi
    refine Ev.step (fun k => by rw [spec_l1Ended.l0]) (Ev_neg (by omega) (Ev_val ?_))
    rw [List.drop_eq_nil_of_le (by rw [size_data]; omega)]
    simp only [lineEnd]
    omega
  | succ d ih =>
    intro i hd hi
    have hlt : i < s.data.toList.length := by rw [size_data]; omega
    refine Ev.step (fun k => by rw [spec_l1Ended.l0]) (Ev_pos (by omega) (Ev_pos (by omega) ?_))
    rw [bt_nat hlt, drop_at hlt, wsucc (n := s.size) (by omega) hs]
    refine Ev_if (fun h => Ev_val ?_) (fun h => Ev_eq (ih (i + 1) (by omega) (by omega)) ?_)
    · have : s.data.toList[i] = 10 := by
        apply UInt8.toNat_inj.1
        have h2 : s.data.toList[i].toNat = 10 := by omega
        exact h2
      rw [lineEnd, if_pos this]
      rfl
    · have : ¬ s.data.toList[i] = 10 := fun e => h (by rw [e]; rfl)
      rw [lineEnd, if_neg this]
      omega
theorem ended_tells (s : ByteArray) (hs : s.size ≤ 9223372036854775807) : Ev (fun k => spec_l1Ended.f k s) ((lineEnd s.data.toList : Nat) : Int) := by
  unfold spec_l1Ended.f
  have h := ended_loop s hs _ 0 rfl (by omega)
  rw [List.drop_zero, Nat.zero_add] at h
  exact h
def lineBad (s : List UInt8) (last : Bool) : Bool := decide (s = [] ∨ 10 ∈ s.dropLast ∨ (¬ 10 ∈ s ∧ last = false))
def linesBad : List ByteArray → Bool
  | [] => false
  | x :: r => lineBad x.data.toList (decide (r = [])) || linesBad r
theorem lb_go {x : ByteArray} {r : List ByteArray} (h : lineBad x.data.toList (decide (r = [])) = false) : (if linesBad r then (1 : Int) else 0) = if linesBad (x :: r) then 1 else 0 := by
  unfold linesBad
  rw [h, Bool.false_or]
  cases r <;> rfl
theorem lb_end {x : ByteArray} {r : List ByteArray} (h : lineBad x.data.toList (decide (r = [])) = true) : (1 : Int) = if linesBad (x :: r) then 1 else 0 := by
  unfold linesBad
  rw [h, Bool.true_or]
  rfl
def LF (xs : List ByteArray) : Int := if xs.length > 100 ∨ total xs > 2000 then 2 else if linesBad xs then 1 else 0
theorem slf_loop1 (xs : List ByteArray) (hx : ∀ x ∈ xs, x.size ≤ 9223372036854775807) (hl : xs.length ≤ 9223372036854775807) : ∀ (d i : Nat), xs.length - i = d → i ≤ xs.length →
    Ev (fun k => spec_LinesFault.l1 k xs (i : Int)) (if linesBad (xs.drop i) then 1 else 0) := by
  intro d
  induction d with
  | zero =>
    intro i hd hi
    refine Ev.step (fun k => by rw [spec_LinesFault.l1]) (Ev_neg (by omega) (Ev_val ?_))
    rw [List.drop_eq_nil_of_le (by omega)]
    rfl
  | succ d ih =>
    intro i hd hi
    have hlt : i < xs.length := by omega
    have hs := hx xs[i] (List.getElem_mem hlt)
    refine Ev.step (fun k => by rw [spec_LinesFault.l1]) (Ev_pos (by omega) (Ev_pos (by omega) ?_))
    rw [rd_nat _ hlt, drop_at hlt, wsucc hlt hl]
    refine Ev_call (ended_tells _ hs) ?_
    have hle := lineEnd_le xs[i].data.toList
    rw [size_data] at hle
    have hrest : xs.drop (i + 1) = [] ↔ i + 1 = xs.length := by
      rw [List.drop_eq_nil_iff]
      omega
    refine Ev_if (fun h => Ev_val ?_) (fun h => ?_)
    · have h2 := toList_nil.1 h
      exact lb_end (by simp [lineBad, h2])
    have hne : ¬ xs[i].data.toList = [] := fun e => h (toList_nil.2 e)
    have h0 : xs[i].data.toList.length ≠ 0 := fun e => hne (List.length_eq_zero_iff.1 e)
    rw [size_data] at h0
    rw [wid (by omega) (by omega)]
    have hearly := lineEnd_early xs[i].data.toList
    rw [size_data] at hearly
    have hmem := lineEnd_mem xs[i].data.toList
    rw [size_data] at hmem
    refine Ev_if (fun h => Ev_val ?_) (fun h => ?_)
    · have h2 : 10 ∈ xs[i].data.toList.dropLast := hearly.1 (by omega)
      exact lb_end (by simp [lineBad, h2])
    have hn2 : ¬ 10 ∈ xs[i].data.toList.dropLast := fun e => h (by have := hearly.2 e; omega)
    have go : (¬ 10 ∈ xs[i].data.toList → i + 1 = xs.length) → Ev (fun k => spec_LinesFault.l1 k xs ((i + 1 : Nat) : Int)) (if linesBad (xs[i] :: xs.drop (i + 1)) then 1 else 0) := by
      intro hg
      refine Ev_eq (ih (i + 1) (by omega) (by omega)) ?_
      have : lineBad xs[i].data.toList (decide (xs.drop (i + 1) = [])) = false := by
        unfold lineBad
        rw [decide_eq_false_iff_not]
        rintro (h1 | h1 | ⟨h1, h2⟩)
        · exact hne h1
        · exact hn2 h1
        · rw [decide_eq_false_iff_not, hrest] at h2
          exact h2 (hg h1)
      exact lb_go this
    refine Ev_if (fun h => ?_) (fun h => ?_)
    · have hno : ¬ 10 ∈ xs[i].data.toList := fun e => by have := hmem.2 e; omega
      rw [wid (by omega) (by omega)]
      refine Ev_if (fun h3 => Ev_val ?_) (fun h3 => go (fun _ => by omega))
      have : lineBad xs[i].data.toList (decide (xs.drop (i + 1) = [])) = true := by
        unfold lineBad
        rw [decide_eq_true_iff]
        refine .inr (.inr ⟨hno, ?_⟩)
        rw [decide_eq_false_iff_not, hrest]
        omega
      exact lb_end this
    · exact go (fun hno => absurd (hmem.1 (by omega)) hno)
theorem slf_loop0 (xs : List ByteArray) (hx : ∀ x ∈ xs, x.size ≤ 9223372036854775807) (hl : xs.length ≤ 9223372036854775807) (hb : total xs ≤ 9223372036854775807) : ∀ (d i n : Nat), xs.length - i = d → i ≤ xs.length → n + total (xs.drop i) = total xs →
    Ev (fun k => spec_LinesFault.l0 k xs (n : Int) (i : Int)) (LF xs) := by
  intro d
  induction d with
  | zero =>
    intro i n hd hi hn
    rw [List.drop_eq_nil_of_le (by omega)] at hn
    simp only [total, Nat.add_zero] at hn
    refine Ev.step (fun k => by rw [spec_LinesFault.l0]) (Ev_neg (by omega) ?_)
    have body : ∀ b : Bool, b = decide (xs.length > 100 ∨ total xs > 2000) → Ev (fun k => spec_LinesFault.j1 k xs b) (LF xs) := by
      intro b hb2
      refine Ev.step (fun k => by rw [spec_LinesFault.j1]) ?_
      unfold LF
      rw [hb2]
      refine Ev_if (fun h => Ev_val ?_) (fun h => ?_)
      · rw [if_pos (of_decide_eq_true h)]
      · rw [if_neg (fun e => h (decide_eq_true e))]
        have := slf_loop1 xs hx hl _ 0 rfl (by omega)
        rw [List.drop_zero] at this
        exact this
    refine Ev_if (fun h => body _ ?_) (fun h => body _ ?_)
    · symm
      rw [decide_eq_true_iff]
      exact .inl (by omega)
    · rw [decide_eq_decide]
      omega
  | succ d ih =>
    intro i n hd hi hn
    have hlt : i < xs.length := by omega
    rw [drop_at hlt] at hn
    simp only [total] at hn
    refine Ev.step (fun k => by rw [spec_LinesFault.l0]) (Ev_pos (by omega) (Ev_pos (by omega) ?_))
    rw [rd_nat _ hlt, wsucc hlt hl, wid (by omega) (by omega), show (n : Int) + (xs[i].size : Int) = ((n + xs[i].size : Nat) : Int) by omega]
    exact ih (i + 1) (n + xs[i].size) (by omega) (by omega) (by omega)
theorem slf_tells (xs : List ByteArray) (hx : ∀ x ∈ xs, x.size ≤ 9223372036854775807) (hl : xs.length ≤ 9223372036854775807) (hb : total xs ≤ 9223372036854775807) : Ev (fun k => spec_LinesFault.f k xs) (LF xs) := by
  unfold spec_LinesFault.f
  exact slf_loop0 xs hx hl hb _ 0 0 rfl (by omega) (by simp)
theorem isLine_tells (s : ByteArray) (hs : s.size ≤ 9223372036854775807) : impl_isLine.f s = some (decide (¬ (s.data.toList = [] ∨ 10 ∈ s.data.toList.dropLast))) := by
  unfold impl_isLine.f
  by_cases h : s.data.toList = []
  · rw [if_pos (toList_nil.2 h)]
    simp [h]
  · have h0 : s.data.toList.length ≠ 0 := fun e => h (List.length_eq_zero_iff.1 e)
    rw [size_data] at h0
    rw [if_neg (fun e => h (toList_nil.1 e)), wid (by omega) (by omega), if_pos (by omega), if_pos (by omega)]
    have he : (s.extract 0 ((s.size : Int) - 1).toNat).data.toList = s.data.toList.dropLast := by
      rw [← ByteArray.toList_eq, Lib.extract_toList, List.drop_zero, List.dropLast_eq_take, size_data]
      congr 1
      omega
    unfold strings_Contains.f
    simp only [Option.bind_some]
    rw [he]
    congr 1
    have hi := index_mem s.data.toList.dropLast 10
    by_cases hm : 10 ∈ s.data.toList.dropLast
    · have : (0 : Int) ≤ Lib.indexByte s.data.toList.dropLast 10 := hi.2 hm
      simp [hm, this]
    · have : ¬ (0 : Int) ≤ Lib.indexByte s.data.toList.dropLast 10 := fun e => hm (hi.1 e)
      simp only [this, hm, h]
      simp
theorem isWhole_tells (s : ByteArray) (hs : s.size ≤ 9223372036854775807) : impl_isWhole.f s = some (Lib.hasSuffix s.data.toList [10]) := by
  unfold impl_isWhole.f strings_HasSuffix.f
  rw [if_pos hs]
  rfl
theorem ilf_loop (xs : List ByteArray) (hx : ∀ x ∈ xs, x.size ≤ 9223372036854775807) (hl : xs.length ≤ 9223372036854775807) : ∀ (d i : Nat), xs.length - i = d → i ≤ xs.length →
    Ev (fun k => impl_LinesFault.l0 k xs xs (xs.length : Int) (i : Int)) (if linesBad (xs.drop i) then 1 else 0) := by
  intro d
  induction d with
  | zero =>
    intro i hd hi
    refine Ev.step (fun k => by rw [impl_LinesFault.l0]) (Ev_neg (by omega) (Ev_val ?_))
    rw [List.drop_eq_nil_of_le (by omega)]
    rfl
  | succ d ih =>
    intro i hd hi
    have hlt : i < xs.length := by omega
    have hs := hx xs[i] (List.getElem_mem hlt)
    have hrest : xs.drop (i + 1) = [] ↔ i + 1 = xs.length := by
      rw [List.drop_eq_nil_iff]
      omega
    refine Ev.step (fun k => by rw [impl_LinesFault.l0]) (Ev_pos (by omega) (Ev_pos (by omega) (Ev_pos (by omega) ?_)))
    rw [rd_nat _ hlt, drop_at hlt, wsucc hlt hl]
    refine Ev_const (isLine_tells _ hs) ?_
    refine Ev_if (fun h => ?_) (fun h => Ev_val ?_)
    · have h := of_decide_eq_true h
      have hne : ¬ xs[i].data.toList = [] := fun e => h (.inl e)
      have hn2 : ¬ 10 ∈ xs[i].data.toList.dropLast := fun e => h (.inr e)
      have go : (¬ 10 ∈ xs[i].data.toList → i + 1 = xs.length) → Ev (fun k => impl_LinesFault.l0 k xs xs (xs.length : Int) ((i + 1 : Nat) : Int)) (if linesBad (xs[i] :: xs.drop (i + 1)) then 1 else 0) := by
        intro hg
        refine Ev_eq (ih (i + 1) (by omega) (by omega)) ?_
        have : lineBad xs[i].data.toList (decide (xs.drop (i + 1) = [])) = false := by
          unfold lineBad
          rw [decide_eq_false_iff_not]
          rintro (h1 | h1 | ⟨h1, h2⟩)
          · exact hne h1
          · exact hn2 h1
          · rw [decide_eq_false_iff_not, hrest] at h2
            exact h2 (hg h1)
        exact lb_go this
      have hsuf := suffix_iff _ hn2
      refine Ev_const (isWhole_tells _ hs) (Ev_if (fun h3 => go (fun hno => absurd (hsuf.1 h3) hno)) (fun h3 => ?_))
      rw [wid (by omega) (by omega)]
      refine Ev_if (fun h4 => go (fun _ => by omega)) (fun h4 => Ev_val ?_)
      have : lineBad xs[i].data.toList (decide (xs.drop (i + 1) = [])) = true := by
        unfold lineBad
        rw [decide_eq_true_iff]
        refine .inr (.inr ⟨fun e => h3 (hsuf.2 e), ?_⟩)
        rw [decide_eq_false_iff_not, hrest]
        omega
      exact lb_end this
    · have h2 : xs[i].data.toList = [] ∨ 10 ∈ xs[i].data.toList.dropLast := Classical.byContradiction (fun e => h (decide_eq_true e))
      have : lineBad xs[i].data.toList (decide (xs.drop (i + 1) = [])) = true := by
        unfold lineBad
        rw [decide_eq_true_iff]
        rcases h2 with h2 | h2
        · exact .inl h2
        · exact .inr (.inl h2)
      exact lb_end this
theorem join_flat (xs : List ByteArray) : Lib.join (xs.map (·.data.toList)) [] = (xs.map (·.data.toList)).flatten := by
  unfold Lib.join
  induction xs with
  | nil => rfl
  | cons x l ih =>
    cases l with
    | nil => simp [List.intercalate]
    | cons y l =>
      simp only [List.map_cons, List.intercalate, List.intersperse, List.flatten_cons, List.nil_append] at ih ⊢
      rw [ih]
theorem join_all (xs : List ByteArray) : (Lib.join (xs.map (·.data.toList)) []).length = total xs := by
  rw [join_flat]
  induction xs with
  | nil => rfl
  | cons x l ih =>
    rw [List.map_cons, List.flatten_cons, List.length_append, ih, size_data]
    rfl
theorem ilf_tells (xs : List ByteArray) (hx : ∀ x ∈ xs, x.size ≤ 9223372036854775807) (hl : xs.length ≤ 140737488355328) (hb : total xs ≤ 140737488355328) : Ev (fun k => impl_LinesFault.f k xs) (LF xs) := by
  unfold impl_LinesFault.f
  have body : ∀ b : Bool, b = decide (xs.length > 100 ∨ total xs > 2000) → Ev (fun k => impl_LinesFault.j0 k xs b) (LF xs) := by
    intro b hb2
    refine Ev.step (fun k => by rw [impl_LinesFault.j0]) ?_
    unfold LF
    rw [hb2]
    refine Ev_if (fun h => Ev_val ?_) (fun h => ?_)
    · rw [if_pos (of_decide_eq_true h)]
    · rw [if_neg (fun e => h (decide_eq_true e))]
      have := ilf_loop xs hx (by omega) _ 0 rfl (by omega)
      rw [List.drop_zero] at this
      exact this
  refine Ev_if (fun h => body _ ?_) (fun h => ?_)
  · symm
    rw [decide_eq_true_iff]
    exact .inl (by omega)
  · have hj := join_all xs
    refine Ev_const (a := ⟨(Lib.join (xs.map (·.data.toList)) []).toArray⟩) ?_ (body _ ?_)
    · unfold strings_Join.f
      exact if_pos ⟨hl, by show (Lib.join _ []).length ≤ _; omega⟩
    · rw [decide_eq_decide]
      have : ((⟨(Lib.join (xs.map (·.data.toList)) []).toArray⟩ : ByteArray).size) = total xs := by
        rw [← hj]
        simp [ByteArray.size]
      rw [this]
      omega
end Go.Proofs.Ytjngmhngedecdaa.P
end
section
namespace Go.Proofs.Ytjngmhngedecdaa.P
open Go.RowKit Go.Proofs.YtjngmhngedecdaaW.PrintWords Go.Proofs.YtjngmhngedecdaaW.PrintLast Go.Proofs.YtjngmhngedecdaaW.PrintMore
attribute [local go_sem] max2_int min2_int max_two min_two max_three min_three max_four min_four
end Go.Proofs.Ytjngmhngedecdaa.P
end
section
namespace Go.Proofs.Ytjngmhngedecdaa.P
open Go.RowKit Go.Proofs.YtjngmhngedecdaaW.PrintWords Go.Proofs.YtjngmhngedecdaaW.PrintLast Go.Proofs.YtjngmhngedecdaaW.PrintMore
attribute [local go_sem] max2_int min2_int max_two min_two max_three min_three max_four min_four
end Go.Proofs.Ytjngmhngedecdaa.P
end
section
set_option linter.unusedVariables false
set_option linter.unusedSimpArgs false
namespace Go.Proofs.Ytjngmhngedecdaa.P
open Go.RowKit Go.Proofs.YtjngmhngedecdaaW.PrintWords Go.Proofs.YtjngmhngedecdaaW.PrintLast
def Small (xs : List ByteArray) : Prop := (∀ x ∈ xs, x.size ≤ 9223372036854775807) ∧ xs.length ≤ 1048576 ∧ total xs ≤ 1048576
theorem Small.slf {xs : List ByteArray} (h : Small xs) : Ev (fun k => spec_LinesFault.f k xs) (LF xs) := slf_tells xs h.1 (by have := h.2.1; omega) (by have := h.2.2; omega)
theorem Small.ilf {xs : List ByteArray} (h : Small xs) : Ev (fun k => impl_LinesFault.f k xs) (LF xs) := ilf_tells xs h.1 (by have := h.2.1; omega) (by have := h.2.2; omega)
def firstOf : List Int → Int
  | [] => 0
  | c :: l => if c = 0 then firstOf l else c
theorem first_loop (xs : List Int) (hl : xs.length ≤ 9223372036854775807) : ∀ (d i : Nat), xs.length - i = d → i ≤ xs.length → Ev (fun k => impl_firstCode.l0 k xs (xs.length : Int) (i : Int)) (firstOf (xs.drop i)) := by
  intro d
  induction d with
  | zero =>
    intro i hd hi
    refine Ev.step (fun k => by rw [impl_firstCode.l0]) (Ev_neg (by omega) (Ev_val ?_))
    rw [List.drop_eq_nil_of_le (by omega)]
    rfl
  | succ d ih =>
    intro i hd hi
    have hlt : i < xs.length := by omega
    refine Ev.step (fun k => by rw [impl_firstCode.l0]) (Ev_pos (by omega) (Ev_pos (by omega) (Ev_pos (by omega) ?_)))
    rw [rdi_nat hlt, drop_at hlt, wsucc hlt hl, firstOf]
    refine Ev_if (fun h => ?_) (fun h => ?_)
    · rw [if_pos h]
      exact ih (i + 1) (by omega) (by omega)
    · rw [if_neg h]
      exact Ev.now _
theorem first_tells (xs : List Int) (hl : xs.length ≤ 9223372036854775807) : Ev (fun k => impl_firstCode.f k xs) (firstOf xs) := by
  unfold impl_firstCode.f
  have := first_loop xs hl _ 0 rfl (by omega)
  rw [List.drop_zero] at this
  exact this
end Go.Proofs.Ytjngmhngedecdaa.P
end
section
set_option linter.unusedVariables false
set_option linter.unusedSimpArgs false
namespace Go.Proofs.Ytjngmhngedecdaa.P
open Go.RowKit Go.Proofs.YtjngmhngedecdaaW.PrintWords Go.Proofs.YtjngmhngedecdaaW.PrintLast
theorem Small.to {xs : List ByteArray} (h : Small xs) : Ev (fun k => laws_toStringS.f k xs) xs := to_tells xs (by have := h.2.1; omega)
theorem Small.eq {xs : List ByteArray} (h : Small xs) : Ev (fun k => laws_eqStringS.f k xs xs) true := eq_tells xs (by have := h.2.1; omega)
end Go.Proofs.Ytjngmhngedecdaa.P
end
section
namespace Go.Proofs.Ytjngmhngedecdaa.P
open Go.RowKit
theorem wsucc' {i : Nat} (hn : i < 9223372036854775807) : wrap64 ((i : Int) + 1) = ((i + 1 : Nat) : Int) := by
  rw [wid (by omega) (by omega)]
  omega
end Go.Proofs.Ytjngmhngedecdaa.P
end
section
set_option linter.unusedVariables false
namespace Go.Proofs.Ytjngmhngedecdaa.P
open Go.RowKit Go.Proofs.YtjngmhngedecdaaW.PrintWords Go.Proofs.YtjngmhngedecdaaW.PrintLast
theorem in_tells (x y z : Int) : spec_l1In.f x y z = some (decide (y ≤ x ∧ x ≤ z)) := by
  unfold spec_l1In.f
  split
  · rename_i h
    have h2 : y ≤ x := by omega
    simp [h2]
  · rename_i h
    have h2 : ¬ y ≤ x := by omega
    simp [h2]
theorem within_tells (x y z : Int) : impl_within.f x y z = some (decide (y ≤ x ∧ x ≤ z)) := by
  unfold impl_within.f
  split
  · rename_i h
    have h2 : y ≤ x := by omega
    simp [h2]
  · rename_i h
    have h2 : ¬ y ≤ x := by omega
    simp [h2]
end Go.Proofs.Ytjngmhngedecdaa.P
end
section
set_option linter.unusedVariables false
namespace Go.Proofs.Ytjngmhngedecdaa.P
def GL (l : List ByteArray) : Prop := l.length ≤ 9223372036854775807 ∧ ∀ x ∈ l, x.size ≤ 9223372036854775807
def lw (l : List ByteArray) : Nat := l.length + total l
theorem total_append (x y : List ByteArray) : total (x ++ y) = total x + total y := by
  induction x with
  | nil => simp [total]
  | cons a x ih => simp only [List.cons_append, total, ih]; omega
theorem lw_append (x y : List ByteArray) : lw (x ++ y) = lw x + lw y := by
  simp only [lw, total_append, List.length_append]
  omega
theorem lw_small {x : List ByteArray} (h : ∀ a ∈ x, a.size ≤ 9223372036854775807) (hw : lw x ≤ 1048576) : Small x := ⟨h, by unfold lw at hw; omega, by unfold lw at hw; omega⟩
end Go.Proofs.Ytjngmhngedecdaa.P
end
section
set_option linter.unusedVariables false
set_option linter.unusedSimpArgs false
namespace Go.Proofs.Ytjngmhngedecdaa.P
open Go.RowKit Go.Proofs.YtjngmhngedecdaaW.PrintWords Go.Proofs.YtjngmhngedecdaaW.PrintLast
theorem rdk_nat {l : List S58} {i : Nat} (h : i < l.length) : rd_T58 l (i : Int) = l[i] := by
  unfold rd_T58
  rw [Int.toNat_natCast, List.getD_eq_getElem?_getD, List.getElem?_eq_getElem h]
  rfl
def kw : List S58 → Nat
  | [] => 0
  | c :: l => lw c.f1 + lw c.f2 + lw c.f3 + kw l
theorem kw_at : ∀ (l : List S58) (i : Nat) (h : i < l.length), lw l[i].f1 + lw l[i].f2 + lw l[i].f3 ≤ kw l := by
  intro l
  induction l with
  | nil => intro i h; exact absurd h (by simp)
  | cons c l ih =>
    intro i h
    cases i with
    | zero => simp only [List.getElem_cons_zero, kw]; omega
    | succ i => simp only [List.getElem_cons_succ, kw]; have := ih i (by simpa using h); omega
def GK (c : S58) : Prop := (∀ a ∈ c.f1, a.size ≤ 9223372036854775807) ∧ (∀ a ∈ c.f2, a.size ≤ 9223372036854775807) ∧ (∀ a ∈ c.f3, a.size ≤ 9223372036854775807)
def SmallK (l : List S58) : Prop := (∀ c ∈ l, GK c) ∧ l.length ≤ 1048576 ∧ kw l ≤ 1048576
theorem SmallK.at {l : List S58} (h : SmallK l) {i : Nat} (hi : i < l.length) : Small l[i].f1 ∧ Small l[i].f2 ∧ Small l[i].f3 := by
  have h1 := h.1 l[i] (List.getElem_mem hi)
  have h2 := kw_at l i hi
  have h3 := h.2.2
  exact ⟨lw_small h1.1 (by omega), lw_small h1.2.1 (by omega), lw_small h1.2.2 (by omega)⟩
def sideK (n : Int) (c : S58) : List ByteArray := if n = 0 then c.f1 else if n = 1 then c.f2 else c.f3
def sides (n : Int) (l : List S58) : List ByteArray := (l.map (sideK n)).flatten
theorem sides_cons (n : Int) (c : S58) (l : List S58) : sides n (c :: l) = sideK n c ++ sides n l := rfl
theorem sides_lw (n : Int) : ∀ l : List S58, lw (sides n l) ≤ kw l := by
  intro l
  induction l with
  | nil => simp [sides, lw, total, kw]
  | cons c l ih =>
    rw [sides_cons, lw_append]
    simp only [kw]
    have : lw (sideK n c) ≤ lw c.f1 + lw c.f2 + lw c.f3 := by
      unfold sideK
      split
      · omega
      · split <;> omega
    omega
theorem sides_good (n : Int) : ∀ l : List S58, (∀ c ∈ l, GK c) → ∀ a ∈ sides n l, a.size ≤ 9223372036854775807 := by
  intro l
  induction l with
  | nil => intro _ a ha; exact absurd ha (by simp [sides])
  | cons c l ih =>
    intro h a ha
    rw [sides_cons, List.mem_append] at ha
    rcases ha with ha | ha
    · have hc := h c (by simp)
      unfold sideK at ha
      split at ha
      · exact hc.1 a ha
      · split at ha
        · exact hc.2.1 a ha
        · exact hc.2.2 a ha
    · exact ih (fun c hc => h c (by simp [hc])) a ha
theorem SmallK.side {l : List S58} (h : SmallK l) (n : Int) : Small (sides n l) := lw_small (sides_good n l h.1) (by have := sides_lw n l; have := h.2.2; omega)
theorem sside_loop (l : List S58) (hl : SmallK l) (n : Int) (h0 : 0 ≤ n) (h2 : n ≤ 2) : ∀ (d i : Nat) (acc : List ByteArray), l.length - i = d → i ≤ l.length → acc.length + (sides n (l.drop i)).length ≤ 1048576 →
    Ev (fun k => spec_l4Side.l0 k l n acc (i : Int)) (acc ++ sides n (l.drop i)) := by
  intro d
  induction d with
  | zero =>
    intro i acc hd hi ha
    refine Ev.step (fun k => by rw [spec_l4Side.l0]) (Ev_neg (by omega) (Ev_val ?_))
    rw [List.drop_eq_nil_of_le (by omega)]
    simp [sides]
  | succ d ih =>
    intro i acc hd hi ha
    have hlt : i < l.length := by omega
    have hn := hl.2.1
    rw [drop_at hlt, sides_cons, List.length_append] at ha
    have nx := ih (i + 1) (acc ++ sideK n l[i]) (by omega) (by omega) (by rw [List.length_append]; omega)
    rw [List.append_assoc, ← sides_cons, ← drop_at hlt] at nx
    refine Ev.step (fun k => by rw [spec_l4Side.l0]) (Ev_pos (by omega) ?_)
    rw [rdk_nat hlt, wsucc hlt (by omega)]
    by_cases c0 : n = 0
    · have e : sideK n l[i] = l[i].f1 := by unfold sideK; rw [if_pos c0]
      rw [e] at ha nx
      exact Ev_pos c0 (Ev_pos (by omega) (Ev_pos (by omega) nx))
    · by_cases c1 : n = 1
      · have e : sideK n l[i] = l[i].f2 := by unfold sideK; rw [if_neg c0, if_pos c1]
        rw [e] at ha nx
        exact Ev_neg c0 (Ev_pos c1 (Ev_pos (by omega) (Ev_pos (by omega) nx)))
      · have e : sideK n l[i] = l[i].f3 := by unfold sideK; rw [if_neg c0, if_neg c1]
        rw [e] at ha nx
        exact Ev_neg c0 (Ev_neg c1 (Ev_pos (by omega) (Ev_pos (by omega) (Ev_pos (by omega) nx))))
theorem sside_tells {l : List S58} (hl : SmallK l) (n : Int) (h0 : 0 ≤ n) (h2 : n ≤ 2) : Ev (fun k => spec_l4Side.f k l n) (sides n l) := by
  have := sside_loop l hl n h0 h2 _ 0 [] rfl (by omega) (by have := (hl.side n).2.1; simpa using this)
  exact this
theorem iside_loop (l : List S58) (hl : SmallK l) (n : Int) (h0 : 0 ≤ n) (h2 : n ≤ 2) : ∀ (d i : Nat) (acc : List ByteArray), l.length - i = d → i ≤ l.length → acc.length + (sides n (l.drop i)).length ≤ 1048576 →
    Ev (fun k => impl_sideOf.l0 k n acc l (l.length : Int) (i : Int)) (acc ++ sides n (l.drop i)) := by
  intro d
  induction d with
  | zero =>
    intro i acc hd hi ha
    refine Ev.step (fun k => by rw [impl_sideOf.l0]) (Ev_neg (by omega) (Ev_val ?_))
    rw [List.drop_eq_nil_of_le (by omega)]
    simp [sides]
  | succ d ih =>
    intro i acc hd hi ha
    have hlt : i < l.length := by omega
    have hn := hl.2.1
    rw [drop_at hlt, sides_cons, List.length_append] at ha
    have nx := ih (i + 1) (acc ++ sideK n l[i]) (by omega) (by omega) (by rw [List.length_append]; omega)
    rw [List.append_assoc, ← sides_cons, ← drop_at hlt] at nx
    refine Ev.step (fun k => by rw [impl_sideOf.l0]) (Ev_pos (by omega) (Ev_pos (by omega) (Ev_pos (by omega) ?_)))
    rw [rdk_nat hlt, wsucc hlt (by omega)]
    by_cases c0 : n = 0
    · have e : sideK n l[i] = l[i].f1 := by unfold sideK; rw [if_pos c0]
      rw [e] at ha nx
      exact Ev_pos c0 (Ev_pos (by omega) nx)
    · by_cases c1 : n = 1
      · have e : sideK n l[i] = l[i].f2 := by unfold sideK; rw [if_neg c0, if_pos c1]
        rw [e] at ha nx
        exact Ev_neg c0 (Ev_pos c1 (Ev_pos (by omega) nx))
      · have e : sideK n l[i] = l[i].f3 := by unfold sideK; rw [if_neg c0, if_neg c1]
        rw [e] at ha nx
        exact Ev_neg c0 (Ev_neg c1 (Ev_pos (by omega) nx))
theorem iside_tells {l : List S58} (hl : SmallK l) (n : Int) (h0 : 0 ≤ n) (h2 : n ≤ 2) : Ev (fun k => impl_sideOf.f k l n) (sides n l) := by
  have := iside_loop l hl n h0 h2 _ 0 [] rfl (by omega) (by have := (hl.side n).2.1; simpa using this)
  exact this
def kindK (b o t : List ByteArray) : Int := if b = o ∧ b = t then 0 else if b = t then 1 else if b = o then 2 else if o = t then 3 else 4
theorem kindK_val (b o t : List ByteArray) {p q r : Bool} (hp : p = decide (b = o)) (hq : q = decide (b = t)) (hr : r = decide (o = t)) : kindK b o t = if p = true ∧ q = true then 0 else if q = true then 1 else if p = true then 2 else if r = true then 3 else 4 := by
  subst hp hq hr
  simp only [kindK, decide_eq_true_eq]
theorem skind_tells {b o t : List ByteArray} (hb : b.length ≤ 1048576) (ho : o.length ≤ 1048576) : Ev (fun k => spec_l4Kind.f k b o t) (kindK b o t) := by
  unfold spec_l4Kind.f
  refine Ev_call (ssame_tells b o (by omega)) (Ev_call (ssame_tells b t (by omega)) ?_)
  rw [kindK_val b o t rfl rfl rfl]
  generalize decide (b = o) = p
  generalize decide (b = t) = q
  refine Ev_if (fun h1 => Ev.step (fun k => by rw [spec_l4Kind.j0]) ?_) (fun h1 => Ev.step (fun k => by rw [spec_l4Kind.j0]) ?_)
  · cases q
    · refine Ev_neg (by simp) (Ev_neg (by simp) (Ev_pos h1 (Ev_val ?_)))
      simp [h1]
    · refine Ev_pos rfl (Ev_val ?_)
      simp [h1]
  · refine Ev_neg (by simp) (Ev_if (fun h2 => Ev_val ?_) (fun h2 => Ev_neg h1 (Ev_call (ssame_tells o t (by omega)) (Ev_if (fun h3 => Ev_val ?_) (fun h3 => Ev_val ?_)))))
    · simp [h1, h2]
    · simp [h1, h2, h3]
    · simp [h1, h2, h3]
theorem ikind_tells {b o t : List ByteArray} (hb : b.length ≤ 1048576) (ho : o.length ≤ 1048576) : Ev (fun k => impl_kindOf.f k b o t) (kindK b o t) := by
  unfold impl_kindOf.f
  refine Ev_call (isame_tells b o (by omega)) (Ev_call (isame_tells b t (by omega)) (Ev_call (isame_tells o t (by omega)) ?_))
  rw [kindK_val b o t rfl rfl rfl]
  generalize decide (b = o) = p
  generalize decide (b = t) = q
  generalize decide (o = t) = r
  refine Ev_if (fun h1 => Ev.step (fun k => by rw [impl_kindOf.j0]) ?_) (fun h1 => Ev.step (fun k => by rw [impl_kindOf.j0]) ?_)
  · cases q
    · refine Ev_neg (by simp) (Ev_neg (by simp) (Ev_pos h1 (Ev_val ?_)))
      simp [h1]
    · refine Ev_pos rfl (Ev_val ?_)
      simp [h1]
  · refine Ev_neg (by simp) (Ev_if (fun h2 => Ev_val ?_) (fun h2 => Ev_neg h1 (Ev_if (fun h3 => Ev_val ?_) (fun h3 => Ev_val ?_))))
    · simp [h1, h2]
    · simp [h1, h2, h3]
    · simp [h1, h2, h3]
def KF : List S58 → Int
  | [] => 0
  | c :: l => if ¬ (0 ≤ c.f0 ∧ c.f0 ≤ 4) then 3 else if kindK c.f1 c.f2 c.f3 ≠ c.f0 ∨ c.f1.length + c.f2.length + c.f3.length = 0 then 1 else KF l
theorem KF_cons (c : S58) (l : List S58) : KF (c :: l) = if ¬ (0 ≤ c.f0 ∧ c.f0 ≤ 4) then 3 else if kindK c.f1 c.f2 c.f3 ≠ c.f0 ∨ c.f1.length + c.f2.length + c.f3.length = 0 then 1 else KF l := rfl
def SF (l : List S58) : Int := if LF (sides 0 l) ≠ 0 then LF (sides 0 l) else if LF (sides 1 l) ≠ 0 then LF (sides 1 l) else LF (sides 2 l)
def CKF (l : List S58) : Int := if l.length > 201 then 2 else if KF l = 0 then SF l else KF l
theorem sckf_loop1 {l : List S58} (hl : SmallK l) : Ev (fun k => spec_ChunksFault.l1 k l 0) (SF l) := by
  unfold SF
  have one : ∀ n : Nat, n < 3 → ∀ {r : Int}, (LF (sides n l) = 0 → Ev (fun k => spec_ChunksFault.l1 k l ((n + 1 : Nat) : Int)) r) → (LF (sides n l) ≠ 0 → LF (sides n l) = r) → Ev (fun k => spec_ChunksFault.l1 k l (n : Int)) r := by
    intro n hn r h1 h2
    refine Ev.step (fun k => by rw [spec_ChunksFault.l1]) (Ev_pos (by omega) ?_)
    refine Ev_call (sside_tells hl n (by omega) (by omega)) (Ev_call (hl.side n).slf (Ev_if (fun h => ?_) (fun h => Ev_val (h2 h))))
    rw [wsucc' (by omega)]
    exact h1 h
  refine one 0 (by omega) (fun h0 => ?_) (fun h0 => ?_)
  · rw [if_neg (by intro e; exact e h0)]
    refine one 1 (by omega) (fun h1 => ?_) (fun h1 => ?_)
    · rw [if_neg (by intro e; exact e h1)]
      refine one 2 (by omega) (fun h2 => ?_) (fun h2 => rfl)
      exact Ev.step (fun k => by rw [spec_ChunksFault.l1]) (Ev_neg (by omega) (Ev_val h2.symm))
    · exact (if_pos h1).symm
  · exact (if_pos h0).symm
theorem sckf_loop {l : List S58} (hl : SmallK l) : ∀ (d i : Nat), l.length - i = d → i ≤ l.length → Ev (fun k => spec_ChunksFault.l0 k l (i : Int)) (if KF (l.drop i) = 0 then SF l else KF (l.drop i)) := by
  intro d
  induction d with
  | zero =>
    intro i hd hi
    refine Ev.step (fun k => by rw [spec_ChunksFault.l0]) (Ev_neg (by omega) ?_)
    rw [List.drop_eq_nil_of_le (by omega)]
    exact Ev_eq (sckf_loop1 hl) rfl
  | succ d ih =>
    intro i hd hi
    have hlt : i < l.length := by omega
    obtain ⟨s1, s2, s3⟩ := hl.at hlt
    have l1 := s1.2.1
    have l2 := s2.2.1
    have l3 := s3.2.1
    have hn := hl.2.1
    have nx := ih (i + 1) (by omega) (by omega)
    refine Ev.step (fun k => by rw [spec_ChunksFault.l0]) (Ev_pos (by omega) (Ev_pos (by omega) ?_))
    rw [rdk_nat hlt, wsucc hlt (by omega), drop_at hlt]
    refine Ev_const (in_tells _ _ _) (Ev_if (fun h => ?_) (fun h => ?_))
    · have hin : ¬ ¬ (0 ≤ l[i].f0 ∧ l[i].f0 ≤ 4) := fun e => e (of_decide_eq_true h)
      refine Ev_call (skind_tells (by omega) (by omega)) (Ev_if (fun h2 => ?_) (fun h2 => Ev_val ?_))
      · rw [wid (x := ((l[i].f1).length : Int) + ((l[i].f2).length : Int)) (by omega) (by omega), wid (by omega) (by omega)]
        refine Ev_if (fun h3 => Ev_val ?_) (fun h3 => ?_)
        · have e : KF (l[i] :: l.drop (i + 1)) = 1 := by rw [KF_cons, if_neg hin, if_pos (.inr (by omega))]
          rw [e]
          rfl
        · have e : KF (l[i] :: l.drop (i + 1)) = KF (l.drop (i + 1)) := by
            rw [KF_cons, if_neg hin, if_neg]
            rintro (e | e)
            · exact e h2
            · omega
          rw [e]
          exact nx
      · have e : KF (l[i] :: l.drop (i + 1)) = 1 := by rw [KF_cons, if_neg hin, if_pos (.inl h2)]
        rw [e]
        rfl
    · have e : KF (l[i] :: l.drop (i + 1)) = 3 := by rw [KF_cons, if_pos (fun e => h (decide_eq_true e))]
      rw [e]
      exact Ev.now _
theorem sckf_tells {l : List S58} (hl : SmallK l) : Ev (fun k => spec_ChunksFault.f k l) (CKF l) := by
  unfold spec_ChunksFault.f CKF
  refine Ev_if (fun h => Ev_val ?_) (fun h => ?_)
  · rw [if_pos (by omega)]
  · rw [if_neg (by omega)]
    have := sckf_loop hl _ 0 rfl (by omega)
    rw [List.drop_zero] at this
    exact this
theorem ickf_loop {l : List S58} (hl : SmallK l) : ∀ (d i : Nat), l.length - i = d → i ≤ l.length → Ev (fun k => impl_ChunksFault.l0 k l l (l.length : Int) (i : Int)) (if KF (l.drop i) = 0 then SF l else KF (l.drop i)) := by
  intro d
  induction d with
  | zero =>
    intro i hd hi
    refine Ev.step (fun k => by rw [impl_ChunksFault.l0]) (Ev_neg (by omega) ?_)
    rw [List.drop_eq_nil_of_le (by omega)]
    refine Ev_call (iside_tells hl 0 (by omega) (by omega)) (Ev_call (hl.side 0).ilf (Ev_call (iside_tells hl 1 (by omega) (by omega)) (Ev_call (hl.side 1).ilf (Ev_call (iside_tells hl 2 (by omega) (by omega)) (Ev_call (hl.side 2).ilf (Ev_call (first_tells _ (by simp)) (Ev_val ?_)))))))
    simp only [firstOf, KF, SF]
    repeat' split
    all_goals first | rfl | contradiction | omega
  | succ d ih =>
    intro i hd hi
    have hlt : i < l.length := by omega
    obtain ⟨s1, s2, s3⟩ := hl.at hlt
    have l1 := s1.2.1
    have l2 := s2.2.1
    have l3 := s3.2.1
    have hn := hl.2.1
    have nx := ih (i + 1) (by omega) (by omega)
    refine Ev.step (fun k => by rw [impl_ChunksFault.l0]) (Ev_pos (by omega) (Ev_pos (by omega) (Ev_pos (by omega) ?_)))
    rw [rdk_nat hlt, wsucc hlt (by omega), drop_at hlt]
    refine Ev_const (within_tells _ _ _) (Ev_if (fun h => ?_) (fun h => ?_))
    · have hin : ¬ ¬ (0 ≤ l[i].f0 ∧ l[i].f0 ≤ 4) := fun e => e (of_decide_eq_true h)
      refine Ev_call (ikind_tells (by omega) (by omega)) (Ev_if (fun h2 => ?_) (fun h2 => Ev_val ?_))
      · rw [wid (x := ((l[i].f1).length : Int) + ((l[i].f2).length : Int)) (by omega) (by omega), wid (by omega) (by omega)]
        refine Ev_if (fun h3 => Ev_val ?_) (fun h3 => ?_)
        · have e : KF (l[i] :: l.drop (i + 1)) = 1 := by rw [KF_cons, if_neg hin, if_pos (.inr (by omega))]
          rw [e]
          rfl
        · have e : KF (l[i] :: l.drop (i + 1)) = KF (l.drop (i + 1)) := by
            rw [KF_cons, if_neg hin, if_neg]
            rintro (e | e)
            · exact e h2.symm
            · omega
          rw [e]
          exact nx
      · have e : KF (l[i] :: l.drop (i + 1)) = 1 := by rw [KF_cons, if_neg hin, if_pos (.inl (fun e => h2 e.symm))]
        rw [e]
        rfl
    · have e : KF (l[i] :: l.drop (i + 1)) = 3 := by rw [KF_cons, if_pos (fun e => h (decide_eq_true e))]
      rw [e]
      exact Ev.now _
theorem ickf_tells {l : List S58} (hl : SmallK l) : Ev (fun k => impl_ChunksFault.f k l) (CKF l) := by
  unfold impl_ChunksFault.f CKF
  refine Ev_if (fun h => Ev_val ?_) (fun h => ?_)
  · rw [if_pos (by omega)]
  · rw [if_neg (by omega)]
    have := ickf_loop hl _ 0 rfl (by omega)
    rw [List.drop_zero] at this
    exact this
theorem rdj_nat {l : List S53} {i : Nat} (h : i < l.length) : rd_T53 l (i : Int) = l[i] := by
  unfold rd_T53
  rw [Int.toNat_natCast, List.getD_eq_getElem?_getD, List.getElem?_eq_getElem h]
  rfl
def ck (x : S53) : S58 := ⟨x.f0, x.f1, x.f2, x.f3⟩
theorem szk_tells (a : Int) (x y z : List ByteArray) (gx : GL x) (gy : GL y) (gz : GL z) (n : Int) (h0 : 0 ≤ n) (h1 : n ≤ 1048576) :
    ∃ r, Ev (fun k => laws_szChunk.f k a x y z n) r ∧ (r < 0 ∨ (0 ≤ r ∧ r ≤ n ∧ ((lw x + lw y + lw z : Nat) : Int) = n - r)) := by
  obtain ⟨r1, e1, p1⟩ := sz_tells x gx n h0 h1
  rcases p1 with p1 | ⟨a1, b1, c1⟩
  · refine ⟨-1, ?_, .inl (by omega)⟩
    unfold laws_szChunk.f
    exact Ev_call e1 (Ev_pos p1 (Ev.now _))
  obtain ⟨r2, e2, p2⟩ := sz_tells y gy r1 a1 (by omega)
  rcases p2 with p2 | ⟨a2, b2, c2⟩
  · refine ⟨-1, ?_, .inl (by omega)⟩
    unfold laws_szChunk.f
    exact Ev_call e1 (Ev_neg (by omega) (Ev_call e2 (Ev_pos p2 (Ev.now _))))
  obtain ⟨r3, e3, p3⟩ := sz_tells z gz r2 a2 (by omega)
  rcases p3 with p3 | ⟨a3, b3, c3⟩
  · refine ⟨-1, ?_, .inl (by omega)⟩
    unfold laws_szChunk.f
    exact Ev_call e1 (Ev_neg (by omega) (Ev_call e2 (Ev_neg (by omega) (Ev_call e3 (Ev_pos p3 (Ev.now _))))))
  · refine ⟨r3, ?_, .inr ⟨a3, by omega, by unfold lw; omega⟩⟩
    unfold laws_szChunk.f
    exact Ev_call e1 (Ev_neg (by omega) (Ev_call e2 (Ev_neg (by omega) (Ev_call e3 (Ev_neg (by omega) (Ev.now _))))))
theorem szks_loop (xs : List S53) (hg : ∀ c ∈ xs, GL c.f1 ∧ GL c.f2 ∧ GL c.f3) (hl : xs.length ≤ 9223372036854775807) : ∀ (d i : Nat) (n : Int), xs.length - i = d → i ≤ xs.length → 0 ≤ n → n ≤ 1048576 →
    ∃ r, Ev (fun k => laws_szChunkS.l0 k xs n (i : Int)) r ∧ (r < 0 ∨ (0 ≤ r ∧ r ≤ n ∧ (kw ((xs.drop i).map ck) : Int) = n - r)) := by
  intro d
  induction d with
  | zero =>
    intro i n hd hi h0 h1
    refine ⟨n, Ev.step (fun k => by rw [laws_szChunkS.l0]) (Ev_neg (by omega) (Ev.now _)), .inr ⟨h0, Int.le_refl _, ?_⟩⟩
    rw [List.drop_eq_nil_of_le (by omega)]
    simp [kw]
  | succ d ih =>
    intro i n hd hi h0 h1
    have hlt : i < xs.length := by omega
    have g := hg xs[i] (List.getElem_mem hlt)
    obtain ⟨r, e, p⟩ := szk_tells xs[i].f0 xs[i].f1 xs[i].f2 xs[i].f3 g.1 g.2.1 g.2.2 n h0 h1
    rcases p with p | ⟨a1, b1, c1⟩
    · refine ⟨-1, Ev.step (fun k => by rw [laws_szChunkS.l0]) (Ev_pos (by omega) (Ev_pos (by omega) ?_)), .inl (by omega)⟩
      rw [rdj_nat hlt]
      exact Ev_call e (Ev_pos p (Ev.now _))
    · obtain ⟨r2, hr, hp⟩ := ih (i + 1) r (by omega) (by omega) a1 (by omega)
      refine ⟨r2, Ev.step (fun k => by rw [laws_szChunkS.l0]) (Ev_pos (by omega) (Ev_pos (by omega) ?_)), ?_⟩
      · rw [rdj_nat hlt, wsucc hlt hl]
        exact Ev_call e (Ev_neg (by omega) hr)
      · rcases hp with hp | ⟨h2, h3, h4⟩
        · exact .inl hp
        · refine .inr ⟨h2, by omega, ?_⟩
          rw [drop_at hlt]
          simp only [List.map_cons, kw, ck]
          omega
theorem guard_chunks (xs : List S53) (hg : ∀ c ∈ xs, GL c.f1 ∧ GL c.f2 ∧ GL c.f3) (hl : xs.length ≤ 9223372036854775807) (n : Int) (h0 : 0 ≤ n) (h1 : n ≤ 1048576) {F : Nat → Int → Option Bool}
    (h : ∀ r, 0 ≤ r → r ≤ n → SmallK (xs.map ck) → Ev (fun k => F k r) true) : Ev (fun k => (laws_szChunkS.f k xs n).bind fun t => (if t < 0 then (some true) else F k t)) true := by
  by_cases hc : n - (xs.length : Int) < 0
  · refine Ev_call (a := -1) ?_ (Ev_pos (by omega) (Ev.now _))
    unfold laws_szChunkS.f
    rw [wid (by omega) (by omega)]
    exact Ev_pos hc (Ev.now _)
  · obtain ⟨r, hr, hp⟩ := szks_loop xs hg hl _ 0 (n - (xs.length : Int)) rfl (by omega) (by omega) (by omega)
    refine Ev_call (a := r) ?_ ?_
    · unfold laws_szChunkS.f
      rw [wid (by omega) (by omega)]
      exact Ev_neg hc hr
    · rcases hp with hp | ⟨h2, h3, h4⟩
      · exact Ev_pos hp (Ev.now _)
      · rw [List.drop_zero] at h4
        refine Ev_neg (by omega) (h r h2 (by omega) ⟨?_, by rw [List.length_map]; omega, by omega⟩)
        intro c hc
        obtain ⟨x, hx, rfl⟩ := List.mem_map.1 hc
        exact ⟨(hg x hx).1.2, (hg x hx).2.1.2, (hg x hx).2.2.2⟩
theorem tok_tells (x : S53) (h : Small x.f1 ∧ Small x.f2 ∧ Small x.f3) : Ev (fun k => laws_toChunk.f k x.f0 x.f1 x.f2 x.f3) (x.f0, x.f1, x.f2, x.f3) := by
  unfold laws_toChunk.f
  exact Ev_call h.1.to (Ev_call h.2.1.to (Ev_call h.2.2.to (Ev.now _)))
theorem toks_loop (xs : List S53) (hs : SmallK (xs.map ck)) : ∀ (d i : Nat) (ys : List S58), xs.length - i = d → i ≤ xs.length → ys.length = xs.length →
    Ev (fun k => laws_toChunkS.l0 k xs ys (i : Int)) (ys.take i ++ (xs.drop i).map ck) := by
  have hl := hs.2.1
  rw [List.length_map] at hl
  intro d
  induction d with
  | zero =>
    intro i ys hd hi hy
    refine Ev.step (fun k => by rw [laws_toChunkS.l0]) (Ev_neg (by omega) (Ev_val ?_))
    rw [List.drop_eq_nil_of_le (show xs.length ≤ i by omega), List.map_nil, List.append_nil, List.take_of_length_le (by omega)]
  | succ d ih =>
    intro i ys hd hi hy
    have hlt : i < xs.length := by omega
    have hk := hs.at (i := i) (by rw [List.length_map]; exact hlt)
    rw [List.getElem_map] at hk
    refine Ev.step (fun k => by rw [laws_toChunkS.l0]) (Ev_pos (by omega) (Ev_pos (by omega) ?_))
    rw [rdj_nat hlt, wsucc hlt (by omega)]
    refine Ev_call (tok_tells xs[i] hk) (Ev_pos (by omega) ?_)
    rw [Int.toNat_natCast]
    refine Ev_eq (ih (i + 1) (ys.set i (ck xs[i])) (by omega) (by omega) (by rw [List.length_set]; exact hy)) ?_
    rw [drop_at hlt, List.map_cons, List.take_succ_eq_append_getElem (by rw [List.length_set]; omega), List.getElem_set_self, List.take_set_of_le (by omega), List.append_assoc]
    rfl
theorem toks_tells {xs : List S53} (hs : SmallK (xs.map ck)) : Ev (fun k => laws_toChunkS.f k xs) (xs.map ck) := by
  have hl := hs.2.1
  rw [List.length_map] at hl
  unfold laws_toChunkS.f
  refine Ev_pos (by omega) (Ev_pos (by rw [Int.toNat_natCast]; omega) ?_)
  have h := toks_loop xs hs _ 0 (List.replicate ((xs.length : Int) : Int).toNat z58) rfl (by omega) (by simp)
  exact Ev_eq h (by simp)
theorem eqks_loop (xs : List S58) (hs : SmallK xs) : ∀ (d i : Nat), xs.length - i = d → i ≤ xs.length → Ev (fun k => laws_eqChunkS.l0 k xs xs (i : Int)) true := by
  have hl := hs.2.1
  intro d
  induction d with
  | zero => intro i hd hi; exact Ev.step (fun k => by rw [laws_eqChunkS.l0]) (Ev_neg (by omega) (Ev.now _))
  | succ d ih =>
    intro i hd hi
    have hlt : i < xs.length := by omega
    have hk := hs.at hlt
    refine Ev.step (fun k => by rw [laws_eqChunkS.l0]) (Ev_pos (by omega) (Ev_pos (by omega) (Ev_pos (by omega) ?_)))
    rw [rdk_nat hlt, wsucc hlt (by omega)]
    refine Ev_call (a := true) ?_ (Ev_pos rfl (ih (i + 1) (by omega) (by omega)))
    unfold laws_eqChunk.f
    exact Ev_pos rfl (Ev_call hk.1.eq (Ev_pos rfl (Ev_call hk.2.1.eq (Ev_pos rfl (Ev_call hk.2.2.eq (Ev_pos rfl (Ev.now _)))))))
theorem eqks_tells {xs : List S58} (hs : SmallK xs) : Ev (fun k => laws_eqChunkS.f k xs xs) true := by
  unfold laws_eqChunkS.f
  exact Ev_pos rfl (eqks_loop xs hs _ 0 rfl (by omega))
end Go.Proofs.Ytjngmhngedecdaa.P
end
section
set_option linter.unusedVariables false
set_option linter.unusedSimpArgs false
namespace Go.Proofs.Ytjngmhngedecdaa.P
open Go.RowKit Go.Proofs.YtjngmhngedecdaaW.PrintWords Go.Proofs.YtjngmhngedecdaaW.PrintLast
theorem mtext_loop : ∀ (n : Nat) (s : ByteArray), n + s.size ≤ 4611686018427387904 → ∃ t, Ev (fun k => laws_markText.l0 k (n : Int) s) t := by
  intro n
  induction n using Nat.strongRecOn with
  | _ n ih =>
    intro s hs
    by_cases h : n = 0
    · subst h
      exact ⟨_, Ev.step (fun k => by rw [laws_markText.l0]) (Ev_neg (by omega) (Ev_pos (by omega) (Ev.now _)))⟩
    · have hq : Int.tdiv (n : Int) 10 = ((n / 10 : Nat) : Int) := by
        rw [Int.tdiv_eq_ediv_of_nonneg (by omega)]
        omega
      have hsz : (strOfNums [(wrap64 (48 + (Int.tmod (n : Int) 10))) % 256] ++ s).size = 1 + s.size := by
        rw [ByteArray.size_append, strOfNums_size]
        rfl
      obtain ⟨t, ht⟩ := ih (n / 10) (by omega) (strOfNums [(wrap64 (48 + (Int.tmod (n : Int) 10))) % 256] ++ s) (by rw [hsz]; omega)
      refine ⟨t, Ev.step (fun k => by rw [laws_markText.l0]) (Ev_pos (by omega) ?_)⟩
      refine Ev_const rfl ?_
      refine Ev_pos (by rw [strOfNums_size]; simp; omega) ?_
      rw [hq, wid (by omega) (by omega)]
      exact ht
theorem mtext_some (n : Nat) (hn : n ≤ 4611686018427387904) : ∃ t, Ev (fun k => laws_markText.f k (n : Int)) t := by
  unfold laws_markText.f
  by_cases h : n = 0
  · subst h
    exact ⟨_, Ev_pos (by omega) (Ev.now _)⟩
  · obtain ⟨t, ht⟩ := mtext_loop n (⟨#[]⟩ : ByteArray) (by simp [ByteArray.size]; exact hn)
    exact ⟨t, Ev_neg (by omega) ht⟩
noncomputable def mtx (n : Nat) : ByteArray := @Classical.epsilon ByteArray ⟨⟨#[]⟩⟩ (fun t => Ev (fun k => laws_markText.f k (n : Int)) t)
theorem mtx_tells (n : Nat) (hn : n ≤ 4611686018427387904) : Ev (fun k => laws_markText.f k (n : Int)) (mtx n) := @Classical.epsilon_spec _ _ (mtext_some n hn)
noncomputable def mks : Nat → Nat → List ByteArray
  | _, 0 => []
  | n, d + 1 => mtx n :: mks (n + 1) d
theorem mks_length : ∀ (d n : Nat), (mks n d).length = d
  | 0, _ => rfl
  | d + 1, n => by rw [mks, List.length_cons, mks_length d (n + 1)]
theorem mark_loop (L : Nat) (hL : L ≤ 1000000000) : ∀ (d i n : Nat) (x : List ByteArray), L - i = d → i ≤ L → x.length = L → n + d ≤ 4611686018427387904 →
    Ev (fun k => laws_markStringS.l0 k x (n : Int) (i : Int)) (((n + d : Nat) : Int), x.take i ++ mks n d) := by
  intro d
  induction d with
  | zero =>
    intro i n x hd hi hx hn
    refine Ev.step (fun k => by rw [laws_markStringS.l0]) (Ev_neg (by omega) (Ev_val ?_))
    rw [mks, List.append_nil, List.take_of_length_le (by omega)]
    rfl
  | succ d ih =>
    intro i n x hd hi hx hn
    refine Ev.step (fun k => by rw [laws_markStringS.l0]) (Ev_pos (by omega) ?_)
    refine Ev_call (mtx_tells n (by omega)) ?_
    refine Ev_pos (by omega) ?_
    rw [wsucc' (i := n) (by omega), wsucc' (i := i) (by omega), Int.toNat_natCast]
    refine Ev_eq (ih (i + 1) (n + 1) (x.set i (mtx n)) (by omega) (by omega) (by rw [List.length_set]; exact hx) (by omega)) ?_
    rw [mks, List.take_succ_eq_append_getElem (by rw [List.length_set]; omega), List.getElem_set_self, List.take_set_of_le (by omega), List.append_assoc, show n + 1 + d = n + (d + 1) by omega]
    rfl
theorem mark_tells (x : List ByteArray) (n : Nat) (hx : x.length ≤ 1000000000) (hn : n ≤ 4611686017427387904) : Ev (fun k => laws_markStringS.f k x (n : Int)) (((n + x.length : Nat) : Int), mks n x.length) := by
  unfold laws_markStringS.f
  have h := mark_loop x.length hx _ 0 n x rfl (by omega) rfl (by omega)
  rw [List.take_zero, List.nil_append, Nat.sub_zero] at h
  exact h
theorem held_loop : ∀ (d n : Nat) (p : List ByteArray), p.length + d ≤ 1000000000 → n + d ≤ 4611686018427387904 → Ev (fun k => laws_heldStringS.l0 k (p ++ mks n d) (n : Int) (p.length : Int)) ((n + d : Nat) : Int) := by
  intro d
  induction d with
  | zero =>
    intro n p hp hn
    refine Ev.step (fun k => by rw [laws_heldStringS.l0]) ?_
    exact Ev_neg (by rw [mks, List.append_nil]; omega) (Ev.now _)
  | succ d ih =>
    intro n p hp hn
    have hl : (p ++ mks n (d + 1)).length = p.length + (d + 1) := by rw [List.length_append, mks_length]
    refine Ev.step (fun k => by rw [laws_heldStringS.l0]) (Ev_pos (by omega) (Ev_pos (by omega) ?_))
    refine Ev_call (mtx_tells n (by omega)) ?_
    have hg : rdOf ByteArray.empty (p ++ mks n (d + 1)) (p.length : Int) = mtx n := by
      rw [rd_nat _ (by omega), List.getElem_append_right (by omega)]
      simp [mks]
    rw [hg, wsucc' (i := n) (by omega), wsucc' (i := p.length) (by omega)]
    refine Ev_pos rfl ?_
    have h := ih (n + 1) (p ++ [mtx n]) (by simp; omega) (by omega)
    rw [List.append_assoc, List.length_append, List.length_singleton] at h
    rw [show n + (d + 1) = n + 1 + d by omega, mks]
    exact h
theorem held_tells (n d : Nat) (hd : d ≤ 1000000000) (hn : n ≤ 4611686017427387904) : Ev (fun k => laws_heldStringS.f k (mks n d) (n : Int)) ((n + d : Nat) : Int) := by
  unfold laws_heldStringS.f
  exact held_loop d n [] (by simp; exact hd) (by omega)
end Go.Proofs.Ytjngmhngedecdaa.P
end
section
namespace Go.Proofs.Ytjngmhngedecdaa.P
open Go.RowKit Go.Proofs.YtjngmhngedecdaaW.PrintWords Go.Proofs.YtjngmhngedecdaaW.PrintLast Go.Proofs.YtjngmhngedecdaaW.PrintMore
attribute [local go_sem] max2_int min2_int max_two min_two max_three min_three max_four min_four
end Go.Proofs.Ytjngmhngedecdaa.P
end
section
set_option linter.unusedVariables false
set_option linter.unusedSimpArgs false
namespace Go.Proofs.Ytjngmhngedecdaa.P
open Go.RowKit Go.Proofs.YtjngmhngedecdaaW.PrintWords Go.Proofs.YtjngmhngedecdaaW.PrintLast
abbrev CK := S58
def nc (c : CK) : Nat := c.f1.length + c.f2.length + c.f3.length
noncomputable def mkk : Nat → List CK → List CK
  | _, [] => []
  | n, c :: l => ⟨(n : Int), mks (n + 1) c.f1.length, mks (n + 1 + c.f1.length) c.f2.length, mks (n + 1 + c.f1.length + c.f2.length) c.f3.length⟩ :: mkk (n + 1 + c.f1.length + c.f2.length + c.f3.length) l
def ksz : Nat → List CK → Nat
  | n, [] => n
  | n, c :: l => ksz (n + 1 + c.f1.length + c.f2.length + c.f3.length) l
theorem ksz_ge : ∀ (l : List CK) (n : Nat), n ≤ ksz n l := by
  intro l
  induction l with
  | nil => intro n; exact Nat.le_refl _
  | cons c l ih => intro n; rw [ksz]; have := ih (n + 1 + c.f1.length + c.f2.length + c.f3.length); omega
theorem ksz_le : ∀ (l : List CK) (n : Nat), ksz n l ≤ n + l.length + kw l := by
  intro l
  induction l with
  | nil => intro n; simp [ksz]
  | cons c l ih =>
    intro n
    rw [ksz]
    have := ih (n + 1 + c.f1.length + c.f2.length + c.f3.length)
    simp only [List.length_cons, kw, lw]
    omega
theorem setk_mid {α : Type} (p : List α) (c v : α) (r : List α) : (p ++ c :: r).set p.length v = p ++ v :: r := by
  rw [List.set_append_right _ _ (Nat.le_refl _), Nat.sub_self]
  rfl
theorem rdk_mid (p : List CK) (c : CK) (r : List CK) : rd_T58 (p ++ c :: r) (p.length : Int) = c := by
  rw [rdk_nat (by simp)]
  simp
theorem markks_loop : ∀ (l p : List CK) (n : Nat), p.length + l.length ≤ 1048576 → (∀ c ∈ l, nc c ≤ 1048576) → ksz n l ≤ 4611686017427387000 →
    Ev (fun k => laws_markChunkS.l0 k (p ++ l) (n : Int) (p.length : Int)) (((ksz n l : Nat) : Int), p ++ mkk n l) := by
  intro l
  induction l with
  | nil =>
    intro p n hp hc hn
    refine Ev.step (fun k => by rw [laws_markChunkS.l0]) ?_
    refine Ev_neg (by rw [List.append_nil]; omega) (Ev_val ?_)
    rw [ksz, mkk]
  | cons c l ih =>
    intro p n hp hc hn
    have h0 := ksz_ge (c :: l) n
    have h1 := ksz_ge l (n + 1 + c.f1.length + c.f2.length + c.f3.length)
    rw [ksz] at hn
    have hc0 := hc c (by simp)
    unfold nc at hc0
    simp only [List.length_cons] at hp
    refine Ev.step (fun k => by rw [laws_markChunkS.l0]) ?_
    refine Ev_pos (by rw [List.length_append, List.length_cons]; omega) (Ev_pos (by omega) ?_)
    refine Ev_const rfl ?_
    rw [Int.toNat_natCast, rdk_mid, setk_mid, rdk_mid, wsucc' (i := n) (by omega), wsucc' (i := p.length) (by omega)]
    refine Ev_call (mark_tells c.f1 (n + 1) (by omega) (by omega)) (Ev_const rfl ?_)
    rw [setk_mid, rdk_mid]
    refine Ev_call (mark_tells c.f2 (n + 1 + c.f1.length) (by omega) (by omega)) (Ev_const rfl ?_)
    rw [setk_mid, rdk_mid]
    refine Ev_call (mark_tells c.f3 (n + 1 + c.f1.length + c.f2.length) (by omega) (by omega)) (Ev_const rfl ?_)
    rw [setk_mid]
    have e := ih (p ++ [⟨(n : Int), mks (n + 1) c.f1.length, mks (n + 1 + c.f1.length) c.f2.length, mks (n + 1 + c.f1.length + c.f2.length) c.f3.length⟩]) (n + 1 + c.f1.length + c.f2.length + c.f3.length) (by simp; omega) (fun x hx => hc x (by simp [hx])) (by omega)
    rw [List.append_assoc, List.length_append, List.append_assoc] at e
    exact e
theorem markks_from {l : List CK} (n : Nat) (hn : n ≤ 4611686017420000000) (h1 : l.length ≤ 1048576) (h2 : kw l ≤ 1048576) : Ev (fun k => laws_markChunkS.f k l (n : Int)) (((ksz n l : Nat) : Int), mkk n l) := by
  unfold laws_markChunkS.f
  have hc : ∀ c ∈ l, nc c ≤ 1048576 := fun c hc => by
    obtain ⟨i, hi, rfl⟩ := List.mem_iff_getElem.1 hc
    have := kw_at l i hi
    unfold nc
    unfold lw at this
    omega
  have h3 := ksz_le l n
  exact markks_loop l [] n (by simp; omega) hc (by omega)
theorem markks_tells {l : List CK} (h : SmallK l) : Ev (fun k => laws_markChunkS.f k l 1) (((ksz 1 l : Nat) : Int), mkk 1 l) := markks_from 1 (by omega) h.2.1 h.2.2
end Go.Proofs.Ytjngmhngedecdaa.P
end
section
set_option linter.unusedVariables false
namespace Go.Proofs.Ytjngmhngedecdaa.P.VFnExactWeaveSide
open Go.RowKit Go.Proofs.YtjngmhngedecdaaW.PrintWords Go.Proofs.YtjngmhngedecdaaW.PrintLast
def WS (l : List CK) (n : Int) : Int × List ByteArray := if CKF l = 0 then (if 0 ≤ n ∧ n ≤ 2 then (0, sides n l) else (3, [])) else (CKF l, [])
theorem s_tells {l : List CK} (hs : SmallK l) (n : Int) : Ev (fun k => spec_WeaveSide.f k l n) (WS l n) := by
  unfold spec_WeaveSide.f WS
  refine Ev_call (sckf_tells hs) (Ev_if (fun h => ?_) (fun h => Ev_val ?_))
  · rw [if_pos h]
    refine Ev_const (in_tells n 0 2) (Ev_if (fun h2 => ?_) (fun h2 => Ev_val ?_))
    · have h2 := of_decide_eq_true h2
      rw [if_pos h2]
      exact Ev_call (sside_tells hs n h2.1 h2.2) (Ev.now _)
    · rw [if_neg (fun h3 => h2 (decide_eq_true h3))]
  · rw [if_neg h]
theorem i_tells {l : List CK} (hs : SmallK l) (n : Int) : Ev (fun k => impl_WeaveSide.f k l n) (WS l n) := by
  unfold impl_WeaveSide.f WS
  have hcode : impl_codeIf.f (!decide (0 ≤ n ∧ n ≤ 2)) 3 = some (if 0 ≤ n ∧ n ≤ 2 then 0 else 3) := by
    unfold impl_codeIf.f
    by_cases h : 0 ≤ n ∧ n ≤ 2
    · rw [decide_eq_true h, if_pos h]
      rfl
    · rw [decide_eq_false h, if_neg h]
      rfl
  refine Ev_call (ickf_tells hs) (Ev_const (within_tells n 0 2) (Ev_const hcode (Ev_call (first_tells _ (by simp)) ?_)))
  by_cases h1 : CKF l = 0
  · rw [if_pos h1]
    by_cases h2 : 0 ≤ n ∧ n ≤ 2
    · rw [if_pos h2, if_pos h2, h1]
      exact Ev_pos rfl (Ev_call (iside_tells hs n h2.1 h2.2) (Ev.now _))
    · rw [if_neg h2, if_neg h2, h1]
      exact Ev_neg (by decide) (Ev_val rfl)
  · rw [if_neg h1]
    have e : firstOf [CKF l, if 0 ≤ n ∧ n ≤ 2 then 0 else 3] = CKF l := by
      rw [firstOf, if_neg h1]
    rw [e]
    exact Ev_neg h1 (Ev_val rfl)
theorem proof : UFnExactWeaveSide.Pure := by
  intro l0 n g0 gn
  apply Ev.rounds
  unfold laws_FnExactWeaveSide.f
  refine guard_chunks l0 (fun c hc => ⟨(g0.2 c hc).2.1, (g0.2 c hc).2.2.1, (g0.2 c hc).2.2.2⟩) g0.1 1048576 (by omega) (by omega) (fun r h0 h1 hs => ?_)
  have tc := toks_tells hs
  obtain ⟨c, x, hw⟩ : ∃ c x, WS (l0.map ck) n = (c, x) := ⟨_, _, rfl⟩
  have hx : x.length ≤ 1048576 := by
    have e : x = (WS (l0.map ck) n).2 := by rw [hw]
    rw [e]
    unfold WS
    split
    · split
      · exact (hs.side n).2.1
      · simp
    · simp
  have s1 := s_tells hs n
  have s2 := i_tells hs n
  rw [hw] at s1 s2
  have e : Ev (fun k => laws_eqLinesResult.f k c x c x) true := by
    unfold laws_eqLinesResult.f
    exact Ev_pos rfl (Ev_call (eq_tells x (by omega)) (Ev_pos rfl (Ev.now _)))
  refine Ev_call tc (Ev_call s1 (Ev_call tc (Ev_call s2 (Ev_call e (Ev_pos rfl ?_)))))
  refine Ev_call tc (Ev_call (eqks_tells hs) (Ev_pos rfl (Ev_call (markks_tells hs) (Ev_neg (by omega) (Ev_call e ?_)))))
  refine Ev.step (fun k => by rw [laws_FnExactWeaveSide.j0]) (Ev_neg (by simp) ?_)
  refine Ev_call (a := (((1 + x.length : Nat) : Int), mks 1 x.length)) (by unfold laws_markLinesResult.f; exact Ev_call (mark_tells x 1 (by omega) (by omega)) (Ev.now _)) ?_
  have hh : Ev (fun k => laws_heldLinesResult.f k c (mks 1 x.length) 1) ((1 + x.length : Nat) : Int) := by
    unfold laws_heldLinesResult.f
    exact Ev_call (held_tells 1 x.length (by omega) (by omega)) (Ev_neg (by omega) (Ev.now _))
  refine Ev_call hh (Ev_neg (by omega) (Ev_pos rfl ?_))
  exact Ev_call tc (Ev_call s2 (Ev_call e (Ev_pos rfl (Ev_call hh (Ev_neg (by omega) (Ev_pos rfl (Ev.now _)))))))
end Go.Proofs.Ytjngmhngedecdaa.P.VFnExactWeaveSide
end
section
set_option linter.unusedVariables false
set_option linter.unusedSimpArgs false
namespace Go.Proofs.Ytjngmhngedecdaa.O
open Go.RowKit Go.ChangeShapes Go.WideShapes Go.Proofs.YtjngmhngedecdaaW.PrintWords
def Opens {α : Type} (P : Program) (t : TypeId) (d : Kd α) (G : α → Prop) : Prop :=
  P.cellsOf t = d.sz ∧ ∀ {H : Type} {enc : TypeId × Value → H} {w : World} {base : Nat} {spare : Nat → Bool} {held : Bool} {fuel : Nat} {cs : List Value} {x : DataW H × List MemPlace},
    DataW.trod enc P w base spare held fuel t cs = some x → ∃ a, d.K w a cs ∧ G a
theorem list_of {α : Type} {Q : Nat → α → Prop} : ∀ n : Nat, (∀ j, j < n → ∃ p, Q j p) → ∃ xs : List α, xs.length = n ∧ ∀ j p, xs[j]? = some p → Q j p
  | 0, _ => ⟨[], rfl, fun j p h => by simp at h⟩
  | n + 1, h => by
    obtain ⟨xs, hl, hx⟩ := list_of n (fun j hj => h j (Nat.lt_succ_of_lt hj))
    obtain ⟨p, hp⟩ := h n (Nat.lt_succ_self n)
    refine ⟨xs ++ [p], by simp [hl], fun j q hq => ?_⟩
    rcases Nat.lt_or_ge j xs.length with hj | hj
    · rw [List.getElem?_append_left hj] at hq
      exact hx j q hq
    · have hj' : j = xs.length := by
        have := (List.getElem?_eq_some_iff.1 hq).1
        rw [List.length_append, List.length_singleton] at this
        omega
      subst hj'
      have e : p = q := by simpa using hq
      subst e
      rw [hl]
      exact hp
theorem cells_get {w : World} {base : Nat} {a : Addr} {n : Nat} {cs : List Value} (h : w.cells? base a n = some cs) : cs.length = n ∧ ∀ i u, cs[i]? = some u → w.cell? (a.add i) = some u := by
  unfold World.cells? at h
  split at h
  · have hl := mapM_some_length h
    rw [List.length_range] at hl
    refine ⟨hl, fun i u hu => ?_⟩
    have hi : i < n := by
      have := (List.getElem?_eq_some_iff.1 hu).1
      omega
    have := mapM_some_get h i i (by simp [hi])
    rw [this, hu]
  · simp at h
theorem opens_int {P : Program} {t : TypeId} {k : IntKind} (ht : P.underlying t = some (.int k)) (hc : P.cellsOf t = 1) : Opens P t (Kd.int k) (fun x => (Lit.int k x).wf = true) :=
  ⟨hc, fun h => by
    obtain ⟨n, rfl, _, hw⟩ := DataW.trod_int ht h
    exact ⟨n, rfl, hw⟩⟩
theorem opens_string {P : Program} {t : TypeId} (ht : P.underlying t = some .string) (hc : P.cellsOf t = 1) : Opens P t Kd.string (fun s => s.size ≤ 9223372036854775807) :=
  ⟨hc, fun h => by
    obtain ⟨s, rfl, _, hw⟩ := DataW.trod_string ht h
    exact ⟨s, rfl, hw⟩⟩
theorem opens_slice {α : Type} {P : Program} {t e : TypeId} {d : Kd α} {G : α → Prop} (ht : P.underlying t = some (.slice e)) (hc : P.cellsOf t = 1) (he : Opens P e d G) :
    Opens P t (Kd.slice e d) (fun l => l.length ≤ 9223372036854775807 ∧ ∀ x ∈ l, G x) := by
  refine ⟨hc, fun {H enc w base spare held fuel cs x} h => ?_⟩
  rcases DataW.trod_slice ht h with ⟨rfl, _⟩ | ⟨a, len, cap, elems, rest, n, _, rfl, _, hb, hl, hm, hlen, hel, _, _⟩
  · exact ⟨[], ⟨none, 0, rfl, Nat.le_refl _, rfl, by simp, fun hp => absurd hp (by simp)⟩, by simp, by simp⟩
  · have hcap : cap ≤ 9223372036854775807 := hm
    obtain ⟨xs, hxl, hx⟩ := list_of (Q := fun j p => (∃ c : List Value, c.length = d.sz ∧ d.K w p c ∧ ∀ i u, c[i]? = some u → w.cell? (a.add (j * d.sz + i)) = some u) ∧ G p) len (fun j hj => by
      have h1 := hel j hj
      rw [List.getElem?_eq_getElem (by omega), Option.bind_eq_some_iff] at h1
      obtain ⟨cs', hcs, hy⟩ := h1
      obtain ⟨p, hK, hG⟩ := he.2 hy
      obtain ⟨hcl, hcell⟩ := cells_get hcs
      refine ⟨p, ⟨cs', by rw [hcl, he.1], hK, fun i u hu => ?_⟩, hG⟩
      have := hcell i u hu
      rw [he.1] at this
      rw [← Addr.add_add]
      exact this)
    have hlen2 : xs.length ≤ cap := by omega
    refine ⟨xs, ⟨some a, cap, ?_, hlen2, rfl, by omega, fun _ => ⟨a, rfl, fun j p hj => (hx j p hj).1⟩⟩, by omega, fun y hy => ?_⟩
    · rw [hxl]
    · obtain ⟨j, hj⟩ := List.getElem?_of_mem hy
      exact (hx j y hj).2
def OpensTail {α : Type} (P : Program) (fs : List Field) (off : Nat) (d : Kd α) (G : α → Prop) : Prop :=
  ∀ {H : Type} {enc : TypeId × Value → H} {w : World} {base : Nat} {spare : Nat → Bool} {held : Bool} {fuel : Nat} {cs : List Value},
    (∀ f ∈ fs, ∃ y, DataW.trod enc P w base spare held fuel f.type ((cs.drop f.offset).take (P.cellsOf f.type)) = some y) → cs.length = off + d.sz → ∃ a, d.K w a (cs.drop off) ∧ G a
theorem tail_one {α : Type} {P : Program} {f : Field} {off : Nat} {d : Kd α} {G : α → Prop} (ho : f.offset = off) (h : Opens P f.type d G) : OpensTail P [f] off d G := by
  intro H enc w base spare held fuel cs hy hl
  obtain ⟨y, hy⟩ := hy f (List.mem_singleton.2 rfl)
  obtain ⟨a, hK, hG⟩ := h.2 hy
  refine ⟨a, ?_, hG⟩
  rw [ho, h.1, List.take_of_length_le (by rw [List.length_drop]; omega)] at hK
  exact hK
theorem tail_cons {α β : Type} {P : Program} {f : Field} {fs : List Field} {off off2 : Nat} {d : Kd α} {d2 : Kd β} {G : α → Prop} {G2 : β → Prop} (ho : f.offset = off) (h : Opens P f.type d G) (ho2 : off2 = off + d.sz) (h2 : OpensTail P fs off2 d2 G2) :
    OpensTail P (f :: fs) off (Kd.pair d d2) (fun x => G x.1 ∧ G2 x.2) := by
  intro H enc w base spare held fuel cs hy hl
  obtain ⟨y, hy1⟩ := hy f List.mem_cons_self
  obtain ⟨a, hK, hG⟩ := h.2 hy1
  have hl' : cs.length = off2 + d2.sz := by rw [hl, ho2]; exact (Nat.add_assoc _ _ _).symm
  obtain ⟨b, hK2, hG2⟩ := h2 (fun f' hf' => hy f' (List.mem_cons_of_mem _ hf')) hl'
  refine ⟨(a, b), ⟨(cs.drop off).take d.sz, (cs.drop off).drop d.sz, (List.take_append_drop _ _).symm, ?_, ?_⟩, hG, hG2⟩
  · rw [ho, h.1] at hK
    exact hK
  · rw [List.drop_drop, ← ho2]
    exact hK2
theorem opens_struct {α β : Type} {P : Program} {t : TypeId} {fs : Array Field} {d : Kd α} {f : β → α} {g : α → β} {G : α → Prop} (ht : P.underlying t = some (.struct fs)) (hc : P.cellsOf t = d.sz) (hfg : ∀ a, f (g a) = a) (h : OpensTail P fs.toList 0 d G) :
    Opens P t (Kd.iso d f) (fun b => G (f b)) := by
  refine ⟨hc, fun {H enc w base spare held fuel cs x} hx => ?_⟩
  obtain ⟨xs, n, rfl, _, hl, hxl, hf⟩ := DataW.trod_struct ht hx
  obtain ⟨a, hK, hG⟩ := h (enc := enc) (w := w) (base := base) (spare := spare) (held := held) (fuel := n) (cs := cs) (fun f' hf' => by
    obtain ⟨i, hi⟩ := List.getElem?_of_mem hf'
    have hi' : fs[i]? = some f' := by simpa using hi
    have hlt : i < fs.size := (Array.getElem?_eq_some_iff.1 hi').1
    exact ⟨xs[i]'(by omega), by rw [hf i f' hi', List.getElem?_eq_getElem]⟩) (by rw [hl, hc, Nat.zero_add])
  refine ⟨g a, ?_, ?_⟩
  · show d.K w (f (g a)) cs
    rw [hfg]
    simpa using hK
  · show G (f (g a))
    rw [hfg]
    exact hG
end Go.Proofs.Ytjngmhngedecdaa.O
end
namespace Go.Proofs.Ytjngmhngedecdaa.fnExactWeaveSide
open Go.ChangeShapes Go.WideShapes Go.ChangeAt Go.RowKit
open Go.ChangeMaps (open_string shut_string)
open Go.Proofs.Ytjngmhngedecdaa.P Go.Proofs.Ytjngmhngedecdaa.P.UFnExactWeaveSide Go.Proofs.YtjngmhngedecdaaW.PrintWords
set_option linter.unusedVariables false
theorem own : ownKnob Try.prog.godebug = none := by kernel_rfl
theorem laidOut : laidOutB Try.prog = true := by kernel_rfl
set_option maxRecDepth 100000 in
theorem opens53 : O.Opens Try.prog 53 k53 (fun x => G53 x) := by
  have h := O.opens_struct (P := Try.prog) (t := 53) (f := fun x : S53 => (x.f0, x.f1, x.f2, x.f3)) (g := fun a => (⟨a.1, a.2.1, a.2.2.1, a.2.2.2⟩ : S53)) Try.underlying53 (by kernel_rfl) (fun _ => rfl) (O.tail_cons rfl (O.opens_int Try.underlying2 (by kernel_rfl)) rfl (O.tail_cons rfl (O.opens_slice Try.underlying34 (by kernel_rfl) (O.opens_string Try.underlying9 (by kernel_rfl))) rfl (O.tail_cons rfl (O.opens_slice Try.underlying34 (by kernel_rfl) (O.opens_string Try.underlying9 (by kernel_rfl))) rfl (O.tail_one rfl (O.opens_slice Try.underlying34 (by kernel_rfl) (O.opens_string Try.underlying9 (by kernel_rfl)))))))
  exact h
set_option maxRecDepth 100000 in
theorem lifted (os : Os) (started : os.Started) (H : Type) (enc : TypeId × Value → H) :
    ReturnsInHanded {} Try.checked os 5 .any (Rows.fnExactWeaveSideSpec.pre6 enc Try.prog Try.f5 Rows.fnExactWeaveSideRow.domain false) (Rows.fnExactWeaveSideSpec.post enc Try.prog Try.f5 false true false false) := by
  refine returnsInHanded_of_change_sized (C := Try.checked) own started (by kernel_rfl) Try.func5
    (ChangeSpec.witness6 (enc := enc) (C := Try.checked) false ⟨#[], #[.slice none 0 0, .int .i64 0], []⟩ 8 (by kernel_rfl) (by kernel_rfl) (by kernel_rfl) (by kernel_rfl)) ?_
  intro W base args ds gs before hval0 hW hcnd hsz0 _
  have hval : ∀ (j : Nat) t v, Try.f5.params[j]? = some t → args[j]? = some v → Value.okWide Try.prog W .any base t v := hval0
  have hW' := hW
  obtain ⟨p, q, hA0, hV, rfl, hfz, hnd⟩ := hW
  have hA : DataW.TrodAll enc Try.prog W 0 (fun _ => true) true Try.f5.params.toList args.toList ds p := hA0
  rw [Try.params5] at hA hval
  obtain ⟨v0, vs0, d0, ds0, p0, q0, hargs, rfl, rfl, h0, r0⟩ := trodAll_cons hA
  obtain ⟨v1, vs1, d1, ds1, p1, q1, rfl, rfl, rfl, h1, r1⟩ := trodAll_cons r0
  obtain ⟨rfl, rfl, rfl⟩ := trodAll_nil r1
  obtain rfl : args = #[v0, v1] := by cases args; simp_all
  obtain ⟨rfl, rfl⟩ := trodVars_none hV
  have k0_ := h0
  have lt0 : ∀ x ∈ p0, x.block < W.heap.size := by obtain ⟨m, hm⟩ := k0_; exact DataW.trod_lt m _ _ _ hm
  obtain ⟨b0, len0, cap0, rfl⟩ := okWide_slice Try.underlying44 (hval 0 44 v0 rfl rfl)
  obtain ⟨fuel0, hf0⟩ := h0
  obtain ⟨l0, ⟨A0, c0, hcs0, hc0, hr0⟩, g0⟩ := (O.opens_slice Try.underlying44 (by kernel_rfl) opens53).2 hf0
  simp [Value.cells] at hcs0
  obtain ⟨rfl, rfl, rfl⟩ := hcs0
  obtain ⟨a1, rfl, rfl, rfl, w1⟩ := open_int Try.underlying2 (hval 1 2 v1 rfl rfl) h1
  clear hA0 hval0 hsz0
  obtain ⟨k, h⟩ := VFnExactWeaveSide.proof l0 a1 g0 w1
  refine (laws_FnExactWeaveSide.calls k _ _ l0 a1 true W hr0 hc0 h rfl).mono fun e W' hend => ?_
  obtain ⟨rfl, hbel⟩ := hend
  have bel : Below W.heap.size W W' := hbel
  exact ⟨_, rfl, _, _, _, [], _, [], hW', trodAll_mk1 (shut_bool Try.underlying4 _), (trodAll_cons_mk (Below.trod laidOut (by kernel_rfl) (of_decide_eq_true (by kernel_rfl)) k0_ bel lt0) (trodAll_cons_mk (shut_int Try.underlying2 w1) trodAll_mk0)), rfl, bel.frame _, fun h => by cases h⟩
theorem over : Rows.fnExactWeaveSideRow.holds Try.pinned (OpenSpec.ofChange Rows.fnExactWeaveSideSpec) :=
  OpenClaim.holds_of_wide 5 Try.f5 rfl rfl rfl rfl rfl rfl rfl ⟨rfl, rfl, rfl, rfl, rfl⟩ rfl rfl rfl rfl rfl (by kernel_rfl) Try.func5 (by kernel_rfl)
    (of_decide_eq_true (by kernel_rfl)) (by unfold Func.isWrapper; first | (rw [if_pos (by decide +kernel)]; kernel_rfl) | (rw [if_neg (by decide +kernel)]; exact ⟨rfl, rfl⟩))
    (fun os started H enc _ => lifted os started H enc)
theorem proved : Rows.FnExactWeaveSideSaid := over
#print axioms proved
end Go.Proofs.Ytjngmhngedecdaa.fnExactWeaveSide
namespace Go.Proofs.Ytjngmhngedecdaa
theorem fnExactWeaveSide_holds : Rows.FnExactWeaveSideSaid := fnExactWeaveSide.proved
end Go.Proofs.Ytjngmhngedecdaa
