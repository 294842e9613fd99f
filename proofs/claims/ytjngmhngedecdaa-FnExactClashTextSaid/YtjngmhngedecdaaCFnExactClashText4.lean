/- FnExactClashText: the law of the program holds at every input: the Go function returns true, and its arguments read afterwards as before.
Conditions: none beyond the given statement's own (what can be read as data, of a size that memory bears). -/
import Derived.Lib.Strings
import Derived.Lib.Bytealg
import Derived.SliceStrings
import Derived.DataReads
import Derived.DataElems
import Derived.Test.YtjngmhngedecdaaRows
import Derived.WalkKit
import Derived.ProofKit
import Derived.OpenShut
import Derived.ShutString
import Derived.ChangeOld
import Derived.Below
import Derived.SizedLaws
import Derived.Carry
import Derived.Test.YtjngmhngedecdaaCFnExactClashText1
import Derived.Test.YtjngmhngedecdaaCFnExactClashText2
import Derived.Test.YtjngmhngedecdaaCFnExactClashText3
section
namespace Go.Proofs.Ytjngmhngedecdaa.P
open Go.RowKit Go.Proofs.YtjngmhngedecdaaW.PrintWords Go.Proofs.YtjngmhngedecdaaW.PrintLast Go.Proofs.YtjngmhngedecdaaW.PrintMore
attribute [local go_sem] max2_int min2_int max_two min_two max_three min_three max_four min_four
set_option linter.unusedVariables false
set_option linter.unusedSimpArgs false
def laws_FnExactClashText.f (k : Nat) (a0_0 : Int) (l0_1 : List ByteArray) (l0_2 : List ByteArray) (l0_3 : List ByteArray) : Option (Bool) := (laws_szChunk.f k a0_0 l0_1 l0_2 l0_3 1048576).bind fun t603 => (if t603 < 0 then (some true) else ((laws_toChunk.f k a0_0 l0_1 l0_2 l0_3).bind fun bt604 => ((spec_ClashText.f k bt604.1 bt604.2.1 bt604.2.2.1 bt604.2.2.2).bind fun bt614 => ((laws_toChunk.f k a0_0 l0_1 l0_2 l0_3).bind fun bt617 => ((impl_ClashText.f k bt617.1 bt617.2.1 bt617.2.2.1 bt617.2.2.2).bind fun bt628 => ((laws_eqTextResult.f bt628.1 bt628.2 bt614.1 bt614.2).bind fun t631 => (if t631 = true then ((laws_toChunk.f k a0_0 l0_1 l0_2 l0_3).bind fun bt632 => ((laws_eqChunk.f k bt617.1 bt617.2.1 bt617.2.2.1 bt617.2.2.2 bt632.1 bt632.2.1 bt632.2.2.1 bt632.2.2.2).bind fun t642 => (if t642 = true then (some true) else (some false)))) else (some false))))))))
set_option maxHeartbeats 8000000 in
set_option maxRecDepth 100000 in
theorem laws_FnExactClashText.calls (k : Nat) (a0_0 : Int) (A0_1 : Option Addr) (c0_1 : Nat) (l0_1 : List ByteArray) (A0_2 : Option Addr) (c0_2 : Nat) (l0_2 : List ByteArray) (A0_3 : Option Addr) (c0_3 : Nat) (l0_3 : List ByteArray) (r : Bool) (w : World) (hr0_1 : Kd.C Kd.string w A0_1 l0_1.length l0_1) (hc0_1 : l0_1.length ≤ c0_1) (hr0_2 : Kd.C Kd.string w A0_2 l0_2.length l0_2) (hc0_2 : l0_2.length ≤ c0_2) (hr0_3 : Kd.C Kd.string w A0_3 l0_3.length l0_3) (hc0_3 : l0_3.length ≤ c0_3) (h : laws_FnExactClashText.f k a0_0 l0_1 l0_2 l0_3 = some r) (hlaw : r = true) :
  Calls Try.prog 6 #[.agg #[.int .i64 a0_0, .slice A0_1 l0_1.length c0_1, .slice A0_2 l0_2.length c0_2, .slice A0_3 l0_3.length c0_3]] w fun e w' => e = .returned (.bool r) ∧ Below w.heap.size w w' := by
 have hu53 := Try.underlying53
 have hu56 := Try.underlying56
 have hu58 := Try.underlying58
 have HR0_1 := Aside0.mk hr0_1
 have HC0_1 := Aside0.mk hc0_1
 clear hr0_1 hc0_1
 have HR0_2 := Aside0.mk hr0_2
 have HC0_2 := Aside0.mk hc0_2
 clear hr0_2 hc0_2
 have HR0_3 := Aside0.mk hr0_3
 have HC0_3 := Aside0.mk hc0_3
 clear hr0_3 hc0_3
 have HB := Aside0.mk (Below.refl w.heap.size w)
 have HLAW := Aside0.mk hlaw
 clear hlaw
 have H : ((laws_szChunk.f k a0_0 l0_1 l0_2 l0_3 1048576).bind fun t603 => (if t603 < 0 then (some true) else ((laws_toChunk.f k a0_0 l0_1 l0_2 l0_3).bind fun bt604 => ((spec_ClashText.f k bt604.1 bt604.2.1 bt604.2.2.1 bt604.2.2.2).bind fun bt614 => ((laws_toChunk.f k a0_0 l0_1 l0_2 l0_3).bind fun bt617 => ((impl_ClashText.f k bt617.1 bt617.2.1 bt617.2.2.1 bt617.2.2.2).bind fun bt628 => ((laws_eqTextResult.f bt628.1 bt628.2 bt614.1 bt614.2).bind fun t631 => (if t631 = true then ((laws_toChunk.f k a0_0 l0_1 l0_2 l0_3).bind fun bt632 => ((laws_eqChunk.f k bt617.1 bt617.2.1 bt617.2.2.1 bt617.2.2.2 bt632.1 bt632.2.1 bt632.2.2.1 bt632.2.2.2).bind fun t642 => (if t642 = true then (some true) else (some false)))) else (some false))))))))) = some r := h
 clear h
 replace H := Option.bind_eq_some_iff.mp H
 obtain ⟨t603, A20, H⟩ := H
 replace H : (if t603 < 0 then (some true) else ((laws_toChunk.f k a0_0 l0_1 l0_2 l0_3).bind fun bt604 => ((spec_ClashText.f k bt604.1 bt604.2.1 bt604.2.2.1 bt604.2.2.2).bind fun bt614 => ((laws_toChunk.f k a0_0 l0_1 l0_2 l0_3).bind fun bt617 => ((impl_ClashText.f k bt617.1 bt617.2.1 bt617.2.2.1 bt617.2.2.2).bind fun bt628 => ((laws_eqTextResult.f bt628.1 bt628.2 bt614.1 bt614.2).bind fun t631 => (if t631 = true then ((laws_toChunk.f k a0_0 l0_1 l0_2 l0_3).bind fun bt632 => ((laws_eqChunk.f k bt617.1 bt617.2.1 bt617.2.2.1 bt617.2.2.2 bt632.1 bt632.2.1 bt632.2.2.1 bt632.2.2.2).bind fun t642 => (if t642 = true then (some true) else (some false)))) else (some false)))))))) = some r := H
 have A2 := Aside0.mk A20
 clear A20
 by_cases c3 : t603 < 0
 ·rw [if_pos c3] at H
  have c3b0 : decide (t603 < 0) = true := decide_eq_true c3
  clear c3
  obtain rfl := Option.some.inj H
  go_enter Try.func6, Try.ntmps6
  go_wp2_with (first | ((with_reducible refine gate_dst (N := 1) rfl ?_); refine box_event ?hg (N := 1) ?hd (cs := #[.int .i64 a0_0, .slice A0_1 l0_1.length c0_1, .slice A0_2 l0_2.length c0_2, .slice A0_3 l0_3.length c0_3]) (t := 53) ?hr ?_; (case hd => rfl); (case hg => rfl); (case hr => first | (go_simp; done) | (go_simp; rfl)); intro gb602 hg w4 hbox hb; have n0_ := Aside0.mk (below_step (by repeat (first | (with_reducible first | exact HB.out | apply below_alloc | apply pw_below_drewN | apply below_drew1) | exact HB.out)) hb); have n1_ := Aside0.mk (hbox); have n2_ := Aside0.mk ((by rw [hg]; exact (below_size (by repeat (first | (with_reducible first | exact HB.out | apply below_alloc | apply pw_below_drewN | apply below_drew1) | exact HB.out))) : w.heap.size ≤ gb602)); have n3_ := Aside0.mk ((by rw [hg]; exact (below_size (by repeat (first | (with_reducible first | exact HB.out | apply below_alloc | apply pw_below_drewN | apply below_drew1) | exact HB.out))) : w.heap.size ≤ gb602)); clear HB; have HB := n0_; have BK602 := n1_; have GW602 := n2_; have GE602 := n3_; clear n0_ n1_ n2_ n3_; clear hb hbox hg; have hcz5_0 : w4.cell? ⟨gb602, 0, none⟩ = some (.int .i64 a0_0) := (blk_cell BK602.out 0).trans rfl; have hcz5_1 : w4.cell? ⟨gb602, 1, none⟩ = some (.slice A0_1 l0_1.length c0_1) := (blk_cell BK602.out 1).trans rfl; have hcz5_2 : w4.cell? ⟨gb602, 2, none⟩ = some (.slice A0_2 l0_2.length c0_2) := (blk_cell BK602.out 2).trans rfl; have hcz5_3 : w4.cell? ⟨gb602, 3, none⟩ = some (.slice A0_3 l0_3.length c0_3) := (blk_cell BK602.out 3).trans rfl; have hfz5_0 := blk_frozen BK602.out 0; have hfz5_1 := blk_frozen BK602.out 1; have hfz5_2 := blk_frozen BK602.out 2; have hfz5_3 := blk_frozen BK602.out 3) | ((with_reducible refine gate_callee (f := 37) rfl ?_); refine goesL_ (some 9) rfl rfl Try.func37 (by kernel_rfl) rfl #[.agg #[.int .i64 a0_0, .slice A0_1 l0_1.length c0_1, .slice A0_2 l0_2.length c0_2, .slice A0_3 l0_3.length c0_3], .int .i64 1048576] rfl (by (try simp only [List.map_toArray, List.map_cons, List.map_nil]); first | done | rfl | (simp only [List.length_drop, List.length_take]; rfl)) ?_; (with_reducible refine (laws_szChunk.calls k a0_0 _ _ l0_1 _ _ l0_2 _ _ l0_3 1048576 t603 _ ?side1 ?side2 ?side3 ?side4 ?side5 ?side6 A2.out).mono ?_); (case side1 => repeat (first | exact (Kd.C_below HR0_1.out HB.out) | (with_reducible refine Kd.C_alloc ?_ _) | (with_reducible refine Kd.C_drewN ?_ _) | (with_reducible refine Kd.C_drew ?_))); (case side2 => exact HC0_1.out); (case side3 => repeat (first | exact (Kd.C_below HR0_2.out HB.out) | (with_reducible refine Kd.C_alloc ?_ _) | (with_reducible refine Kd.C_drewN ?_ _) | (with_reducible refine Kd.C_drew ?_))); (case side4 => exact HC0_2.out); (case side5 => repeat (first | exact (Kd.C_below HR0_3.out HB.out) | (with_reducible refine Kd.C_alloc ?_ _) | (with_reducible refine Kd.C_drewN ?_ _) | (with_reducible refine Kd.C_drew ?_))); (case side6 => exact HC0_3.out); rintro e w6 ⟨rfl, hb⟩; refine ⟨_, rfl, ?_⟩; have n0_ := Aside0.mk (blk_below (g := gb602) (o := .cells #[.int .i64 a0_0, .slice A0_1 l0_1.length c0_1, .slice A0_2 l0_2.length c0_2, .slice A0_3 l0_3.length c0_3] 53 (0, 0)) (by (with_reducible repeat (first | refine blk_drewN ?_ _ | refine blk_drew ?_ | refine blk_alloc ?_ _)); exact BK602.out) hb); have n1_ := Aside0.mk (below_step (by repeat (first | (with_reducible first | exact HB.out | apply below_alloc | apply pw_below_drewN | apply below_drew1 | refine below_set ?_ GE602.out) | exact HB.out)) hb); clear BK602; clear HB; have BK602 := n0_; have HB := n1_; clear n0_ n1_; (try clear hb); (try clear hb2); (try clear hk); (try clear hi)))
  go_ret
  exact ⟨by first | rfl | (simp [errW_none, errW_some] <;> rfl) | (simp [*, errW_none, errW_some] <;> rfl), by repeat (first | (with_reducible first | exact HB.out | apply below_alloc | apply pw_below_drewN | apply below_drew1 | refine below_set ?_ GE602.out) | exact HB.out)⟩
 ·rw [if_neg c3] at H
  have c3b0 : decide (t603 < 0) = false := decide_eq_false c3
  clear c3
  replace H := Option.bind_eq_some_iff.mp H
  obtain ⟨⟨t604, t605, t608, t611⟩, A70, H⟩ := H
  replace H : ((spec_ClashText.f k t604 t605 t608 t611).bind fun bt614 => ((laws_toChunk.f k a0_0 l0_1 l0_2 l0_3).bind fun bt617 => ((impl_ClashText.f k bt617.1 bt617.2.1 bt617.2.2.1 bt617.2.2.2).bind fun bt628 => ((laws_eqTextResult.f bt628.1 bt628.2 bt614.1 bt614.2).bind fun t631 => (if t631 = true then ((laws_toChunk.f k a0_0 l0_1 l0_2 l0_3).bind fun bt632 => ((laws_eqChunk.f k bt617.1 bt617.2.1 bt617.2.2.1 bt617.2.2.2 bt632.1 bt632.2.1 bt632.2.2.1 bt632.2.2.2).bind fun t642 => (if t642 = true then (some true) else (some false)))) else (some false)))))) = some r := H
  have A7 := Aside0.mk A70
  clear A70
  replace H := Option.bind_eq_some_iff.mp H
  obtain ⟨⟨t614, t615⟩, A80, H⟩ := H
  replace H : ((laws_toChunk.f k a0_0 l0_1 l0_2 l0_3).bind fun bt617 => ((impl_ClashText.f k bt617.1 bt617.2.1 bt617.2.2.1 bt617.2.2.2).bind fun bt628 => ((laws_eqTextResult.f bt628.1 bt628.2 t614 t615).bind fun t631 => (if t631 = true then ((laws_toChunk.f k a0_0 l0_1 l0_2 l0_3).bind fun bt632 => ((laws_eqChunk.f k bt617.1 bt617.2.1 bt617.2.2.1 bt617.2.2.2 bt632.1 bt632.2.1 bt632.2.2.1 bt632.2.2.2).bind fun t642 => (if t642 = true then (some true) else (some false)))) else (some false))))) = some r := H
  have A8 := Aside0.mk A80
  clear A80
  replace H := Option.bind_eq_some_iff.mp H
  obtain ⟨⟨t617, t618, t621, t624⟩, A90, H⟩ := H
  replace H : ((impl_ClashText.f k t617 t618 t621 t624).bind fun bt628 => ((laws_eqTextResult.f bt628.1 bt628.2 t614 t615).bind fun t631 => (if t631 = true then ((laws_toChunk.f k a0_0 l0_1 l0_2 l0_3).bind fun bt632 => ((laws_eqChunk.f k t617 t618 t621 t624 bt632.1 bt632.2.1 bt632.2.2.1 bt632.2.2.2).bind fun t642 => (if t642 = true then (some true) else (some false)))) else (some false)))) = some r := H
  have A9 := Aside0.mk A90
  clear A90
  replace H := Option.bind_eq_some_iff.mp H
  obtain ⟨⟨t628, t629⟩, A100, H⟩ := H
  replace H : ((laws_eqTextResult.f t628 t629 t614 t615).bind fun t631 => (if t631 = true then ((laws_toChunk.f k a0_0 l0_1 l0_2 l0_3).bind fun bt632 => ((laws_eqChunk.f k t617 t618 t621 t624 bt632.1 bt632.2.1 bt632.2.2.1 bt632.2.2.2).bind fun t642 => (if t642 = true then (some true) else (some false)))) else (some false))) = some r := H
  have A10 := Aside0.mk A100
  clear A100
  replace H := Option.bind_eq_some_iff.mp H
  obtain ⟨t631, A110, H⟩ := H
  replace H : (if t631 = true then ((laws_toChunk.f k a0_0 l0_1 l0_2 l0_3).bind fun bt632 => ((laws_eqChunk.f k t617 t618 t621 t624 bt632.1 bt632.2.1 bt632.2.2.1 bt632.2.2.2).bind fun t642 => (if t642 = true then (some true) else (some false)))) else (some false)) = some r := H
  have A11 := Aside0.mk A110
  clear A110
  by_cases c12 : t631 = true
  ·subst c12
   have H1 : ((laws_toChunk.f k a0_0 l0_1 l0_2 l0_3).bind fun bt632 => ((laws_eqChunk.f k t617 t618 t621 t624 bt632.1 bt632.2.1 bt632.2.2.1 bt632.2.2.2).bind fun t642 => (if t642 = true then (some true) else (some false)))) = some r := by rw [if_pos rfl] at H; exact H
   clear H
   have H := H1
   clear H1
   replace H := Option.bind_eq_some_iff.mp H
   obtain ⟨⟨t632, t633, t636, t639⟩, A130, H⟩ := H
   replace H : ((laws_eqChunk.f k t617 t618 t621 t624 t632 t633 t636 t639).bind fun t642 => (if t642 = true then (some true) else (some false))) = some r := H
   have A13 := Aside0.mk A130
   clear A130
   replace H := Option.bind_eq_some_iff.mp H
   obtain ⟨t642, A140, H⟩ := H
   replace H : (if t642 = true then (some true) else (some false)) = some r := H
   have A14 := Aside0.mk A140
   clear A140
   by_cases c15 : t642 = true
   ·subst c15
    have H1 : (some true) = some r := by rw [if_pos rfl] at H; exact H
    clear H
    have H := H1
    clear H1
    obtain rfl := Option.some.inj H
    go_enter Try.func6, Try.ntmps6
    try go_wp2_with (first | ((with_reducible refine gate_dst (N := 1) rfl ?_); refine box_event ?hg (N := 1) ?hd (cs := #[.int .i64 a0_0, .slice A0_1 l0_1.length c0_1, .slice A0_2 l0_2.length c0_2, .slice A0_3 l0_3.length c0_3]) (t := 53) ?hr ?_; (case hd => rfl); (case hg => rfl); (case hr => first | (go_simp; done) | (go_simp; rfl)); intro gb602 hg w16 hbox hb; have n0_ := Aside0.mk (below_step (by repeat (first | (with_reducible first | exact HB.out | apply below_alloc | apply pw_below_drewN | apply below_drew1) | exact HB.out)) hb); have n1_ := Aside0.mk (hbox); have n2_ := Aside0.mk ((by rw [hg]; exact (below_size (by repeat (first | (with_reducible first | exact HB.out | apply below_alloc | apply pw_below_drewN | apply below_drew1) | exact HB.out))) : w.heap.size ≤ gb602)); have n3_ := Aside0.mk ((by rw [hg]; exact (below_size (by repeat (first | (with_reducible first | exact HB.out | apply below_alloc | apply pw_below_drewN | apply below_drew1) | exact HB.out))) : w.heap.size ≤ gb602)); clear HB; have HB := n0_; have BK602 := n1_; have GW602 := n2_; have GE602 := n3_; clear n0_ n1_ n2_ n3_; clear hb hbox hg; have hcz17_0 : w16.cell? ⟨gb602, 0, none⟩ = some (.int .i64 a0_0) := (blk_cell BK602.out 0).trans rfl; have hcz17_1 : w16.cell? ⟨gb602, 1, none⟩ = some (.slice A0_1 l0_1.length c0_1) := (blk_cell BK602.out 1).trans rfl; have hcz17_2 : w16.cell? ⟨gb602, 2, none⟩ = some (.slice A0_2 l0_2.length c0_2) := (blk_cell BK602.out 2).trans rfl; have hcz17_3 : w16.cell? ⟨gb602, 3, none⟩ = some (.slice A0_3 l0_3.length c0_3) := (blk_cell BK602.out 3).trans rfl; have hfz17_0 := blk_frozen BK602.out 0; have hfz17_1 := blk_frozen BK602.out 1; have hfz17_2 := blk_frozen BK602.out 2; have hfz17_3 := blk_frozen BK602.out 3) | ((with_reducible refine gate_callee (f := 37) rfl ?_); refine goesL_ (some 9) rfl rfl Try.func37 (by kernel_rfl) rfl #[.agg #[.int .i64 a0_0, .slice A0_1 l0_1.length c0_1, .slice A0_2 l0_2.length c0_2, .slice A0_3 l0_3.length c0_3], .int .i64 1048576] rfl (by (try simp only [List.map_toArray, List.map_cons, List.map_nil]); first | done | rfl | (simp only [List.length_drop, List.length_take]; rfl)) ?_; (with_reducible refine (laws_szChunk.calls k a0_0 _ _ l0_1 _ _ l0_2 _ _ l0_3 1048576 t603 _ ?side1 ?side2 ?side3 ?side4 ?side5 ?side6 A2.out).mono ?_); (case side1 => repeat (first | exact (Kd.C_below HR0_1.out HB.out) | (with_reducible refine Kd.C_alloc ?_ _) | (with_reducible refine Kd.C_drewN ?_ _) | (with_reducible refine Kd.C_drew ?_))); (case side2 => exact HC0_1.out); (case side3 => repeat (first | exact (Kd.C_below HR0_2.out HB.out) | (with_reducible refine Kd.C_alloc ?_ _) | (with_reducible refine Kd.C_drewN ?_ _) | (with_reducible refine Kd.C_drew ?_))); (case side4 => exact HC0_2.out); (case side5 => repeat (first | exact (Kd.C_below HR0_3.out HB.out) | (with_reducible refine Kd.C_alloc ?_ _) | (with_reducible refine Kd.C_drewN ?_ _) | (with_reducible refine Kd.C_drew ?_))); (case side6 => exact HC0_3.out); rintro e w18 ⟨rfl, hb⟩; refine ⟨_, rfl, ?_⟩; have n0_ := Aside0.mk (blk_below (g := gb602) (o := .cells #[.int .i64 a0_0, .slice A0_1 l0_1.length c0_1, .slice A0_2 l0_2.length c0_2, .slice A0_3 l0_3.length c0_3] 53 (0, 0)) (by (with_reducible repeat (first | refine blk_drewN ?_ _ | refine blk_drew ?_ | refine blk_alloc ?_ _)); exact BK602.out) hb); have n1_ := Aside0.mk (below_step (by repeat (first | (with_reducible first | exact HB.out | apply below_alloc | apply pw_below_drewN | apply below_drew1 | refine below_set ?_ GE602.out) | exact HB.out)) hb); clear BK602; clear HB; have BK602 := n0_; have HB := n1_; clear n0_ n1_; (try clear hb); (try clear hb2); (try clear hk); (try clear hi); have hcz19_0 : w18.cell? ⟨gb602, 0, none⟩ = some (.int .i64 a0_0) := (blk_cell BK602.out 0).trans rfl; have hcz19_1 : w18.cell? ⟨gb602, 1, none⟩ = some (.slice A0_1 l0_1.length c0_1) := (blk_cell BK602.out 1).trans rfl; have hcz19_2 : w18.cell? ⟨gb602, 2, none⟩ = some (.slice A0_2 l0_2.length c0_2) := (blk_cell BK602.out 2).trans rfl; have hcz19_3 : w18.cell? ⟨gb602, 3, none⟩ = some (.slice A0_3 l0_3.length c0_3) := (blk_cell BK602.out 3).trans rfl; have hfz19_0 := blk_frozen BK602.out 0; have hfz19_1 := blk_frozen BK602.out 1; have hfz19_2 := blk_frozen BK602.out 2; have hfz19_3 := blk_frozen BK602.out 3) | ((with_reducible refine gate_callee (f := 39) rfl ?_); refine goesL_ (some 13) rfl rfl Try.func39 (by kernel_rfl) rfl #[.agg #[.int .i64 a0_0, .slice A0_1 l0_1.length c0_1, .slice A0_2 l0_2.length c0_2, .slice A0_3 l0_3.length c0_3]] rfl (by (try simp only [List.map_toArray, List.map_cons, List.map_nil]); first | done | rfl | (simp only [List.length_drop, List.length_take]; rfl)) ?_; (with_reducible refine (laws_toChunk.calls k a0_0 _ _ l0_1 _ _ l0_2 _ _ l0_3 t604 t605 t608 t611 _ ?side1 ?side2 ?side3 ?side4 ?side5 ?side6 A7.out).mono ?_); (case side1 => repeat (first | exact (Kd.C_below HR0_1.out HB.out) | (with_reducible refine Kd.C_alloc ?_ _) | (with_reducible refine Kd.C_drewN ?_ _) | (with_reducible refine Kd.C_drew ?_))); (case side2 => exact HC0_1.out); (case side3 => repeat (first | exact (Kd.C_below HR0_2.out HB.out) | (with_reducible refine Kd.C_alloc ?_ _) | (with_reducible refine Kd.C_drewN ?_ _) | (with_reducible refine Kd.C_drew ?_))); (case side4 => exact HC0_2.out); (case side5 => repeat (first | exact (Kd.C_below HR0_3.out HB.out) | (with_reducible refine Kd.C_alloc ?_ _) | (with_reducible refine Kd.C_drewN ?_ _) | (with_reducible refine Kd.C_drew ?_))); (case side6 => exact HC0_3.out); rintro e w20 ⟨v606, v609, v612, rfl, ho0, ho1, ho2, hb⟩; refine ⟨_, rfl, ?_⟩; have n0_ := Aside0.mk (Kd.R_lower ho0 (below_size (by repeat (first | (with_reducible first | exact HB.out | apply below_alloc | apply pw_below_drewN | apply below_drew1 | refine below_set ?_ GE602.out) | exact HB.out)))); have n1_ := Aside0.mk (Kd.R_lower ho1 (below_size (by repeat (first | (with_reducible first | exact HB.out | apply below_alloc | apply pw_below_drewN | apply below_drew1 | refine below_set ?_ GE602.out) | exact HB.out)))); have n2_ := Aside0.mk (Kd.R_lower ho2 (below_size (by repeat (first | (with_reducible first | exact HB.out | apply below_alloc | apply pw_below_drewN | apply below_drew1 | refine below_set ?_ GE602.out) | exact HB.out)))); have n3_ := Aside0.mk (blk_below (g := gb602) (o := .cells #[.int .i64 a0_0, .slice A0_1 l0_1.length c0_1, .slice A0_2 l0_2.length c0_2, .slice A0_3 l0_3.length c0_3] 53 (0, 0)) (by (with_reducible repeat (first | refine blk_drewN ?_ _ | refine blk_drew ?_ | refine blk_alloc ?_ _)); exact BK602.out) hb); have n4_ := Aside0.mk (below_step (by repeat (first | (with_reducible first | exact HB.out | apply below_alloc | apply pw_below_drewN | apply below_drew1 | refine below_set ?_ GE602.out) | exact HB.out)) hb); clear BK602; clear HB; have HO607 := n0_; have HO610 := n1_; have HO613 := n2_; have BK602 := n3_; have HB := n4_; clear n0_ n1_ n2_ n3_ n4_; (try clear hb); (try clear hb2); (try clear hk); (try clear hi); (try clear ho0); (try clear ho1); (try clear ho2); obtain ⟨Ao21, co21, eo21⟩ := Kd.R_slice HO607.out; subst eo21; obtain ⟨Ao22, co22, eo22⟩ := Kd.R_slice HO610.out; subst eo22; obtain ⟨Ao23, co23, eo23⟩ := Kd.R_slice HO613.out; subst eo23) | ((with_reducible refine gate_callee (f := 38) rfl ?_); refine goesL_ (some 14) rfl rfl Try.func38 (by kernel_rfl) rfl #[.agg #[.int .i64 t604, .slice Ao21 t605.length co21, .slice Ao22 t608.length co22, .slice Ao23 t611.length co23]] rfl (by (try simp only [List.map_toArray, List.map_cons, List.map_nil]); first | done | rfl | (simp only [List.length_drop, List.length_take]; rfl)) ?_; (with_reducible refine (spec_ClashText.calls k t604 _ _ t605 _ _ t608 _ _ t611 t614 t615 _ ?side1 ?side2 ?side3 ?side4 ?side5 ?side6 A8.out).mono ?_); (case side1 => repeat (first | exact (Kd.R_reads' HO607.out).2.2 | (with_reducible refine Kd.C_alloc ?_ _) | (with_reducible refine Kd.C_drewN ?_ _) | (with_reducible refine Kd.C_drew ?_))); (case side2 => exact (Kd.R_reads' HO607.out).2.1); (case side3 => repeat (first | exact (Kd.R_reads' HO610.out).2.2 | (with_reducible refine Kd.C_alloc ?_ _) | (with_reducible refine Kd.C_drewN ?_ _) | (with_reducible refine Kd.C_drew ?_))); (case side4 => exact (Kd.R_reads' HO610.out).2.1); (case side5 => repeat (first | exact (Kd.R_reads' HO613.out).2.2 | (with_reducible refine Kd.C_alloc ?_ _) | (with_reducible refine Kd.C_drewN ?_ _) | (with_reducible refine Kd.C_drew ?_))); (case side6 => exact (Kd.R_reads' HO613.out).2.1); rintro e w24 ⟨rfl, hb⟩; refine ⟨_, rfl, ?_⟩; have n0_ := Aside0.mk (Kd.R_below (by (with_reducible repeat (first | apply Kd.R_alloc | apply Kd.R_drewN | apply Kd.R_drew)); exact HO607.out) hb); have n1_ := Aside0.mk (Kd.R_below (by (with_reducible repeat (first | apply Kd.R_alloc | apply Kd.R_drewN | apply Kd.R_drew)); exact HO610.out) hb); have n2_ := Aside0.mk (Kd.R_below (by (with_reducible repeat (first | apply Kd.R_alloc | apply Kd.R_drewN | apply Kd.R_drew)); exact HO613.out) hb); have n3_ := Aside0.mk (blk_below (g := gb602) (o := .cells #[.int .i64 a0_0, .slice A0_1 l0_1.length c0_1, .slice A0_2 l0_2.length c0_2, .slice A0_3 l0_3.length c0_3] 53 (0, 0)) (by (with_reducible repeat (first | refine blk_drewN ?_ _ | refine blk_drew ?_ | refine blk_alloc ?_ _)); exact BK602.out) hb); have n4_ := Aside0.mk (below_step (by repeat (first | (with_reducible first | exact HB.out | apply below_alloc | apply pw_below_drewN | apply below_drew1 | refine below_set ?_ GE602.out) | exact HB.out)) hb); clear HO607; clear HO610; clear HO613; clear BK602; clear HB; have HO607 := n0_; have HO610 := n1_; have HO613 := n2_; have BK602 := n3_; have HB := n4_; clear n0_ n1_ n2_ n3_ n4_; (try clear hb); (try clear hb2); (try clear hk); (try clear hi)) | ((with_reducible refine gate_dst (N := 4) rfl ?_); refine box_event ?hg (N := 4) ?hd (cs := #[.int .i64 0, .string (⟨#[]⟩ : ByteArray)]) (t := 56) ?hr ?_; (case hd => rfl); (case hg => rfl); (case hr => first | (go_simp; done) | (go_simp; rfl)); intro gb616 hg w25 hbox hb; have n0_ := Aside0.mk (Kd.R_below (by (with_reducible repeat (first | apply Kd.R_alloc | apply Kd.R_drewN | apply Kd.R_drew)); exact HO607.out) hb); have n1_ := Aside0.mk (Kd.R_below (by (with_reducible repeat (first | apply Kd.R_alloc | apply Kd.R_drewN | apply Kd.R_drew)); exact HO610.out) hb); have n2_ := Aside0.mk (Kd.R_below (by (with_reducible repeat (first | apply Kd.R_alloc | apply Kd.R_drewN | apply Kd.R_drew)); exact HO613.out) hb); have n3_ := Aside0.mk (blk_below (g := gb602) (o := .cells #[.int .i64 a0_0, .slice A0_1 l0_1.length c0_1, .slice A0_2 l0_2.length c0_2, .slice A0_3 l0_3.length c0_3] 53 (0, 0)) (by (with_reducible repeat (first | refine blk_drewN ?_ _ | refine blk_drew ?_ | refine blk_alloc ?_ _)); exact BK602.out) hb); have n4_ := Aside0.mk (below_step (by repeat (first | (with_reducible first | exact HB.out | apply below_alloc | apply pw_below_drewN | apply below_drew1 | refine below_set ?_ GE602.out) | exact HB.out)) hb); have n5_ := Aside0.mk (hbox); have n6_ := Aside0.mk ((by rw [hg]; exact (below_size (by repeat (first | (with_reducible first | exact HB.out | apply below_alloc | apply pw_below_drewN | apply below_drew1 | refine below_set ?_ GE602.out) | exact HB.out))) : w.heap.size ≤ gb616)); have n7_ := Aside0.mk ((by rw [hg]; exact (below_size (by repeat (first | (with_reducible first | exact HB.out | apply below_alloc | apply pw_below_drewN | apply below_drew1 | refine below_set ?_ GE602.out) | exact HB.out))) : w.heap.size ≤ gb616)); have n8_ := Aside0.mk ((by rw [hg]; exact Nat.ne_of_lt (blk_lt (g := gb602) (o := .cells #[.int .i64 a0_0, .slice A0_1 l0_1.length c0_1, .slice A0_2 l0_2.length c0_2, .slice A0_3 l0_3.length c0_3] 53 (0, 0)) (by (with_reducible repeat (first | refine blk_drewN ?_ _ | refine blk_drew ?_ | refine blk_alloc ?_ _)); exact BK602.out)) : gb602 ≠ gb616)); have n9_ := Aside0.mk ((by rw [hg]; exact Nat.ne_of_gt (blk_lt (g := gb602) (o := .cells #[.int .i64 a0_0, .slice A0_1 l0_1.length c0_1, .slice A0_2 l0_2.length c0_2, .slice A0_3 l0_3.length c0_3] 53 (0, 0)) (by (with_reducible repeat (first | refine blk_drewN ?_ _ | refine blk_drew ?_ | refine blk_alloc ?_ _)); exact BK602.out)) : gb616 ≠ gb602)); clear HO607; clear HO610; clear HO613; clear BK602; clear HB; have HO607 := n0_; have HO610 := n1_; have HO613 := n2_; have BK602 := n3_; have HB := n4_; have BK616 := n5_; have GW616 := n6_; have GE616 := n7_; have NB602_616 := n8_; have NB616_602 := n9_; clear n0_ n1_ n2_ n3_ n4_ n5_ n6_ n7_ n8_ n9_; clear hb hbox hg; have hnb26 := NB616_602.out; have hnc26 := NB602_616.out; have hcz27_0 : w25.cell? ⟨gb616, 0, none⟩ = some (.int .i64 0) := (blk_cell BK616.out 0).trans rfl; have hcz27_1 : w25.cell? ⟨gb616, 1, none⟩ = some (.string (⟨#[]⟩ : ByteArray)) := (blk_cell BK616.out 1).trans rfl; have hfz27_0 := blk_frozen BK616.out 0; have hfz27_1 := blk_frozen BK616.out 1; have hcz28_0 : w25.cell? ⟨gb602, 0, none⟩ = some (.int .i64 a0_0) := (blk_cell BK602.out 0).trans rfl; have hcz28_1 : w25.cell? ⟨gb602, 1, none⟩ = some (.slice A0_1 l0_1.length c0_1) := (blk_cell BK602.out 1).trans rfl; have hcz28_2 : w25.cell? ⟨gb602, 2, none⟩ = some (.slice A0_2 l0_2.length c0_2) := (blk_cell BK602.out 2).trans rfl; have hcz28_3 : w25.cell? ⟨gb602, 3, none⟩ = some (.slice A0_3 l0_3.length c0_3) := (blk_cell BK602.out 3).trans rfl; have hfz28_0 := blk_frozen BK602.out 0; have hfz28_1 := blk_frozen BK602.out 1; have hfz28_2 := blk_frozen BK602.out 2; have hfz28_3 := blk_frozen BK602.out 3) | ((with_reducible refine gate_callee (f := 39) rfl ?_); refine goesL_ (some 16) rfl rfl Try.func39 (by kernel_rfl) rfl #[.agg #[.int .i64 a0_0, .slice A0_1 l0_1.length c0_1, .slice A0_2 l0_2.length c0_2, .slice A0_3 l0_3.length c0_3]] rfl (by (try simp only [List.map_toArray, List.map_cons, List.map_nil]); first | done | rfl | (simp only [List.length_drop, List.length_take]; rfl)) ?_; (with_reducible refine (laws_toChunk.calls k a0_0 _ _ l0_1 _ _ l0_2 _ _ l0_3 t617 t618 t621 t624 _ ?side1 ?side2 ?side3 ?side4 ?side5 ?side6 A9.out).mono ?_); (case side1 => exact Kd.C_below HR0_1.out (by repeat (first | (with_reducible first | exact HB.out | apply below_alloc | apply pw_below_drewN | apply below_drew1 | refine below_set ?_ GE602.out | refine below_set ?_ GE616.out) | exact HB.out))); (case side2 => exact HC0_1.out); (case side3 => exact Kd.C_below HR0_2.out (by repeat (first | (with_reducible first | exact HB.out | apply below_alloc | apply pw_below_drewN | apply below_drew1 | refine below_set ?_ GE602.out | refine below_set ?_ GE616.out) | exact HB.out))); (case side4 => exact HC0_2.out); (case side5 => exact Kd.C_below HR0_3.out (by repeat (first | (with_reducible first | exact HB.out | apply below_alloc | apply pw_below_drewN | apply below_drew1 | refine below_set ?_ GE602.out | refine below_set ?_ GE616.out) | exact HB.out))); (case side6 => exact HC0_3.out); rintro e w29 ⟨v619, v622, v625, rfl, ho0, ho1, ho2, hb⟩; refine ⟨_, rfl, ?_⟩; have n0_ := Aside0.mk (Kd.R_mono (Kd.R_told (Kd.R_told (Kd.R_told (Kd.R_old (by (with_reducible repeat (first | apply Kd.R_alloc | apply Kd.R_drewN | apply Kd.R_drew)); exact (Kd.R_mono (Kd.R_far (p := ⟨gb616, 1, none⟩) (Kd.R_far (p := ⟨gb616, 0, none⟩) (Kd.R_types HO607.out BK616.out (by decide)) (fun _ hk => hk.2) (.int .i64 t614)) (fun _ hk => hk.2) (.string t615)) (fun _ h_ => h_.1))) hb) (Kd.R_base ho0)) (Kd.R_base ho1)) (Kd.R_base ho2)) (fun _ h_ => h_.1)); have n1_ := Aside0.mk (Kd.R_mono (Kd.R_told (Kd.R_told (Kd.R_told (Kd.R_old (by (with_reducible repeat (first | apply Kd.R_alloc | apply Kd.R_drewN | apply Kd.R_drew)); exact (Kd.R_mono (Kd.R_far (p := ⟨gb616, 1, none⟩) (Kd.R_far (p := ⟨gb616, 0, none⟩) (Kd.R_types HO610.out BK616.out (by decide)) (fun _ hk => hk.2) (.int .i64 t614)) (fun _ hk => hk.2) (.string t615)) (fun _ h_ => h_.1))) hb) (Kd.R_base ho0)) (Kd.R_base ho1)) (Kd.R_base ho2)) (fun _ h_ => h_.1)); have n2_ := Aside0.mk (Kd.R_mono (Kd.R_told (Kd.R_told (Kd.R_told (Kd.R_old (by (with_reducible repeat (first | apply Kd.R_alloc | apply Kd.R_drewN | apply Kd.R_drew)); exact (Kd.R_mono (Kd.R_far (p := ⟨gb616, 1, none⟩) (Kd.R_far (p := ⟨gb616, 0, none⟩) (Kd.R_types HO613.out BK616.out (by decide)) (fun _ hk => hk.2) (.int .i64 t614)) (fun _ hk => hk.2) (.string t615)) (fun _ h_ => h_.1))) hb) (Kd.R_base ho0)) (Kd.R_base ho1)) (Kd.R_base ho2)) (fun _ h_ => h_.1)); have n3_ := Aside0.mk (Kd.R_lower (Kd.R_new' (Kd.R_new' (Kd.R_new' ho0 (Kd.R_lt (by (with_reducible repeat (first | apply Kd.R_alloc | apply Kd.R_drewN | apply Kd.R_drew)); exact (Kd.R_mono (Kd.R_far (p := ⟨gb616, 1, none⟩) (Kd.R_far (p := ⟨gb616, 0, none⟩) (Kd.R_types HO607.out BK616.out (by decide)) (fun _ hk => hk.2) (.int .i64 t614)) (fun _ hk => hk.2) (.string t615)) (fun _ h_ => h_.1))))) (Kd.R_lt (by (with_reducible repeat (first | apply Kd.R_alloc | apply Kd.R_drewN | apply Kd.R_drew)); exact (Kd.R_mono (Kd.R_far (p := ⟨gb616, 1, none⟩) (Kd.R_far (p := ⟨gb616, 0, none⟩) (Kd.R_types HO610.out BK616.out (by decide)) (fun _ hk => hk.2) (.int .i64 t614)) (fun _ hk => hk.2) (.string t615)) (fun _ h_ => h_.1))))) (Kd.R_lt (by (with_reducible repeat (first | apply Kd.R_alloc | apply Kd.R_drewN | apply Kd.R_drew)); exact (Kd.R_mono (Kd.R_far (p := ⟨gb616, 1, none⟩) (Kd.R_far (p := ⟨gb616, 0, none⟩) (Kd.R_types HO613.out BK616.out (by decide)) (fun _ hk => hk.2) (.int .i64 t614)) (fun _ hk => hk.2) (.string t615)) (fun _ h_ => h_.1))))) (below_size (by repeat (first | (with_reducible first | exact HB.out | apply below_alloc | apply pw_below_drewN | apply below_drew1 | refine below_set ?_ GE602.out | refine below_set ?_ GE616.out) | exact HB.out)))); have n4_ := Aside0.mk (Kd.R_lower (Kd.R_new' (Kd.R_new' (Kd.R_new' ho1 (Kd.R_lt (by (with_reducible repeat (first | apply Kd.R_alloc | apply Kd.R_drewN | apply Kd.R_drew)); exact (Kd.R_mono (Kd.R_far (p := ⟨gb616, 1, none⟩) (Kd.R_far (p := ⟨gb616, 0, none⟩) (Kd.R_types HO607.out BK616.out (by decide)) (fun _ hk => hk.2) (.int .i64 t614)) (fun _ hk => hk.2) (.string t615)) (fun _ h_ => h_.1))))) (Kd.R_lt (by (with_reducible repeat (first | apply Kd.R_alloc | apply Kd.R_drewN | apply Kd.R_drew)); exact (Kd.R_mono (Kd.R_far (p := ⟨gb616, 1, none⟩) (Kd.R_far (p := ⟨gb616, 0, none⟩) (Kd.R_types HO610.out BK616.out (by decide)) (fun _ hk => hk.2) (.int .i64 t614)) (fun _ hk => hk.2) (.string t615)) (fun _ h_ => h_.1))))) (Kd.R_lt (by (with_reducible repeat (first | apply Kd.R_alloc | apply Kd.R_drewN | apply Kd.R_drew)); exact (Kd.R_mono (Kd.R_far (p := ⟨gb616, 1, none⟩) (Kd.R_far (p := ⟨gb616, 0, none⟩) (Kd.R_types HO613.out BK616.out (by decide)) (fun _ hk => hk.2) (.int .i64 t614)) (fun _ hk => hk.2) (.string t615)) (fun _ h_ => h_.1))))) (below_size (by repeat (first | (with_reducible first | exact HB.out | apply below_alloc | apply pw_below_drewN | apply below_drew1 | refine below_set ?_ GE602.out | refine below_set ?_ GE616.out) | exact HB.out)))); have n5_ := Aside0.mk (Kd.R_lower (Kd.R_new' (Kd.R_new' (Kd.R_new' ho2 (Kd.R_lt (by (with_reducible repeat (first | apply Kd.R_alloc | apply Kd.R_drewN | apply Kd.R_drew)); exact (Kd.R_mono (Kd.R_far (p := ⟨gb616, 1, none⟩) (Kd.R_far (p := ⟨gb616, 0, none⟩) (Kd.R_types HO607.out BK616.out (by decide)) (fun _ hk => hk.2) (.int .i64 t614)) (fun _ hk => hk.2) (.string t615)) (fun _ h_ => h_.1))))) (Kd.R_lt (by (with_reducible repeat (first | apply Kd.R_alloc | apply Kd.R_drewN | apply Kd.R_drew)); exact (Kd.R_mono (Kd.R_far (p := ⟨gb616, 1, none⟩) (Kd.R_far (p := ⟨gb616, 0, none⟩) (Kd.R_types HO610.out BK616.out (by decide)) (fun _ hk => hk.2) (.int .i64 t614)) (fun _ hk => hk.2) (.string t615)) (fun _ h_ => h_.1))))) (Kd.R_lt (by (with_reducible repeat (first | apply Kd.R_alloc | apply Kd.R_drewN | apply Kd.R_drew)); exact (Kd.R_mono (Kd.R_far (p := ⟨gb616, 1, none⟩) (Kd.R_far (p := ⟨gb616, 0, none⟩) (Kd.R_types HO613.out BK616.out (by decide)) (fun _ hk => hk.2) (.int .i64 t614)) (fun _ hk => hk.2) (.string t615)) (fun _ h_ => h_.1))))) (below_size (by repeat (first | (with_reducible first | exact HB.out | apply below_alloc | apply pw_below_drewN | apply below_drew1 | refine below_set ?_ GE602.out | refine below_set ?_ GE616.out) | exact HB.out)))); have n6_ := Aside0.mk (blk_below (g := gb602) (o := .cells #[.int .i64 a0_0, .slice A0_1 l0_1.length c0_1, .slice A0_2 l0_2.length c0_2, .slice A0_3 l0_3.length c0_3] 53 (0, 0)) (by (with_reducible repeat (first | refine blk_drewN ?_ _ | refine blk_drew ?_ | refine blk_alloc ?_ _)); refine blk_far ?_ NB602_616.out _; (with_reducible repeat (first | refine blk_drewN ?_ _ | refine blk_drew ?_ | refine blk_alloc ?_ _)); refine blk_far ?_ NB602_616.out _; (with_reducible repeat (first | refine blk_drewN ?_ _ | refine blk_drew ?_ | refine blk_alloc ?_ _)); exact BK602.out) hb); have n7_ := Aside0.mk (blk_below (g := gb616) (o := .cells #[.int .i64 t614, .string t615] 56 (0, 0)) (by (with_reducible repeat (first | refine blk_drewN ?_ _ | refine blk_drew ?_ | refine blk_alloc ?_ _)); refine blk_put (cs := #[.int .i64 t614, .string (⟨#[]⟩ : ByteArray)]) ?_ 1 _ rfl; (with_reducible repeat (first | refine blk_drewN ?_ _ | refine blk_drew ?_ | refine blk_alloc ?_ _)); refine blk_put (cs := #[.int .i64 0, .string (⟨#[]⟩ : ByteArray)]) ?_ 0 _ rfl; (with_reducible repeat (first | refine blk_drewN ?_ _ | refine blk_drew ?_ | refine blk_alloc ?_ _)); exact BK616.out) hb); have n8_ := Aside0.mk (below_step (by repeat (first | (with_reducible first | exact HB.out | apply below_alloc | apply pw_below_drewN | apply below_drew1 | refine below_set ?_ GE602.out | refine below_set ?_ GE616.out) | exact HB.out)) hb); clear HO607; clear HO610; clear HO613; clear BK602; clear BK616; clear HB; have HO607 := n0_; have HO610 := n1_; have HO613 := n2_; have HO620 := n3_; have HO623 := n4_; have HO626 := n5_; have BK602 := n6_; have BK616 := n7_; have HB := n8_; clear n0_ n1_ n2_ n3_ n4_ n5_ n6_ n7_ n8_; (try clear hb); (try clear hb2); (try clear hk); (try clear hi); (try clear ho0); (try clear ho1); (try clear ho2)) | ((with_reducible refine gate_dst (N := 5) rfl ?_); refine box_event ?hg (N := 5) ?hd (cs := #[.int .i64 0, .slice none 0 0, .slice none 0 0, .slice none 0 0]) (t := 58) ?hr ?_; (case hd => rfl); (case hg => rfl); (case hr => first | (go_simp; done) | (go_simp; rfl)); intro gb627 hg w30 hbox hb; have n0_ := Aside0.mk (Kd.R_below (by (with_reducible repeat (first | apply Kd.R_alloc | apply Kd.R_drewN | apply Kd.R_drew)); exact HO607.out) hb); have n1_ := Aside0.mk (Kd.R_below (by (with_reducible repeat (first | apply Kd.R_alloc | apply Kd.R_drewN | apply Kd.R_drew)); exact HO610.out) hb); have n2_ := Aside0.mk (Kd.R_below (by (with_reducible repeat (first | apply Kd.R_alloc | apply Kd.R_drewN | apply Kd.R_drew)); exact HO613.out) hb); have n3_ := Aside0.mk (Kd.R_below (by (with_reducible repeat (first | apply Kd.R_alloc | apply Kd.R_drewN | apply Kd.R_drew)); exact HO620.out) hb); have n4_ := Aside0.mk (Kd.R_below (by (with_reducible repeat (first | apply Kd.R_alloc | apply Kd.R_drewN | apply Kd.R_drew)); exact HO623.out) hb); have n5_ := Aside0.mk (Kd.R_below (by (with_reducible repeat (first | apply Kd.R_alloc | apply Kd.R_drewN | apply Kd.R_drew)); exact HO626.out) hb); have n6_ := Aside0.mk (blk_below (g := gb602) (o := .cells #[.int .i64 a0_0, .slice A0_1 l0_1.length c0_1, .slice A0_2 l0_2.length c0_2, .slice A0_3 l0_3.length c0_3] 53 (0, 0)) (by (with_reducible repeat (first | refine blk_drewN ?_ _ | refine blk_drew ?_ | refine blk_alloc ?_ _)); exact BK602.out) hb); have n7_ := Aside0.mk (blk_below (g := gb616) (o := .cells #[.int .i64 t614, .string t615] 56 (0, 0)) (by (with_reducible repeat (first | refine blk_drewN ?_ _ | refine blk_drew ?_ | refine blk_alloc ?_ _)); exact BK616.out) hb); have n8_ := Aside0.mk (below_step (by repeat (first | (with_reducible first | exact HB.out | apply below_alloc | apply pw_below_drewN | apply below_drew1 | refine below_set ?_ GE602.out | refine below_set ?_ GE616.out) | exact HB.out)) hb); have n9_ := Aside0.mk (hbox); have n10_ := Aside0.mk ((by rw [hg]; exact (below_size (by repeat (first | (with_reducible first | exact HB.out | apply below_alloc | apply pw_below_drewN | apply below_drew1 | refine below_set ?_ GE602.out | refine below_set ?_ GE616.out) | exact HB.out))) : w.heap.size ≤ gb627)); have n11_ := Aside0.mk ((by rw [hg]; exact (below_size (by repeat (first | (with_reducible first | exact HB.out | apply below_alloc | apply pw_below_drewN | apply below_drew1 | refine below_set ?_ GE602.out | refine below_set ?_ GE616.out) | exact HB.out))) : w.heap.size ≤ gb627)); have n12_ := Aside0.mk ((by rw [hg]; exact Nat.ne_of_lt (blk_lt (g := gb602) (o := .cells #[.int .i64 a0_0, .slice A0_1 l0_1.length c0_1, .slice A0_2 l0_2.length c0_2, .slice A0_3 l0_3.length c0_3] 53 (0, 0)) (by (with_reducible repeat (first | refine blk_drewN ?_ _ | refine blk_drew ?_ | refine blk_alloc ?_ _)); exact BK602.out)) : gb602 ≠ gb627)); have n13_ := Aside0.mk ((by rw [hg]; exact Nat.ne_of_gt (blk_lt (g := gb602) (o := .cells #[.int .i64 a0_0, .slice A0_1 l0_1.length c0_1, .slice A0_2 l0_2.length c0_2, .slice A0_3 l0_3.length c0_3] 53 (0, 0)) (by (with_reducible repeat (first | refine blk_drewN ?_ _ | refine blk_drew ?_ | refine blk_alloc ?_ _)); exact BK602.out)) : gb627 ≠ gb602)); have n14_ := Aside0.mk ((by rw [hg]; exact Nat.ne_of_lt (blk_lt (g := gb616) (o := .cells #[.int .i64 t614, .string t615] 56 (0, 0)) (by (with_reducible repeat (first | refine blk_drewN ?_ _ | refine blk_drew ?_ | refine blk_alloc ?_ _)); exact BK616.out)) : gb616 ≠ gb627)); have n15_ := Aside0.mk ((by rw [hg]; exact Nat.ne_of_gt (blk_lt (g := gb616) (o := .cells #[.int .i64 t614, .string t615] 56 (0, 0)) (by (with_reducible repeat (first | refine blk_drewN ?_ _ | refine blk_drew ?_ | refine blk_alloc ?_ _)); exact BK616.out)) : gb627 ≠ gb616)); clear HO607; clear HO610; clear HO613; clear HO620; clear HO623; clear HO626; clear BK602; clear BK616; clear HB; have HO607 := n0_; have HO610 := n1_; have HO613 := n2_; have HO620 := n3_; have HO623 := n4_; have HO626 := n5_; have BK602 := n6_; have BK616 := n7_; have HB := n8_; have BK627 := n9_; have GW627 := n10_; have GE627 := n11_; have NB602_627 := n12_; have NB627_602 := n13_; have NB616_627 := n14_; have NB627_616 := n15_; clear n0_ n1_ n2_ n3_ n4_ n5_ n6_ n7_ n8_ n9_ n10_ n11_ n12_ n13_ n14_ n15_; clear hb hbox hg; have hnb31 := NB627_602.out; have hnc31 := NB602_627.out; have hnb32 := NB627_616.out; have hnc32 := NB616_627.out; have hcz33_0 : w30.cell? ⟨gb627, 0, none⟩ = some (.int .i64 0) := (blk_cell BK627.out 0).trans rfl; have hcz33_1 : w30.cell? ⟨gb627, 1, none⟩ = some (.slice none 0 0) := (blk_cell BK627.out 1).trans rfl; have hcz33_2 : w30.cell? ⟨gb627, 2, none⟩ = some (.slice none 0 0) := (blk_cell BK627.out 2).trans rfl; have hcz33_3 : w30.cell? ⟨gb627, 3, none⟩ = some (.slice none 0 0) := (blk_cell BK627.out 3).trans rfl; have hfz33_0 := blk_frozen BK627.out 0; have hfz33_1 := blk_frozen BK627.out 1; have hfz33_2 := blk_frozen BK627.out 2; have hfz33_3 := blk_frozen BK627.out 3; obtain ⟨Ao34, co34, eo34⟩ := Kd.R_slice HO620.out; subst eo34; obtain ⟨Ao35, co35, eo35⟩ := Kd.R_slice HO623.out; subst eo35; obtain ⟨Ao36, co36, eo36⟩ := Kd.R_slice HO626.out; subst eo36) | ((with_reducible refine gate_store (t := 58) (p := 5) rfl ?_); refine store_event (t := 58) (p := 5) (v := ?vo_w37) (w1 := ((((w30.setCell ⟨gb627, 0, none⟩ (.int .i64 t617)).setCell ⟨gb627, 1, none⟩ (.slice Ao34 t618.length co34)).setCell ⟨gb627, 2, none⟩ (.slice Ao35 t621.length co35)).setCell ⟨gb627, 3, none⟩ (.slice Ao36 t624.length co36))) ?hg ?ho ?hn ?hr ?_; (case ho => rfl); (case hg => rfl); (case hn => rfl); (case hr => first | (go_simp; done) | (go_simp; rfl)); intro w37 hw; have n0_ : Aside0 (Kd.R Kd.string 9 w37 w.heap.size (fun k_ => some k_ ≠ (.slice Ao22 t608.length co22 : Value).ownBlock ∧ some k_ ≠ (.slice Ao23 t611.length co23 : Value).ownBlock ∧ some k_ ≠ (.slice Ao34 t618.length co34 : Value).ownBlock ∧ some k_ ≠ (.slice Ao35 t621.length co35 : Value).ownBlock ∧ some k_ ≠ (.slice Ao36 t624.length co36 : Value).ownBlock) (.slice Ao21 t605.length co21) t605) := ⟨(by rw [hw]; exact (by (with_reducible repeat (first | apply Kd.R_alloc | apply Kd.R_drewN | apply Kd.R_drew)); exact Kd.R_mono (Kd.R_far (p := ⟨gb627, 3, none⟩) (Kd.R_far (p := ⟨gb627, 2, none⟩) (Kd.R_far (p := ⟨gb627, 1, none⟩) (Kd.R_far (p := ⟨gb627, 0, none⟩) (Kd.R_types HO607.out BK627.out (by decide)) (fun _ hk => hk.2) (.int .i64 t617)) (fun _ hk => hk.2) (.slice Ao34 t618.length co34)) (fun _ hk => hk.2) (.slice Ao35 t621.length co35)) (fun _ hk => hk.2) (.slice Ao36 t624.length co36)) (fun _ hk => ⟨hk.1.1.1.1.1, ⟨hk.1.1.1.1.2, ⟨hk.1.1.1.2, ⟨hk.1.1.2, hk.1.2⟩⟩⟩⟩)))⟩; have n1_ : Aside0 (Kd.R Kd.string 9 w37 w.heap.size (fun k_ => some k_ ≠ (.slice Ao21 t605.length co21 : Value).ownBlock ∧ some k_ ≠ (.slice Ao23 t611.length co23 : Value).ownBlock ∧ some k_ ≠ (.slice Ao34 t618.length co34 : Value).ownBlock ∧ some k_ ≠ (.slice Ao35 t621.length co35 : Value).ownBlock ∧ some k_ ≠ (.slice Ao36 t624.length co36 : Value).ownBlock) (.slice Ao22 t608.length co22) t608) := ⟨(by rw [hw]; exact (by (with_reducible repeat (first | apply Kd.R_alloc | apply Kd.R_drewN | apply Kd.R_drew)); exact Kd.R_mono (Kd.R_far (p := ⟨gb627, 3, none⟩) (Kd.R_far (p := ⟨gb627, 2, none⟩) (Kd.R_far (p := ⟨gb627, 1, none⟩) (Kd.R_far (p := ⟨gb627, 0, none⟩) (Kd.R_types HO610.out BK627.out (by decide)) (fun _ hk => hk.2) (.int .i64 t617)) (fun _ hk => hk.2) (.slice Ao34 t618.length co34)) (fun _ hk => hk.2) (.slice Ao35 t621.length co35)) (fun _ hk => hk.2) (.slice Ao36 t624.length co36)) (fun _ hk => ⟨hk.1.1.1.1.1, ⟨hk.1.1.1.1.2, ⟨hk.1.1.1.2, ⟨hk.1.1.2, hk.1.2⟩⟩⟩⟩)))⟩; have n2_ : Aside0 (Kd.R Kd.string 9 w37 w.heap.size (fun k_ => some k_ ≠ (.slice Ao21 t605.length co21 : Value).ownBlock ∧ some k_ ≠ (.slice Ao22 t608.length co22 : Value).ownBlock ∧ some k_ ≠ (.slice Ao34 t618.length co34 : Value).ownBlock ∧ some k_ ≠ (.slice Ao35 t621.length co35 : Value).ownBlock ∧ some k_ ≠ (.slice Ao36 t624.length co36 : Value).ownBlock) (.slice Ao23 t611.length co23) t611) := ⟨(by rw [hw]; exact (by (with_reducible repeat (first | apply Kd.R_alloc | apply Kd.R_drewN | apply Kd.R_drew)); exact Kd.R_mono (Kd.R_far (p := ⟨gb627, 3, none⟩) (Kd.R_far (p := ⟨gb627, 2, none⟩) (Kd.R_far (p := ⟨gb627, 1, none⟩) (Kd.R_far (p := ⟨gb627, 0, none⟩) (Kd.R_types HO613.out BK627.out (by decide)) (fun _ hk => hk.2) (.int .i64 t617)) (fun _ hk => hk.2) (.slice Ao34 t618.length co34)) (fun _ hk => hk.2) (.slice Ao35 t621.length co35)) (fun _ hk => hk.2) (.slice Ao36 t624.length co36)) (fun _ hk => ⟨hk.1.1.1.1.1, ⟨hk.1.1.1.1.2, ⟨hk.1.1.1.2, ⟨hk.1.1.2, hk.1.2⟩⟩⟩⟩)))⟩; have n3_ : Aside0 (Kd.R Kd.string 9 w37 w.heap.size (fun k_ => some k_ ≠ (.slice Ao21 t605.length co21 : Value).ownBlock ∧ some k_ ≠ (.slice Ao22 t608.length co22 : Value).ownBlock ∧ some k_ ≠ (.slice Ao23 t611.length co23 : Value).ownBlock ∧ some k_ ≠ (.slice Ao35 t621.length co35 : Value).ownBlock ∧ some k_ ≠ (.slice Ao36 t624.length co36 : Value).ownBlock) (.slice Ao34 t618.length co34) t618) := ⟨(by rw [hw]; exact (by (with_reducible repeat (first | apply Kd.R_alloc | apply Kd.R_drewN | apply Kd.R_drew)); exact Kd.R_mono (Kd.R_far (p := ⟨gb627, 3, none⟩) (Kd.R_far (p := ⟨gb627, 2, none⟩) (Kd.R_far (p := ⟨gb627, 1, none⟩) (Kd.R_far (p := ⟨gb627, 0, none⟩) (Kd.R_types HO620.out BK627.out (by decide)) (fun _ hk => hk.2) (.int .i64 t617)) (fun _ hk => hk.2) (.slice Ao34 t618.length co34)) (fun _ hk => hk.2) (.slice Ao35 t621.length co35)) (fun _ hk => hk.2) (.slice Ao36 t624.length co36)) (fun _ hk => ⟨hk.1.1.1.2, ⟨hk.1.1.2, ⟨hk.1.2, ⟨hk.1.1.1.1.1, hk.1.1.1.1.2⟩⟩⟩⟩)))⟩; have n4_ : Aside0 (Kd.R Kd.string 9 w37 w.heap.size (fun k_ => some k_ ≠ (.slice Ao21 t605.length co21 : Value).ownBlock ∧ some k_ ≠ (.slice Ao22 t608.length co22 : Value).ownBlock ∧ some k_ ≠ (.slice Ao23 t611.length co23 : Value).ownBlock ∧ some k_ ≠ (.slice Ao34 t618.length co34 : Value).ownBlock ∧ some k_ ≠ (.slice Ao36 t624.length co36 : Value).ownBlock) (.slice Ao35 t621.length co35) t621) := ⟨(by rw [hw]; exact (by (with_reducible repeat (first | apply Kd.R_alloc | apply Kd.R_drewN | apply Kd.R_drew)); exact Kd.R_mono (Kd.R_far (p := ⟨gb627, 3, none⟩) (Kd.R_far (p := ⟨gb627, 2, none⟩) (Kd.R_far (p := ⟨gb627, 1, none⟩) (Kd.R_far (p := ⟨gb627, 0, none⟩) (Kd.R_types HO623.out BK627.out (by decide)) (fun _ hk => hk.2) (.int .i64 t617)) (fun _ hk => hk.2) (.slice Ao34 t618.length co34)) (fun _ hk => hk.2) (.slice Ao35 t621.length co35)) (fun _ hk => hk.2) (.slice Ao36 t624.length co36)) (fun _ hk => ⟨hk.1.1.1.2, ⟨hk.1.1.2, ⟨hk.1.2, ⟨hk.1.1.1.1.1, hk.1.1.1.1.2⟩⟩⟩⟩)))⟩; have n5_ : Aside0 (Kd.R Kd.string 9 w37 w.heap.size (fun k_ => some k_ ≠ (.slice Ao21 t605.length co21 : Value).ownBlock ∧ some k_ ≠ (.slice Ao22 t608.length co22 : Value).ownBlock ∧ some k_ ≠ (.slice Ao23 t611.length co23 : Value).ownBlock ∧ some k_ ≠ (.slice Ao34 t618.length co34 : Value).ownBlock ∧ some k_ ≠ (.slice Ao35 t621.length co35 : Value).ownBlock) (.slice Ao36 t624.length co36) t624) := ⟨(by rw [hw]; exact (by (with_reducible repeat (first | apply Kd.R_alloc | apply Kd.R_drewN | apply Kd.R_drew)); exact Kd.R_mono (Kd.R_far (p := ⟨gb627, 3, none⟩) (Kd.R_far (p := ⟨gb627, 2, none⟩) (Kd.R_far (p := ⟨gb627, 1, none⟩) (Kd.R_far (p := ⟨gb627, 0, none⟩) (Kd.R_types HO626.out BK627.out (by decide)) (fun _ hk => hk.2) (.int .i64 t617)) (fun _ hk => hk.2) (.slice Ao34 t618.length co34)) (fun _ hk => hk.2) (.slice Ao35 t621.length co35)) (fun _ hk => hk.2) (.slice Ao36 t624.length co36)) (fun _ hk => ⟨hk.1.1.1.2, ⟨hk.1.1.2, ⟨hk.1.2, ⟨hk.1.1.1.1.1, hk.1.1.1.1.2⟩⟩⟩⟩)))⟩; have n6_ : Aside0 (w37.heap[gb602]? = some (.cells #[.int .i64 a0_0, .slice A0_1 l0_1.length c0_1, .slice A0_2 l0_2.length c0_2, .slice A0_3 l0_3.length c0_3] 53 (0, 0))) := ⟨(by rw [hw]; exact (by (with_reducible repeat (first | refine blk_drewN ?_ _ | refine blk_drew ?_ | refine blk_alloc ?_ _)); refine blk_far ?_ NB602_627.out _; (with_reducible repeat (first | refine blk_drewN ?_ _ | refine blk_drew ?_ | refine blk_alloc ?_ _)); refine blk_far ?_ NB602_627.out _; (with_reducible repeat (first | refine blk_drewN ?_ _ | refine blk_drew ?_ | refine blk_alloc ?_ _)); refine blk_far ?_ NB602_627.out _; (with_reducible repeat (first | refine blk_drewN ?_ _ | refine blk_drew ?_ | refine blk_alloc ?_ _)); refine blk_far ?_ NB602_627.out _; (with_reducible repeat (first | refine blk_drewN ?_ _ | refine blk_drew ?_ | refine blk_alloc ?_ _)); exact BK602.out))⟩; have n7_ : Aside0 (w37.heap[gb616]? = some (.cells #[.int .i64 t614, .string t615] 56 (0, 0))) := ⟨(by rw [hw]; exact (by (with_reducible repeat (first | refine blk_drewN ?_ _ | refine blk_drew ?_ | refine blk_alloc ?_ _)); refine blk_far ?_ NB616_627.out _; (with_reducible repeat (first | refine blk_drewN ?_ _ | refine blk_drew ?_ | refine blk_alloc ?_ _)); refine blk_far ?_ NB616_627.out _; (with_reducible repeat (first | refine blk_drewN ?_ _ | refine blk_drew ?_ | refine blk_alloc ?_ _)); refine blk_far ?_ NB616_627.out _; (with_reducible repeat (first | refine blk_drewN ?_ _ | refine blk_drew ?_ | refine blk_alloc ?_ _)); refine blk_far ?_ NB616_627.out _; (with_reducible repeat (first | refine blk_drewN ?_ _ | refine blk_drew ?_ | refine blk_alloc ?_ _)); exact BK616.out))⟩; have n8_ : Aside0 (w37.heap[gb627]? = some (.cells #[.int .i64 t617, .slice Ao34 t618.length co34, .slice Ao35 t621.length co35, .slice Ao36 t624.length co36] 58 (0, 0))) := ⟨(by rw [hw]; exact (by (with_reducible repeat (first | refine blk_drewN ?_ _ | refine blk_drew ?_ | refine blk_alloc ?_ _)); refine blk_put (cs := #[.int .i64 t617, .slice Ao34 t618.length co34, .slice Ao35 t621.length co35, .slice none 0 0]) ?_ 3 _ rfl; (with_reducible repeat (first | refine blk_drewN ?_ _ | refine blk_drew ?_ | refine blk_alloc ?_ _)); refine blk_put (cs := #[.int .i64 t617, .slice Ao34 t618.length co34, .slice none 0 0, .slice none 0 0]) ?_ 2 _ rfl; (with_reducible repeat (first | refine blk_drewN ?_ _ | refine blk_drew ?_ | refine blk_alloc ?_ _)); refine blk_put (cs := #[.int .i64 t617, .slice none 0 0, .slice none 0 0, .slice none 0 0]) ?_ 1 _ rfl; (with_reducible repeat (first | refine blk_drewN ?_ _ | refine blk_drew ?_ | refine blk_alloc ?_ _)); refine blk_put (cs := #[.int .i64 0, .slice none 0 0, .slice none 0 0, .slice none 0 0]) ?_ 0 _ rfl; (with_reducible repeat (first | refine blk_drewN ?_ _ | refine blk_drew ?_ | refine blk_alloc ?_ _)); exact BK627.out))⟩; have n9_ : Aside0 (Below w.heap.size w w37) := ⟨(by rw [hw]; exact (by repeat (first | (with_reducible first | exact HB.out | apply below_alloc | apply pw_below_drewN | apply below_drew1 | refine below_set ?_ GE602.out | refine below_set ?_ GE616.out | refine below_set ?_ GE627.out) | exact HB.out)))⟩; clear hw; clear HO607; clear HO610; clear HO613; clear HO620; clear HO623; clear HO626; clear BK602; clear BK616; clear BK627; clear HB; have HO607 := n0_; have HO610 := n1_; have HO613 := n2_; have HO620 := n3_; have HO623 := n4_; have HO626 := n5_; have BK602 := n6_; have BK616 := n7_; have BK627 := n8_; have HB := n9_; clear n0_ n1_ n2_ n3_ n4_ n5_ n6_ n7_ n8_ n9_; have hcz38_0 : w37.cell? ⟨gb627, 0, none⟩ = some (.int .i64 t617) := (blk_cell BK627.out 0).trans rfl; have hcz38_1 : w37.cell? ⟨gb627, 1, none⟩ = some (.slice Ao34 t618.length co34) := (blk_cell BK627.out 1).trans rfl; have hcz38_2 : w37.cell? ⟨gb627, 2, none⟩ = some (.slice Ao35 t621.length co35) := (blk_cell BK627.out 2).trans rfl; have hcz38_3 : w37.cell? ⟨gb627, 3, none⟩ = some (.slice Ao36 t624.length co36) := (blk_cell BK627.out 3).trans rfl; have hfz38_0 := blk_frozen BK627.out 0; have hfz38_1 := blk_frozen BK627.out 1; have hfz38_2 := blk_frozen BK627.out 2; have hfz38_3 := blk_frozen BK627.out 3) | ((with_reducible refine gate_callee (f := 40) rfl ?_); refine goesL_ (some 18) rfl rfl Try.func40 (by kernel_rfl) rfl #[.agg #[.int .i64 t617, .slice Ao34 t618.length co34, .slice Ao35 t621.length co35, .slice Ao36 t624.length co36]] rfl (by (try simp only [List.map_toArray, List.map_cons, List.map_nil]); first | done | rfl | (simp only [List.length_drop, List.length_take]; rfl)) ?_; (with_reducible refine (impl_ClashText.calls k t617 (fun k_ => some k_ = (.slice Ao34 t618.length co34 : Value).ownBlock) _ _ t618 (fun k_ => some k_ = (.slice Ao35 t621.length co35 : Value).ownBlock) _ _ t621 (fun k_ => some k_ = (.slice Ao36 t624.length co36 : Value).ownBlock) _ _ t624 t628 t629 _ ?side1 ?side2 ?side3 A10.out).mono ?_); (case side1 => exact Kd.R_V (Kd.R_tight rfl (Kd.R_types (Kd.R_types (Kd.R_types (HO620.out) BK602.out (by decide)) BK616.out (by decide)) BK627.out (by decide)))); (case side2 => exact Kd.R_V (Kd.R_tight rfl (Kd.R_types (Kd.R_types (Kd.R_types (HO623.out) BK602.out (by decide)) BK616.out (by decide)) BK627.out (by decide)))); (case side3 => exact Kd.R_V (Kd.R_tight rfl (Kd.R_types (Kd.R_types (Kd.R_types (HO626.out) BK602.out (by decide)) BK616.out (by decide)) BK627.out (by decide)))); rintro e w39 ⟨rfl, hb⟩; refine ⟨_, rfl, ?_⟩; have n0_ := Aside0.mk (Kd.R_below (by (with_reducible repeat (first | apply Kd.R_alloc | apply Kd.R_drewN | apply Kd.R_drew)); exact HO607.out) hb); have n1_ := Aside0.mk (Kd.R_below (by (with_reducible repeat (first | apply Kd.R_alloc | apply Kd.R_drewN | apply Kd.R_drew)); exact HO610.out) hb); have n2_ := Aside0.mk (Kd.R_below (by (with_reducible repeat (first | apply Kd.R_alloc | apply Kd.R_drewN | apply Kd.R_drew)); exact HO613.out) hb); have n3_ := Aside0.mk (Kd.R_below (by (with_reducible repeat (first | apply Kd.R_alloc | apply Kd.R_drewN | apply Kd.R_drew)); exact HO620.out) hb); have n4_ := Aside0.mk (Kd.R_below (by (with_reducible repeat (first | apply Kd.R_alloc | apply Kd.R_drewN | apply Kd.R_drew)); exact HO623.out) hb); have n5_ := Aside0.mk (Kd.R_below (by (with_reducible repeat (first | apply Kd.R_alloc | apply Kd.R_drewN | apply Kd.R_drew)); exact HO626.out) hb); have n6_ := Aside0.mk (blk_below (g := gb602) (o := .cells #[.int .i64 a0_0, .slice A0_1 l0_1.length c0_1, .slice A0_2 l0_2.length c0_2, .slice A0_3 l0_3.length c0_3] 53 (0, 0)) (by (with_reducible repeat (first | refine blk_drewN ?_ _ | refine blk_drew ?_ | refine blk_alloc ?_ _)); exact BK602.out) hb); have n7_ := Aside0.mk (blk_below (g := gb616) (o := .cells #[.int .i64 t614, .string t615] 56 (0, 0)) (by (with_reducible repeat (first | refine blk_drewN ?_ _ | refine blk_drew ?_ | refine blk_alloc ?_ _)); exact BK616.out) hb); have n8_ := Aside0.mk (blk_below (g := gb627) (o := .cells #[.int .i64 t617, .slice Ao34 t618.length co34, .slice Ao35 t621.length co35, .slice Ao36 t624.length co36] 58 (0, 0)) (by (with_reducible repeat (first | refine blk_drewN ?_ _ | refine blk_drew ?_ | refine blk_alloc ?_ _)); exact BK627.out) hb); have n9_ := Aside0.mk (below_step (by repeat (first | (with_reducible first | exact HB.out | apply below_alloc | apply pw_below_drewN | apply below_drew1 | refine below_set ?_ GE602.out | refine below_set ?_ GE616.out | refine below_set ?_ GE627.out) | exact HB.out)) hb); clear HO607; clear HO610; clear HO613; clear HO620; clear HO623; clear HO626; clear BK602; clear BK616; clear BK627; clear HB; have HO607 := n0_; have HO610 := n1_; have HO613 := n2_; have HO620 := n3_; have HO623 := n4_; have HO626 := n5_; have BK602 := n6_; have BK616 := n7_; have BK627 := n8_; have HB := n9_; clear n0_ n1_ n2_ n3_ n4_ n5_ n6_ n7_ n8_ n9_; (try clear hb); (try clear hb2); (try clear hk); (try clear hi)) | ((with_reducible refine gate_dst (N := 6) rfl ?_); refine box_event ?hg (N := 6) ?hd (cs := #[.int .i64 0, .string (⟨#[]⟩ : ByteArray)]) (t := 56) ?hr ?_; (case hd => rfl); (case hg => rfl); (case hr => first | (go_simp; done) | (go_simp; rfl)); intro gb630 hg w40 hbox hb; have n0_ := Aside0.mk (Kd.R_below (by (with_reducible repeat (first | apply Kd.R_alloc | apply Kd.R_drewN | apply Kd.R_drew)); exact HO607.out) hb); have n1_ := Aside0.mk (Kd.R_below (by (with_reducible repeat (first | apply Kd.R_alloc | apply Kd.R_drewN | apply Kd.R_drew)); exact HO610.out) hb); have n2_ := Aside0.mk (Kd.R_below (by (with_reducible repeat (first | apply Kd.R_alloc | apply Kd.R_drewN | apply Kd.R_drew)); exact HO613.out) hb); have n3_ := Aside0.mk (Kd.R_below (by (with_reducible repeat (first | apply Kd.R_alloc | apply Kd.R_drewN | apply Kd.R_drew)); exact HO620.out) hb); have n4_ := Aside0.mk (Kd.R_below (by (with_reducible repeat (first | apply Kd.R_alloc | apply Kd.R_drewN | apply Kd.R_drew)); exact HO623.out) hb); have n5_ := Aside0.mk (Kd.R_below (by (with_reducible repeat (first | apply Kd.R_alloc | apply Kd.R_drewN | apply Kd.R_drew)); exact HO626.out) hb); have n6_ := Aside0.mk (blk_below (g := gb602) (o := .cells #[.int .i64 a0_0, .slice A0_1 l0_1.length c0_1, .slice A0_2 l0_2.length c0_2, .slice A0_3 l0_3.length c0_3] 53 (0, 0)) (by (with_reducible repeat (first | refine blk_drewN ?_ _ | refine blk_drew ?_ | refine blk_alloc ?_ _)); exact BK602.out) hb); have n7_ := Aside0.mk (blk_below (g := gb616) (o := .cells #[.int .i64 t614, .string t615] 56 (0, 0)) (by (with_reducible repeat (first | refine blk_drewN ?_ _ | refine blk_drew ?_ | refine blk_alloc ?_ _)); exact BK616.out) hb); have n8_ := Aside0.mk (blk_below (g := gb627) (o := .cells #[.int .i64 t617, .slice Ao34 t618.length co34, .slice Ao35 t621.length co35, .slice Ao36 t624.length co36] 58 (0, 0)) (by (with_reducible repeat (first | refine blk_drewN ?_ _ | refine blk_drew ?_ | refine blk_alloc ?_ _)); exact BK627.out) hb); have n9_ := Aside0.mk (below_step (by repeat (first | (with_reducible first | exact HB.out | apply below_alloc | apply pw_below_drewN | apply below_drew1 | refine below_set ?_ GE602.out | refine below_set ?_ GE616.out | refine below_set ?_ GE627.out) | exact HB.out)) hb); have n10_ := Aside0.mk (hbox); have n11_ := Aside0.mk ((by rw [hg]; exact (below_size (by repeat (first | (with_reducible first | exact HB.out | apply below_alloc | apply pw_below_drewN | apply below_drew1 | refine below_set ?_ GE602.out | refine below_set ?_ GE616.out | refine below_set ?_ GE627.out) | exact HB.out))) : w.heap.size ≤ gb630)); have n12_ := Aside0.mk ((by rw [hg]; exact (below_size (by repeat (first | (with_reducible first | exact HB.out | apply below_alloc | apply pw_below_drewN | apply below_drew1 | refine below_set ?_ GE602.out | refine below_set ?_ GE616.out | refine below_set ?_ GE627.out) | exact HB.out))) : w.heap.size ≤ gb630)); have n13_ := Aside0.mk ((by rw [hg]; exact Nat.ne_of_lt (blk_lt (g := gb602) (o := .cells #[.int .i64 a0_0, .slice A0_1 l0_1.length c0_1, .slice A0_2 l0_2.length c0_2, .slice A0_3 l0_3.length c0_3] 53 (0, 0)) (by (with_reducible repeat (first | refine blk_drewN ?_ _ | refine blk_drew ?_ | refine blk_alloc ?_ _)); exact BK602.out)) : gb602 ≠ gb630)); have n14_ := Aside0.mk ((by rw [hg]; exact Nat.ne_of_gt (blk_lt (g := gb602) (o := .cells #[.int .i64 a0_0, .slice A0_1 l0_1.length c0_1, .slice A0_2 l0_2.length c0_2, .slice A0_3 l0_3.length c0_3] 53 (0, 0)) (by (with_reducible repeat (first | refine blk_drewN ?_ _ | refine blk_drew ?_ | refine blk_alloc ?_ _)); exact BK602.out)) : gb630 ≠ gb602)); have n15_ := Aside0.mk ((by rw [hg]; exact Nat.ne_of_lt (blk_lt (g := gb616) (o := .cells #[.int .i64 t614, .string t615] 56 (0, 0)) (by (with_reducible repeat (first | refine blk_drewN ?_ _ | refine blk_drew ?_ | refine blk_alloc ?_ _)); exact BK616.out)) : gb616 ≠ gb630)); have n16_ := Aside0.mk ((by rw [hg]; exact Nat.ne_of_gt (blk_lt (g := gb616) (o := .cells #[.int .i64 t614, .string t615] 56 (0, 0)) (by (with_reducible repeat (first | refine blk_drewN ?_ _ | refine blk_drew ?_ | refine blk_alloc ?_ _)); exact BK616.out)) : gb630 ≠ gb616)); have n17_ := Aside0.mk ((by rw [hg]; exact Nat.ne_of_lt (blk_lt (g := gb627) (o := .cells #[.int .i64 t617, .slice Ao34 t618.length co34, .slice Ao35 t621.length co35, .slice Ao36 t624.length co36] 58 (0, 0)) (by (with_reducible repeat (first | refine blk_drewN ?_ _ | refine blk_drew ?_ | refine blk_alloc ?_ _)); exact BK627.out)) : gb627 ≠ gb630)); have n18_ := Aside0.mk ((by rw [hg]; exact Nat.ne_of_gt (blk_lt (g := gb627) (o := .cells #[.int .i64 t617, .slice Ao34 t618.length co34, .slice Ao35 t621.length co35, .slice Ao36 t624.length co36] 58 (0, 0)) (by (with_reducible repeat (first | refine blk_drewN ?_ _ | refine blk_drew ?_ | refine blk_alloc ?_ _)); exact BK627.out)) : gb630 ≠ gb627)); clear HO607; clear HO610; clear HO613; clear HO620; clear HO623; clear HO626; clear BK602; clear BK616; clear BK627; clear HB; have HO607 := n0_; have HO610 := n1_; have HO613 := n2_; have HO620 := n3_; have HO623 := n4_; have HO626 := n5_; have BK602 := n6_; have BK616 := n7_; have BK627 := n8_; have HB := n9_; have BK630 := n10_; have GW630 := n11_; have GE630 := n12_; have NB602_630 := n13_; have NB630_602 := n14_; have NB616_630 := n15_; have NB630_616 := n16_; have NB627_630 := n17_; have NB630_627 := n18_; clear n0_ n1_ n2_ n3_ n4_ n5_ n6_ n7_ n8_ n9_ n10_ n11_ n12_ n13_ n14_ n15_ n16_ n17_ n18_; clear hb hbox hg; have hnb41 := NB630_602.out; have hnc41 := NB602_630.out; have hnb42 := NB630_616.out; have hnc42 := NB616_630.out; have hnb43 := NB630_627.out; have hnc43 := NB627_630.out; have hcz44_0 : w40.cell? ⟨gb630, 0, none⟩ = some (.int .i64 0) := (blk_cell BK630.out 0).trans rfl; have hcz44_1 : w40.cell? ⟨gb630, 1, none⟩ = some (.string (⟨#[]⟩ : ByteArray)) := (blk_cell BK630.out 1).trans rfl; have hfz44_0 := blk_frozen BK630.out 0; have hfz44_1 := blk_frozen BK630.out 1; have hcz45_0 : w40.cell? ⟨gb616, 0, none⟩ = some (.int .i64 t614) := (blk_cell BK616.out 0).trans rfl; have hcz45_1 : w40.cell? ⟨gb616, 1, none⟩ = some (.string t615) := (blk_cell BK616.out 1).trans rfl; have hfz45_0 := blk_frozen BK616.out 0; have hfz45_1 := blk_frozen BK616.out 1) | ((with_reducible refine gate_callee (f := 41) rfl ?_); refine goesL_ (some 21) rfl rfl Try.func41 (by kernel_rfl) rfl #[.agg #[.int .i64 t628, .string t629], .agg #[.int .i64 t614, .string t615]] rfl (by (try simp only [List.map_toArray, List.map_cons, List.map_nil]); first | done | rfl | (simp only [List.length_drop, List.length_take]; rfl)) ?_; (with_reducible refine (laws_eqTextResult.calls t628 t629 t614 t615 true _ A11.out).mono ?_); rintro e w46 ⟨rfl, hb⟩; refine ⟨_, rfl, ?_⟩; have n0_ := Aside0.mk (Kd.R_below (by (with_reducible repeat (first | apply Kd.R_alloc | apply Kd.R_drewN | apply Kd.R_drew)); exact (Kd.R_mono (Kd.R_far (p := ⟨gb630, 1, none⟩) (Kd.R_far (p := ⟨gb630, 0, none⟩) (Kd.R_types HO607.out BK630.out (by decide)) (fun _ hk => hk.2) (.int .i64 t628)) (fun _ hk => hk.2) (.string t629)) (fun _ h_ => h_.1))) hb); have n1_ := Aside0.mk (Kd.R_below (by (with_reducible repeat (first | apply Kd.R_alloc | apply Kd.R_drewN | apply Kd.R_drew)); exact (Kd.R_mono (Kd.R_far (p := ⟨gb630, 1, none⟩) (Kd.R_far (p := ⟨gb630, 0, none⟩) (Kd.R_types HO610.out BK630.out (by decide)) (fun _ hk => hk.2) (.int .i64 t628)) (fun _ hk => hk.2) (.string t629)) (fun _ h_ => h_.1))) hb); have n2_ := Aside0.mk (Kd.R_below (by (with_reducible repeat (first | apply Kd.R_alloc | apply Kd.R_drewN | apply Kd.R_drew)); exact (Kd.R_mono (Kd.R_far (p := ⟨gb630, 1, none⟩) (Kd.R_far (p := ⟨gb630, 0, none⟩) (Kd.R_types HO613.out BK630.out (by decide)) (fun _ hk => hk.2) (.int .i64 t628)) (fun _ hk => hk.2) (.string t629)) (fun _ h_ => h_.1))) hb); have n3_ := Aside0.mk (Kd.R_below (by (with_reducible repeat (first | apply Kd.R_alloc | apply Kd.R_drewN | apply Kd.R_drew)); exact (Kd.R_mono (Kd.R_far (p := ⟨gb630, 1, none⟩) (Kd.R_far (p := ⟨gb630, 0, none⟩) (Kd.R_types HO620.out BK630.out (by decide)) (fun _ hk => hk.2) (.int .i64 t628)) (fun _ hk => hk.2) (.string t629)) (fun _ h_ => h_.1))) hb); have n4_ := Aside0.mk (Kd.R_below (by (with_reducible repeat (first | apply Kd.R_alloc | apply Kd.R_drewN | apply Kd.R_drew)); exact (Kd.R_mono (Kd.R_far (p := ⟨gb630, 1, none⟩) (Kd.R_far (p := ⟨gb630, 0, none⟩) (Kd.R_types HO623.out BK630.out (by decide)) (fun _ hk => hk.2) (.int .i64 t628)) (fun _ hk => hk.2) (.string t629)) (fun _ h_ => h_.1))) hb); have n5_ := Aside0.mk (Kd.R_below (by (with_reducible repeat (first | apply Kd.R_alloc | apply Kd.R_drewN | apply Kd.R_drew)); exact (Kd.R_mono (Kd.R_far (p := ⟨gb630, 1, none⟩) (Kd.R_far (p := ⟨gb630, 0, none⟩) (Kd.R_types HO626.out BK630.out (by decide)) (fun _ hk => hk.2) (.int .i64 t628)) (fun _ hk => hk.2) (.string t629)) (fun _ h_ => h_.1))) hb); have n6_ := Aside0.mk (blk_below (g := gb602) (o := .cells #[.int .i64 a0_0, .slice A0_1 l0_1.length c0_1, .slice A0_2 l0_2.length c0_2, .slice A0_3 l0_3.length c0_3] 53 (0, 0)) (by (with_reducible repeat (first | refine blk_drewN ?_ _ | refine blk_drew ?_ | refine blk_alloc ?_ _)); refine blk_far ?_ NB602_630.out _; (with_reducible repeat (first | refine blk_drewN ?_ _ | refine blk_drew ?_ | refine blk_alloc ?_ _)); refine blk_far ?_ NB602_630.out _; (with_reducible repeat (first | refine blk_drewN ?_ _ | refine blk_drew ?_ | refine blk_alloc ?_ _)); exact BK602.out) hb); have n7_ := Aside0.mk (blk_below (g := gb616) (o := .cells #[.int .i64 t614, .string t615] 56 (0, 0)) (by (with_reducible repeat (first | refine blk_drewN ?_ _ | refine blk_drew ?_ | refine blk_alloc ?_ _)); refine blk_far ?_ NB616_630.out _; (with_reducible repeat (first | refine blk_drewN ?_ _ | refine blk_drew ?_ | refine blk_alloc ?_ _)); refine blk_far ?_ NB616_630.out _; (with_reducible repeat (first | refine blk_drewN ?_ _ | refine blk_drew ?_ | refine blk_alloc ?_ _)); exact BK616.out) hb); have n8_ := Aside0.mk (blk_below (g := gb627) (o := .cells #[.int .i64 t617, .slice Ao34 t618.length co34, .slice Ao35 t621.length co35, .slice Ao36 t624.length co36] 58 (0, 0)) (by (with_reducible repeat (first | refine blk_drewN ?_ _ | refine blk_drew ?_ | refine blk_alloc ?_ _)); refine blk_far ?_ NB627_630.out _; (with_reducible repeat (first | refine blk_drewN ?_ _ | refine blk_drew ?_ | refine blk_alloc ?_ _)); refine blk_far ?_ NB627_630.out _; (with_reducible repeat (first | refine blk_drewN ?_ _ | refine blk_drew ?_ | refine blk_alloc ?_ _)); exact BK627.out) hb); have n9_ := Aside0.mk (blk_below (g := gb630) (o := .cells #[.int .i64 t628, .string t629] 56 (0, 0)) (by (with_reducible repeat (first | refine blk_drewN ?_ _ | refine blk_drew ?_ | refine blk_alloc ?_ _)); refine blk_put (cs := #[.int .i64 t628, .string (⟨#[]⟩ : ByteArray)]) ?_ 1 _ rfl; (with_reducible repeat (first | refine blk_drewN ?_ _ | refine blk_drew ?_ | refine blk_alloc ?_ _)); refine blk_put (cs := #[.int .i64 0, .string (⟨#[]⟩ : ByteArray)]) ?_ 0 _ rfl; (with_reducible repeat (first | refine blk_drewN ?_ _ | refine blk_drew ?_ | refine blk_alloc ?_ _)); exact BK630.out) hb); have n10_ := Aside0.mk (below_step (by repeat (first | (with_reducible first | exact HB.out | apply below_alloc | apply pw_below_drewN | apply below_drew1 | refine below_set ?_ GE602.out | refine below_set ?_ GE616.out | refine below_set ?_ GE627.out | refine below_set ?_ GE630.out) | exact HB.out)) hb); clear HO607; clear HO610; clear HO613; clear HO620; clear HO623; clear HO626; clear BK602; clear BK616; clear BK627; clear BK630; clear HB; have HO607 := n0_; have HO610 := n1_; have HO613 := n2_; have HO620 := n3_; have HO623 := n4_; have HO626 := n5_; have BK602 := n6_; have BK616 := n7_; have BK627 := n8_; have BK630 := n9_; have HB := n10_; clear n0_ n1_ n2_ n3_ n4_ n5_ n6_ n7_ n8_ n9_ n10_; (try clear hb); (try clear hb2); (try clear hk); (try clear hi)))
    have n0_ := Aside0.mk (Kd.R_drew HO607.out)
    have n1_ := Aside0.mk (Kd.R_drew HO610.out)
    have n2_ := Aside0.mk (Kd.R_drew HO613.out)
    have n3_ := Aside0.mk (Kd.R_drew HO620.out)
    have n4_ := Aside0.mk (Kd.R_drew HO623.out)
    have n5_ := Aside0.mk (Kd.R_drew HO626.out)
    have n6_ := Aside0.mk (blk_drew BK602.out)
    have n7_ := Aside0.mk (blk_drew BK616.out)
    have n8_ := Aside0.mk (blk_drew BK627.out)
    have n9_ := Aside0.mk (blk_drew BK630.out)
    have n10_ := Aside0.mk (below_drew1 HB.out)
    clear HO607
    clear HO610
    clear HO613
    clear HO620
    clear HO623
    clear HO626
    clear BK602
    clear BK616
    clear BK627
    clear BK630
    clear HB
    have HO607 := n0_
    have HO610 := n1_
    have HO613 := n2_
    have HO620 := n3_
    have HO623 := n4_
    have HO626 := n5_
    have BK602 := n6_
    have BK616 := n7_
    have BK627 := n8_
    have BK630 := n9_
    have HB := n10_
    clear n0_ n1_ n2_ n3_ n4_ n5_ n6_ n7_ n8_ n9_ n10_
    refine start_ (n := 5) (S := fun w' => w'.cell? ⟨gb627, 0, none⟩ = some (.int .i64 t617) ∧ w'.cell? ⟨gb627, 1, none⟩ = some (.slice Ao34 t618.length co34) ∧ w'.cell? ⟨gb627, 2, none⟩ = some (.slice Ao35 t621.length co35) ∧ w'.cell? ⟨gb627, 3, none⟩ = some (.slice Ao36 t624.length co36) ∧ w'.cell? ⟨gb602, 0, none⟩ = some (.int .i64 a0_0) ∧ w'.cell? ⟨gb602, 1, none⟩ = some (.slice A0_1 l0_1.length c0_1) ∧ w'.cell? ⟨gb602, 2, none⟩ = some (.slice A0_2 l0_2.length c0_2) ∧ w'.cell? ⟨gb602, 3, none⟩ = some (.slice A0_3 l0_3.length c0_3)) (ds := []) #[false, false, false, false, false] (by kernel_rfl) rfl rfl ⟨(blk_cell BK627.out 0).trans rfl, (blk_cell BK627.out 1).trans rfl, (blk_cell BK627.out 2).trans rfl, (blk_cell BK627.out 3).trans rfl, (blk_cell BK602.out 0).trans rfl, (blk_cell BK602.out 1).trans rfl, (blk_cell BK602.out 2).trans rfl, (blk_cell BK602.out 3).trans rfl⟩ (fun hHeld => ?_)
    generalize w46.drew = w47 at HO607 HO610 HO613 HO620 HO623 HO626 BK602 BK616 BK627 BK630 HB hHeld ⊢
    refine take_ (i := 0) (N := some 23) (v := ?_) (a' := ?_) #[true, false, false, false, false] rfl rfl (by kernel_rfl) (fun _ _ _ h => h) (Or.inl ⟨by rfl, ?_⟩) hHeld ?_ ?_
    rotate_left
    ·rintro w' ⟨s0, s1, s2, s3, s4, s5, s6, s7⟩
     go_simp
     with_reducible rfl
    rotate_left
    ·simp only [Act.put, List.setIfInBounds_toArray, List.set_cons_zero, List.set_cons_succ, i64_w, i32_w]
     rfl
    refine take_ (i := 1) (N := some 24) (v := ?_) (a' := ?_) #[true, true, false, false, false] rfl rfl (by kernel_rfl) (fun _ _ _ h => h) (Or.inl ⟨by rfl, ?_⟩) hHeld ?_ ?_
    rotate_left
    ·rintro w' ⟨s0, s1, s2, s3, s4, s5, s6, s7⟩
     go_simp
     with_reducible rfl
    rotate_left
    ·simp only [Act.put, List.setIfInBounds_toArray, List.set_cons_zero, List.set_cons_succ, i64_w, i32_w]
     rfl
    refine one_ (i := 2) (N := some 25) #[true, true, true, false, false] rfl rfl (by kernel_rfl) (by decide) (fun K hK => ?_)
    refine goes_ Try.func39 (by kernel_rfl) rfl #[.agg #[.int .i64 a0_0, .slice A0_1 l0_1.length c0_1, .slice A0_2 l0_2.length c0_2, .slice A0_3 l0_3.length c0_3]] (by rfl) rfl rfl (by (try simp only [List.map_toArray, List.map_cons, List.map_nil]); first | done | rfl | (simp only [List.length_drop, List.length_take]; rfl)) ?_
    with_reducible refine (laws_toChunk.calls k a0_0 _ _ l0_1 _ _ l0_2 _ _ l0_3 t632 t633 t636 t639 _ ?side1 ?side2 ?side3 ?side4 ?side5 ?side6 A13.out).mono ?_
    (case side1 => repeat (first | exact (Kd.C_below HR0_1.out HB.out) | (with_reducible refine Kd.C_alloc ?_ _) | (with_reducible refine Kd.C_drewN ?_ _) | (with_reducible refine Kd.C_drew ?_)))
    (case side2 => exact HC0_1.out)
    (case side3 => repeat (first | exact (Kd.C_below HR0_2.out HB.out) | (with_reducible refine Kd.C_alloc ?_ _) | (with_reducible refine Kd.C_drewN ?_ _) | (with_reducible refine Kd.C_drew ?_)))
    (case side4 => exact HC0_2.out)
    (case side5 => repeat (first | exact (Kd.C_below HR0_3.out HB.out) | (with_reducible refine Kd.C_alloc ?_ _) | (with_reducible refine Kd.C_drewN ?_ _) | (with_reducible refine Kd.C_drew ?_)))
    (case side6 => exact HC0_3.out)
    rintro e w48 ⟨v634, v637, v640, rfl, ho0, ho1, ho2, hb⟩
    refine ⟨_, rfl, ?_⟩
    have n0_ := Aside0.mk (Kd.R_mono (Kd.R_told (Kd.R_told (Kd.R_told (Kd.R_old (by (with_reducible repeat (first | apply Kd.R_alloc | apply Kd.R_drewN | apply Kd.R_drew)); exact HO607.out) hb) (Kd.R_base ho0)) (Kd.R_base ho1)) (Kd.R_base ho2)) (fun _ h_ => h_.1))
    have n1_ := Aside0.mk (Kd.R_mono (Kd.R_told (Kd.R_told (Kd.R_told (Kd.R_old (by (with_reducible repeat (first | apply Kd.R_alloc | apply Kd.R_drewN | apply Kd.R_drew)); exact HO610.out) hb) (Kd.R_base ho0)) (Kd.R_base ho1)) (Kd.R_base ho2)) (fun _ h_ => h_.1))
    have n2_ := Aside0.mk (Kd.R_mono (Kd.R_told (Kd.R_told (Kd.R_told (Kd.R_old (by (with_reducible repeat (first | apply Kd.R_alloc | apply Kd.R_drewN | apply Kd.R_drew)); exact HO613.out) hb) (Kd.R_base ho0)) (Kd.R_base ho1)) (Kd.R_base ho2)) (fun _ h_ => h_.1))
    have n3_ := Aside0.mk (Kd.R_mono (Kd.R_told (Kd.R_told (Kd.R_told (Kd.R_old (by (with_reducible repeat (first | apply Kd.R_alloc | apply Kd.R_drewN | apply Kd.R_drew)); exact HO620.out) hb) (Kd.R_base ho0)) (Kd.R_base ho1)) (Kd.R_base ho2)) (fun _ h_ => h_.1))
    have n4_ := Aside0.mk (Kd.R_mono (Kd.R_told (Kd.R_told (Kd.R_told (Kd.R_old (by (with_reducible repeat (first | apply Kd.R_alloc | apply Kd.R_drewN | apply Kd.R_drew)); exact HO623.out) hb) (Kd.R_base ho0)) (Kd.R_base ho1)) (Kd.R_base ho2)) (fun _ h_ => h_.1))
    have n5_ := Aside0.mk (Kd.R_mono (Kd.R_told (Kd.R_told (Kd.R_told (Kd.R_old (by (with_reducible repeat (first | apply Kd.R_alloc | apply Kd.R_drewN | apply Kd.R_drew)); exact HO626.out) hb) (Kd.R_base ho0)) (Kd.R_base ho1)) (Kd.R_base ho2)) (fun _ h_ => h_.1))
    have n6_ := Aside0.mk (Kd.R_lower (Kd.R_new' (Kd.R_new' (Kd.R_new' (Kd.R_new' (Kd.R_new' (Kd.R_new' ho0 (Kd.R_lt (by (with_reducible repeat (first | apply Kd.R_alloc | apply Kd.R_drewN | apply Kd.R_drew)); exact HO607.out))) (Kd.R_lt (by (with_reducible repeat (first | apply Kd.R_alloc | apply Kd.R_drewN | apply Kd.R_drew)); exact HO610.out))) (Kd.R_lt (by (with_reducible repeat (first | apply Kd.R_alloc | apply Kd.R_drewN | apply Kd.R_drew)); exact HO613.out))) (Kd.R_lt (by (with_reducible repeat (first | apply Kd.R_alloc | apply Kd.R_drewN | apply Kd.R_drew)); exact HO620.out))) (Kd.R_lt (by (with_reducible repeat (first | apply Kd.R_alloc | apply Kd.R_drewN | apply Kd.R_drew)); exact HO623.out))) (Kd.R_lt (by (with_reducible repeat (first | apply Kd.R_alloc | apply Kd.R_drewN | apply Kd.R_drew)); exact HO626.out))) (below_size (by repeat (first | (with_reducible first | exact HB.out | apply below_alloc | apply pw_below_drewN | apply below_drew1 | refine below_set ?_ GE602.out | refine below_set ?_ GE616.out | refine below_set ?_ GE627.out | refine below_set ?_ GE630.out) | exact HB.out))))
    have n7_ := Aside0.mk (Kd.R_lower (Kd.R_new' (Kd.R_new' (Kd.R_new' (Kd.R_new' (Kd.R_new' (Kd.R_new' ho1 (Kd.R_lt (by (with_reducible repeat (first | apply Kd.R_alloc | apply Kd.R_drewN | apply Kd.R_drew)); exact HO607.out))) (Kd.R_lt (by (with_reducible repeat (first | apply Kd.R_alloc | apply Kd.R_drewN | apply Kd.R_drew)); exact HO610.out))) (Kd.R_lt (by (with_reducible repeat (first | apply Kd.R_alloc | apply Kd.R_drewN | apply Kd.R_drew)); exact HO613.out))) (Kd.R_lt (by (with_reducible repeat (first | apply Kd.R_alloc | apply Kd.R_drewN | apply Kd.R_drew)); exact HO620.out))) (Kd.R_lt (by (with_reducible repeat (first | apply Kd.R_alloc | apply Kd.R_drewN | apply Kd.R_drew)); exact HO623.out))) (Kd.R_lt (by (with_reducible repeat (first | apply Kd.R_alloc | apply Kd.R_drewN | apply Kd.R_drew)); exact HO626.out))) (below_size (by repeat (first | (with_reducible first | exact HB.out | apply below_alloc | apply pw_below_drewN | apply below_drew1 | refine below_set ?_ GE602.out | refine below_set ?_ GE616.out | refine below_set ?_ GE627.out | refine below_set ?_ GE630.out) | exact HB.out))))
    have n8_ := Aside0.mk (Kd.R_lower (Kd.R_new' (Kd.R_new' (Kd.R_new' (Kd.R_new' (Kd.R_new' (Kd.R_new' ho2 (Kd.R_lt (by (with_reducible repeat (first | apply Kd.R_alloc | apply Kd.R_drewN | apply Kd.R_drew)); exact HO607.out))) (Kd.R_lt (by (with_reducible repeat (first | apply Kd.R_alloc | apply Kd.R_drewN | apply Kd.R_drew)); exact HO610.out))) (Kd.R_lt (by (with_reducible repeat (first | apply Kd.R_alloc | apply Kd.R_drewN | apply Kd.R_drew)); exact HO613.out))) (Kd.R_lt (by (with_reducible repeat (first | apply Kd.R_alloc | apply Kd.R_drewN | apply Kd.R_drew)); exact HO620.out))) (Kd.R_lt (by (with_reducible repeat (first | apply Kd.R_alloc | apply Kd.R_drewN | apply Kd.R_drew)); exact HO623.out))) (Kd.R_lt (by (with_reducible repeat (first | apply Kd.R_alloc | apply Kd.R_drewN | apply Kd.R_drew)); exact HO626.out))) (below_size (by repeat (first | (with_reducible first | exact HB.out | apply below_alloc | apply pw_below_drewN | apply below_drew1 | refine below_set ?_ GE602.out | refine below_set ?_ GE616.out | refine below_set ?_ GE627.out | refine below_set ?_ GE630.out) | exact HB.out))))
    have n9_ := Aside0.mk (blk_below (g := gb602) (o := .cells #[.int .i64 a0_0, .slice A0_1 l0_1.length c0_1, .slice A0_2 l0_2.length c0_2, .slice A0_3 l0_3.length c0_3] 53 (0, 0)) (by (with_reducible repeat (first | refine blk_drewN ?_ _ | refine blk_drew ?_ | refine blk_alloc ?_ _)); exact BK602.out) hb)
    have n10_ := Aside0.mk (blk_below (g := gb616) (o := .cells #[.int .i64 t614, .string t615] 56 (0, 0)) (by (with_reducible repeat (first | refine blk_drewN ?_ _ | refine blk_drew ?_ | refine blk_alloc ?_ _)); exact BK616.out) hb)
    have n11_ := Aside0.mk (blk_below (g := gb627) (o := .cells #[.int .i64 t617, .slice Ao34 t618.length co34, .slice Ao35 t621.length co35, .slice Ao36 t624.length co36] 58 (0, 0)) (by (with_reducible repeat (first | refine blk_drewN ?_ _ | refine blk_drew ?_ | refine blk_alloc ?_ _)); exact BK627.out) hb)
    have n12_ := Aside0.mk (blk_below (g := gb630) (o := .cells #[.int .i64 t628, .string t629] 56 (0, 0)) (by (with_reducible repeat (first | refine blk_drewN ?_ _ | refine blk_drew ?_ | refine blk_alloc ?_ _)); exact BK630.out) hb)
    have n13_ := Aside0.mk (below_step (by repeat (first | (with_reducible first | exact HB.out | apply below_alloc | apply pw_below_drewN | apply below_drew1 | refine below_set ?_ GE602.out | refine below_set ?_ GE616.out | refine below_set ?_ GE627.out | refine below_set ?_ GE630.out) | exact HB.out)) hb)
    clear HO607
    clear HO610
    clear HO613
    clear HO620
    clear HO623
    clear HO626
    clear BK602
    clear BK616
    clear BK627
    clear BK630
    clear HB
    have HO607 := n0_
    have HO610 := n1_
    have HO613 := n2_
    have HO620 := n3_
    have HO623 := n4_
    have HO626 := n5_
    have HO635 := n6_
    have HO638 := n7_
    have HO641 := n8_
    have BK602 := n9_
    have BK616 := n10_
    have BK627 := n11_
    have BK630 := n12_
    have HB := n13_
    clear n0_ n1_ n2_ n3_ n4_ n5_ n6_ n7_ n8_ n9_ n10_ n11_ n12_ n13_
    (try clear hb)
    (try clear hb2)
    (try clear hk)
    (try clear hi)
    (try clear ho0)
    (try clear ho1)
    (try clear ho2)
    obtain ⟨Ao49, co49, eo49⟩ := Kd.R_slice HO635.out
    (first | subst eo49 | (injection eo49 with f1_ f2_ f3_; have f4_ := f1_.symm; have f5_ := f3_.symm; clear f1_ f2_ f3_; subst f4_; subst f5_))
    obtain ⟨Ao50, co50, eo50⟩ := Kd.R_slice HO638.out
    (first | subst eo50 | (injection eo50 with f1_ f2_ f3_; have f4_ := f1_.symm; have f5_ := f3_.symm; clear f1_ f2_ f3_; subst f4_; subst f5_))
    obtain ⟨Ao51, co51, eo51⟩ := Kd.R_slice HO641.out
    (first | subst eo51 | (injection eo51 with f1_ f2_ f3_; have f4_ := f1_.symm; have f5_ := f3_.symm; clear f1_ f2_ f3_; subst f4_; subst f5_))
    refine hK.out _ _ ⟨(blk_cell BK627.out 0).trans rfl, (blk_cell BK627.out 1).trans rfl, (blk_cell BK627.out 2).trans rfl, (blk_cell BK627.out 3).trans rfl, (blk_cell BK602.out 0).trans rfl, (blk_cell BK602.out 1).trans rfl, (blk_cell BK602.out 2).trans rfl, (blk_cell BK602.out 3).trans rfl⟩ (fun hHeld => ?_)
    clear hK K
    refine norm_ (a' := ?_) ?_ ?_
    rotate_left
    ·show Act.put _ (some 25) _ = _
     simp only [Act.put, List.setIfInBounds_toArray, List.set_cons_zero, List.set_cons_succ, i64_w, i32_w]
     rfl
    refine one_ (i := 3) (N := some 26) #[true, true, true, true, false] rfl rfl (by kernel_rfl) (by decide) (fun K hK => ?_)
    refine goes_ Try.func42 (by kernel_rfl) rfl #[.agg #[.int .i64 t617, .slice Ao34 t618.length co34, .slice Ao35 t621.length co35, .slice Ao36 t624.length co36], .agg #[.int .i64 t632, .slice Ao49 t633.length co49, .slice Ao50 t636.length co50, .slice Ao51 t639.length co51]] (by rfl) rfl rfl (by (try simp only [List.map_toArray, List.map_cons, List.map_nil]); first | done | rfl | (simp only [List.length_drop, List.length_take]; rfl)) ?_
    with_reducible refine (laws_eqChunk.calls k t617 _ _ t618 _ _ t621 _ _ t624 t632 _ _ t633 _ _ t636 _ _ t639 true _ ?side1 ?side2 ?side3 ?side4 ?side5 ?side6 ?side7 ?side8 ?side9 ?side10 ?side11 ?side12 A14.out).mono ?_
    (case side1 => repeat (first | exact (Kd.R_reads' HO620.out).2.2 | (with_reducible refine Kd.C_alloc ?_ _) | (with_reducible refine Kd.C_drewN ?_ _) | (with_reducible refine Kd.C_drew ?_)))
    (case side2 => exact (Kd.R_reads' HO620.out).2.1)
    (case side3 => repeat (first | exact (Kd.R_reads' HO623.out).2.2 | (with_reducible refine Kd.C_alloc ?_ _) | (with_reducible refine Kd.C_drewN ?_ _) | (with_reducible refine Kd.C_drew ?_)))
    (case side4 => exact (Kd.R_reads' HO623.out).2.1)
    (case side5 => repeat (first | exact (Kd.R_reads' HO626.out).2.2 | (with_reducible refine Kd.C_alloc ?_ _) | (with_reducible refine Kd.C_drewN ?_ _) | (with_reducible refine Kd.C_drew ?_)))
    (case side6 => exact (Kd.R_reads' HO626.out).2.1)
    (case side7 => repeat (first | exact (Kd.R_reads' HO635.out).2.2 | (with_reducible refine Kd.C_alloc ?_ _) | (with_reducible refine Kd.C_drewN ?_ _) | (with_reducible refine Kd.C_drew ?_)))
    (case side8 => exact (Kd.R_reads' HO635.out).2.1)
    (case side9 => repeat (first | exact (Kd.R_reads' HO638.out).2.2 | (with_reducible refine Kd.C_alloc ?_ _) | (with_reducible refine Kd.C_drewN ?_ _) | (with_reducible refine Kd.C_drew ?_)))
    (case side10 => exact (Kd.R_reads' HO638.out).2.1)
    (case side11 => repeat (first | exact (Kd.R_reads' HO641.out).2.2 | (with_reducible refine Kd.C_alloc ?_ _) | (with_reducible refine Kd.C_drewN ?_ _) | (with_reducible refine Kd.C_drew ?_)))
    (case side12 => exact (Kd.R_reads' HO641.out).2.1)
    rintro e w52 ⟨rfl, hb⟩
    refine ⟨_, rfl, ?_⟩
    have n0_ := Aside0.mk (Kd.R_below (by (with_reducible repeat (first | apply Kd.R_alloc | apply Kd.R_drewN | apply Kd.R_drew)); exact HO607.out) hb)
    have n1_ := Aside0.mk (Kd.R_below (by (with_reducible repeat (first | apply Kd.R_alloc | apply Kd.R_drewN | apply Kd.R_drew)); exact HO610.out) hb)
    have n2_ := Aside0.mk (Kd.R_below (by (with_reducible repeat (first | apply Kd.R_alloc | apply Kd.R_drewN | apply Kd.R_drew)); exact HO613.out) hb)
    have n3_ := Aside0.mk (Kd.R_below (by (with_reducible repeat (first | apply Kd.R_alloc | apply Kd.R_drewN | apply Kd.R_drew)); exact HO620.out) hb)
    have n4_ := Aside0.mk (Kd.R_below (by (with_reducible repeat (first | apply Kd.R_alloc | apply Kd.R_drewN | apply Kd.R_drew)); exact HO623.out) hb)
    have n5_ := Aside0.mk (Kd.R_below (by (with_reducible repeat (first | apply Kd.R_alloc | apply Kd.R_drewN | apply Kd.R_drew)); exact HO626.out) hb)
    have n6_ := Aside0.mk (Kd.R_below (by (with_reducible repeat (first | apply Kd.R_alloc | apply Kd.R_drewN | apply Kd.R_drew)); exact HO635.out) hb)
    have n7_ := Aside0.mk (Kd.R_below (by (with_reducible repeat (first | apply Kd.R_alloc | apply Kd.R_drewN | apply Kd.R_drew)); exact HO638.out) hb)
    have n8_ := Aside0.mk (Kd.R_below (by (with_reducible repeat (first | apply Kd.R_alloc | apply Kd.R_drewN | apply Kd.R_drew)); exact HO641.out) hb)
    have n9_ := Aside0.mk (blk_below (g := gb602) (o := .cells #[.int .i64 a0_0, .slice A0_1 l0_1.length c0_1, .slice A0_2 l0_2.length c0_2, .slice A0_3 l0_3.length c0_3] 53 (0, 0)) (by (with_reducible repeat (first | refine blk_drewN ?_ _ | refine blk_drew ?_ | refine blk_alloc ?_ _)); exact BK602.out) hb)
    have n10_ := Aside0.mk (blk_below (g := gb616) (o := .cells #[.int .i64 t614, .string t615] 56 (0, 0)) (by (with_reducible repeat (first | refine blk_drewN ?_ _ | refine blk_drew ?_ | refine blk_alloc ?_ _)); exact BK616.out) hb)
    have n11_ := Aside0.mk (blk_below (g := gb627) (o := .cells #[.int .i64 t617, .slice Ao34 t618.length co34, .slice Ao35 t621.length co35, .slice Ao36 t624.length co36] 58 (0, 0)) (by (with_reducible repeat (first | refine blk_drewN ?_ _ | refine blk_drew ?_ | refine blk_alloc ?_ _)); exact BK627.out) hb)
    have n12_ := Aside0.mk (blk_below (g := gb630) (o := .cells #[.int .i64 t628, .string t629] 56 (0, 0)) (by (with_reducible repeat (first | refine blk_drewN ?_ _ | refine blk_drew ?_ | refine blk_alloc ?_ _)); exact BK630.out) hb)
    have n13_ := Aside0.mk (below_step (by repeat (first | (with_reducible first | exact HB.out | apply below_alloc | apply pw_below_drewN | apply below_drew1 | refine below_set ?_ GE602.out | refine below_set ?_ GE616.out | refine below_set ?_ GE627.out | refine below_set ?_ GE630.out) | exact HB.out)) hb)
    clear HO607
    clear HO610
    clear HO613
    clear HO620
    clear HO623
    clear HO626
    clear HO635
    clear HO638
    clear HO641
    clear BK602
    clear BK616
    clear BK627
    clear BK630
    clear HB
    have HO607 := n0_
    have HO610 := n1_
    have HO613 := n2_
    have HO620 := n3_
    have HO623 := n4_
    have HO626 := n5_
    have HO635 := n6_
    have HO638 := n7_
    have HO641 := n8_
    have BK602 := n9_
    have BK616 := n10_
    have BK627 := n11_
    have BK630 := n12_
    have HB := n13_
    clear n0_ n1_ n2_ n3_ n4_ n5_ n6_ n7_ n8_ n9_ n10_ n11_ n12_ n13_
    (try clear hb)
    (try clear hb2)
    (try clear hk)
    (try clear hi)
    refine hK.out _ _ ⟨(blk_cell BK627.out 0).trans rfl, (blk_cell BK627.out 1).trans rfl, (blk_cell BK627.out 2).trans rfl, (blk_cell BK627.out 3).trans rfl, (blk_cell BK602.out 0).trans rfl, (blk_cell BK602.out 1).trans rfl, (blk_cell BK602.out 2).trans rfl, (blk_cell BK602.out 3).trans rfl⟩ (fun hHeld => ?_)
    clear hK K
    refine norm_ (a' := ?_) ?_ ?_
    rotate_left
    ·show Act.put _ (some 26) _ = _
     simp only [Act.put, List.setIfInBounds_toArray, List.set_cons_zero, List.set_cons_succ, i64_w, i32_w]
     rfl
    refine pure_ (i := 4) (N := some 27) (v := ?_) (a' := ?_) #[true, true, true, true, true] rfl rfl (by kernel_rfl) (fun _ _ _ h => h) (Or.inl ⟨by rfl, ?_⟩) ?_ ?_
    rotate_left
    ·intro w'
     go_simp
     with_reducible rfl
    rotate_left
    ·simp only [Act.put, List.setIfInBounds_toArray, List.set_cons_zero, List.set_cons_succ, i64_w, i32_w]
     rfl
    refine done_ (by kernel_rfl) ?_
    try go_wp2
    go_ret
    exact ⟨by first | rfl | (simp [errW_none, errW_some] <;> rfl) | (simp [*, errW_none, errW_some] <;> rfl), by repeat (first | (with_reducible first | exact HB.out | apply below_alloc | apply pw_below_drewN | apply below_drew1 | refine below_set ?_ GE602.out | refine below_set ?_ GE616.out | refine below_set ?_ GE627.out | refine below_set ?_ GE630.out) | exact HB.out)⟩
   ·replace c15 := Bool.eq_false_iff.mpr c15
    subst c15
    have H1 : (some false) = some r := by rw [if_neg (show ¬ (false = true) by decide)] at H; exact H
    clear H
    have H := H1
    clear H1
    exact absurd ((Option.some.inj H).trans HLAW.out) (by decide)
  ·replace c12 := Bool.eq_false_iff.mpr c12
   subst c12
   have H1 : (some false) = some r := by rw [if_neg (show ¬ (false = true) by decide)] at H; exact H
   clear H
   have H := H1
   clear H1
   exact absurd ((Option.some.inj H).trans HLAW.out) (by decide)
end Go.Proofs.Ytjngmhngedecdaa.P
end
section
set_option linter.unusedVariables false
namespace Go.Proofs.Ytjngmhngedecdaa.P
open Go.RowKit Go.Proofs.YtjngmhngedecdaaW.PrintWords Go.Proofs.YtjngmhngedecdaaW.PrintLast
namespace UFnExactClashText
def G53 (x : S53) : Prop := (((Lit.int .i64 (x.f0)).wf = true) ∧ (((x.f1).length ≤ 9223372036854775807 ∧ ∀ y ∈ (x.f1), y.size ≤ 9223372036854775807) ∧ (((x.f2).length ≤ 9223372036854775807 ∧ ∀ y ∈ (x.f2), y.size ≤ 9223372036854775807) ∧ ((x.f3).length ≤ 9223372036854775807 ∧ ∀ y ∈ (x.f3), y.size ≤ 9223372036854775807))))
def Pure : Prop := ∀ (a0_0 : Int) (l0_1 : List ByteArray) (l0_2 : List ByteArray) (l0_3 : List ByteArray), ((Lit.int .i64 a0_0).wf = true) → (l0_1.length ≤ 9223372036854775807 ∧ ∀ x ∈ l0_1, x.size ≤ 9223372036854775807) → (l0_2.length ≤ 9223372036854775807 ∧ ∀ x ∈ l0_2, x.size ≤ 9223372036854775807) → (l0_3.length ≤ 9223372036854775807 ∧ ∀ x ∈ l0_3, x.size ≤ 9223372036854775807) → ∃ k, laws_FnExactClashText.f k a0_0 l0_1 l0_2 l0_3 = some true
end UFnExactClashText
end Go.Proofs.Ytjngmhngedecdaa.P
end
section
set_option linter.unusedVariables false
set_option linter.unusedSimpArgs false
namespace Go.Proofs.Ytjngmhngedecdaa.P
open Go.RowKit Go.Proofs.YtjngmhngedecdaaW.PrintWords Go.Proofs.YtjngmhngedecdaaW.PrintLast
theorem wid {x : Int} (h0 : -9223372036854775808 ≤ x) (h1 : x ≤ 9223372036854775807) : wrap64 x = x := by
  unfold wrap64
  omega
theorem wsucc {i n : Nat} (h : i < n) (hn : n ≤ 9223372036854775807) : wrap64 ((i : Int) + 1) = ((i + 1 : Nat) : Int) := by
  rw [wid (by omega) (by omega)]
  rfl
theorem Ev_if {α : Type} {c : Prop} [Decidable c] {a b : Nat → Option α} {r : α} (hp : c → Ev a r) (hn : ¬ c → Ev b r) : Ev (fun k => if c then a k else b k) r := by
  by_cases h : c
  · exact (hp h).congr (fun k => if_pos h)
  · exact (hn h).congr (fun k => if_neg h)
theorem Ev_pos {α : Type} {c : Prop} [Decidable c] {a b : Nat → Option α} {r : α} (hc : c) (h : Ev a r) : Ev (fun k => if c then a k else b k) r := h.congr (fun k => if_pos hc)
theorem Ev_neg {α : Type} {c : Prop} [Decidable c] {a b : Nat → Option α} {r : α} (hc : ¬ c) (h : Ev b r) : Ev (fun k => if c then a k else b k) r := h.congr (fun k => if_neg hc)
theorem Ev_call {α β : Type} {g : Nat → Option α} {f : Nat → α → Option β} {a : α} {r : β} (h : Ev g a) (k : Ev (fun n => f n a) r) : Ev (fun n => (g n).bind (f n)) r := Ev.bind h k
theorem Ev_const {α β : Type} {g : Option α} {f : Nat → α → Option β} {a : α} {r : β} (h : g = some a) (k : Ev (fun n => f n a) r) : Ev (fun n => g.bind (f n)) r :=
  Ev.bind (g := fun _ => g) ⟨0, fun _ _ => h⟩ k
theorem Ev_eq {α : Type} {g : Nat → Option α} {r r' : α} (h : Ev g r) (e : r = r') : Ev g r' := e ▸ h
theorem Ev_val {α : Type} {r r' : α} (h : r = r') : Ev (fun _ => some r) r' := ⟨0, fun _ _ => by rw [h]⟩
theorem rd_nat {α : Type} (d : α) {xs : List α} {i : Nat} (h : i < xs.length) : rdOf d xs (i : Int) = xs[i] := by
  unfold rdOf
  rw [Int.toNat_natCast, List.getD_eq_getElem?_getD, List.getElem?_eq_getElem h]
  rfl
theorem bt_nat {s : ByteArray} {i : Nat} (h : i < s.data.toList.length) : bt s (i : Int) = ((s.data.toList[i]).toNat : Int) := by
  have h' : i < s.size := by simpa using h
  unfold bt
  rw [dif_pos (by rw [Int.toNat_natCast]; exact h')]
  simp [ByteArray.getElem_eq_getElem_data]
theorem data_eq {a b : ByteArray} : a.toList = b.toList ↔ a = b := by
  rw [ByteArray.toList_eq, ByteArray.toList_eq]
  constructor
  · intro h
    cases a
    cases b
    simpa using h
  · rintro rfl
    rfl
theorem toList_nil {a : ByteArray} : a.toList = ([] : List UInt8) ↔ a.data.toList = [] := by rw [ByteArray.toList_eq]
theorem size_data (a : ByteArray) : a.data.toList.length = a.size := by simp
theorem dec_same {α : Type} [DecidableEq α] {x y : α} {l m : List α} (h : x = y) : decide (l = m) = decide (x :: l = y :: m) := by
  subst h
  simp
theorem dec_diff {α : Type} [DecidableEq α] {x y : α} {l m : List α} (h : x ≠ y) : false = decide (x :: l = y :: m) := by simp [h]
theorem drop_at {α : Type} {xs : List α} {i : Nat} (h : i < xs.length) : xs.drop i = xs[i] :: xs.drop (i + 1) := List.drop_eq_getElem_cons h
def total : List ByteArray → Nat
  | [] => 0
  | x :: l => x.size + total l
end Go.Proofs.Ytjngmhngedecdaa.P
end
section
namespace Go.Proofs.Ytjngmhngedecdaa.P
open Go.RowKit Go.Proofs.YtjngmhngedecdaaW.PrintWords Go.Proofs.YtjngmhngedecdaaW.PrintLast Go.Proofs.YtjngmhngedecdaaW.PrintMore
attribute [local go_sem] max2_int min2_int max_two min_two max_three min_three max_four min_four
end Go.Proofs.Ytjngmhngedecdaa.P
end
section
namespace Go.Proofs.Ytjngmhngedecdaa.P
open Go.RowKit Go.Proofs.YtjngmhngedecdaaW.PrintWords Go.Proofs.YtjngmhngedecdaaW.PrintLast Go.Proofs.YtjngmhngedecdaaW.PrintMore
attribute [local go_sem] max2_int min2_int max_two min_two max_three min_three max_four min_four
end Go.Proofs.Ytjngmhngedecdaa.P
end
section
namespace Go.Proofs.Ytjngmhngedecdaa.P
open Go.RowKit Go.Proofs.YtjngmhngedecdaaW.PrintWords Go.Proofs.YtjngmhngedecdaaW.PrintLast Go.Proofs.YtjngmhngedecdaaW.PrintMore
attribute [local go_sem] max2_int min2_int max_two min_two max_three min_three max_four min_four
end Go.Proofs.Ytjngmhngedecdaa.P
end
section
set_option linter.unusedVariables false
set_option linter.unusedSimpArgs false
namespace Go.Proofs.Ytjngmhngedecdaa.P
open Go.RowKit Go.Proofs.YtjngmhngedecdaaW.PrintWords Go.Proofs.YtjngmhngedecdaaW.PrintLast
theorem sz_loop (xs : List ByteArray) (hx : ∀ x ∈ xs, x.size ≤ 9223372036854775807) (hl : xs.length ≤ 9223372036854775807) : ∀ (d i : Nat) (n : Int), xs.length - i = d → i ≤ xs.length → 0 ≤ n → n ≤ 1048576 →
    ∃ r, Ev (fun k => laws_szStringS.l0 k xs n (i : Int)) r ∧ (r < 0 ∨ (0 ≤ r ∧ r ≤ n ∧ (total (xs.drop i) : Int) = n - r)) := by
  intro d
  induction d with
  | zero =>
    intro i n hd hi h0 h1
    have : i = xs.length := by omega
    subst this
    refine ⟨n, Ev.step (fun k => by rw [laws_szStringS.l0]) (Ev_neg (by omega) (Ev.now _)), .inr ⟨h0, Int.le_refl _, ?_⟩⟩
    rw [List.drop_length]
    simp [total]
  | succ d ih =>
    intro i n hd hi h0 h1
    have hlt : i < xs.length := by omega
    have hs := hx xs[i] (List.getElem_mem hlt)
    by_cases hc : n - (xs[i].size : Int) < 0
    · refine ⟨-1, Ev.step (fun k => by rw [laws_szStringS.l0]) (Ev_pos (by omega) (Ev_pos (by omega) ?_)), .inl (by omega)⟩
      rw [rd_nat _ hlt, wid (by omega) (by omega)]
      exact Ev_pos hc (Ev.now _)
    · obtain ⟨r, hr, hp⟩ := ih (i + 1) (n - (xs[i].size : Int)) (by omega) (by omega) (by omega) (by omega)
      refine ⟨r, Ev.step (fun k => by rw [laws_szStringS.l0]) (Ev_pos (by omega) (Ev_pos (by omega) ?_)), ?_⟩
      · rw [rd_nat _ hlt, wid (by omega) (by omega), wsucc hlt hl]
        exact Ev_neg hc hr
      · rcases hp with hp | ⟨h2, h3, h4⟩
        · exact .inl hp
        · refine .inr ⟨h2, by omega, ?_⟩
          rw [drop_at hlt]
          simp only [total]
          omega
theorem sz_tells (xs : List ByteArray) (hg : xs.length ≤ 9223372036854775807 ∧ ∀ x ∈ xs, x.size ≤ 9223372036854775807) (n : Int) (h0 : 0 ≤ n) (h1 : n ≤ 1048576) :
    ∃ r, Ev (fun k => laws_szStringS.f k xs n) r ∧ (r < 0 ∨ (0 ≤ r ∧ r ≤ n ∧ (xs.length : Int) + (total xs : Int) = n - r)) := by
  by_cases hc : n - (xs.length : Int) < 0
  · refine ⟨-1, ?_, .inl (by omega)⟩
    unfold laws_szStringS.f
    rw [wid (by omega) (by omega)]
    exact Ev_pos hc (Ev.now _)
  · obtain ⟨r, hr, hp⟩ := sz_loop xs hg.2 hg.1 _ 0 (n - (xs.length : Int)) rfl (by omega) (by omega) (by omega)
    refine ⟨r, ?_, ?_⟩
    · unfold laws_szStringS.f
      rw [wid (by omega) (by omega)]
      exact Ev_neg hc hr
    · rcases hp with hp | ⟨h2, h3, h4⟩
      · exact .inl hp
      · rw [List.drop_zero] at h4
        exact .inr ⟨h2, by omega, by omega⟩
theorem to_loop (xs : List ByteArray) (hl : xs.length ≤ 9223372036854775807) : ∀ (d i : Nat) (ys : List ByteArray), xs.length - i = d → i ≤ xs.length → ys.length = xs.length →
    Ev (fun k => laws_toStringS.l0 k xs ys (i : Int)) (ys.take i ++ xs.drop i) := by
  intro d
  induction d with
  | zero =>
    intro i ys hd hi hy
    have : i = xs.length := by omega
    subst this
    refine Ev.step (fun k => by rw [laws_toStringS.l0]) (Ev_neg (by omega) (Ev_val ?_))
    rw [List.drop_length, List.append_nil, ← hy, List.take_length]
  | succ d ih =>
    intro i ys hd hi hy
    have hlt : i < xs.length := by omega
    refine Ev.step (fun k => by rw [laws_toStringS.l0]) (Ev_pos (by omega) (Ev_pos (by omega) (Ev_pos (by omega) ?_)))
    rw [rd_nat _ hlt, wsucc hlt hl, Int.toNat_natCast]
    have h := ih (i + 1) (ys.set i xs[i]) (by omega) (by omega) (by rw [List.length_set]; exact hy)
    refine Ev_eq h ?_
    rw [drop_at hlt, List.take_succ_eq_append_getElem (by rw [List.length_set]; omega), List.getElem_set_self, List.take_set_of_le (by omega), List.append_assoc]
    rfl
theorem to_tells (xs : List ByteArray) (hl : xs.length ≤ 17592186044416) : Ev (fun k => laws_toStringS.f k xs) xs := by
  unfold laws_toStringS.f
  refine Ev_pos (by omega) (Ev_pos (by rw [Int.toNat_natCast]; exact hl) ?_)
  have h := to_loop xs (by omega) _ 0 (List.replicate ((xs.length : Int) : Int).toNat (⟨#[]⟩ : ByteArray)) rfl (by omega) (by simp)
  exact Ev_eq h (by simp)
theorem eq_loop (xs : List ByteArray) (hl : xs.length ≤ 9223372036854775807) : ∀ (d i : Nat), xs.length - i = d → i ≤ xs.length → Ev (fun k => laws_eqStringS.l0 k xs xs (i : Int)) true := by
  intro d
  induction d with
  | zero => intro i hd hi; exact Ev.step (fun k => by rw [laws_eqStringS.l0]) (Ev_neg (by omega) (Ev.now _))
  | succ d ih =>
    intro i hd hi
    have hlt : i < xs.length := by omega
    refine Ev.step (fun k => by rw [laws_eqStringS.l0]) (Ev_pos (by omega) (Ev_pos (by omega) (Ev_pos (by omega) (Ev_pos rfl ?_))))
    rw [wsucc hlt hl]
    exact ih (i + 1) (by omega) (by omega)
theorem eq_tells (xs : List ByteArray) (hl : xs.length ≤ 9223372036854775807) : Ev (fun k => laws_eqStringS.f k xs xs) true := by
  unfold laws_eqStringS.f
  exact Ev_pos rfl (eq_loop xs hl _ 0 rfl (by omega))
theorem ssame_loop (xs ys : List ByteArray) (hl : xs.length ≤ 9223372036854775807) (he : xs.length = ys.length) : ∀ (d i : Nat), xs.length - i = d → i ≤ xs.length → Ev (fun k => spec_SameLines.l0 k xs ys (i : Int)) (decide (xs.drop i = ys.drop i)) := by
  intro d
  induction d with
  | zero =>
    intro i hd hi
    refine Ev.step (fun k => by rw [spec_SameLines.l0]) (Ev_neg (by omega) (Ev_val ?_))
    rw [List.drop_eq_nil_of_le (by omega), List.drop_eq_nil_of_le (by omega)]
    simp
  | succ d ih =>
    intro i hd hi
    have hlt : i < xs.length := by omega
    have hlt2 : i < ys.length := by omega
    refine Ev.step (fun k => by rw [spec_SameLines.l0]) (Ev_pos (by omega) (Ev_pos (by omega) (Ev_pos (by omega) ?_)))
    rw [rd_nat _ hlt, rd_nat _ hlt2, wsucc hlt hl, drop_at hlt, drop_at hlt2]
    refine Ev_if (fun h => Ev_eq (ih (i + 1) (by omega) (by omega)) ?_) (fun h => Ev_val ?_)
    · exact dec_same (data_eq.1 h)
    · exact dec_diff (fun e => h (data_eq.2 e))
theorem ssame_tells (xs ys : List ByteArray) (hl : xs.length ≤ 9223372036854775807) : Ev (fun k => spec_SameLines.f k xs ys) (decide (xs = ys)) := by
  unfold spec_SameLines.f
  refine Ev_if (fun h => ?_) (fun h => Ev_val ?_)
  · exact ssame_loop xs ys hl (by omega) _ 0 rfl (by omega)
  · have : xs ≠ ys := fun e => h (by rw [e])
    simp [this]
theorem isame_loop (xs ys : List ByteArray) (hl : xs.length ≤ 9223372036854775807) (he : xs.length = ys.length) : ∀ (d i : Nat), xs.length - i = d → i ≤ xs.length → Ev (fun k => slices_Equal_string_string.l0 k xs ys (xs.length : Int) (i : Int)) (decide (xs.drop i = ys.drop i)) := by
  intro d
  induction d with
  | zero =>
    intro i hd hi
    refine Ev.step (fun k => by rw [slices_Equal_string_string.l0]) (Ev_neg (by omega) (Ev_val ?_))
    rw [List.drop_eq_nil_of_le (by omega), List.drop_eq_nil_of_le (by omega)]
    simp
  | succ d ih =>
    intro i hd hi
    have hlt : i < xs.length := by omega
    have hlt2 : i < ys.length := by omega
    refine Ev.step (fun k => by rw [slices_Equal_string_string.l0]) (Ev_pos (by omega) (Ev_pos (by omega) (Ev_pos (by omega) (Ev_pos (by omega) ?_))))
    rw [rd_nat _ hlt, rd_nat _ hlt2, wsucc hlt hl, drop_at hlt, drop_at hlt2]
    refine Ev_if (fun h => Ev_eq (ih (i + 1) (by omega) (by omega)) ?_) (fun h => Ev_val ?_)
    · exact dec_same (data_eq.1 h)
    · exact dec_diff (fun e => h (data_eq.2 e))
theorem isame_tells (xs ys : List ByteArray) (hl : xs.length ≤ 9223372036854775807) : Ev (fun k => slices_Equal_string_string.f k xs ys) (decide (xs = ys)) := by
  unfold slices_Equal_string_string.f
  refine Ev_if (fun h => ?_) (fun h => Ev_val ?_)
  · exact isame_loop xs ys hl (by omega) _ 0 rfl (by omega)
  · have : xs ≠ ys := fun e => h (by rw [e])
    simp [this]
end Go.Proofs.Ytjngmhngedecdaa.P
end
section
set_option linter.unusedVariables false
set_option linter.unusedSimpArgs false
namespace Go.Proofs.Ytjngmhngedecdaa.P
open Go.RowKit
theorem index_low (l : List UInt8) (c : UInt8) : -1 ≤ Lib.indexByte l c := by
  induction l with
  | nil => simp [Lib.indexByte]
  | cons b l ih =>
    unfold Lib.indexByte
    split
    · omega
    · split
      · omega
      · omega
theorem index_mem (l : List UInt8) (c : UInt8) : Lib.indexByte l c ≥ 0 ↔ c ∈ l := by
  induction l with
  | nil => simp [Lib.indexByte]
  | cons b l ih =>
    have hl := index_low l c
    unfold Lib.indexByte
    by_cases h : b = c
    · subst h
      simp
    · have h2 : (b == c) = false := by simpa using h
      rw [h2, List.mem_cons]
      have h3 : ¬ c = b := fun e => h e.symm
      by_cases h4 : Lib.indexByte l c = -1
      · have h5 : (Lib.indexByte l c == -1) = true := by simpa using h4
        rw [h5]
        have : ¬ c ∈ l := fun hm => by have := ih.2 hm; omega
        simp [h3, this]
      · have h5 : (Lib.indexByte l c == -1) = false := by simpa using h4
        rw [h5]
        have : c ∈ l := ih.1 (by omega)
        simp [this]
        omega
def lineEnd : List UInt8 → Nat
  | [] => 0
  | c :: l => if c = 10 then 0 else lineEnd l + 1
theorem lineEnd_early (l : List UInt8) : lineEnd l < l.length - 1 ↔ 10 ∈ l.dropLast := by
  induction l with
  | nil => simp [lineEnd]
  | cons c l ih =>
    cases l with
    | nil =>
      simp [lineEnd]
    | cons d l =>
      unfold lineEnd
      by_cases h : c = 10
      · subst h
        simp
      · rw [if_neg h, List.dropLast_cons_cons, List.mem_cons]
        have h2 : ¬ (10 : UInt8) = c := fun e => h e.symm
        simp only [h2, false_or]
        rw [← ih]
        simp only [List.length_cons]
        omega
theorem suffix_last (l : List UInt8) : Lib.hasSuffix l [10] = true ↔ ∃ r, l = r ++ [10] := by
  unfold Lib.hasSuffix
  rw [List.isSuffixOf_iff_suffix]
  constructor
  · rintro ⟨r, h⟩
    exact ⟨r, h.symm⟩
  · rintro ⟨r, h⟩
    exact ⟨r, h.symm⟩
end Go.Proofs.Ytjngmhngedecdaa.P
end
section
set_option linter.unusedVariables false
set_option linter.unusedSimpArgs false
namespace Go.Proofs.Ytjngmhngedecdaa.P
open Go.RowKit Go.Proofs.YtjngmhngedecdaaW.PrintWords Go.Proofs.YtjngmhngedecdaaW.PrintLast
theorem ended_loop (s : ByteArray) (hs : s.size ≤ 9223372036854775807) : ∀ (d i : Nat), s.size - i = d → i ≤ s.size → Ev (fun k => spec_l1Ended.l0 k s (i : Int)) (((i + lineEnd (s.data.toList.drop i) : Nat)) : Int) := by
  intro d
  induction d with
  | zero =>
    intro i hd hi
    refine Ev.step (fun k => by rw [spec_l1Ended.l0]) (Ev_neg (by omega) (Ev_val ?_))
    rw [List.drop_eq_nil_of_le (by rw [size_data]; omega)]
    simp only [lineEnd]
    omega
  | succ d ih =>
    intro i hd hi
    have hlt : i < s.data.toList.length := by rw [size_data]; omega
    refine Ev.step (fun k => by rw [spec_l1Ended.l0]) (Ev_pos (by omega) (Ev_pos (by omega) ?_))
    rw [bt_nat hlt, drop_at hlt, wsucc (n := s.size) (by omega) hs]
    refine Ev_if (fun h => Ev_val ?_) (fun h => Ev_eq (ih (i + 1) (by omega) (by omega)) ?_)
    · have : s.data.toList[i] = 10 := by
        apply UInt8.toNat_inj.1
        have h2 : s.data.toList[i].toNat = 10 := by omega
        exact h2
      rw [lineEnd, if_pos this]
      rfl
    · have : ¬ s.data.toList[i] = 10 := fun e => h (by rw [e]; rfl)
      rw [lineEnd, if_neg this]
      omega
theorem ended_tells (s : ByteArray) (hs : s.size ≤ 9223372036854775807) : Ev (fun k => spec_l1Ended.f k s) ((lineEnd s.data.toList : Nat) : Int) := by
  unfold spec_l1Ended.f
  have h := ended_loop s hs _ 0 rfl (by omega)
  rw [List.drop_zero, Nat.zero_add] at h
  exact h
theorem isLine_tells (s : ByteArray) (hs : s.size ≤ 9223372036854775807) : impl_isLine.f s = some (decide (¬ (s.data.toList = [] ∨ 10 ∈ s.data.toList.dropLast))) := by
  unfold impl_isLine.f
  by_cases h : s.data.toList = []
  · rw [if_pos (toList_nil.2 h)]
    simp [h]
  · have h0 : s.data.toList.length ≠ 0 := fun e => h (List.length_eq_zero_iff.1 e)
    rw [size_data] at h0
    rw [if_neg (fun e => h (toList_nil.1 e)), wid (by omega) (by omega), if_pos (by omega), if_pos (by omega)]
    have he : (s.extract 0 ((s.size : Int) - 1).toNat).data.toList = s.data.toList.dropLast := by
      rw [← ByteArray.toList_eq, Lib.extract_toList, List.drop_zero, List.dropLast_eq_take, size_data]
      congr 1
      omega
    unfold strings_Contains.f
    simp only [Option.bind_some]
    rw [he]
    congr 1
    have hi := index_mem s.data.toList.dropLast 10
    by_cases hm : 10 ∈ s.data.toList.dropLast
    · have : (0 : Int) ≤ Lib.indexByte s.data.toList.dropLast 10 := hi.2 hm
      simp [hm, this]
    · have : ¬ (0 : Int) ≤ Lib.indexByte s.data.toList.dropLast 10 := fun e => hm (hi.1 e)
      simp only [this, hm, h]
      simp
theorem isWhole_tells (s : ByteArray) (hs : s.size ≤ 9223372036854775807) : impl_isWhole.f s = some (Lib.hasSuffix s.data.toList [10]) := by
  unfold impl_isWhole.f strings_HasSuffix.f
  rw [if_pos hs]
  rfl
end Go.Proofs.Ytjngmhngedecdaa.P
end
section
namespace Go.Proofs.Ytjngmhngedecdaa.P
open Go.RowKit Go.Proofs.YtjngmhngedecdaaW.PrintWords Go.Proofs.YtjngmhngedecdaaW.PrintLast Go.Proofs.YtjngmhngedecdaaW.PrintMore
attribute [local go_sem] max2_int min2_int max_two min_two max_three min_three max_four min_four
end Go.Proofs.Ytjngmhngedecdaa.P
end
section
namespace Go.Proofs.Ytjngmhngedecdaa.P
open Go.RowKit Go.Proofs.YtjngmhngedecdaaW.PrintWords Go.Proofs.YtjngmhngedecdaaW.PrintLast Go.Proofs.YtjngmhngedecdaaW.PrintMore
attribute [local go_sem] max2_int min2_int max_two min_two max_three min_three max_four min_four
end Go.Proofs.Ytjngmhngedecdaa.P
end
section
namespace Go.Proofs.Ytjngmhngedecdaa.P
open Go.RowKit Go.Proofs.YtjngmhngedecdaaW.PrintWords Go.Proofs.YtjngmhngedecdaaW.PrintLast Go.Proofs.YtjngmhngedecdaaW.PrintMore
attribute [local go_sem] max2_int min2_int max_two min_two max_three min_three max_four min_four
end Go.Proofs.Ytjngmhngedecdaa.P
end
section
set_option linter.unusedVariables false
set_option linter.unusedSimpArgs false
namespace Go.Proofs.Ytjngmhngedecdaa.P
open Go.RowKit Go.Proofs.YtjngmhngedecdaaW.PrintWords Go.Proofs.YtjngmhngedecdaaW.PrintLast
def Small (xs : List ByteArray) : Prop := (∀ x ∈ xs, x.size ≤ 9223372036854775807) ∧ xs.length ≤ 1048576 ∧ total xs ≤ 1048576
end Go.Proofs.Ytjngmhngedecdaa.P
end
section
set_option linter.unusedVariables false
set_option linter.unusedSimpArgs false
namespace Go.Proofs.Ytjngmhngedecdaa.P
open Go.RowKit Go.Proofs.YtjngmhngedecdaaW.PrintWords Go.Proofs.YtjngmhngedecdaaW.PrintLast
theorem Small.to {xs : List ByteArray} (h : Small xs) : Ev (fun k => laws_toStringS.f k xs) xs := to_tells xs (by have := h.2.1; omega)
theorem Small.eq {xs : List ByteArray} (h : Small xs) : Ev (fun k => laws_eqStringS.f k xs xs) true := eq_tells xs (by have := h.2.1; omega)
end Go.Proofs.Ytjngmhngedecdaa.P
end
section
namespace Go.Proofs.Ytjngmhngedecdaa.P
end Go.Proofs.Ytjngmhngedecdaa.P
end
section
namespace Go.Proofs.Ytjngmhngedecdaa.P
open Go.RowKit Go.Proofs.YtjngmhngedecdaaW.PrintWords Go.Proofs.YtjngmhngedecdaaW.PrintLast Go.Proofs.YtjngmhngedecdaaW.PrintMore
attribute [local go_sem] max2_int min2_int max_two min_two max_three min_three max_four min_four
end Go.Proofs.Ytjngmhngedecdaa.P
end
section
namespace Go.Proofs.Ytjngmhngedecdaa.P
open Go.RowKit Go.Proofs.YtjngmhngedecdaaW.PrintWords Go.Proofs.YtjngmhngedecdaaW.PrintLast Go.Proofs.YtjngmhngedecdaaW.PrintMore
attribute [local go_sem] max2_int min2_int max_two min_two max_three min_three max_four min_four
end Go.Proofs.Ytjngmhngedecdaa.P
end
section
set_option linter.unusedVariables false
namespace Go.Proofs.Ytjngmhngedecdaa.P
end Go.Proofs.Ytjngmhngedecdaa.P
end
section
set_option linter.unusedVariables false
namespace Go.Proofs.Ytjngmhngedecdaa.P
def GL (l : List ByteArray) : Prop := l.length ≤ 9223372036854775807 ∧ ∀ x ∈ l, x.size ≤ 9223372036854775807
def lw (l : List ByteArray) : Nat := l.length + total l
theorem lw_small {x : List ByteArray} (h : ∀ a ∈ x, a.size ≤ 9223372036854775807) (hw : lw x ≤ 1048576) : Small x := ⟨h, by unfold lw at hw; omega, by unfold lw at hw; omega⟩
end Go.Proofs.Ytjngmhngedecdaa.P
end
section
namespace Go.Proofs.Ytjngmhngedecdaa.P
open Go.RowKit Go.Proofs.YtjngmhngedecdaaW.PrintWords Go.Proofs.YtjngmhngedecdaaW.PrintLast Go.Proofs.YtjngmhngedecdaaW.PrintMore
attribute [local go_sem] max2_int min2_int max_two min_two max_three min_three max_four min_four
end Go.Proofs.Ytjngmhngedecdaa.P
end
section
namespace Go.Proofs.Ytjngmhngedecdaa.P
open Go.RowKit Go.Proofs.YtjngmhngedecdaaW.PrintWords Go.Proofs.YtjngmhngedecdaaW.PrintLast Go.Proofs.YtjngmhngedecdaaW.PrintMore
attribute [local go_sem] max2_int min2_int max_two min_two max_three min_three max_four min_four
end Go.Proofs.Ytjngmhngedecdaa.P
end
section
namespace Go.Proofs.Ytjngmhngedecdaa.P
open Go.RowKit Go.Proofs.YtjngmhngedecdaaW.PrintWords Go.Proofs.YtjngmhngedecdaaW.PrintLast Go.Proofs.YtjngmhngedecdaaW.PrintMore
attribute [local go_sem] max2_int min2_int max_two min_two max_three min_three max_four min_four
end Go.Proofs.Ytjngmhngedecdaa.P
end
section
namespace Go.Proofs.Ytjngmhngedecdaa.P
open Go.RowKit Go.Proofs.YtjngmhngedecdaaW.PrintWords Go.Proofs.YtjngmhngedecdaaW.PrintLast Go.Proofs.YtjngmhngedecdaaW.PrintMore
attribute [local go_sem] max2_int min2_int max_two min_two max_three min_three max_four min_four
end Go.Proofs.Ytjngmhngedecdaa.P
end
section
namespace Go.Proofs.Ytjngmhngedecdaa.P
open Go.RowKit Go.Proofs.YtjngmhngedecdaaW.PrintWords Go.Proofs.YtjngmhngedecdaaW.PrintLast Go.Proofs.YtjngmhngedecdaaW.PrintMore
attribute [local go_sem] max2_int min2_int max_two min_two max_three min_three max_four min_four
end Go.Proofs.Ytjngmhngedecdaa.P
end
section
namespace Go.Proofs.Ytjngmhngedecdaa.P
open Go.RowKit Go.Proofs.YtjngmhngedecdaaW.PrintWords Go.Proofs.YtjngmhngedecdaaW.PrintLast Go.Proofs.YtjngmhngedecdaaW.PrintMore
attribute [local go_sem] max2_int min2_int max_two min_two max_three min_three max_four min_four
end Go.Proofs.Ytjngmhngedecdaa.P
end
section
namespace Go.Proofs.Ytjngmhngedecdaa.P
open Go.RowKit Go.Proofs.YtjngmhngedecdaaW.PrintWords Go.Proofs.YtjngmhngedecdaaW.PrintLast Go.Proofs.YtjngmhngedecdaaW.PrintMore
attribute [local go_sem] max2_int min2_int max_two min_two max_three min_three max_four min_four
end Go.Proofs.Ytjngmhngedecdaa.P
end
section
set_option linter.unusedVariables false
set_option linter.unusedSimpArgs false
namespace Go.Proofs.Ytjngmhngedecdaa.P
open Go.RowKit Go.Proofs.YtjngmhngedecdaaW.PrintWords Go.Proofs.YtjngmhngedecdaaW.PrintLast
def kw : List S58 → Nat
  | [] => 0
  | c :: l => lw c.f1 + lw c.f2 + lw c.f3 + kw l
theorem kw_at : ∀ (l : List S58) (i : Nat) (h : i < l.length), lw l[i].f1 + lw l[i].f2 + lw l[i].f3 ≤ kw l := by
  intro l
  induction l with
  | nil => intro i h; exact absurd h (by simp)
  | cons c l ih =>
    intro i h
    cases i with
    | zero => simp only [List.getElem_cons_zero, kw]; omega
    | succ i => simp only [List.getElem_cons_succ, kw]; have := ih i (by simpa using h); omega
def GK (c : S58) : Prop := (∀ a ∈ c.f1, a.size ≤ 9223372036854775807) ∧ (∀ a ∈ c.f2, a.size ≤ 9223372036854775807) ∧ (∀ a ∈ c.f3, a.size ≤ 9223372036854775807)
def SmallK (l : List S58) : Prop := (∀ c ∈ l, GK c) ∧ l.length ≤ 1048576 ∧ kw l ≤ 1048576
theorem SmallK.at {l : List S58} (h : SmallK l) {i : Nat} (hi : i < l.length) : Small l[i].f1 ∧ Small l[i].f2 ∧ Small l[i].f3 := by
  have h1 := h.1 l[i] (List.getElem_mem hi)
  have h2 := kw_at l i hi
  have h3 := h.2.2
  exact ⟨lw_small h1.1 (by omega), lw_small h1.2.1 (by omega), lw_small h1.2.2 (by omega)⟩
def kindK (b o t : List ByteArray) : Int := if b = o ∧ b = t then 0 else if b = t then 1 else if b = o then 2 else if o = t then 3 else 4
theorem kindK_val (b o t : List ByteArray) {p q r : Bool} (hp : p = decide (b = o)) (hq : q = decide (b = t)) (hr : r = decide (o = t)) : kindK b o t = if p = true ∧ q = true then 0 else if q = true then 1 else if p = true then 2 else if r = true then 3 else 4 := by
  subst hp hq hr
  simp only [kindK, decide_eq_true_eq]
theorem skind_tells {b o t : List ByteArray} (hb : b.length ≤ 1048576) (ho : o.length ≤ 1048576) : Ev (fun k => spec_l4Kind.f k b o t) (kindK b o t) := by
  unfold spec_l4Kind.f
  refine Ev_call (ssame_tells b o (by omega)) (Ev_call (ssame_tells b t (by omega)) ?_)
  rw [kindK_val b o t rfl rfl rfl]
  generalize decide (b = o) = p
  generalize decide (b = t) = q
  refine Ev_if (fun h1 => Ev.step (fun k => by rw [spec_l4Kind.j0]) ?_) (fun h1 => Ev.step (fun k => by rw [spec_l4Kind.j0]) ?_)
  · cases q
    · refine Ev_neg (by simp) (Ev_neg (by simp) (Ev_pos h1 (Ev_val ?_)))
      simp [h1]
    · refine Ev_pos rfl (Ev_val ?_)
      simp [h1]
  · refine Ev_neg (by simp) (Ev_if (fun h2 => Ev_val ?_) (fun h2 => Ev_neg h1 (Ev_call (ssame_tells o t (by omega)) (Ev_if (fun h3 => Ev_val ?_) (fun h3 => Ev_val ?_)))))
    · simp [h1, h2]
    · simp [h1, h2, h3]
    · simp [h1, h2, h3]
theorem ikind_tells {b o t : List ByteArray} (hb : b.length ≤ 1048576) (ho : o.length ≤ 1048576) : Ev (fun k => impl_kindOf.f k b o t) (kindK b o t) := by
  unfold impl_kindOf.f
  refine Ev_call (isame_tells b o (by omega)) (Ev_call (isame_tells b t (by omega)) (Ev_call (isame_tells o t (by omega)) ?_))
  rw [kindK_val b o t rfl rfl rfl]
  generalize decide (b = o) = p
  generalize decide (b = t) = q
  generalize decide (o = t) = r
  refine Ev_if (fun h1 => Ev.step (fun k => by rw [impl_kindOf.j0]) ?_) (fun h1 => Ev.step (fun k => by rw [impl_kindOf.j0]) ?_)
  · cases q
    · refine Ev_neg (by simp) (Ev_neg (by simp) (Ev_pos h1 (Ev_val ?_)))
      simp [h1]
    · refine Ev_pos rfl (Ev_val ?_)
      simp [h1]
  · refine Ev_neg (by simp) (Ev_if (fun h2 => Ev_val ?_) (fun h2 => Ev_neg h1 (Ev_if (fun h3 => Ev_val ?_) (fun h3 => Ev_val ?_))))
    · simp [h1, h2]
    · simp [h1, h2, h3]
    · simp [h1, h2, h3]
theorem szk_tells (a : Int) (x y z : List ByteArray) (gx : GL x) (gy : GL y) (gz : GL z) (n : Int) (h0 : 0 ≤ n) (h1 : n ≤ 1048576) :
    ∃ r, Ev (fun k => laws_szChunk.f k a x y z n) r ∧ (r < 0 ∨ (0 ≤ r ∧ r ≤ n ∧ ((lw x + lw y + lw z : Nat) : Int) = n - r)) := by
  obtain ⟨r1, e1, p1⟩ := sz_tells x gx n h0 h1
  rcases p1 with p1 | ⟨a1, b1, c1⟩
  · refine ⟨-1, ?_, .inl (by omega)⟩
    unfold laws_szChunk.f
    exact Ev_call e1 (Ev_pos p1 (Ev.now _))
  obtain ⟨r2, e2, p2⟩ := sz_tells y gy r1 a1 (by omega)
  rcases p2 with p2 | ⟨a2, b2, c2⟩
  · refine ⟨-1, ?_, .inl (by omega)⟩
    unfold laws_szChunk.f
    exact Ev_call e1 (Ev_neg (by omega) (Ev_call e2 (Ev_pos p2 (Ev.now _))))
  obtain ⟨r3, e3, p3⟩ := sz_tells z gz r2 a2 (by omega)
  rcases p3 with p3 | ⟨a3, b3, c3⟩
  · refine ⟨-1, ?_, .inl (by omega)⟩
    unfold laws_szChunk.f
    exact Ev_call e1 (Ev_neg (by omega) (Ev_call e2 (Ev_neg (by omega) (Ev_call e3 (Ev_pos p3 (Ev.now _))))))
  · refine ⟨r3, ?_, .inr ⟨a3, by omega, by unfold lw; omega⟩⟩
    unfold laws_szChunk.f
    exact Ev_call e1 (Ev_neg (by omega) (Ev_call e2 (Ev_neg (by omega) (Ev_call e3 (Ev_neg (by omega) (Ev.now _))))))
theorem tok_tells (x : S53) (h : Small x.f1 ∧ Small x.f2 ∧ Small x.f3) : Ev (fun k => laws_toChunk.f k x.f0 x.f1 x.f2 x.f3) (x.f0, x.f1, x.f2, x.f3) := by
  unfold laws_toChunk.f
  exact Ev_call h.1.to (Ev_call h.2.1.to (Ev_call h.2.2.to (Ev.now _)))
end Go.Proofs.Ytjngmhngedecdaa.P
end
section
set_option linter.unusedVariables false
set_option linter.unusedSimpArgs false
namespace Go.Proofs.Ytjngmhngedecdaa.P
open Go.RowKit Go.Proofs.YtjngmhngedecdaaW.PrintWords Go.Proofs.YtjngmhngedecdaaW.PrintLast
def ofL (l : List UInt8) : ByteArray := ⟨l.toArray⟩
theorem ofL_size (l : List UInt8) : (ofL l).size = l.length := by simp [ofL, ByteArray.size]
theorem ofL_data (l : List UInt8) : (ofL l).data.toList = l := by simp [ofL]
theorem ofL_of (s : ByteArray) : ofL s.data.toList = s := by cases s; simp [ofL]
theorem ofL_app (a b : List UInt8) : ofL a ++ ofL b = ofL (a ++ b) := by
  apply data_eq.1
  rw [ByteArray.toList_eq, ByteArray.toList_eq]
  simp [ofL]
theorem total_mem : ∀ {xs : List ByteArray} {x : ByteArray}, x ∈ xs → x.size ≤ total xs := by
  intro xs
  induction xs with
  | nil => intro x h; exact absurd h (by simp)
  | cons y l ih =>
    intro x h
    simp only [total]
    rcases List.mem_cons.1 h with rfl | h
    · omega
    · have := ih h
      omega
def wholeL (x : List UInt8) : List UInt8 := if Lib.hasSuffix x [10] then x else x ++ [10]
def wlL : List ByteArray → List UInt8
  | [] => []
  | x :: l => wholeL x.data.toList ++ wlL l
theorem wholeL_len (x : List UInt8) : (wholeL x).length ≤ x.length + 1 := by
  unfold wholeL
  split <;> simp
theorem wlL_len : ∀ l : List ByteArray, (wlL l).length ≤ total l + l.length := by
  intro l
  induction l with
  | nil => simp [wlL]
  | cons x l ih =>
    have := wholeL_len x.data.toList
    rw [size_data] at this
    simp only [wlL, total, List.length_append, List.length_cons]
    omega
theorem iwhole_tells {x : ByteArray} (hs : x.size < 9223372036854775807) : impl_whole.f x = some (ofL (wholeL x.data.toList)) := by
  unfold impl_whole.f
  rw [isWhole_tells x (by omega)]
  show (if Lib.hasSuffix x.data.toList [10] = true then some x else (if x.size + 1 ≤ 9223372036854775807 then (some (x ++ (⟨#[10]⟩ : ByteArray))) else (none))) = _
  unfold wholeL
  by_cases h : Lib.hasSuffix x.data.toList [10] = true
  · rw [if_pos h, if_pos h, ofL_of]
  · rw [if_neg h, if_neg h, if_pos (by omega)]
    rw [← ofL_app, ofL_of]
    rfl
theorem iwl_loop {xs : List ByteArray} (hs : Small xs) : ∀ (d i : Nat) (acc : List UInt8), xs.length - i = d → i ≤ xs.length → acc.length + (wlL (xs.drop i)).length ≤ 140737488355328 →
    Ev (fun k => impl_wholeLines.l0 k xs acc (i : Int)) (ofL (acc ++ wlL (xs.drop i))) := by
  have hl := hs.2.1
  intro d
  induction d with
  | zero =>
    intro i acc hd hi ha
    refine Ev.step (fun k => by rw [impl_wholeLines.l0]) (Ev_neg (by omega) (Ev_val ?_))
    rw [List.drop_eq_nil_of_le (by omega), wlL, List.append_nil]
    rfl
  | succ d ih =>
    intro i acc hd hi ha
    have hlt : i < xs.length := by omega
    rw [drop_at hlt] at ha ⊢
    simp only [wlL, List.length_append] at ha
    have hx := total_mem (List.getElem_mem hlt)
    have ht := hs.2.2
    have nx := ih (i + 1) (acc ++ wholeL xs[i].data.toList) (by omega) (by omega) (by rw [List.length_append]; omega)
    refine Ev.step (fun k => by rw [impl_wholeLines.l0]) (Ev_pos (by omega) (Ev_pos (by omega) ?_))
    rw [rd_nat _ hlt, wsucc hlt (by omega)]
    refine Ev_const (iwhole_tells (by omega)) (Ev_pos (by rw [ofL_size]; omega) ?_)
    rw [ofL_data]
    refine Ev_eq nx ?_
    simp only [wlL, List.append_assoc]
theorem iwl_tells {xs : List ByteArray} (hs : Small xs) : Ev (fun k => impl_wholeLines.f k xs) (ofL (wlL xs)) := by
  unfold impl_wholeLines.f
  have h1 := wlL_len xs
  have h2 := hs.2
  have := iwl_loop hs _ 0 [] rfl (by omega) (by simp; omega)
  exact this
theorem last_byte {x : ByteArray} (h : x.size ≠ 0) (hm : x.size ≤ 9223372036854775807) : bt x (wrap64 ((x.size : Int) - 1)) = 10 ↔ Lib.hasSuffix x.data.toList [10] = true := by
  have e0 : x.data.toList.length = x.size := size_data x
  rw [wid (by omega) (by omega), show (x.size : Int) - 1 = ((x.size - 1 : Nat) : Int) by omega, bt_nat (by omega), suffix_last]
  have hne : x.data.toList ≠ [] := fun e => h (by rw [← e0, e]; rfl)
  have e := List.dropLast_concat_getLast hne
  have hg : x.data.toList[x.size - 1]'(by omega) = x.data.toList.getLast hne := by
    rw [List.getLast_eq_getElem]
    congr 1
  rw [hg]
  constructor
  · intro h2
    have h3 : x.data.toList.getLast hne = 10 := UInt8.toNat_inj.1 (by show _ = 10; omega)
    exact ⟨x.data.toList.dropLast, by rw [← h3]; exact e.symm⟩
  · rintro ⟨r, h2⟩
    have h3 : x.data.toList.getLast hne = 10 := by simp [h2]
    rw [h3]
    rfl
theorem sel_loop {xs : List ByteArray} (hs : Small xs) (hn : ∀ x ∈ xs, x.data.toList ≠ []) : ∀ (d i : Nat) (s : ByteArray), xs.length - i = d → i ≤ xs.length → s.size + (wlL (xs.drop i)).length ≤ 140737488355328 →
    Ev (fun k => spec_l4Ended.l0 k xs s (i : Int)) (ofL (s.data.toList ++ wlL (xs.drop i))) := by
  have hl := hs.2.1
  intro d
  induction d with
  | zero =>
    intro i s hd hi ha
    refine Ev.step (fun k => by rw [spec_l4Ended.l0]) (Ev_neg (by omega) (Ev_val ?_))
    rw [List.drop_eq_nil_of_le (by omega), wlL, List.append_nil, ofL_of]
  | succ d ih =>
    intro i s hd hi ha
    have hlt : i < xs.length := by omega
    have hx := total_mem (List.getElem_mem hlt)
    have ht := hs.2.2
    have h0 : xs[i].size ≠ 0 := fun e => hn xs[i] (List.getElem_mem hlt) (by apply List.eq_nil_of_length_eq_zero; rw [size_data]; exact e)
    have hb := last_byte h0 (by omega)
    have hle : xs[i].data.toList.length = xs[i].size := size_data _
    rw [drop_at hlt] at ha ⊢
    simp only [wlL, List.length_append] at ha
    refine Ev.step (fun k => by rw [spec_l4Ended.l0]) (Ev_pos (by omega) (Ev_pos (by omega) ?_))
    rw [rd_nat _ hlt, wsucc hlt (by omega)]
    have h1 : (wrap64 ((xs[i].size : Int) - 1)) = (xs[i].size : Int) - 1 := wid (by omega) (by omega)
    have hw : s.size + xs[i].size ≤ 9223372036854775807 := by
      unfold wholeL at ha
      split at ha
      · omega
      · rw [List.length_append] at ha; omega
    refine Ev_pos hw (Ev_pos (by omega) (Ev_pos (by omega) (Ev_if (fun hc => ?_) (fun hc => ?_))))
    · have hq := hb.1 hc
      have ew : wholeL xs[i].data.toList = xs[i].data.toList := by unfold wholeL; rw [if_pos hq]
      rw [ew] at ha
      have nx := ih (i + 1) (s ++ xs[i]) (by omega) (by omega) (by rw [ByteArray.size_append]; omega)
      refine Ev_eq nx ?_
      rw [wlL, ew, ByteArray.data_append, Array.toList_append, List.append_assoc]
    · have hq : ¬ Lib.hasSuffix xs[i].data.toList [10] = true := fun e => hc (hb.2 e)
      have ew : wholeL xs[i].data.toList = xs[i].data.toList ++ [10] := by unfold wholeL; rw [if_neg hq]
      rw [ew, List.length_append] at ha
      have nx := ih (i + 1) ((s ++ xs[i]) ++ (⟨#[10]⟩ : ByteArray)) (by omega) (by omega) (by rw [ByteArray.size_append, ByteArray.size_append]; have e1 : (⟨#[10]⟩ : ByteArray).size = 1 := rfl; simp only [List.length_singleton] at ha; omega)
      refine Ev_pos (by rw [ByteArray.size_append]; simp only [List.length_singleton] at ha; omega) (Ev_eq nx ?_)
      rw [wlL, ew, ByteArray.data_append, ByteArray.data_append, Array.toList_append, Array.toList_append]
      simp only [List.append_assoc]
theorem sel_tells {xs : List ByteArray} (hs : Small xs) (hn : ∀ x ∈ xs, x.data.toList ≠ []) : Ev (fun k => spec_l4Ended.f k xs) (ofL (wlL xs)) := by
  unfold spec_l4Ended.f
  have h1 := wlL_len xs
  have h2 := hs.2
  have := sel_loop hs hn _ 0 (⟨#[]⟩ : ByteArray) rfl (by omega) (by have e1 : (⟨#[]⟩ : ByteArray).size = 0 := rfl; simp only [List.drop_zero]; omega)
  exact this
def clashB (o b t : List ByteArray) : ByteArray := ((((((⟨#[60, 60, 60, 60, 60, 60, 60, 10]⟩ : ByteArray) ++ ofL (wlL o)) ++ (⟨#[124, 124, 124, 124, 124, 124, 124, 10]⟩ : ByteArray)) ++ ofL (wlL b)) ++ (⟨#[61, 61, 61, 61, 61, 61, 61, 10]⟩ : ByteArray)) ++ ofL (wlL t)) ++ (⟨#[62, 62, 62, 62, 62, 62, 62, 10]⟩ : ByteArray)
theorem wl_bound {xs : List ByteArray} (hs : Small xs) : (ofL (wlL xs)).size ≤ 2097152 := by
  rw [ofL_size]
  have := wlL_len xs
  have := hs.2
  omega
theorem sz60 : (⟨#[60, 60, 60, 60, 60, 60, 60, 10]⟩ : ByteArray).size = 8 := rfl
theorem sz124 : (⟨#[124, 124, 124, 124, 124, 124, 124, 10]⟩ : ByteArray).size = 8 := rfl
theorem sz61 : (⟨#[61, 61, 61, 61, 61, 61, 61, 10]⟩ : ByteArray).size = 8 := rfl
theorem iclash_tells (a : Int) {b o t : List ByteArray} (hb : Small b) (ho : Small o) (ht : Small t) : Ev (fun k => impl_clashText.f k a b o t) (clashB o b t) := by
  have w1 := wl_bound ho
  have w2 := wl_bound hb
  have w3 := wl_bound ht
  unfold impl_clashText.f
  refine Ev_call (iwl_tells ho) (Ev_pos (by omega) (Ev_pos ?_ (Ev_call (iwl_tells hb) (Ev_pos ?_ (Ev_pos ?_ (Ev_call (iwl_tells ht) (Ev_pos ?_ (Ev_pos ?_ (Ev.now _)))))))))
  all_goals
    simp only [ByteArray.size_append, sz60, sz124, sz61]
    omega
theorem sclash_tells (a : Int) {b o t : List ByteArray} (hb : Small b) (ho : Small o) (ht : Small t) (nb : ∀ x ∈ b, x.data.toList ≠ []) (no : ∀ x ∈ o, x.data.toList ≠ []) (nt : ∀ x ∈ t, x.data.toList ≠ []) : Ev (fun k => spec_l4Clash.f k a b o t) (clashB o b t) := by
  have w1 := wl_bound ho
  have w2 := wl_bound hb
  have w3 := wl_bound ht
  unfold spec_l4Clash.f
  refine Ev_call (sel_tells ho no) (Ev_pos (by omega) (Ev_pos ?_ (Ev_call (sel_tells hb nb) (Ev_pos ?_ (Ev_pos ?_ (Ev_call (sel_tells ht nt) (Ev_pos ?_ (Ev_pos ?_ (Ev.now _)))))))))
  all_goals
    simp only [ByteArray.size_append, sz60, sz124, sz61]
    omega
end Go.Proofs.Ytjngmhngedecdaa.P
end
section
set_option linter.unusedVariables false
set_option linter.unusedSimpArgs false
namespace Go.Proofs.Ytjngmhngedecdaa.P.VFnExactClashText
open Go.RowKit Go.Proofs.YtjngmhngedecdaaW.PrintWords Go.Proofs.YtjngmhngedecdaaW.PrintLast
def okL (x : ByteArray) : Bool := decide (¬ (x.data.toList = [] ∨ 10 ∈ x.data.toList.dropLast))
def allL (xs : List ByteArray) : Bool := xs.all okL
theorem allL_cons (x : ByteArray) (l : List ByteArray) : allL (x :: l) = (okL x && allL l) := rfl
theorem allL_ne {xs : List ByteArray} (h : allL xs = true) : ∀ x ∈ xs, x.data.toList ≠ [] := by
  intro x hx e
  have := List.all_eq_true.1 h x hx
  exact (of_decide_eq_true this) (.inl e)
theorem swhole_loop {xs : List ByteArray} (hs : Small xs) : ∀ (d i : Nat), xs.length - i = d → i ≤ xs.length → Ev (fun k => spec_l4Whole.l0 k xs (i : Int)) (allL (xs.drop i)) := by
  have hl := hs.2.1
  intro d
  induction d with
  | zero =>
    intro i hd hi
    refine Ev.step (fun k => by rw [spec_l4Whole.l0]) (Ev_neg (by omega) (Ev_val ?_))
    rw [List.drop_eq_nil_of_le (by omega)]
    rfl
  | succ d ih =>
    intro i hd hi
    have hlt : i < xs.length := by omega
    have hx := hs.1 xs[i] (List.getElem_mem hlt)
    have nx := ih (i + 1) (by omega) (by omega)
    rw [drop_at hlt, allL_cons]
    refine Ev.step (fun k => by rw [spec_l4Whole.l0]) (Ev_pos (by omega) (Ev_pos (by omega) ?_))
    rw [rd_nat _ hlt, wsucc hlt (by omega)]
    refine Ev_if (fun h => Ev_val ?_) (fun h => ?_)
    · have e : okL xs[i] = false := decide_eq_false (fun e => e (.inl (toList_nil.1 h)))
      rw [e]
      rfl
    · have h0 : ¬ xs[i].data.toList = [] := fun e => h (toList_nil.2 e)
      have h1 : xs[i].data.toList.length ≠ 0 := fun e => h0 (List.length_eq_zero_iff.1 e)
      have he := lineEnd_early xs[i].data.toList
      rw [size_data] at h1 he
      refine Ev_call (ended_tells _ hx) ?_
      rw [wid (by omega) (by omega)]
      refine Ev_if (fun h2 => Ev_val ?_) (fun h2 => ?_)
      · have e : okL xs[i] = false := decide_eq_false (fun e => e (.inr (he.1 (by omega))))
        rw [e]
        rfl
      · have e : okL xs[i] = true := decide_eq_true (fun e => e.elim h0 (fun e => h2 (by have := he.2 e; omega)))
        rw [e, Bool.true_and]
        exact nx
theorem swhole_tells {xs : List ByteArray} (hs : Small xs) : Ev (fun k => spec_l4Whole.f k xs) (allL xs) := by
  unfold spec_l4Whole.f
  exact swhole_loop hs _ 0 rfl (by omega)
theorem bad_loop {xs : List ByteArray} (hx : ∀ x ∈ xs, x.size ≤ 9223372036854775807) (hl : xs.length ≤ 9000000) : ∀ (d i : Nat), xs.length - i = d → i ≤ xs.length → ∃ r : Int, Ev (fun k => impl_clashBad.l0 k xs (i : Int)) r ∧ (decide (r ≥ 0) = !allL (xs.drop i)) := by
  intro d
  induction d with
  | zero =>
    intro i hd hi
    refine ⟨-1, Ev.step (fun k => by rw [impl_clashBad.l0]) (Ev_neg (by omega) (Ev.now _)), ?_⟩
    rw [List.drop_eq_nil_of_le (by omega)]
    rfl
  | succ d ih =>
    intro i hd hi
    have hlt : i < xs.length := by omega
    have hb := hx xs[i] (List.getElem_mem hlt)
    obtain ⟨r, hr, he⟩ := ih (i + 1) (by omega) (by omega)
    rw [drop_at hlt, allL_cons]
    by_cases h : okL xs[i] = true
    · refine ⟨r, Ev.step (fun k => by rw [impl_clashBad.l0]) (Ev_pos (by omega) (Ev_pos (by omega) ?_)), by rw [h, Bool.true_and]; exact he⟩
      rw [rd_nat _ hlt, wsucc hlt (by omega)]
      exact Ev_const (isLine_tells _ hb) (Ev_pos h hr)
    · refine ⟨i, Ev.step (fun k => by rw [impl_clashBad.l0]) (Ev_pos (by omega) (Ev_pos (by omega) ?_)), ?_⟩
      · rw [rd_nat _ hlt, wsucc hlt (by omega)]
        exact Ev_const (isLine_tells _ hb) (Ev_neg h (Ev.now _))
      · rw [Bool.eq_false_iff.2 h, decide_eq_true (by omega)]
        rfl
theorem bad_tells {xs : List ByteArray} (hx : ∀ x ∈ xs, x.size ≤ 9223372036854775807) (hl : xs.length ≤ 9000000) : Ev (fun k => impl_clashBad.f k xs) (!allL xs) := by
  obtain ⟨r, hr, he⟩ := bad_loop hx hl _ 0 rfl (by omega)
  rw [List.drop_zero] at he
  unfold impl_clashBad.f
  exact Ev_call hr (Ev_val he)
theorem concat_tells {a b c : List ByteArray} (ha : a.length ≤ 1048576) (hb : b.length ≤ 1048576) (hc : c.length ≤ 1048576) : Ev (fun k => slices_ConcatS.f k [a, b, c]) (a ++ b ++ c) := by
  have w1 : wrap64 ((0 : Int) + 1) = 1 := by unfold wrap64; omega
  have w2 : wrap64 ((1 : Int) + 1) = 2 := by unfold wrap64; omega
  have w3 : wrap64 ((2 : Int) + 1) = 3 := by unfold wrap64; omega
  have r0 : rdL [a, b, c] 0 = a := rfl
  have r1 : rdL [a, b, c] 1 = b := rfl
  have r2 : rdL [a, b, c] 2 = c := rfl
  have hl : (([a, b, c] : List (List ByteArray)).length : Int) = 3 := rfl
  unfold slices_ConcatS.f
  refine Ev.step (fun k => by rw [slices_ConcatS.l0]) (Ev_pos (by omega) (Ev_pos (by omega) ?_))
  rw [r0, w1]
  refine Ev_pos (by omega) (Ev.step (fun k => by rw [slices_ConcatS.l0]) (Ev_pos (by omega) (Ev_pos (by omega) ?_)))
  rw [r1, w2]
  refine Ev_pos (by omega) (Ev.step (fun k => by rw [slices_ConcatS.l0]) (Ev_pos (by omega) (Ev_pos (by omega) ?_)))
  rw [r2, w3]
  refine Ev_pos (by omega) (Ev.step (fun k => by rw [slices_ConcatS.l0]) (Ev_neg (by omega) ?_))
  refine Ev.step (fun k => by rw [slices_ConcatS.l1]) (Ev_pos (by omega) (Ev_pos (by omega) ?_))
  rw [r0, w1]
  refine Ev_pos (by simp; omega) (Ev.step (fun k => by rw [slices_ConcatS.l1]) (Ev_pos (by omega) (Ev_pos (by omega) ?_)))
  rw [r1, w2]
  refine Ev_pos (by simp; omega) (Ev.step (fun k => by rw [slices_ConcatS.l1]) (Ev_pos (by omega) (Ev_pos (by omega) ?_)))
  rw [r2, w3]
  refine Ev_pos (by simp; omega) (Ev.step (fun k => by rw [slices_ConcatS.l1]) (Ev_neg (by omega) (Ev_val ?_)))
  rfl
def CT (a : Int) (b o t : List ByteArray) : Int × ByteArray := if a = 4 ∧ kindK b o t = 4 ∧ allL b = true ∧ allL o = true ∧ allL t = true then (0, clashB o b t) else (1, (⟨#[]⟩ : ByteArray))
theorem s_tells (a : Int) {b o t : List ByteArray} (hb : Small b) (ho : Small o) (ht : Small t) : Ev (fun k => spec_ClashText.f k a b o t) (CT a b o t) := by
  unfold spec_ClashText.f CT
  refine Ev_if (fun h => ?_) (fun h => Ev_val ?_)
  · subst h
    refine Ev_call (skind_tells hb.2.1 ho.2.1) (Ev_if (fun h2 => ?_) (fun h2 => Ev_val ?_))
    · refine Ev_call (swhole_tells hb) (Ev_if (fun h3 => ?_) (fun h3 => Ev_val ?_))
      · refine Ev_call (swhole_tells ho) (Ev_if (fun h4 => ?_) (fun h4 => Ev_val ?_))
        · refine Ev_call (swhole_tells ht) (Ev_if (fun h5 => ?_) (fun h5 => Ev_val ?_))
          · rw [if_pos ⟨rfl, h2, h3, h4, h5⟩]
            exact Ev_call (sclash_tells 4 hb ho ht (allL_ne h3) (allL_ne h4) (allL_ne h5)) (Ev.now _)
          · rw [if_neg (fun e => h5 e.2.2.2.2)]
        · rw [if_neg (fun e => h4 e.2.2.2.1)]
      · rw [if_neg (fun e => h3 e.2.2.1)]
    · rw [if_neg (fun e => h2 e.2.1)]
  · rw [if_neg (fun e => h e.1)]
theorem i_tells (a : Int) {b o t : List ByteArray} (hb : Small b) (ho : Small o) (ht : Small t) : Ev (fun k => impl_ClashText.f k a b o t) (CT a b o t) := by
  have l1 := hb.2.1
  have l2 := ho.2.1
  have l3 := ht.2.1
  unfold impl_ClashText.f CT
  refine Ev_call (concat_tells l1 l2 l3) (Ev_if (fun h => ?_) (fun h => Ev_val ?_))
  · subst h
    refine Ev_call (ikind_tells l1 l2) (Ev_if (fun h2 => ?_) (fun h2 => Ev_val ?_))
    · have hbad : Ev (fun k => impl_clashBad.f k (b ++ o ++ t)) (!allL (b ++ o ++ t)) := by
        refine bad_tells (fun x hx => ?_) (by simp only [List.length_append]; omega)
        rcases List.mem_append.1 hx with hx | hx
        · rcases List.mem_append.1 hx with hx | hx
          · exact hb.1 x hx
          · exact ho.1 x hx
        · exact ht.1 x hx
      have e : allL (b ++ o ++ t) = (allL b && allL o && allL t) := by simp only [allL, List.all_append]
      refine Ev_call hbad ?_
      rw [e]
      refine Ev_if (fun h3 => Ev_val ?_) (fun h3 => ?_)
      · rw [if_neg]
        rintro ⟨_, _, e1, e2, e3⟩
        rw [e1, e2, e3] at h3
        exact absurd h3 (by decide)
      · rw [if_pos]
        · exact Ev_call (iclash_tells 4 hb ho ht) (Ev.now _)
        · refine ⟨rfl, h2, ?_⟩
          cases h4 : allL b <;> cases h5 : allL o <;> cases h6 : allL t <;> simp_all
    · rw [if_neg (fun e => h2 e.2.1)]
  · rw [if_neg (fun e => h e.1)]
theorem proof : UFnExactClashText.Pure := by
  intro a b o t ga gb go gt
  apply Ev.rounds
  unfold laws_FnExactClashText.f
  obtain ⟨r, hr, hp⟩ := szk_tells a b o t gb go gt 1048576 (by omega) (by omega)
  refine Ev_call hr ?_
  rcases hp with hp | ⟨h2, h3, h4⟩
  · exact Ev_pos hp (Ev.now _)
  · have sb : Small b := lw_small gb.2 (by omega)
    have so : Small o := lw_small go.2 (by omega)
    have st : Small t := lw_small gt.2 (by omega)
    have tc := tok_tells (⟨a, b, o, t⟩ : S53) ⟨sb, so, st⟩
    have e : ∀ x : Int × ByteArray, laws_eqTextResult.f x.1 x.2 x.1 x.2 = some true := by
      intro x
      unfold laws_eqTextResult.f
      rw [if_pos rfl, if_pos rfl]
    refine Ev_neg (by omega) (Ev_call tc (Ev_call (s_tells a sb so st) (Ev_call tc (Ev_call (i_tells a sb so st) (Ev_const (e (CT a b o t)) (Ev_pos rfl (Ev_call tc (Ev_call (a := true) ?_ (Ev_pos rfl (Ev.now _))))))))))
    unfold laws_eqChunk.f
    exact Ev_pos rfl (Ev_call sb.eq (Ev_pos rfl (Ev_call so.eq (Ev_pos rfl (Ev_call st.eq (Ev_pos rfl (Ev.now _)))))))
end Go.Proofs.Ytjngmhngedecdaa.P.VFnExactClashText
end
section
set_option linter.unusedVariables false
set_option linter.unusedSimpArgs false
namespace Go.Proofs.Ytjngmhngedecdaa.O
open Go.RowKit Go.ChangeShapes Go.WideShapes Go.Proofs.YtjngmhngedecdaaW.PrintWords
def Opens {α : Type} (P : Program) (t : TypeId) (d : Kd α) (G : α → Prop) : Prop :=
  P.cellsOf t = d.sz ∧ ∀ {H : Type} {enc : TypeId × Value → H} {w : World} {base : Nat} {spare : Nat → Bool} {held : Bool} {fuel : Nat} {cs : List Value} {x : DataW H × List MemPlace},
    DataW.trod enc P w base spare held fuel t cs = some x → ∃ a, d.K w a cs ∧ G a
theorem list_of {α : Type} {Q : Nat → α → Prop} : ∀ n : Nat, (∀ j, j < n → ∃ p, Q j p) → ∃ xs : List α, xs.length = n ∧ ∀ j p, xs[j]? = some p → Q j p
  | 0, _ => ⟨[], rfl, fun j p h => by simp at h⟩
  | n + 1, h => by
    obtain ⟨xs, hl, hx⟩ := list_of n (fun j hj => h j (Nat.lt_succ_of_lt hj))
    obtain ⟨p, hp⟩ := h n (Nat.lt_succ_self n)
    refine ⟨xs ++ [p], by simp [hl], fun j q hq => ?_⟩
    rcases Nat.lt_or_ge j xs.length with hj | hj
    · rw [List.getElem?_append_left hj] at hq
      exact hx j q hq
    · have hj' : j = xs.length := by
        have := (List.getElem?_eq_some_iff.1 hq).1
        rw [List.length_append, List.length_singleton] at this
        omega
      subst hj'
      have e : p = q := by simpa using hq
      subst e
      rw [hl]
      exact hp
theorem cells_get {w : World} {base : Nat} {a : Addr} {n : Nat} {cs : List Value} (h : w.cells? base a n = some cs) : cs.length = n ∧ ∀ i u, cs[i]? = some u → w.cell? (a.add i) = some u := by
  unfold World.cells? at h
  split at h
  · have hl := mapM_some_length h
    rw [List.length_range] at hl
    refine ⟨hl, fun i u hu => ?_⟩
    have hi : i < n := by
      have := (List.getElem?_eq_some_iff.1 hu).1
      omega
    have := mapM_some_get h i i (by simp [hi])
    rw [this, hu]
  · simp at h
theorem opens_int {P : Program} {t : TypeId} {k : IntKind} (ht : P.underlying t = some (.int k)) (hc : P.cellsOf t = 1) : Opens P t (Kd.int k) (fun x => (Lit.int k x).wf = true) :=
  ⟨hc, fun h => by
    obtain ⟨n, rfl, _, hw⟩ := DataW.trod_int ht h
    exact ⟨n, rfl, hw⟩⟩
theorem opens_string {P : Program} {t : TypeId} (ht : P.underlying t = some .string) (hc : P.cellsOf t = 1) : Opens P t Kd.string (fun s => s.size ≤ 9223372036854775807) :=
  ⟨hc, fun h => by
    obtain ⟨s, rfl, _, hw⟩ := DataW.trod_string ht h
    exact ⟨s, rfl, hw⟩⟩
theorem opens_slice {α : Type} {P : Program} {t e : TypeId} {d : Kd α} {G : α → Prop} (ht : P.underlying t = some (.slice e)) (hc : P.cellsOf t = 1) (he : Opens P e d G) :
    Opens P t (Kd.slice e d) (fun l => l.length ≤ 9223372036854775807 ∧ ∀ x ∈ l, G x) := by
  refine ⟨hc, fun {H enc w base spare held fuel cs x} h => ?_⟩
  rcases DataW.trod_slice ht h with ⟨rfl, _⟩ | ⟨a, len, cap, elems, rest, n, _, rfl, _, hb, hl, hm, hlen, hel, _, _⟩
  · exact ⟨[], ⟨none, 0, rfl, Nat.le_refl _, rfl, by simp, fun hp => absurd hp (by simp)⟩, by simp, by simp⟩
  · have hcap : cap ≤ 9223372036854775807 := hm
    obtain ⟨xs, hxl, hx⟩ := list_of (Q := fun j p => (∃ c : List Value, c.length = d.sz ∧ d.K w p c ∧ ∀ i u, c[i]? = some u → w.cell? (a.add (j * d.sz + i)) = some u) ∧ G p) len (fun j hj => by
      have h1 := hel j hj
      rw [List.getElem?_eq_getElem (by omega), Option.bind_eq_some_iff] at h1
      obtain ⟨cs', hcs, hy⟩ := h1
      obtain ⟨p, hK, hG⟩ := he.2 hy
      obtain ⟨hcl, hcell⟩ := cells_get hcs
      refine ⟨p, ⟨cs', by rw [hcl, he.1], hK, fun i u hu => ?_⟩, hG⟩
      have := hcell i u hu
      rw [he.1] at this
      rw [← Addr.add_add]
      exact this)
    have hlen2 : xs.length ≤ cap := by omega
    refine ⟨xs, ⟨some a, cap, ?_, hlen2, rfl, by omega, fun _ => ⟨a, rfl, fun j p hj => (hx j p hj).1⟩⟩, by omega, fun y hy => ?_⟩
    · rw [hxl]
    · obtain ⟨j, hj⟩ := List.getElem?_of_mem hy
      exact (hx j y hj).2
def OpensTail {α : Type} (P : Program) (fs : List Field) (off : Nat) (d : Kd α) (G : α → Prop) : Prop :=
  ∀ {H : Type} {enc : TypeId × Value → H} {w : World} {base : Nat} {spare : Nat → Bool} {held : Bool} {fuel : Nat} {cs : List Value},
    (∀ f ∈ fs, ∃ y, DataW.trod enc P w base spare held fuel f.type ((cs.drop f.offset).take (P.cellsOf f.type)) = some y) → cs.length = off + d.sz → ∃ a, d.K w a (cs.drop off) ∧ G a
theorem tail_one {α : Type} {P : Program} {f : Field} {off : Nat} {d : Kd α} {G : α → Prop} (ho : f.offset = off) (h : Opens P f.type d G) : OpensTail P [f] off d G := by
  intro H enc w base spare held fuel cs hy hl
  obtain ⟨y, hy⟩ := hy f (List.mem_singleton.2 rfl)
  obtain ⟨a, hK, hG⟩ := h.2 hy
  refine ⟨a, ?_, hG⟩
  rw [ho, h.1, List.take_of_length_le (by rw [List.length_drop]; omega)] at hK
  exact hK
theorem tail_cons {α β : Type} {P : Program} {f : Field} {fs : List Field} {off off2 : Nat} {d : Kd α} {d2 : Kd β} {G : α → Prop} {G2 : β → Prop} (ho : f.offset = off) (h : Opens P f.type d G) (ho2 : off2 = off + d.sz) (h2 : OpensTail P fs off2 d2 G2) :
    OpensTail P (f :: fs) off (Kd.pair d d2) (fun x => G x.1 ∧ G2 x.2) := by
  intro H enc w base spare held fuel cs hy hl
  obtain ⟨y, hy1⟩ := hy f List.mem_cons_self
  obtain ⟨a, hK, hG⟩ := h.2 hy1
  have hl' : cs.length = off2 + d2.sz := by rw [hl, ho2]; exact (Nat.add_assoc _ _ _).symm
  obtain ⟨b, hK2, hG2⟩ := h2 (fun f' hf' => hy f' (List.mem_cons_of_mem _ hf')) hl'
  refine ⟨(a, b), ⟨(cs.drop off).take d.sz, (cs.drop off).drop d.sz, (List.take_append_drop _ _).symm, ?_, ?_⟩, hG, hG2⟩
  · rw [ho, h.1] at hK
    exact hK
  · rw [List.drop_drop, ← ho2]
    exact hK2
theorem opens_struct {α β : Type} {P : Program} {t : TypeId} {fs : Array Field} {d : Kd α} {f : β → α} {g : α → β} {G : α → Prop} (ht : P.underlying t = some (.struct fs)) (hc : P.cellsOf t = d.sz) (hfg : ∀ a, f (g a) = a) (h : OpensTail P fs.toList 0 d G) :
    Opens P t (Kd.iso d f) (fun b => G (f b)) := by
  refine ⟨hc, fun {H enc w base spare held fuel cs x} hx => ?_⟩
  obtain ⟨xs, n, rfl, _, hl, hxl, hf⟩ := DataW.trod_struct ht hx
  obtain ⟨a, hK, hG⟩ := h (enc := enc) (w := w) (base := base) (spare := spare) (held := held) (fuel := n) (cs := cs) (fun f' hf' => by
    obtain ⟨i, hi⟩ := List.getElem?_of_mem hf'
    have hi' : fs[i]? = some f' := by simpa using hi
    have hlt : i < fs.size := (Array.getElem?_eq_some_iff.1 hi').1
    exact ⟨xs[i]'(by omega), by rw [hf i f' hi', List.getElem?_eq_getElem]⟩) (by rw [hl, hc, Nat.zero_add])
  refine ⟨g a, ?_, ?_⟩
  · show d.K w (f (g a)) cs
    rw [hfg]
    simpa using hK
  · show G (f (g a))
    rw [hfg]
    exact hG
end Go.Proofs.Ytjngmhngedecdaa.O
end
namespace Go.Proofs.Ytjngmhngedecdaa.fnExactClashText
open Go.ChangeShapes Go.WideShapes Go.ChangeAt Go.RowKit
open Go.ChangeMaps (open_string shut_string)
open Go.Proofs.Ytjngmhngedecdaa.P Go.Proofs.Ytjngmhngedecdaa.P.UFnExactClashText Go.Proofs.YtjngmhngedecdaaW.PrintWords
set_option linter.unusedVariables false
theorem own : ownKnob Try.prog.godebug = none := by kernel_rfl
theorem laidOut : laidOutB Try.prog = true := by kernel_rfl
set_option maxRecDepth 100000 in
theorem opens53 : O.Opens Try.prog 53 k53 (fun x => G53 x) := by
  have h := O.opens_struct (P := Try.prog) (t := 53) (f := fun x : S53 => (x.f0, x.f1, x.f2, x.f3)) (g := fun a => (⟨a.1, a.2.1, a.2.2.1, a.2.2.2⟩ : S53)) Try.underlying53 (by kernel_rfl) (fun _ => rfl) (O.tail_cons rfl (O.opens_int Try.underlying2 (by kernel_rfl)) rfl (O.tail_cons rfl (O.opens_slice Try.underlying34 (by kernel_rfl) (O.opens_string Try.underlying9 (by kernel_rfl))) rfl (O.tail_cons rfl (O.opens_slice Try.underlying34 (by kernel_rfl) (O.opens_string Try.underlying9 (by kernel_rfl))) rfl (O.tail_one rfl (O.opens_slice Try.underlying34 (by kernel_rfl) (O.opens_string Try.underlying9 (by kernel_rfl)))))))
  exact h
set_option maxRecDepth 100000 in
theorem lifted (os : Os) (started : os.Started) (H : Type) (enc : TypeId × Value → H) :
    ReturnsInHanded {} Try.checked os 6 .any (Rows.fnExactClashTextSpec.pre6 enc Try.prog Try.f6 Rows.fnExactClashTextRow.domain false) (Rows.fnExactClashTextSpec.post enc Try.prog Try.f6 false true false false) := by
  refine returnsInHanded_of_change_sized (C := Try.checked) own started (by kernel_rfl) Try.func6
    (ChangeSpec.witness6 (enc := enc) (C := Try.checked) false ⟨#[], #[.agg #[.int .i64 0, .slice none 0 0, .slice none 0 0, .slice none 0 0]], []⟩ 8 (by kernel_rfl) (by kernel_rfl) (by kernel_rfl) (by kernel_rfl)) ?_
  intro W base args ds gs before hval0 hW hcnd hsz0 _
  have hval : ∀ (j : Nat) t v, Try.f6.params[j]? = some t → args[j]? = some v → Value.okWide Try.prog W .any base t v := hval0
  have hW' := hW
  obtain ⟨p, q, hA0, hV, rfl, hfz, hnd⟩ := hW
  have hA : DataW.TrodAll enc Try.prog W 0 (fun _ => true) true Try.f6.params.toList args.toList ds p := hA0
  rw [Try.params6] at hA hval
  obtain ⟨v0, vs0, d0, ds0, p0, q0, hargs, rfl, rfl, h0, r0⟩ := trodAll_cons hA
  obtain ⟨rfl, rfl, rfl⟩ := trodAll_nil r0
  obtain rfl : args = #[v0] := by cases args; simp_all
  obtain ⟨rfl, rfl⟩ := trodVars_none hV
  have k0_ := h0
  have lt0 : ∀ x ∈ p0, x.block < W.heap.size := by obtain ⟨m, hm⟩ := k0_; exact DataW.trod_lt m _ _ _ hm
  obtain ⟨cs0, rfl⟩ : ∃ cs, v0 = .agg cs := by
    have hv := (hval 0 53 v0 rfl rfl)
    unfold Value.okWide at hv
    rw [Try.underlying53] at hv
    obtain ⟨cs, e, _⟩ := hv
    exact ⟨cs, e⟩
  obtain ⟨fuel0, hf0⟩ := h0
  obtain ⟨s0, hK0, g0⟩ := opens53.2 hf0
  obtain ⟨A0_1, c0_1, A0_2, c0_2, A0_3, c0_3, hcs0, hc0_1, hr0_1, hc0_2, hr0_2, hc0_3, hr0_3⟩ := k53_open hK0
  obtain rfl : cs0 = #[.int .i64 s0.f0, .slice A0_1 s0.f1.length c0_1, .slice A0_2 s0.f2.length c0_2, .slice A0_3 s0.f3.length c0_3] := by
    have e_ : cs0.toList = [.int .i64 s0.f0, .slice A0_1 s0.f1.length c0_1, .slice A0_2 s0.f2.length c0_2, .slice A0_3 s0.f3.length c0_3] := hcs0
    cases cs0; simp_all
  clear hA0 hval0 hsz0
  obtain ⟨k, h⟩ := VFnExactClashText.proof s0.f0 s0.f1 s0.f2 s0.f3 g0.1 g0.2.1 g0.2.2.1 g0.2.2.2
  refine (laws_FnExactClashText.calls k s0.f0 _ _ s0.f1 _ _ s0.f2 _ _ s0.f3 true W hr0_1 hc0_1 hr0_2 hc0_2 hr0_3 hc0_3 h rfl).mono fun e W' hend => ?_
  obtain ⟨rfl, hbel⟩ := hend
  have bel : Below W.heap.size W W' := hbel
  exact ⟨_, rfl, _, _, _, [], _, [], hW', trodAll_mk1 (shut_bool Try.underlying4 _), (trodAll_cons_mk (Below.trod laidOut (by kernel_rfl) (of_decide_eq_true (by kernel_rfl)) k0_ bel lt0) trodAll_mk0), rfl, bel.frame _, fun h => by cases h⟩
theorem over : Rows.fnExactClashTextRow.holds Try.pinned (OpenSpec.ofChange Rows.fnExactClashTextSpec) :=
  OpenClaim.holds_of_wide 6 Try.f6 rfl rfl rfl rfl rfl rfl rfl ⟨rfl, rfl, rfl, rfl, rfl⟩ rfl rfl rfl rfl rfl (by kernel_rfl) Try.func6 (by kernel_rfl)
    (of_decide_eq_true (by kernel_rfl)) (by unfold Func.isWrapper; first | (rw [if_pos (by decide +kernel)]; kernel_rfl) | (rw [if_neg (by decide +kernel)]; exact ⟨rfl, rfl⟩))
    (fun os started H enc _ => lifted os started H enc)
theorem proved : Rows.FnExactClashTextSaid := over
#print axioms proved
end Go.Proofs.Ytjngmhngedecdaa.fnExactClashText
namespace Go.Proofs.Ytjngmhngedecdaa
theorem fnExactClashText_holds : Rows.FnExactClashTextSaid := fnExactClashText.proved
end Go.Proofs.Ytjngmhngedecdaa
