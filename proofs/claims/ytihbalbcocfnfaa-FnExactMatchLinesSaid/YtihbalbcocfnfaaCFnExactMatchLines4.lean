/- FnExactMatchLines: the law of the program holds at every input: the Go function returns true, and its arguments read afterwards as before.
Conditions: none beyond the given statement's own (what can be read as data, of a size that memory bears). -/
import Derived.Lib.Strings
import Derived.Lib.Bytealg
import Derived.Laws.BytesArg
import Derived.SliceStrings
import Derived.DataReads
import Derived.DataElems
import Derived.Test.YtihbalbcocfnfaaRows
import Derived.WalkKit
import Derived.ProofKit
import Derived.OpenShut
import Derived.ShutString
import Derived.ChangeOld
import Derived.Below
import Derived.SizedLaws
import Derived.Carry
import Derived.Test.YtihbalbcocfnfaaCFnExactMatchLines1
import Derived.Test.YtihbalbcocfnfaaCFnExactMatchLines2
import Derived.Test.YtihbalbcocfnfaaCFnExactMatchLines3
section
namespace Go.Proofs.Ytihbalbcocfnfaa.P
open Go.RowKit Go.Proofs.YtihbalbcocfnfaaW.PrintWords Go.Proofs.YtihbalbcocfnfaaW.PrintLast Go.Proofs.YtihbalbcocfnfaaW.PrintMore
attribute [local go_sem] max2_int min2_int max_two min_two max_three min_three max_four min_four
set_option linter.unusedVariables false
set_option linter.unusedSimpArgs false
def laws_heldPairsResult.f (k : Nat) (a0_0 : Int) (l0_1 : List Int) (l0_2 : List Int) (a1 : Int) : Option (Int) := (laws_heldInt64S.f k l0_1 a1).bind fun t464 => (if t464 < 0 then (some (-1)) else ((laws_heldInt64S.f k l0_2 t464).bind fun t465 => (if t465 < 0 then (some (-1)) else (some t465))))
set_option maxHeartbeats 8000000 in
set_option maxRecDepth 100000 in
theorem laws_heldPairsResult.calls (k : Nat) (a0_0 : Int) (A0_1 : Option Addr) (c0_1 : Nat) (l0_1 : List Int) (A0_2 : Option Addr) (c0_2 : Nat) (l0_2 : List Int) (a1 : Int) (r : Int) (w : World) (hr0_1 : Kd.C (Kd.int .i64) w A0_1 l0_1.length l0_1) (hc0_1 : l0_1.length ≤ c0_1) (hr0_2 : Kd.C (Kd.int .i64) w A0_2 l0_2.length l0_2) (hc0_2 : l0_2.length ≤ c0_2) (h : laws_heldPairsResult.f k a0_0 l0_1 l0_2 a1 = some r) :
  Calls Try.prog 34 #[.agg #[.int .i64 a0_0, .slice A0_1 l0_1.length c0_1, .slice A0_2 l0_2.length c0_2], .int .i64 a1] w fun e w' => e = .returned (.int .i64 r) ∧ Below w.heap.size w w' := by
 have hu44 := Try.underlying44
 have HR0_1 := Aside0.mk hr0_1
 have HC0_1 := Aside0.mk hc0_1
 clear hr0_1 hc0_1
 have HR0_2 := Aside0.mk hr0_2
 have HC0_2 := Aside0.mk hc0_2
 clear hr0_2 hc0_2
 have HB := Aside0.mk (Below.refl w.heap.size w)
 have H : ((laws_heldInt64S.f k l0_1 a1).bind fun t464 => (if t464 < 0 then (some (-1)) else ((laws_heldInt64S.f k l0_2 t464).bind fun t465 => (if t465 < 0 then (some (-1)) else (some t465))))) = some r := h
 clear h
 replace H := Option.bind_eq_some_iff.mp H
 obtain ⟨t464, A30, H⟩ := H
 replace H : (if t464 < 0 then (some (-1)) else ((laws_heldInt64S.f k l0_2 t464).bind fun t465 => (if t465 < 0 then (some (-1)) else (some t465)))) = some r := H
 have A3 := Aside0.mk A30
 clear A30
 by_cases c4 : t464 < 0
 ·rw [if_pos c4] at H
  have c4b0 : decide (t464 < 0) = true := decide_eq_true c4
  clear c4
  obtain rfl := Option.some.inj H
  go_enter Try.func34, Try.ntmps34
  go_wp2_with (first | ((with_reducible refine gate_dst (N := 2) rfl ?_); refine box_event ?hg (N := 2) ?hd (cs := #[.int .i64 a0_0, .slice A0_1 l0_1.length c0_1, .slice A0_2 l0_2.length c0_2]) (t := 44) ?hr ?_; (case hd => rfl); (case hg => rfl); (case hr => first | (go_simp; done) | (go_simp; rfl)); intro gb463 hg w5 hbox hb; have n0_ := Aside0.mk (below_step (by repeat (first | (with_reducible first | exact HB.out | apply below_alloc | apply pw_below_drewN | apply below_drew1) | exact HB.out)) hb); have n1_ := Aside0.mk (hbox); have n2_ := Aside0.mk ((by rw [hg]; exact (below_size (by repeat (first | (with_reducible first | exact HB.out | apply below_alloc | apply pw_below_drewN | apply below_drew1) | exact HB.out))) : w.heap.size ≤ gb463)); have n3_ := Aside0.mk ((by rw [hg]; exact (below_size (by repeat (first | (with_reducible first | exact HB.out | apply below_alloc | apply pw_below_drewN | apply below_drew1) | exact HB.out))) : w.heap.size ≤ gb463)); clear HB; have HB := n0_; have BK463 := n1_; have GW463 := n2_; have GE463 := n3_; clear n0_ n1_ n2_ n3_; clear hb hbox hg; have hcz6_0 : w5.cell? ⟨gb463, 0, none⟩ = some (.int .i64 a0_0) := (blk_cell BK463.out 0).trans rfl; have hcz6_1 : w5.cell? ⟨gb463, 1, none⟩ = some (.slice A0_1 l0_1.length c0_1) := (blk_cell BK463.out 1).trans rfl; have hcz6_2 : w5.cell? ⟨gb463, 2, none⟩ = some (.slice A0_2 l0_2.length c0_2) := (blk_cell BK463.out 2).trans rfl; have hfz6_0 := blk_frozen BK463.out 0; have hfz6_1 := blk_frozen BK463.out 1; have hfz6_2 := blk_frozen BK463.out 2) | ((with_reducible refine gate_callee (f := 69) rfl ?_); refine goesL_ (some 8) rfl rfl Try.func69 (by kernel_rfl) rfl #[.slice A0_1 l0_1.length c0_1, .int .i64 a1] rfl (by (try simp only [List.map_toArray, List.map_cons, List.map_nil]); first | done | rfl | (simp only [List.length_drop, List.length_take]; rfl)) ?_; (with_reducible refine (laws_heldInt64S.calls k _ _ l0_1 a1 t464 _ ?side1 ?side2 A3.out).mono ?_); (case side1 => repeat (first | exact (Kd.C_below HR0_1.out HB.out) | (with_reducible refine Kd.C_alloc ?_ _) | (with_reducible refine Kd.C_drewN ?_ _) | (with_reducible refine Kd.C_drew ?_))); (case side2 => exact HC0_1.out); rintro e w' ⟨rfl, ⟨nd, rfl⟩⟩; refine ⟨_, rfl, ?_⟩))
  go_ret
  exact ⟨by first | rfl | (simp [errW_none, errW_some] <;> rfl) | (simp [*, errW_none, errW_some] <;> rfl), by repeat (first | (with_reducible first | exact HB.out | apply below_alloc | apply pw_below_drewN | apply below_drew1 | refine below_set ?_ GE463.out) | exact HB.out)⟩
 ·rw [if_neg c4] at H
  have c4b0 : decide (t464 < 0) = false := decide_eq_false c4
  clear c4
  replace H := Option.bind_eq_some_iff.mp H
  obtain ⟨t465, A70, H⟩ := H
  replace H : (if t465 < 0 then (some (-1)) else (some t465)) = some r := H
  have A7 := Aside0.mk A70
  clear A70
  by_cases c8 : t465 < 0
  ·rw [if_pos c8] at H
   have c8b0 : decide (t465 < 0) = true := decide_eq_true c8
   clear c8
   obtain rfl := Option.some.inj H
   go_enter Try.func34, Try.ntmps34
   go_wp2_with (first | ((with_reducible refine gate_dst (N := 2) rfl ?_); refine box_event ?hg (N := 2) ?hd (cs := #[.int .i64 a0_0, .slice A0_1 l0_1.length c0_1, .slice A0_2 l0_2.length c0_2]) (t := 44) ?hr ?_; (case hd => rfl); (case hg => rfl); (case hr => first | (go_simp; done) | (go_simp; rfl)); intro gb463 hg w9 hbox hb; have n0_ := Aside0.mk (below_step (by repeat (first | (with_reducible first | exact HB.out | apply below_alloc | apply pw_below_drewN | apply below_drew1) | exact HB.out)) hb); have n1_ := Aside0.mk (hbox); have n2_ := Aside0.mk ((by rw [hg]; exact (below_size (by repeat (first | (with_reducible first | exact HB.out | apply below_alloc | apply pw_below_drewN | apply below_drew1) | exact HB.out))) : w.heap.size ≤ gb463)); have n3_ := Aside0.mk ((by rw [hg]; exact (below_size (by repeat (first | (with_reducible first | exact HB.out | apply below_alloc | apply pw_below_drewN | apply below_drew1) | exact HB.out))) : w.heap.size ≤ gb463)); clear HB; have HB := n0_; have BK463 := n1_; have GW463 := n2_; have GE463 := n3_; clear n0_ n1_ n2_ n3_; clear hb hbox hg; have hcz10_0 : w9.cell? ⟨gb463, 0, none⟩ = some (.int .i64 a0_0) := (blk_cell BK463.out 0).trans rfl; have hcz10_1 : w9.cell? ⟨gb463, 1, none⟩ = some (.slice A0_1 l0_1.length c0_1) := (blk_cell BK463.out 1).trans rfl; have hcz10_2 : w9.cell? ⟨gb463, 2, none⟩ = some (.slice A0_2 l0_2.length c0_2) := (blk_cell BK463.out 2).trans rfl; have hfz10_0 := blk_frozen BK463.out 0; have hfz10_1 := blk_frozen BK463.out 1; have hfz10_2 := blk_frozen BK463.out 2) | ((with_reducible refine gate_callee (f := 69) rfl ?_); refine goesL_ (some 8) rfl rfl Try.func69 (by kernel_rfl) rfl #[.slice A0_1 l0_1.length c0_1, .int .i64 a1] rfl (by (try simp only [List.map_toArray, List.map_cons, List.map_nil]); first | done | rfl | (simp only [List.length_drop, List.length_take]; rfl)) ?_; (with_reducible refine (laws_heldInt64S.calls k _ _ l0_1 a1 t464 _ ?side1 ?side2 A3.out).mono ?_); (case side1 => repeat (first | exact (Kd.C_below HR0_1.out HB.out) | (with_reducible refine Kd.C_alloc ?_ _) | (with_reducible refine Kd.C_drewN ?_ _) | (with_reducible refine Kd.C_drew ?_))); (case side2 => exact HC0_1.out); rintro e w' ⟨rfl, ⟨nd, rfl⟩⟩; refine ⟨_, rfl, ?_⟩) | ((with_reducible refine gate_callee (f := 69) rfl ?_); refine goesL_ (some 14) rfl rfl Try.func69 (by kernel_rfl) rfl #[.slice A0_2 l0_2.length c0_2, .int .i64 t464] rfl (by (try simp only [List.map_toArray, List.map_cons, List.map_nil]); first | done | rfl | (simp only [List.length_drop, List.length_take]; rfl)) ?_; (with_reducible refine (laws_heldInt64S.calls k _ _ l0_2 t464 t465 _ ?side1 ?side2 A7.out).mono ?_); (case side1 => repeat (first | exact (Kd.C_below HR0_2.out (by repeat (first | (with_reducible first | exact HB.out | apply below_alloc | apply pw_below_drewN | apply below_drew1 | refine below_set ?_ GE463.out) | exact HB.out))) | (with_reducible refine Kd.C_alloc ?_ _) | (with_reducible refine Kd.C_drewN ?_ _) | (with_reducible refine Kd.C_drew ?_))); (case side2 => exact HC0_2.out); rintro e w' ⟨rfl, ⟨nd, rfl⟩⟩; refine ⟨_, rfl, ?_⟩))
   go_ret
   exact ⟨by first | rfl | (simp [errW_none, errW_some] <;> rfl) | (simp [*, errW_none, errW_some] <;> rfl), by repeat (first | (with_reducible first | exact HB.out | apply below_alloc | apply pw_below_drewN | apply below_drew1 | refine below_set ?_ GE463.out) | exact HB.out)⟩
  ·rw [if_neg c8] at H
   have c8b0 : decide (t465 < 0) = false := decide_eq_false c8
   clear c8
   obtain rfl := Option.some.inj H
   go_enter Try.func34, Try.ntmps34
   go_wp2_with (first | ((with_reducible refine gate_dst (N := 2) rfl ?_); refine box_event ?hg (N := 2) ?hd (cs := #[.int .i64 a0_0, .slice A0_1 l0_1.length c0_1, .slice A0_2 l0_2.length c0_2]) (t := 44) ?hr ?_; (case hd => rfl); (case hg => rfl); (case hr => first | (go_simp; done) | (go_simp; rfl)); intro gb463 hg w11 hbox hb; have n0_ := Aside0.mk (below_step (by repeat (first | (with_reducible first | exact HB.out | apply below_alloc | apply pw_below_drewN | apply below_drew1) | exact HB.out)) hb); have n1_ := Aside0.mk (hbox); have n2_ := Aside0.mk ((by rw [hg]; exact (below_size (by repeat (first | (with_reducible first | exact HB.out | apply below_alloc | apply pw_below_drewN | apply below_drew1) | exact HB.out))) : w.heap.size ≤ gb463)); have n3_ := Aside0.mk ((by rw [hg]; exact (below_size (by repeat (first | (with_reducible first | exact HB.out | apply below_alloc | apply pw_below_drewN | apply below_drew1) | exact HB.out))) : w.heap.size ≤ gb463)); clear HB; have HB := n0_; have BK463 := n1_; have GW463 := n2_; have GE463 := n3_; clear n0_ n1_ n2_ n3_; clear hb hbox hg; have hcz12_0 : w11.cell? ⟨gb463, 0, none⟩ = some (.int .i64 a0_0) := (blk_cell BK463.out 0).trans rfl; have hcz12_1 : w11.cell? ⟨gb463, 1, none⟩ = some (.slice A0_1 l0_1.length c0_1) := (blk_cell BK463.out 1).trans rfl; have hcz12_2 : w11.cell? ⟨gb463, 2, none⟩ = some (.slice A0_2 l0_2.length c0_2) := (blk_cell BK463.out 2).trans rfl; have hfz12_0 := blk_frozen BK463.out 0; have hfz12_1 := blk_frozen BK463.out 1; have hfz12_2 := blk_frozen BK463.out 2) | ((with_reducible refine gate_callee (f := 69) rfl ?_); refine goesL_ (some 8) rfl rfl Try.func69 (by kernel_rfl) rfl #[.slice A0_1 l0_1.length c0_1, .int .i64 a1] rfl (by (try simp only [List.map_toArray, List.map_cons, List.map_nil]); first | done | rfl | (simp only [List.length_drop, List.length_take]; rfl)) ?_; (with_reducible refine (laws_heldInt64S.calls k _ _ l0_1 a1 t464 _ ?side1 ?side2 A3.out).mono ?_); (case side1 => repeat (first | exact (Kd.C_below HR0_1.out HB.out) | (with_reducible refine Kd.C_alloc ?_ _) | (with_reducible refine Kd.C_drewN ?_ _) | (with_reducible refine Kd.C_drew ?_))); (case side2 => exact HC0_1.out); rintro e w' ⟨rfl, ⟨nd, rfl⟩⟩; refine ⟨_, rfl, ?_⟩) | ((with_reducible refine gate_callee (f := 69) rfl ?_); refine goesL_ (some 14) rfl rfl Try.func69 (by kernel_rfl) rfl #[.slice A0_2 l0_2.length c0_2, .int .i64 t464] rfl (by (try simp only [List.map_toArray, List.map_cons, List.map_nil]); first | done | rfl | (simp only [List.length_drop, List.length_take]; rfl)) ?_; (with_reducible refine (laws_heldInt64S.calls k _ _ l0_2 t464 t465 _ ?side1 ?side2 A7.out).mono ?_); (case side1 => repeat (first | exact (Kd.C_below HR0_2.out (by repeat (first | (with_reducible first | exact HB.out | apply below_alloc | apply pw_below_drewN | apply below_drew1 | refine below_set ?_ GE463.out) | exact HB.out))) | (with_reducible refine Kd.C_alloc ?_ _) | (with_reducible refine Kd.C_drewN ?_ _) | (with_reducible refine Kd.C_drew ?_))); (case side2 => exact HC0_2.out); rintro e w' ⟨rfl, ⟨nd, rfl⟩⟩; refine ⟨_, rfl, ?_⟩))
   go_ret
   exact ⟨by first | rfl | (simp [errW_none, errW_some] <;> rfl) | (simp [*, errW_none, errW_some] <;> rfl), by repeat (first | (with_reducible first | exact HB.out | apply below_alloc | apply pw_below_drewN | apply below_drew1 | refine below_set ?_ GE463.out) | exact HB.out)⟩
end Go.Proofs.Ytihbalbcocfnfaa.P
end
section
namespace Go.Proofs.Ytihbalbcocfnfaa.P
open Go.RowKit Go.Proofs.YtihbalbcocfnfaaW.PrintWords Go.Proofs.YtihbalbcocfnfaaW.PrintLast Go.Proofs.YtihbalbcocfnfaaW.PrintMore
attribute [local go_sem] max2_int min2_int max_two min_two max_three min_three max_four min_four
set_option linter.unusedVariables false
set_option linter.unusedSimpArgs false
def laws_FnExactMatchLines.j0 : Nat → List ByteArray → List ByteArray → Bool → Int → List Int → List Int → Int → List Int → List Int → Option (Bool)
 | 0, _, _, _, _, _, _, _, _, _ => none
 | k + 1, x0, x1, x63, x482000, x482001, x482002, x496000, x496001, x496002 => if x63 = true then (some false) else ((laws_markPairsResult.f k x496000 x496001 x496002 1).bind fun bt510 => ((laws_heldPairsResult.f k x496000 bt510.2.1 bt510.2.2 1).bind fun t513 => (if t513 < 0 then (some false) else (if t513 = bt510.1 then ((laws_toStringS.f k x0).bind fun t514 => ((laws_toStringS.f k x1).bind fun t517 => ((impl_MatchLines.f k t514 t517).bind fun bt520 => ((laws_eqPairsResult.f k bt520.1 bt520.2.1 bt520.2.2 x482000 x482001 x482002).bind fun t528 => (if t528 = true then ((laws_heldPairsResult.f k x496000 bt510.2.1 bt510.2.2 1).bind fun t529 => (if t529 < 0 then (some false) else (if t529 = bt510.1 then (some true) else (some false)))) else (some false)))))) else (some false)))))
def laws_FnExactMatchLines.f (k : Nat) (l0 : List ByteArray) (l1 : List ByteArray) : Option (Bool) := (laws_szStringS.f k l0 1048576).bind fun t466 => (if t466 < 0 then (some true) else ((laws_szStringS.f k l1 t466).bind fun t467 => (if t467 < 0 then (some true) else ((laws_toStringS.f k l0).bind fun t468 => ((laws_toStringS.f k l1).bind fun t471 => ((spec_MatchLines.f k t468 t471).bind fun bt474 => ((laws_toStringS.f k l0).bind fun t482 => ((laws_toStringS.f k l1).bind fun t485 => ((impl_MatchLines.f k t482 t485).bind fun bt488 => ((laws_eqPairsResult.f k bt488.1 bt488.2.1 bt488.2.2 bt474.1 bt474.2.1 bt474.2.2).bind fun t496 => (if t496 = true then ((laws_toStringS.f k l0).bind fun t497 => ((laws_eqStringS.f k t482 t497).bind fun t500 => (if t500 = true then ((laws_toStringS.f k l1).bind fun t501 => ((laws_eqStringS.f k t485 t501).bind fun t504 => (if t504 = true then ((laws_markStringS.f k t482 1).bind fun bt505 => ((laws_markStringS.f k t485 bt505.1).bind fun bt507 => (if bt507.1 < 0 then (laws_FnExactMatchLines.j0 k l0 l1 true bt474.1 bt474.2.1 bt474.2.2 bt488.1 bt488.2.1 bt488.2.2) else ((laws_eqPairsResult.f k bt488.1 bt488.2.1 bt488.2.2 bt474.1 bt474.2.1 bt474.2.2).bind fun t509 => (laws_FnExactMatchLines.j0 k l0 l1 (!t509) bt474.1 bt474.2.1 bt474.2.2 bt488.1 bt488.2.1 bt488.2.2))))) else (some false)))) else (some false)))) else (some false))))))))))))
set_option maxHeartbeats 8000000 in
set_option maxRecDepth 100000 in
theorem laws_FnExactMatchLines.calls (k : Nat) (A0 : Option Addr) (c0 : Nat) (l0 : List ByteArray) (A1 : Option Addr) (c1 : Nat) (l1 : List ByteArray) (r : Bool) (w : World) (hr0 : Kd.C Kd.string w A0 l0.length l0) (hc0 : l0.length ≤ c0) (hr1 : Kd.C Kd.string w A1 l1.length l1) (hc1 : l1.length ≤ c1) (h : laws_FnExactMatchLines.f k l0 l1 = some r) (hlaw : r = true) :
  Calls Try.prog 7 #[.slice A0 l0.length c0, .slice A1 l1.length c1] w fun e w' => e = .returned (.bool r) ∧ Below w.heap.size w w' := by
 have hu44 := Try.underlying44
 have HR0 := Aside0.mk hr0
 have HC0 := Aside0.mk hc0
 clear hr0 hc0
 have HR1 := Aside0.mk hr1
 have HC1 := Aside0.mk hc1
 clear hr1 hc1
 have HB := Aside0.mk (Below.refl w.heap.size w)
 have HLAW := Aside0.mk hlaw
 clear hlaw
 have H : ((laws_szStringS.f k l0 1048576).bind fun t466 => (if t466 < 0 then (some true) else ((laws_szStringS.f k l1 t466).bind fun t467 => (if t467 < 0 then (some true) else ((laws_toStringS.f k l0).bind fun t468 => ((laws_toStringS.f k l1).bind fun t471 => ((spec_MatchLines.f k t468 t471).bind fun bt474 => ((laws_toStringS.f k l0).bind fun t482 => ((laws_toStringS.f k l1).bind fun t485 => ((impl_MatchLines.f k t482 t485).bind fun bt488 => ((laws_eqPairsResult.f k bt488.1 bt488.2.1 bt488.2.2 bt474.1 bt474.2.1 bt474.2.2).bind fun t496 => (if t496 = true then ((laws_toStringS.f k l0).bind fun t497 => ((laws_eqStringS.f k t482 t497).bind fun t500 => (if t500 = true then ((laws_toStringS.f k l1).bind fun t501 => ((laws_eqStringS.f k t485 t501).bind fun t504 => (if t504 = true then ((laws_markStringS.f k t482 1).bind fun bt505 => ((laws_markStringS.f k t485 bt505.1).bind fun bt507 => (if bt507.1 < 0 then (laws_FnExactMatchLines.j0 k l0 l1 true bt474.1 bt474.2.1 bt474.2.2 bt488.1 bt488.2.1 bt488.2.2) else ((laws_eqPairsResult.f k bt488.1 bt488.2.1 bt488.2.2 bt474.1 bt474.2.1 bt474.2.2).bind fun t509 => (laws_FnExactMatchLines.j0 k l0 l1 (!t509) bt474.1 bt474.2.1 bt474.2.2 bt488.1 bt488.2.1 bt488.2.2))))) else (some false)))) else (some false)))) else (some false))))))))))))) = some r := h
 clear h
 replace H := Option.bind_eq_some_iff.mp H
 obtain ⟨t466, A30, H⟩ := H
 replace H : (if t466 < 0 then (some true) else ((laws_szStringS.f k l1 t466).bind fun t467 => (if t467 < 0 then (some true) else ((laws_toStringS.f k l0).bind fun t468 => ((laws_toStringS.f k l1).bind fun t471 => ((spec_MatchLines.f k t468 t471).bind fun bt474 => ((laws_toStringS.f k l0).bind fun t482 => ((laws_toStringS.f k l1).bind fun t485 => ((impl_MatchLines.f k t482 t485).bind fun bt488 => ((laws_eqPairsResult.f k bt488.1 bt488.2.1 bt488.2.2 bt474.1 bt474.2.1 bt474.2.2).bind fun t496 => (if t496 = true then ((laws_toStringS.f k l0).bind fun t497 => ((laws_eqStringS.f k t482 t497).bind fun t500 => (if t500 = true then ((laws_toStringS.f k l1).bind fun t501 => ((laws_eqStringS.f k t485 t501).bind fun t504 => (if t504 = true then ((laws_markStringS.f k t482 1).bind fun bt505 => ((laws_markStringS.f k t485 bt505.1).bind fun bt507 => (if bt507.1 < 0 then (laws_FnExactMatchLines.j0 k l0 l1 true bt474.1 bt474.2.1 bt474.2.2 bt488.1 bt488.2.1 bt488.2.2) else ((laws_eqPairsResult.f k bt488.1 bt488.2.1 bt488.2.2 bt474.1 bt474.2.1 bt474.2.2).bind fun t509 => (laws_FnExactMatchLines.j0 k l0 l1 (!t509) bt474.1 bt474.2.1 bt474.2.2 bt488.1 bt488.2.1 bt488.2.2))))) else (some false)))) else (some false)))) else (some false)))))))))))) = some r := H
 have A3 := Aside0.mk A30
 clear A30
 by_cases c4 : t466 < 0
 ·rw [if_pos c4] at H
  have c4b0 : decide (t466 < 0) = true := decide_eq_true c4
  clear c4
  obtain rfl := Option.some.inj H
  go_enter Try.func7, Try.ntmps7
  go_wp2_with (first | ((with_reducible refine gate_callee (f := 13) rfl ?_); refine goesL_ (some 16) rfl rfl Try.func13 (by kernel_rfl) rfl #[.slice A0 l0.length c0, .int .i64 1048576] rfl (by (try simp only [List.map_toArray, List.map_cons, List.map_nil]); first | done | rfl | (simp only [List.length_drop, List.length_take]; rfl)) ?_; (with_reducible refine (laws_szStringS.calls k _ _ l0 1048576 t466 _ ?side1 ?side2 A3.out).mono ?_); (case side1 => repeat (first | exact HR0.out | (with_reducible refine Kd.C_alloc ?_ _) | (with_reducible refine Kd.C_drewN ?_ _) | (with_reducible refine Kd.C_drew ?_))); (case side2 => exact HC0.out); rintro e w' ⟨rfl, ⟨nd, rfl⟩⟩; refine ⟨_, rfl, ?_⟩))
  go_ret
  exact ⟨by first | rfl | (simp [errW_none, errW_some] <;> rfl) | (simp [*, errW_none, errW_some] <;> rfl), by repeat (first | (with_reducible first | exact HB.out | apply below_alloc | apply pw_below_drewN | apply below_drew1) | exact HB.out)⟩
 ·rw [if_neg c4] at H
  have c4b0 : decide (t466 < 0) = false := decide_eq_false c4
  clear c4
  replace H := Option.bind_eq_some_iff.mp H
  obtain ⟨t467, A50, H⟩ := H
  replace H : (if t467 < 0 then (some true) else ((laws_toStringS.f k l0).bind fun t468 => ((laws_toStringS.f k l1).bind fun t471 => ((spec_MatchLines.f k t468 t471).bind fun bt474 => ((laws_toStringS.f k l0).bind fun t482 => ((laws_toStringS.f k l1).bind fun t485 => ((impl_MatchLines.f k t482 t485).bind fun bt488 => ((laws_eqPairsResult.f k bt488.1 bt488.2.1 bt488.2.2 bt474.1 bt474.2.1 bt474.2.2).bind fun t496 => (if t496 = true then ((laws_toStringS.f k l0).bind fun t497 => ((laws_eqStringS.f k t482 t497).bind fun t500 => (if t500 = true then ((laws_toStringS.f k l1).bind fun t501 => ((laws_eqStringS.f k t485 t501).bind fun t504 => (if t504 = true then ((laws_markStringS.f k t482 1).bind fun bt505 => ((laws_markStringS.f k t485 bt505.1).bind fun bt507 => (if bt507.1 < 0 then (laws_FnExactMatchLines.j0 k l0 l1 true bt474.1 bt474.2.1 bt474.2.2 bt488.1 bt488.2.1 bt488.2.2) else ((laws_eqPairsResult.f k bt488.1 bt488.2.1 bt488.2.2 bt474.1 bt474.2.1 bt474.2.2).bind fun t509 => (laws_FnExactMatchLines.j0 k l0 l1 (!t509) bt474.1 bt474.2.1 bt474.2.2 bt488.1 bt488.2.1 bt488.2.2))))) else (some false)))) else (some false)))) else (some false)))))))))) = some r := H
  have A5 := Aside0.mk A50
  clear A50
  by_cases c6 : t467 < 0
  ·rw [if_pos c6] at H
   have c6b0 : decide (t467 < 0) = true := decide_eq_true c6
   clear c6
   obtain rfl := Option.some.inj H
   go_enter Try.func7, Try.ntmps7
   go_wp2_with (first | ((with_reducible refine gate_callee (f := 13) rfl ?_); refine goesL_ (some 16) rfl rfl Try.func13 (by kernel_rfl) rfl #[.slice A0 l0.length c0, .int .i64 1048576] rfl (by (try simp only [List.map_toArray, List.map_cons, List.map_nil]); first | done | rfl | (simp only [List.length_drop, List.length_take]; rfl)) ?_; (with_reducible refine (laws_szStringS.calls k _ _ l0 1048576 t466 _ ?side1 ?side2 A3.out).mono ?_); (case side1 => repeat (first | exact HR0.out | (with_reducible refine Kd.C_alloc ?_ _) | (with_reducible refine Kd.C_drewN ?_ _) | (with_reducible refine Kd.C_drew ?_))); (case side2 => exact HC0.out); rintro e w' ⟨rfl, ⟨nd, rfl⟩⟩; refine ⟨_, rfl, ?_⟩) | ((with_reducible refine gate_callee (f := 13) rfl ?_); refine goesL_ (some 21) rfl rfl Try.func13 (by kernel_rfl) rfl #[.slice A1 l1.length c1, .int .i64 t466] rfl (by (try simp only [List.map_toArray, List.map_cons, List.map_nil]); first | done | rfl | (simp only [List.length_drop, List.length_take]; rfl)) ?_; (with_reducible refine (laws_szStringS.calls k _ _ l1 t466 t467 _ ?side1 ?side2 A5.out).mono ?_); (case side1 => repeat (first | exact HR1.out | (with_reducible refine Kd.C_alloc ?_ _) | (with_reducible refine Kd.C_drewN ?_ _) | (with_reducible refine Kd.C_drew ?_))); (case side2 => exact HC1.out); rintro e w' ⟨rfl, ⟨nd, rfl⟩⟩; refine ⟨_, rfl, ?_⟩))
   go_ret
   exact ⟨by first | rfl | (simp [errW_none, errW_some] <;> rfl) | (simp [*, errW_none, errW_some] <;> rfl), by repeat (first | (with_reducible first | exact HB.out | apply below_alloc | apply pw_below_drewN | apply below_drew1) | exact HB.out)⟩
  ·rw [if_neg c6] at H
   have c6b0 : decide (t467 < 0) = false := decide_eq_false c6
   clear c6
   replace H := Option.bind_eq_some_iff.mp H
   obtain ⟨t468, A70, H⟩ := H
   replace H : ((laws_toStringS.f k l1).bind fun t471 => ((spec_MatchLines.f k t468 t471).bind fun bt474 => ((laws_toStringS.f k l0).bind fun t482 => ((laws_toStringS.f k l1).bind fun t485 => ((impl_MatchLines.f k t482 t485).bind fun bt488 => ((laws_eqPairsResult.f k bt488.1 bt488.2.1 bt488.2.2 bt474.1 bt474.2.1 bt474.2.2).bind fun t496 => (if t496 = true then ((laws_toStringS.f k l0).bind fun t497 => ((laws_eqStringS.f k t482 t497).bind fun t500 => (if t500 = true then ((laws_toStringS.f k l1).bind fun t501 => ((laws_eqStringS.f k t485 t501).bind fun t504 => (if t504 = true then ((laws_markStringS.f k t482 1).bind fun bt505 => ((laws_markStringS.f k t485 bt505.1).bind fun bt507 => (if bt507.1 < 0 then (laws_FnExactMatchLines.j0 k l0 l1 true bt474.1 bt474.2.1 bt474.2.2 bt488.1 bt488.2.1 bt488.2.2) else ((laws_eqPairsResult.f k bt488.1 bt488.2.1 bt488.2.2 bt474.1 bt474.2.1 bt474.2.2).bind fun t509 => (laws_FnExactMatchLines.j0 k l0 l1 (!t509) bt474.1 bt474.2.1 bt474.2.2 bt488.1 bt488.2.1 bt488.2.2))))) else (some false)))) else (some false)))) else (some false)))))))) = some r := H
   have A7 := Aside0.mk A70
   clear A70
   replace H := Option.bind_eq_some_iff.mp H
   obtain ⟨t471, A80, H⟩ := H
   replace H : ((spec_MatchLines.f k t468 t471).bind fun bt474 => ((laws_toStringS.f k l0).bind fun t482 => ((laws_toStringS.f k l1).bind fun t485 => ((impl_MatchLines.f k t482 t485).bind fun bt488 => ((laws_eqPairsResult.f k bt488.1 bt488.2.1 bt488.2.2 bt474.1 bt474.2.1 bt474.2.2).bind fun t496 => (if t496 = true then ((laws_toStringS.f k l0).bind fun t497 => ((laws_eqStringS.f k t482 t497).bind fun t500 => (if t500 = true then ((laws_toStringS.f k l1).bind fun t501 => ((laws_eqStringS.f k t485 t501).bind fun t504 => (if t504 = true then ((laws_markStringS.f k t482 1).bind fun bt505 => ((laws_markStringS.f k t485 bt505.1).bind fun bt507 => (if bt507.1 < 0 then (laws_FnExactMatchLines.j0 k l0 l1 true bt474.1 bt474.2.1 bt474.2.2 bt488.1 bt488.2.1 bt488.2.2) else ((laws_eqPairsResult.f k bt488.1 bt488.2.1 bt488.2.2 bt474.1 bt474.2.1 bt474.2.2).bind fun t509 => (laws_FnExactMatchLines.j0 k l0 l1 (!t509) bt474.1 bt474.2.1 bt474.2.2 bt488.1 bt488.2.1 bt488.2.2))))) else (some false)))) else (some false)))) else (some false))))))) = some r := H
   have A8 := Aside0.mk A80
   clear A80
   replace H := Option.bind_eq_some_iff.mp H
   obtain ⟨⟨t474, t475, t478⟩, A90, H⟩ := H
   replace H : ((laws_toStringS.f k l0).bind fun t482 => ((laws_toStringS.f k l1).bind fun t485 => ((impl_MatchLines.f k t482 t485).bind fun bt488 => ((laws_eqPairsResult.f k bt488.1 bt488.2.1 bt488.2.2 t474 t475 t478).bind fun t496 => (if t496 = true then ((laws_toStringS.f k l0).bind fun t497 => ((laws_eqStringS.f k t482 t497).bind fun t500 => (if t500 = true then ((laws_toStringS.f k l1).bind fun t501 => ((laws_eqStringS.f k t485 t501).bind fun t504 => (if t504 = true then ((laws_markStringS.f k t482 1).bind fun bt505 => ((laws_markStringS.f k t485 bt505.1).bind fun bt507 => (if bt507.1 < 0 then (laws_FnExactMatchLines.j0 k l0 l1 true t474 t475 t478 bt488.1 bt488.2.1 bt488.2.2) else ((laws_eqPairsResult.f k bt488.1 bt488.2.1 bt488.2.2 t474 t475 t478).bind fun t509 => (laws_FnExactMatchLines.j0 k l0 l1 (!t509) t474 t475 t478 bt488.1 bt488.2.1 bt488.2.2))))) else (some false)))) else (some false)))) else (some false)))))) = some r := H
   have A9 := Aside0.mk A90
   clear A90
   replace H := Option.bind_eq_some_iff.mp H
   obtain ⟨t482, A100, H⟩ := H
   replace H : ((laws_toStringS.f k l1).bind fun t485 => ((impl_MatchLines.f k t482 t485).bind fun bt488 => ((laws_eqPairsResult.f k bt488.1 bt488.2.1 bt488.2.2 t474 t475 t478).bind fun t496 => (if t496 = true then ((laws_toStringS.f k l0).bind fun t497 => ((laws_eqStringS.f k t482 t497).bind fun t500 => (if t500 = true then ((laws_toStringS.f k l1).bind fun t501 => ((laws_eqStringS.f k t485 t501).bind fun t504 => (if t504 = true then ((laws_markStringS.f k t482 1).bind fun bt505 => ((laws_markStringS.f k t485 bt505.1).bind fun bt507 => (if bt507.1 < 0 then (laws_FnExactMatchLines.j0 k l0 l1 true t474 t475 t478 bt488.1 bt488.2.1 bt488.2.2) else ((laws_eqPairsResult.f k bt488.1 bt488.2.1 bt488.2.2 t474 t475 t478).bind fun t509 => (laws_FnExactMatchLines.j0 k l0 l1 (!t509) t474 t475 t478 bt488.1 bt488.2.1 bt488.2.2))))) else (some false)))) else (some false)))) else (some false))))) = some r := H
   have A10 := Aside0.mk A100
   clear A100
   replace H := Option.bind_eq_some_iff.mp H
   obtain ⟨t485, A110, H⟩ := H
   replace H : ((impl_MatchLines.f k t482 t485).bind fun bt488 => ((laws_eqPairsResult.f k bt488.1 bt488.2.1 bt488.2.2 t474 t475 t478).bind fun t496 => (if t496 = true then ((laws_toStringS.f k l0).bind fun t497 => ((laws_eqStringS.f k t482 t497).bind fun t500 => (if t500 = true then ((laws_toStringS.f k l1).bind fun t501 => ((laws_eqStringS.f k t485 t501).bind fun t504 => (if t504 = true then ((laws_markStringS.f k t482 1).bind fun bt505 => ((laws_markStringS.f k t485 bt505.1).bind fun bt507 => (if bt507.1 < 0 then (laws_FnExactMatchLines.j0 k l0 l1 true t474 t475 t478 bt488.1 bt488.2.1 bt488.2.2) else ((laws_eqPairsResult.f k bt488.1 bt488.2.1 bt488.2.2 t474 t475 t478).bind fun t509 => (laws_FnExactMatchLines.j0 k l0 l1 (!t509) t474 t475 t478 bt488.1 bt488.2.1 bt488.2.2))))) else (some false)))) else (some false)))) else (some false)))) = some r := H
   have A11 := Aside0.mk A110
   clear A110
   replace H := Option.bind_eq_some_iff.mp H
   obtain ⟨⟨t488, t489, t492⟩, A120, H⟩ := H
   replace H : ((laws_eqPairsResult.f k t488 t489 t492 t474 t475 t478).bind fun t496 => (if t496 = true then ((laws_toStringS.f k l0).bind fun t497 => ((laws_eqStringS.f k t482 t497).bind fun t500 => (if t500 = true then ((laws_toStringS.f k l1).bind fun t501 => ((laws_eqStringS.f k t485 t501).bind fun t504 => (if t504 = true then ((laws_markStringS.f k t482 1).bind fun bt505 => ((laws_markStringS.f k t485 bt505.1).bind fun bt507 => (if bt507.1 < 0 then (laws_FnExactMatchLines.j0 k l0 l1 true t474 t475 t478 t488 t489 t492) else ((laws_eqPairsResult.f k t488 t489 t492 t474 t475 t478).bind fun t509 => (laws_FnExactMatchLines.j0 k l0 l1 (!t509) t474 t475 t478 t488 t489 t492))))) else (some false)))) else (some false)))) else (some false))) = some r := H
   have A12 := Aside0.mk A120
   clear A120
   replace H := Option.bind_eq_some_iff.mp H
   obtain ⟨t496, A130, H⟩ := H
   replace H : (if t496 = true then ((laws_toStringS.f k l0).bind fun t497 => ((laws_eqStringS.f k t482 t497).bind fun t500 => (if t500 = true then ((laws_toStringS.f k l1).bind fun t501 => ((laws_eqStringS.f k t485 t501).bind fun t504 => (if t504 = true then ((laws_markStringS.f k t482 1).bind fun bt505 => ((laws_markStringS.f k t485 bt505.1).bind fun bt507 => (if bt507.1 < 0 then (laws_FnExactMatchLines.j0 k l0 l1 true t474 t475 t478 t488 t489 t492) else ((laws_eqPairsResult.f k t488 t489 t492 t474 t475 t478).bind fun t509 => (laws_FnExactMatchLines.j0 k l0 l1 (!t509) t474 t475 t478 t488 t489 t492))))) else (some false)))) else (some false)))) else (some false)) = some r := H
   have A13 := Aside0.mk A130
   clear A130
   by_cases c14 : t496 = true
   ·subst c14
    have H1 : ((laws_toStringS.f k l0).bind fun t497 => ((laws_eqStringS.f k t482 t497).bind fun t500 => (if t500 = true then ((laws_toStringS.f k l1).bind fun t501 => ((laws_eqStringS.f k t485 t501).bind fun t504 => (if t504 = true then ((laws_markStringS.f k t482 1).bind fun bt505 => ((laws_markStringS.f k t485 bt505.1).bind fun bt507 => (if bt507.1 < 0 then (laws_FnExactMatchLines.j0 k l0 l1 true t474 t475 t478 t488 t489 t492) else ((laws_eqPairsResult.f k t488 t489 t492 t474 t475 t478).bind fun t509 => (laws_FnExactMatchLines.j0 k l0 l1 (!t509) t474 t475 t478 t488 t489 t492))))) else (some false)))) else (some false)))) = some r := by rw [if_pos rfl] at H; exact H
    clear H
    have H := H1
    clear H1
    replace H := Option.bind_eq_some_iff.mp H
    obtain ⟨t497, A150, H⟩ := H
    replace H : ((laws_eqStringS.f k t482 t497).bind fun t500 => (if t500 = true then ((laws_toStringS.f k l1).bind fun t501 => ((laws_eqStringS.f k t485 t501).bind fun t504 => (if t504 = true then ((laws_markStringS.f k t482 1).bind fun bt505 => ((laws_markStringS.f k t485 bt505.1).bind fun bt507 => (if bt507.1 < 0 then (laws_FnExactMatchLines.j0 k l0 l1 true t474 t475 t478 t488 t489 t492) else ((laws_eqPairsResult.f k t488 t489 t492 t474 t475 t478).bind fun t509 => (laws_FnExactMatchLines.j0 k l0 l1 (!t509) t474 t475 t478 t488 t489 t492))))) else (some false)))) else (some false))) = some r := H
    have A15 := Aside0.mk A150
    clear A150
    replace H := Option.bind_eq_some_iff.mp H
    obtain ⟨t500, A160, H⟩ := H
    replace H : (if t500 = true then ((laws_toStringS.f k l1).bind fun t501 => ((laws_eqStringS.f k t485 t501).bind fun t504 => (if t504 = true then ((laws_markStringS.f k t482 1).bind fun bt505 => ((laws_markStringS.f k t485 bt505.1).bind fun bt507 => (if bt507.1 < 0 then (laws_FnExactMatchLines.j0 k l0 l1 true t474 t475 t478 t488 t489 t492) else ((laws_eqPairsResult.f k t488 t489 t492 t474 t475 t478).bind fun t509 => (laws_FnExactMatchLines.j0 k l0 l1 (!t509) t474 t475 t478 t488 t489 t492))))) else (some false)))) else (some false)) = some r := H
    have A16 := Aside0.mk A160
    clear A160
    by_cases c17 : t500 = true
    ·subst c17
     have H1 : ((laws_toStringS.f k l1).bind fun t501 => ((laws_eqStringS.f k t485 t501).bind fun t504 => (if t504 = true then ((laws_markStringS.f k t482 1).bind fun bt505 => ((laws_markStringS.f k t485 bt505.1).bind fun bt507 => (if bt507.1 < 0 then (laws_FnExactMatchLines.j0 k l0 l1 true t474 t475 t478 t488 t489 t492) else ((laws_eqPairsResult.f k t488 t489 t492 t474 t475 t478).bind fun t509 => (laws_FnExactMatchLines.j0 k l0 l1 (!t509) t474 t475 t478 t488 t489 t492))))) else (some false)))) = some r := by rw [if_pos rfl] at H; exact H
     clear H
     have H := H1
     clear H1
     replace H := Option.bind_eq_some_iff.mp H
     obtain ⟨t501, A180, H⟩ := H
     replace H : ((laws_eqStringS.f k t485 t501).bind fun t504 => (if t504 = true then ((laws_markStringS.f k t482 1).bind fun bt505 => ((laws_markStringS.f k t485 bt505.1).bind fun bt507 => (if bt507.1 < 0 then (laws_FnExactMatchLines.j0 k l0 l1 true t474 t475 t478 t488 t489 t492) else ((laws_eqPairsResult.f k t488 t489 t492 t474 t475 t478).bind fun t509 => (laws_FnExactMatchLines.j0 k l0 l1 (!t509) t474 t475 t478 t488 t489 t492))))) else (some false))) = some r := H
     have A18 := Aside0.mk A180
     clear A180
     replace H := Option.bind_eq_some_iff.mp H
     obtain ⟨t504, A190, H⟩ := H
     replace H : (if t504 = true then ((laws_markStringS.f k t482 1).bind fun bt505 => ((laws_markStringS.f k t485 bt505.1).bind fun bt507 => (if bt507.1 < 0 then (laws_FnExactMatchLines.j0 k l0 l1 true t474 t475 t478 t488 t489 t492) else ((laws_eqPairsResult.f k t488 t489 t492 t474 t475 t478).bind fun t509 => (laws_FnExactMatchLines.j0 k l0 l1 (!t509) t474 t475 t478 t488 t489 t492))))) else (some false)) = some r := H
     have A19 := Aside0.mk A190
     clear A190
     by_cases c20 : t504 = true
     ·subst c20
      have H1 : ((laws_markStringS.f k t482 1).bind fun bt505 => ((laws_markStringS.f k t485 bt505.1).bind fun bt507 => (if bt507.1 < 0 then (laws_FnExactMatchLines.j0 k l0 l1 true t474 t475 t478 t488 t489 t492) else ((laws_eqPairsResult.f k t488 t489 t492 t474 t475 t478).bind fun t509 => (laws_FnExactMatchLines.j0 k l0 l1 (!t509) t474 t475 t478 t488 t489 t492))))) = some r := by rw [if_pos rfl] at H; exact H
      clear H
      have H := H1
      clear H1
      replace H := Option.bind_eq_some_iff.mp H
      obtain ⟨⟨t505, t506⟩, A210, H⟩ := H
      replace H : ((laws_markStringS.f k t485 t505).bind fun bt507 => (if bt507.1 < 0 then (laws_FnExactMatchLines.j0 k l0 l1 true t474 t475 t478 t488 t489 t492) else ((laws_eqPairsResult.f k t488 t489 t492 t474 t475 t478).bind fun t509 => (laws_FnExactMatchLines.j0 k l0 l1 (!t509) t474 t475 t478 t488 t489 t492)))) = some r := H
      have A21 := Aside0.mk A210
      clear A210
      replace H := Option.bind_eq_some_iff.mp H
      obtain ⟨⟨t507, t508⟩, A220, H⟩ := H
      replace H : (if t507 < 0 then (laws_FnExactMatchLines.j0 k l0 l1 true t474 t475 t478 t488 t489 t492) else ((laws_eqPairsResult.f k t488 t489 t492 t474 t475 t478).bind fun t509 => (laws_FnExactMatchLines.j0 k l0 l1 (!t509) t474 t475 t478 t488 t489 t492))) = some r := H
      have A22 := Aside0.mk A220
      clear A220
      have HC23 := Aside0.mk H
      clear H
      go_enter Try.func7, Try.ntmps7
      go_upto_region 21 with (first | ((with_reducible refine gate_callee (f := 13) rfl ?_); refine goesL_ (some 16) rfl rfl Try.func13 (by kernel_rfl) rfl #[.slice A0 l0.length c0, .int .i64 1048576] rfl (by (try simp only [List.map_toArray, List.map_cons, List.map_nil]); first | done | rfl | (simp only [List.length_drop, List.length_take]; rfl)) ?_; (with_reducible refine (laws_szStringS.calls k _ _ l0 1048576 t466 _ ?side1 ?side2 A3.out).mono ?_); (case side1 => repeat (first | exact HR0.out | (with_reducible refine Kd.C_alloc ?_ _) | (with_reducible refine Kd.C_drewN ?_ _) | (with_reducible refine Kd.C_drew ?_))); (case side2 => exact HC0.out); rintro e w' ⟨rfl, ⟨nd, rfl⟩⟩; refine ⟨_, rfl, ?_⟩) | ((with_reducible refine gate_callee (f := 13) rfl ?_); refine goesL_ (some 21) rfl rfl Try.func13 (by kernel_rfl) rfl #[.slice A1 l1.length c1, .int .i64 t466] rfl (by (try simp only [List.map_toArray, List.map_cons, List.map_nil]); first | done | rfl | (simp only [List.length_drop, List.length_take]; rfl)) ?_; (with_reducible refine (laws_szStringS.calls k _ _ l1 t466 t467 _ ?side1 ?side2 A5.out).mono ?_); (case side1 => repeat (first | exact HR1.out | (with_reducible refine Kd.C_alloc ?_ _) | (with_reducible refine Kd.C_drewN ?_ _) | (with_reducible refine Kd.C_drew ?_))); (case side2 => exact HC1.out); rintro e w' ⟨rfl, ⟨nd, rfl⟩⟩; refine ⟨_, rfl, ?_⟩) | ((with_reducible refine gate_callee (f := 15) rfl ?_); refine goesL_ (some 25) rfl rfl Try.func15 (by kernel_rfl) rfl #[.slice A0 l0.length c0] rfl (by (try simp only [List.map_toArray, List.map_cons, List.map_nil]); first | done | rfl | (simp only [List.length_drop, List.length_take]; rfl)) ?_; (with_reducible refine (laws_toStringS.calls k _ _ l0 t468 _ ?side1 ?side2 A7.out).mono ?_); (case side1 => repeat (first | exact HR0.out | (with_reducible refine Kd.C_alloc ?_ _) | (with_reducible refine Kd.C_drewN ?_ _) | (with_reducible refine Kd.C_drew ?_))); (case side2 => exact HC0.out); rintro e w24 ⟨v469, rfl, ho0, hb⟩; refine ⟨_, rfl, ?_⟩; have n0_ := Aside0.mk (Kd.R_lower ho0 (below_size (by repeat (first | (with_reducible first | exact HB.out | apply below_alloc | apply pw_below_drewN | apply below_drew1) | exact HB.out)))); have n1_ := Aside0.mk (below_step (by repeat (first | (with_reducible first | exact HB.out | apply below_alloc | apply pw_below_drewN | apply below_drew1) | exact HB.out)) hb); clear HB; have HO470 := n0_; have HB := n1_; clear n0_ n1_; (try clear hb); (try clear hb2); (try clear hk); (try clear hi); (try clear ho0)) | ((with_reducible refine gate_callee (f := 15) rfl ?_); refine goesL_ (some 27) rfl rfl Try.func15 (by kernel_rfl) rfl #[.slice A1 l1.length c1] rfl (by (try simp only [List.map_toArray, List.map_cons, List.map_nil]); first | done | rfl | (simp only [List.length_drop, List.length_take]; rfl)) ?_; (with_reducible refine (laws_toStringS.calls k _ _ l1 t471 _ ?side1 ?side2 A8.out).mono ?_); (case side1 => repeat (first | exact (Kd.C_below HR1.out HB.out) | (with_reducible refine Kd.C_alloc ?_ _) | (with_reducible refine Kd.C_drewN ?_ _) | (with_reducible refine Kd.C_drew ?_))); (case side2 => exact HC1.out); rintro e w25 ⟨v472, rfl, ho0, hb⟩; refine ⟨_, rfl, ?_⟩; have n0_ := Aside0.mk (Kd.R_elder' (by (with_reducible repeat (first | apply Kd.R_alloc | apply Kd.R_drewN | apply Kd.R_drew)); exact HO470.out) (Kd.R_base ho0) hb); have n1_ := Aside0.mk (Kd.R_lower (Kd.R_new' ho0 (Kd.R_lt (by (with_reducible repeat (first | apply Kd.R_alloc | apply Kd.R_drewN | apply Kd.R_drew)); exact HO470.out))) (below_size (by repeat (first | (with_reducible first | exact HB.out | apply below_alloc | apply pw_below_drewN | apply below_drew1) | exact HB.out)))); have n2_ := Aside0.mk (below_step (by repeat (first | (with_reducible first | exact HB.out | apply below_alloc | apply pw_below_drewN | apply below_drew1) | exact HB.out)) hb); clear HO470; clear HB; have HO470 := n0_; have HO473 := n1_; have HB := n2_; clear n0_ n1_ n2_; (try clear hb); (try clear hb2); (try clear hk); (try clear hi); (try clear ho0); obtain ⟨Ao26, co26, eo26⟩ := Kd.R_slice HO470.out; subst eo26; obtain ⟨Ao27, co27, eo27⟩ := Kd.R_slice HO473.out; subst eo27) | ((with_reducible refine gate_callee (f := 29) rfl ?_); refine goesL_ (some 28) rfl rfl Try.func29 (by kernel_rfl) rfl #[.slice Ao26 t468.length co26, .slice Ao27 t471.length co27] rfl (by (try simp only [List.map_toArray, List.map_cons, List.map_nil]); first | done | rfl | (simp only [List.length_drop, List.length_take]; rfl)) ?_; (with_reducible refine (spec_MatchLines.calls k _ _ t468 _ _ t471 t474 t475 t478 _ ?side1 ?side2 ?side3 ?side4 A9.out).mono ?_); (case side1 => repeat (first | exact (Kd.R_reads' HO470.out).2.2 | (with_reducible refine Kd.C_alloc ?_ _) | (with_reducible refine Kd.C_drewN ?_ _) | (with_reducible refine Kd.C_drew ?_))); (case side2 => exact (Kd.R_reads' HO470.out).2.1); (case side3 => repeat (first | exact (Kd.R_reads' HO473.out).2.2 | (with_reducible refine Kd.C_alloc ?_ _) | (with_reducible refine Kd.C_drewN ?_ _) | (with_reducible refine Kd.C_drew ?_))); (case side4 => exact (Kd.R_reads' HO473.out).2.1); rintro e w28 ⟨v476, v479, rfl, ho0, ho1, hb⟩; refine ⟨_, rfl, ?_⟩; have n0_ := Aside0.mk (Kd.R_below (by (with_reducible repeat (first | apply Kd.R_alloc | apply Kd.R_drewN | apply Kd.R_drew)); exact HO470.out) hb); have n1_ := Aside0.mk (Kd.R_below (by (with_reducible repeat (first | apply Kd.R_alloc | apply Kd.R_drewN | apply Kd.R_drew)); exact HO473.out) hb); have n2_ := Aside0.mk (Kd.R_lower ho0 (below_size (by repeat (first | (with_reducible first | exact HB.out | apply below_alloc | apply pw_below_drewN | apply below_drew1) | exact HB.out)))); have n3_ := Aside0.mk (Kd.R_lower ho1 (below_size (by repeat (first | (with_reducible first | exact HB.out | apply below_alloc | apply pw_below_drewN | apply below_drew1) | exact HB.out)))); have n4_ := Aside0.mk (below_step (by repeat (first | (with_reducible first | exact HB.out | apply below_alloc | apply pw_below_drewN | apply below_drew1) | exact HB.out)) hb); clear HO470; clear HO473; clear HB; have HO470 := n0_; have HO473 := n1_; have HO477 := n2_; have HO480 := n3_; have HB := n4_; clear n0_ n1_ n2_ n3_ n4_; (try clear hb); (try clear hb2); (try clear hk); (try clear hi); (try clear ho0); (try clear ho1)) | ((with_reducible refine gate_dst (N := 6) rfl ?_); refine box_event ?hg (N := 6) ?hd (cs := #[.int .i64 0, .slice none 0 0, .slice none 0 0]) (t := 44) ?hr ?_; (case hd => rfl); (case hg => rfl); (case hr => first | (go_simp; done) | (go_simp; rfl)); intro gb481 hg w29 hbox hb; have n0_ := Aside0.mk (Kd.R_below (by (with_reducible repeat (first | apply Kd.R_alloc | apply Kd.R_drewN | apply Kd.R_drew)); exact HO470.out) hb); have n1_ := Aside0.mk (Kd.R_below (by (with_reducible repeat (first | apply Kd.R_alloc | apply Kd.R_drewN | apply Kd.R_drew)); exact HO473.out) hb); have n2_ := Aside0.mk (Kd.R_below (by (with_reducible repeat (first | apply Kd.R_alloc | apply Kd.R_drewN | apply Kd.R_drew)); exact HO477.out) hb); have n3_ := Aside0.mk (Kd.R_below (by (with_reducible repeat (first | apply Kd.R_alloc | apply Kd.R_drewN | apply Kd.R_drew)); exact HO480.out) hb); have n4_ := Aside0.mk (below_step (by repeat (first | (with_reducible first | exact HB.out | apply below_alloc | apply pw_below_drewN | apply below_drew1) | exact HB.out)) hb); have n5_ := Aside0.mk (hbox); have n6_ := Aside0.mk ((by rw [hg]; exact (below_size (by repeat (first | (with_reducible first | exact HB.out | apply below_alloc | apply pw_below_drewN | apply below_drew1) | exact HB.out))) : w.heap.size ≤ gb481)); have n7_ := Aside0.mk ((by rw [hg]; exact (below_size (by repeat (first | (with_reducible first | exact HB.out | apply below_alloc | apply pw_below_drewN | apply below_drew1) | exact HB.out))) : w.heap.size ≤ gb481)); clear HO470; clear HO473; clear HO477; clear HO480; clear HB; have HO470 := n0_; have HO473 := n1_; have HO477 := n2_; have HO480 := n3_; have HB := n4_; have BK481 := n5_; have GW481 := n6_; have GE481 := n7_; clear n0_ n1_ n2_ n3_ n4_ n5_ n6_ n7_; clear hb hbox hg; have hcz30_0 : w29.cell? ⟨gb481, 0, none⟩ = some (.int .i64 0) := (blk_cell BK481.out 0).trans rfl; have hcz30_1 : w29.cell? ⟨gb481, 1, none⟩ = some (.slice none 0 0) := (blk_cell BK481.out 1).trans rfl; have hcz30_2 : w29.cell? ⟨gb481, 2, none⟩ = some (.slice none 0 0) := (blk_cell BK481.out 2).trans rfl; have hfz30_0 := blk_frozen BK481.out 0; have hfz30_1 := blk_frozen BK481.out 1; have hfz30_2 := blk_frozen BK481.out 2; obtain ⟨Ao31, co31, eo31⟩ := Kd.R_slice HO477.out; subst eo31; obtain ⟨Ao32, co32, eo32⟩ := Kd.R_slice HO480.out; subst eo32) | ((with_reducible refine gate_callee (f := 15) rfl ?_); refine goesL_ (some 30) rfl rfl Try.func15 (by kernel_rfl) rfl #[.slice A0 l0.length c0] rfl (by (try simp only [List.map_toArray, List.map_cons, List.map_nil]); first | done | rfl | (simp only [List.length_drop, List.length_take]; rfl)) ?_; (with_reducible refine (laws_toStringS.calls k _ _ l0 t482 _ ?side1 ?side2 A10.out).mono ?_); (case side1 => exact Kd.C_below HR0.out (by repeat (first | (with_reducible first | exact HB.out | apply below_alloc | apply pw_below_drewN | apply below_drew1 | refine below_set ?_ GE481.out) | exact HB.out))); (case side2 => exact HC0.out); rintro e w33 ⟨v483, rfl, ho0, hb⟩; refine ⟨_, rfl, ?_⟩; have n0_ := Aside0.mk (Kd.R_elder' (by (with_reducible repeat (first | apply Kd.R_alloc | apply Kd.R_drewN | apply Kd.R_drew)); exact (Kd.R_mono (Kd.R_far (p := ⟨gb481, 2, none⟩) (Kd.R_far (p := ⟨gb481, 1, none⟩) (Kd.R_far (p := ⟨gb481, 0, none⟩) (Kd.R_types HO470.out BK481.out (by decide)) (fun _ hk => hk.2) (.int .i64 t474)) (fun _ hk => hk.2) (.slice Ao31 t475.length co31)) (fun _ hk => hk.2) (.slice Ao32 t478.length co32)) (fun _ h_ => h_.1))) (Kd.R_base ho0) hb); have n1_ := Aside0.mk (Kd.R_elder' (by (with_reducible repeat (first | apply Kd.R_alloc | apply Kd.R_drewN | apply Kd.R_drew)); exact (Kd.R_mono (Kd.R_far (p := ⟨gb481, 2, none⟩) (Kd.R_far (p := ⟨gb481, 1, none⟩) (Kd.R_far (p := ⟨gb481, 0, none⟩) (Kd.R_types HO473.out BK481.out (by decide)) (fun _ hk => hk.2) (.int .i64 t474)) (fun _ hk => hk.2) (.slice Ao31 t475.length co31)) (fun _ hk => hk.2) (.slice Ao32 t478.length co32)) (fun _ h_ => h_.1))) (Kd.R_base ho0) hb); have n2_ := Aside0.mk (Kd.R_below (by (with_reducible repeat (first | apply Kd.R_alloc | apply Kd.R_drewN | apply Kd.R_drew)); exact (Kd.R_mono (Kd.R_far (p := ⟨gb481, 2, none⟩) (Kd.R_far (p := ⟨gb481, 1, none⟩) (Kd.R_far (p := ⟨gb481, 0, none⟩) (Kd.R_types HO477.out BK481.out (by decide)) (fun _ hk => hk.2) (.int .i64 t474)) (fun _ hk => hk.2) (.slice Ao31 t475.length co31)) (fun _ hk => hk.2) (.slice Ao32 t478.length co32)) (fun _ h_ => h_.1))) hb); have n3_ := Aside0.mk (Kd.R_below (by (with_reducible repeat (first | apply Kd.R_alloc | apply Kd.R_drewN | apply Kd.R_drew)); exact (Kd.R_mono (Kd.R_far (p := ⟨gb481, 2, none⟩) (Kd.R_far (p := ⟨gb481, 1, none⟩) (Kd.R_far (p := ⟨gb481, 0, none⟩) (Kd.R_types HO480.out BK481.out (by decide)) (fun _ hk => hk.2) (.int .i64 t474)) (fun _ hk => hk.2) (.slice Ao31 t475.length co31)) (fun _ hk => hk.2) (.slice Ao32 t478.length co32)) (fun _ h_ => h_.1))) hb); have n4_ := Aside0.mk (Kd.R_lower (Kd.R_new' (Kd.R_new' ho0 (Kd.R_lt (by (with_reducible repeat (first | apply Kd.R_alloc | apply Kd.R_drewN | apply Kd.R_drew)); exact (Kd.R_mono (Kd.R_far (p := ⟨gb481, 2, none⟩) (Kd.R_far (p := ⟨gb481, 1, none⟩) (Kd.R_far (p := ⟨gb481, 0, none⟩) (Kd.R_types HO470.out BK481.out (by decide)) (fun _ hk => hk.2) (.int .i64 t474)) (fun _ hk => hk.2) (.slice Ao31 t475.length co31)) (fun _ hk => hk.2) (.slice Ao32 t478.length co32)) (fun _ h_ => h_.1))))) (Kd.R_lt (by (with_reducible repeat (first | apply Kd.R_alloc | apply Kd.R_drewN | apply Kd.R_drew)); exact (Kd.R_mono (Kd.R_far (p := ⟨gb481, 2, none⟩) (Kd.R_far (p := ⟨gb481, 1, none⟩) (Kd.R_far (p := ⟨gb481, 0, none⟩) (Kd.R_types HO473.out BK481.out (by decide)) (fun _ hk => hk.2) (.int .i64 t474)) (fun _ hk => hk.2) (.slice Ao31 t475.length co31)) (fun _ hk => hk.2) (.slice Ao32 t478.length co32)) (fun _ h_ => h_.1))))) (below_size (by repeat (first | (with_reducible first | exact HB.out | apply below_alloc | apply pw_below_drewN | apply below_drew1 | refine below_set ?_ GE481.out) | exact HB.out)))); have n5_ := Aside0.mk (blk_below (g := gb481) (o := .cells #[.int .i64 t474, .slice Ao31 t475.length co31, .slice Ao32 t478.length co32] 44 (0, 0)) (by (with_reducible repeat (first | refine blk_drewN ?_ _ | refine blk_drew ?_ | refine blk_alloc ?_ _)); refine blk_put (cs := #[.int .i64 t474, .slice Ao31 t475.length co31, .slice none 0 0]) ?_ 2 _ rfl; (with_reducible repeat (first | refine blk_drewN ?_ _ | refine blk_drew ?_ | refine blk_alloc ?_ _)); refine blk_put (cs := #[.int .i64 t474, .slice none 0 0, .slice none 0 0]) ?_ 1 _ rfl; (with_reducible repeat (first | refine blk_drewN ?_ _ | refine blk_drew ?_ | refine blk_alloc ?_ _)); refine blk_put (cs := #[.int .i64 0, .slice none 0 0, .slice none 0 0]) ?_ 0 _ rfl; (with_reducible repeat (first | refine blk_drewN ?_ _ | refine blk_drew ?_ | refine blk_alloc ?_ _)); exact BK481.out) hb); have n6_ := Aside0.mk (below_step (by repeat (first | (with_reducible first | exact HB.out | apply below_alloc | apply pw_below_drewN | apply below_drew1 | refine below_set ?_ GE481.out) | exact HB.out)) hb); clear HO470; clear HO473; clear HO477; clear HO480; clear BK481; clear HB; have HO470 := n0_; have HO473 := n1_; have HO477 := n2_; have HO480 := n3_; have HO484 := n4_; have BK481 := n5_; have HB := n6_; clear n0_ n1_ n2_ n3_ n4_ n5_ n6_; (try clear hb); (try clear hb2); (try clear hk); (try clear hi); (try clear ho0)) | ((with_reducible refine gate_callee (f := 15) rfl ?_); refine goesL_ (some 32) rfl rfl Try.func15 (by kernel_rfl) rfl #[.slice A1 l1.length c1] rfl (by (try simp only [List.map_toArray, List.map_cons, List.map_nil]); first | done | rfl | (simp only [List.length_drop, List.length_take]; rfl)) ?_; (with_reducible refine (laws_toStringS.calls k _ _ l1 t485 _ ?side1 ?side2 A11.out).mono ?_); (case side1 => repeat (first | exact (Kd.C_below HR1.out HB.out) | (with_reducible refine Kd.C_alloc ?_ _) | (with_reducible refine Kd.C_drewN ?_ _) | (with_reducible refine Kd.C_drew ?_))); (case side2 => exact HC1.out); rintro e w34 ⟨v486, rfl, ho0, hb⟩; refine ⟨_, rfl, ?_⟩; have n0_ := Aside0.mk (Kd.R_elder' (by (with_reducible repeat (first | apply Kd.R_alloc | apply Kd.R_drewN | apply Kd.R_drew)); exact HO470.out) (Kd.R_base ho0) hb); have n1_ := Aside0.mk (Kd.R_elder' (by (with_reducible repeat (first | apply Kd.R_alloc | apply Kd.R_drewN | apply Kd.R_drew)); exact HO473.out) (Kd.R_base ho0) hb); have n2_ := Aside0.mk (Kd.R_below (by (with_reducible repeat (first | apply Kd.R_alloc | apply Kd.R_drewN | apply Kd.R_drew)); exact HO477.out) hb); have n3_ := Aside0.mk (Kd.R_below (by (with_reducible repeat (first | apply Kd.R_alloc | apply Kd.R_drewN | apply Kd.R_drew)); exact HO480.out) hb); have n4_ := Aside0.mk (Kd.R_elder' (by (with_reducible repeat (first | apply Kd.R_alloc | apply Kd.R_drewN | apply Kd.R_drew)); exact HO484.out) (Kd.R_base ho0) hb); have n5_ := Aside0.mk (Kd.R_lower (Kd.R_new' (Kd.R_new' (Kd.R_new' ho0 (Kd.R_lt (by (with_reducible repeat (first | apply Kd.R_alloc | apply Kd.R_drewN | apply Kd.R_drew)); exact HO470.out))) (Kd.R_lt (by (with_reducible repeat (first | apply Kd.R_alloc | apply Kd.R_drewN | apply Kd.R_drew)); exact HO473.out))) (Kd.R_lt (by (with_reducible repeat (first | apply Kd.R_alloc | apply Kd.R_drewN | apply Kd.R_drew)); exact HO484.out))) (below_size (by repeat (first | (with_reducible first | exact HB.out | apply below_alloc | apply pw_below_drewN | apply below_drew1 | refine below_set ?_ GE481.out) | exact HB.out)))); have n6_ := Aside0.mk (blk_below (g := gb481) (o := .cells #[.int .i64 t474, .slice Ao31 t475.length co31, .slice Ao32 t478.length co32] 44 (0, 0)) (by (with_reducible repeat (first | refine blk_drewN ?_ _ | refine blk_drew ?_ | refine blk_alloc ?_ _)); exact BK481.out) hb); have n7_ := Aside0.mk (below_step (by repeat (first | (with_reducible first | exact HB.out | apply below_alloc | apply pw_below_drewN | apply below_drew1 | refine below_set ?_ GE481.out) | exact HB.out)) hb); clear HO470; clear HO473; clear HO477; clear HO480; clear HO484; clear BK481; clear HB; have HO470 := n0_; have HO473 := n1_; have HO477 := n2_; have HO480 := n3_; have HO484 := n4_; have HO487 := n5_; have BK481 := n6_; have HB := n7_; clear n0_ n1_ n2_ n3_ n4_ n5_ n6_ n7_; (try clear hb); (try clear hb2); (try clear hk); (try clear hi); (try clear ho0); obtain ⟨Ao35, co35, eo35⟩ := Kd.R_slice HO484.out; subst eo35; obtain ⟨Ao36, co36, eo36⟩ := Kd.R_slice HO487.out; subst eo36) | ((with_reducible refine gate_callee (f := 30) rfl ?_); refine goesL_ (some 35) rfl rfl Try.func30 (by kernel_rfl) rfl #[.slice Ao35 t482.length co35, .slice Ao36 t485.length co36] rfl (by (try simp only [List.map_toArray, List.map_cons, List.map_nil]); first | done | rfl | (simp only [List.length_drop, List.length_take]; rfl)) ?_; (with_reducible refine (impl_MatchLines.calls k _ _ t482 _ _ t485 t488 t489 t492 _ ?side1 ?side2 ?side3 ?side4 A12.out).mono ?_); (case side1 => repeat (first | exact (Kd.R_reads' HO484.out).2.2 | (with_reducible refine Kd.C_alloc ?_ _) | (with_reducible refine Kd.C_drewN ?_ _) | (with_reducible refine Kd.C_drew ?_))); (case side2 => exact (Kd.R_reads' HO484.out).2.1); (case side3 => repeat (first | exact (Kd.R_reads' HO487.out).2.2 | (with_reducible refine Kd.C_alloc ?_ _) | (with_reducible refine Kd.C_drewN ?_ _) | (with_reducible refine Kd.C_drew ?_))); (case side4 => exact (Kd.R_reads' HO487.out).2.1); rintro e w37 ⟨v490, v493, rfl, ho0, ho1, hb⟩; refine ⟨_, rfl, ?_⟩; have n0_ := Aside0.mk (Kd.R_below (by (with_reducible repeat (first | apply Kd.R_alloc | apply Kd.R_drewN | apply Kd.R_drew)); exact HO470.out) hb); have n1_ := Aside0.mk (Kd.R_below (by (with_reducible repeat (first | apply Kd.R_alloc | apply Kd.R_drewN | apply Kd.R_drew)); exact HO473.out) hb); have n2_ := Aside0.mk (Kd.R_mono (Kd.R_told (Kd.R_told (Kd.R_old (by (with_reducible repeat (first | apply Kd.R_alloc | apply Kd.R_drewN | apply Kd.R_drew)); exact HO477.out) hb) (Kd.R_base ho0)) (Kd.R_base ho1)) (fun _ h_ => h_.1)); have n3_ := Aside0.mk (Kd.R_mono (Kd.R_told (Kd.R_told (Kd.R_old (by (with_reducible repeat (first | apply Kd.R_alloc | apply Kd.R_drewN | apply Kd.R_drew)); exact HO480.out) hb) (Kd.R_base ho0)) (Kd.R_base ho1)) (fun _ h_ => h_.1)); have n4_ := Aside0.mk (Kd.R_below (by (with_reducible repeat (first | apply Kd.R_alloc | apply Kd.R_drewN | apply Kd.R_drew)); exact HO484.out) hb); have n5_ := Aside0.mk (Kd.R_below (by (with_reducible repeat (first | apply Kd.R_alloc | apply Kd.R_drewN | apply Kd.R_drew)); exact HO487.out) hb); have n6_ := Aside0.mk (Kd.R_lower (Kd.R_new' (Kd.R_new' ho0 (Kd.R_lt (by (with_reducible repeat (first | apply Kd.R_alloc | apply Kd.R_drewN | apply Kd.R_drew)); exact HO477.out))) (Kd.R_lt (by (with_reducible repeat (first | apply Kd.R_alloc | apply Kd.R_drewN | apply Kd.R_drew)); exact HO480.out))) (below_size (by repeat (first | (with_reducible first | exact HB.out | apply below_alloc | apply pw_below_drewN | apply below_drew1 | refine below_set ?_ GE481.out) | exact HB.out)))); have n7_ := Aside0.mk (Kd.R_lower (Kd.R_new' (Kd.R_new' ho1 (Kd.R_lt (by (with_reducible repeat (first | apply Kd.R_alloc | apply Kd.R_drewN | apply Kd.R_drew)); exact HO477.out))) (Kd.R_lt (by (with_reducible repeat (first | apply Kd.R_alloc | apply Kd.R_drewN | apply Kd.R_drew)); exact HO480.out))) (below_size (by repeat (first | (with_reducible first | exact HB.out | apply below_alloc | apply pw_below_drewN | apply below_drew1 | refine below_set ?_ GE481.out) | exact HB.out)))); have n8_ := Aside0.mk (blk_below (g := gb481) (o := .cells #[.int .i64 t474, .slice Ao31 t475.length co31, .slice Ao32 t478.length co32] 44 (0, 0)) (by (with_reducible repeat (first | refine blk_drewN ?_ _ | refine blk_drew ?_ | refine blk_alloc ?_ _)); exact BK481.out) hb); have n9_ := Aside0.mk (below_step (by repeat (first | (with_reducible first | exact HB.out | apply below_alloc | apply pw_below_drewN | apply below_drew1 | refine below_set ?_ GE481.out) | exact HB.out)) hb); clear HO470; clear HO473; clear HO477; clear HO480; clear HO484; clear HO487; clear BK481; clear HB; have HO470 := n0_; have HO473 := n1_; have HO477 := n2_; have HO480 := n3_; have HO484 := n4_; have HO487 := n5_; have HO491 := n6_; have HO494 := n7_; have BK481 := n8_; have HB := n9_; clear n0_ n1_ n2_ n3_ n4_ n5_ n6_ n7_ n8_ n9_; (try clear hb); (try clear hb2); (try clear hk); (try clear hi); (try clear ho0); (try clear ho1)) | ((with_reducible refine gate_dst (N := 9) rfl ?_); refine box_event ?hg (N := 9) ?hd (cs := #[.int .i64 0, .slice none 0 0, .slice none 0 0]) (t := 44) ?hr ?_; (case hd => rfl); (case hg => rfl); (case hr => first | (go_simp; done) | (go_simp; rfl)); intro gb495 hg w38 hbox hb; have n0_ := Aside0.mk (Kd.R_below (by (with_reducible repeat (first | apply Kd.R_alloc | apply Kd.R_drewN | apply Kd.R_drew)); exact HO470.out) hb); have n1_ := Aside0.mk (Kd.R_below (by (with_reducible repeat (first | apply Kd.R_alloc | apply Kd.R_drewN | apply Kd.R_drew)); exact HO473.out) hb); have n2_ := Aside0.mk (Kd.R_below (by (with_reducible repeat (first | apply Kd.R_alloc | apply Kd.R_drewN | apply Kd.R_drew)); exact HO477.out) hb); have n3_ := Aside0.mk (Kd.R_below (by (with_reducible repeat (first | apply Kd.R_alloc | apply Kd.R_drewN | apply Kd.R_drew)); exact HO480.out) hb); have n4_ := Aside0.mk (Kd.R_below (by (with_reducible repeat (first | apply Kd.R_alloc | apply Kd.R_drewN | apply Kd.R_drew)); exact HO484.out) hb); have n5_ := Aside0.mk (Kd.R_below (by (with_reducible repeat (first | apply Kd.R_alloc | apply Kd.R_drewN | apply Kd.R_drew)); exact HO487.out) hb); have n6_ := Aside0.mk (Kd.R_below (by (with_reducible repeat (first | apply Kd.R_alloc | apply Kd.R_drewN | apply Kd.R_drew)); exact HO491.out) hb); have n7_ := Aside0.mk (Kd.R_below (by (with_reducible repeat (first | apply Kd.R_alloc | apply Kd.R_drewN | apply Kd.R_drew)); exact HO494.out) hb); have n8_ := Aside0.mk (blk_below (g := gb481) (o := .cells #[.int .i64 t474, .slice Ao31 t475.length co31, .slice Ao32 t478.length co32] 44 (0, 0)) (by (with_reducible repeat (first | refine blk_drewN ?_ _ | refine blk_drew ?_ | refine blk_alloc ?_ _)); exact BK481.out) hb); have n9_ := Aside0.mk (below_step (by repeat (first | (with_reducible first | exact HB.out | apply below_alloc | apply pw_below_drewN | apply below_drew1 | refine below_set ?_ GE481.out) | exact HB.out)) hb); have n10_ := Aside0.mk (hbox); have n11_ := Aside0.mk ((by rw [hg]; exact (below_size (by repeat (first | (with_reducible first | exact HB.out | apply below_alloc | apply pw_below_drewN | apply below_drew1 | refine below_set ?_ GE481.out) | exact HB.out))) : w.heap.size ≤ gb495)); have n12_ := Aside0.mk ((by rw [hg]; exact (below_size (by repeat (first | (with_reducible first | exact HB.out | apply below_alloc | apply pw_below_drewN | apply below_drew1 | refine below_set ?_ GE481.out) | exact HB.out))) : w.heap.size ≤ gb495)); have n13_ := Aside0.mk ((by rw [hg]; exact Nat.ne_of_lt (blk_lt (g := gb481) (o := .cells #[.int .i64 t474, .slice Ao31 t475.length co31, .slice Ao32 t478.length co32] 44 (0, 0)) (by (with_reducible repeat (first | refine blk_drewN ?_ _ | refine blk_drew ?_ | refine blk_alloc ?_ _)); exact BK481.out)) : gb481 ≠ gb495)); have n14_ := Aside0.mk ((by rw [hg]; exact Nat.ne_of_gt (blk_lt (g := gb481) (o := .cells #[.int .i64 t474, .slice Ao31 t475.length co31, .slice Ao32 t478.length co32] 44 (0, 0)) (by (with_reducible repeat (first | refine blk_drewN ?_ _ | refine blk_drew ?_ | refine blk_alloc ?_ _)); exact BK481.out)) : gb495 ≠ gb481)); clear HO470; clear HO473; clear HO477; clear HO480; clear HO484; clear HO487; clear HO491; clear HO494; clear BK481; clear HB; have HO470 := n0_; have HO473 := n1_; have HO477 := n2_; have HO480 := n3_; have HO484 := n4_; have HO487 := n5_; have HO491 := n6_; have HO494 := n7_; have BK481 := n8_; have HB := n9_; have BK495 := n10_; have GW495 := n11_; have GE495 := n12_; have NB481_495 := n13_; have NB495_481 := n14_; clear n0_ n1_ n2_ n3_ n4_ n5_ n6_ n7_ n8_ n9_ n10_ n11_ n12_ n13_ n14_; clear hb hbox hg; have hnb39 := NB495_481.out; have hnc39 := NB481_495.out; have hcz40_0 : w38.cell? ⟨gb495, 0, none⟩ = some (.int .i64 0) := (blk_cell BK495.out 0).trans rfl; have hcz40_1 : w38.cell? ⟨gb495, 1, none⟩ = some (.slice none 0 0) := (blk_cell BK495.out 1).trans rfl; have hcz40_2 : w38.cell? ⟨gb495, 2, none⟩ = some (.slice none 0 0) := (blk_cell BK495.out 2).trans rfl; have hfz40_0 := blk_frozen BK495.out 0; have hfz40_1 := blk_frozen BK495.out 1; have hfz40_2 := blk_frozen BK495.out 2; obtain ⟨Ao41, co41, eo41⟩ := Kd.R_slice HO491.out; subst eo41; obtain ⟨Ao42, co42, eo42⟩ := Kd.R_slice HO494.out; subst eo42; have hcz43_0 : w38.cell? ⟨gb481, 0, none⟩ = some (.int .i64 t474) := (blk_cell BK481.out 0).trans rfl; have hcz43_1 : w38.cell? ⟨gb481, 1, none⟩ = some (.slice Ao31 t475.length co31) := (blk_cell BK481.out 1).trans rfl; have hcz43_2 : w38.cell? ⟨gb481, 2, none⟩ = some (.slice Ao32 t478.length co32) := (blk_cell BK481.out 2).trans rfl; have hfz43_0 := blk_frozen BK481.out 0; have hfz43_1 := blk_frozen BK481.out 1; have hfz43_2 := blk_frozen BK481.out 2) | ((with_reducible refine gate_callee (f := 31) rfl ?_); refine goesL_ (some 38) rfl rfl Try.func31 (by kernel_rfl) rfl #[.agg #[.int .i64 t488, .slice Ao41 t489.length co41, .slice Ao42 t492.length co42], .agg #[.int .i64 t474, .slice Ao31 t475.length co31, .slice Ao32 t478.length co32]] rfl (by (try simp only [List.map_toArray, List.map_cons, List.map_nil]); first | done | rfl | (simp only [List.length_drop, List.length_take]; rfl)) ?_; (with_reducible refine (laws_eqPairsResult.calls k t488 _ _ t489 _ _ t492 t474 _ _ t475 _ _ t478 true _ ?side1 ?side2 ?side3 ?side4 ?side5 ?side6 ?side7 ?side8 A13.out).mono ?_); (case side1 => refine (Kd.R_reads' (e := 2) (base := w.heap.size) (ok := fun k_ => ((some k_ ≠ (.slice Ao42 t492.length co42 : Value).ownBlock ∧ some k_ ≠ (.slice Ao31 t475.length co31 : Value).ownBlock) ∧ some k_ ≠ (.slice Ao32 t478.length co32 : Value).ownBlock)) (n := t489.length) (c := co41) ?_).2.2; exact (by (with_reducible repeat (first | apply Kd.R_alloc | apply Kd.R_drewN | apply Kd.R_drew)); exact (Kd.R_mono (Kd.R_far (p := ⟨gb495, 2, none⟩) (Kd.R_far (p := ⟨gb495, 1, none⟩) (Kd.R_far (p := ⟨gb495, 0, none⟩) (Kd.R_types HO491.out BK495.out (by decide)) (fun _ hk => hk.2) (.int .i64 t488)) (fun _ hk => hk.2) (.slice Ao41 t489.length co41)) (fun _ hk => hk.2) (.slice Ao42 t492.length co42)) (fun _ h_ => h_.1)))); (case side2 => exact (Kd.R_reads' HO491.out).2.1); (case side3 => refine (Kd.R_reads' (e := 2) (base := w.heap.size) (ok := fun k_ => ((some k_ ≠ (.slice Ao41 t489.length co41 : Value).ownBlock ∧ some k_ ≠ (.slice Ao31 t475.length co31 : Value).ownBlock) ∧ some k_ ≠ (.slice Ao32 t478.length co32 : Value).ownBlock)) (n := t492.length) (c := co42) ?_).2.2; exact (by (with_reducible repeat (first | apply Kd.R_alloc | apply Kd.R_drewN | apply Kd.R_drew)); exact (Kd.R_mono (Kd.R_far (p := ⟨gb495, 2, none⟩) (Kd.R_far (p := ⟨gb495, 1, none⟩) (Kd.R_far (p := ⟨gb495, 0, none⟩) (Kd.R_types HO494.out BK495.out (by decide)) (fun _ hk => hk.2) (.int .i64 t488)) (fun _ hk => hk.2) (.slice Ao41 t489.length co41)) (fun _ hk => hk.2) (.slice Ao42 t492.length co42)) (fun _ h_ => h_.1)))); (case side4 => exact (Kd.R_reads' HO494.out).2.1); (case side5 => refine (Kd.R_reads' (e := 2) (base := w.heap.size) (ok := fun k_ => ((some k_ ≠ (.slice Ao32 t478.length co32 : Value).ownBlock ∧ some k_ ≠ (.slice Ao41 t489.length co41 : Value).ownBlock) ∧ some k_ ≠ (.slice Ao42 t492.length co42 : Value).ownBlock)) (n := t475.length) (c := co31) ?_).2.2; exact (by (with_reducible repeat (first | apply Kd.R_alloc | apply Kd.R_drewN | apply Kd.R_drew)); exact (Kd.R_mono (Kd.R_far (p := ⟨gb495, 2, none⟩) (Kd.R_far (p := ⟨gb495, 1, none⟩) (Kd.R_far (p := ⟨gb495, 0, none⟩) (Kd.R_types HO477.out BK495.out (by decide)) (fun _ hk => hk.2) (.int .i64 t488)) (fun _ hk => hk.2) (.slice Ao41 t489.length co41)) (fun _ hk => hk.2) (.slice Ao42 t492.length co42)) (fun _ h_ => h_.1)))); (case side6 => exact (Kd.R_reads' HO477.out).2.1); (case side7 => refine (Kd.R_reads' (e := 2) (base := w.heap.size) (ok := fun k_ => ((some k_ ≠ (.slice Ao31 t475.length co31 : Value).ownBlock ∧ some k_ ≠ (.slice Ao41 t489.length co41 : Value).ownBlock) ∧ some k_ ≠ (.slice Ao42 t492.length co42 : Value).ownBlock)) (n := t478.length) (c := co32) ?_).2.2; exact (by (with_reducible repeat (first | apply Kd.R_alloc | apply Kd.R_drewN | apply Kd.R_drew)); exact (Kd.R_mono (Kd.R_far (p := ⟨gb495, 2, none⟩) (Kd.R_far (p := ⟨gb495, 1, none⟩) (Kd.R_far (p := ⟨gb495, 0, none⟩) (Kd.R_types HO480.out BK495.out (by decide)) (fun _ hk => hk.2) (.int .i64 t488)) (fun _ hk => hk.2) (.slice Ao41 t489.length co41)) (fun _ hk => hk.2) (.slice Ao42 t492.length co42)) (fun _ h_ => h_.1)))); (case side8 => exact (Kd.R_reads' HO480.out).2.1); rintro e w44 ⟨rfl, hb⟩; refine ⟨_, rfl, ?_⟩; have n0_ := Aside0.mk (Kd.R_below (by (with_reducible repeat (first | apply Kd.R_alloc | apply Kd.R_drewN | apply Kd.R_drew)); exact (Kd.R_mono (Kd.R_far (p := ⟨gb495, 2, none⟩) (Kd.R_far (p := ⟨gb495, 1, none⟩) (Kd.R_far (p := ⟨gb495, 0, none⟩) (Kd.R_types HO470.out BK495.out (by decide)) (fun _ hk => hk.2) (.int .i64 t488)) (fun _ hk => hk.2) (.slice Ao41 t489.length co41)) (fun _ hk => hk.2) (.slice Ao42 t492.length co42)) (fun _ h_ => h_.1))) hb); have n1_ := Aside0.mk (Kd.R_below (by (with_reducible repeat (first | apply Kd.R_alloc | apply Kd.R_drewN | apply Kd.R_drew)); exact (Kd.R_mono (Kd.R_far (p := ⟨gb495, 2, none⟩) (Kd.R_far (p := ⟨gb495, 1, none⟩) (Kd.R_far (p := ⟨gb495, 0, none⟩) (Kd.R_types HO473.out BK495.out (by decide)) (fun _ hk => hk.2) (.int .i64 t488)) (fun _ hk => hk.2) (.slice Ao41 t489.length co41)) (fun _ hk => hk.2) (.slice Ao42 t492.length co42)) (fun _ h_ => h_.1))) hb); have n2_ := Aside0.mk (Kd.R_below (by (with_reducible repeat (first | apply Kd.R_alloc | apply Kd.R_drewN | apply Kd.R_drew)); exact (Kd.R_mono (Kd.R_far (p := ⟨gb495, 2, none⟩) (Kd.R_far (p := ⟨gb495, 1, none⟩) (Kd.R_far (p := ⟨gb495, 0, none⟩) (Kd.R_types HO477.out BK495.out (by decide)) (fun _ hk => hk.2) (.int .i64 t488)) (fun _ hk => hk.2) (.slice Ao41 t489.length co41)) (fun _ hk => hk.2) (.slice Ao42 t492.length co42)) (fun _ h_ => h_.1))) hb); have n3_ := Aside0.mk (Kd.R_below (by (with_reducible repeat (first | apply Kd.R_alloc | apply Kd.R_drewN | apply Kd.R_drew)); exact (Kd.R_mono (Kd.R_far (p := ⟨gb495, 2, none⟩) (Kd.R_far (p := ⟨gb495, 1, none⟩) (Kd.R_far (p := ⟨gb495, 0, none⟩) (Kd.R_types HO480.out BK495.out (by decide)) (fun _ hk => hk.2) (.int .i64 t488)) (fun _ hk => hk.2) (.slice Ao41 t489.length co41)) (fun _ hk => hk.2) (.slice Ao42 t492.length co42)) (fun _ h_ => h_.1))) hb); have n4_ := Aside0.mk (Kd.R_below (by (with_reducible repeat (first | apply Kd.R_alloc | apply Kd.R_drewN | apply Kd.R_drew)); exact (Kd.R_mono (Kd.R_far (p := ⟨gb495, 2, none⟩) (Kd.R_far (p := ⟨gb495, 1, none⟩) (Kd.R_far (p := ⟨gb495, 0, none⟩) (Kd.R_types HO484.out BK495.out (by decide)) (fun _ hk => hk.2) (.int .i64 t488)) (fun _ hk => hk.2) (.slice Ao41 t489.length co41)) (fun _ hk => hk.2) (.slice Ao42 t492.length co42)) (fun _ h_ => h_.1))) hb); have n5_ := Aside0.mk (Kd.R_below (by (with_reducible repeat (first | apply Kd.R_alloc | apply Kd.R_drewN | apply Kd.R_drew)); exact (Kd.R_mono (Kd.R_far (p := ⟨gb495, 2, none⟩) (Kd.R_far (p := ⟨gb495, 1, none⟩) (Kd.R_far (p := ⟨gb495, 0, none⟩) (Kd.R_types HO487.out BK495.out (by decide)) (fun _ hk => hk.2) (.int .i64 t488)) (fun _ hk => hk.2) (.slice Ao41 t489.length co41)) (fun _ hk => hk.2) (.slice Ao42 t492.length co42)) (fun _ h_ => h_.1))) hb); have n6_ := Aside0.mk (Kd.R_below (by (with_reducible repeat (first | apply Kd.R_alloc | apply Kd.R_drewN | apply Kd.R_drew)); exact (Kd.R_mono (Kd.R_far (p := ⟨gb495, 2, none⟩) (Kd.R_far (p := ⟨gb495, 1, none⟩) (Kd.R_far (p := ⟨gb495, 0, none⟩) (Kd.R_types HO491.out BK495.out (by decide)) (fun _ hk => hk.2) (.int .i64 t488)) (fun _ hk => hk.2) (.slice Ao41 t489.length co41)) (fun _ hk => hk.2) (.slice Ao42 t492.length co42)) (fun _ h_ => h_.1))) hb); have n7_ := Aside0.mk (Kd.R_below (by (with_reducible repeat (first | apply Kd.R_alloc | apply Kd.R_drewN | apply Kd.R_drew)); exact (Kd.R_mono (Kd.R_far (p := ⟨gb495, 2, none⟩) (Kd.R_far (p := ⟨gb495, 1, none⟩) (Kd.R_far (p := ⟨gb495, 0, none⟩) (Kd.R_types HO494.out BK495.out (by decide)) (fun _ hk => hk.2) (.int .i64 t488)) (fun _ hk => hk.2) (.slice Ao41 t489.length co41)) (fun _ hk => hk.2) (.slice Ao42 t492.length co42)) (fun _ h_ => h_.1))) hb); have n8_ := Aside0.mk (blk_below (g := gb481) (o := .cells #[.int .i64 t474, .slice Ao31 t475.length co31, .slice Ao32 t478.length co32] 44 (0, 0)) (by (with_reducible repeat (first | refine blk_drewN ?_ _ | refine blk_drew ?_ | refine blk_alloc ?_ _)); refine blk_far ?_ NB481_495.out _; (with_reducible repeat (first | refine blk_drewN ?_ _ | refine blk_drew ?_ | refine blk_alloc ?_ _)); refine blk_far ?_ NB481_495.out _; (with_reducible repeat (first | refine blk_drewN ?_ _ | refine blk_drew ?_ | refine blk_alloc ?_ _)); refine blk_far ?_ NB481_495.out _; (with_reducible repeat (first | refine blk_drewN ?_ _ | refine blk_drew ?_ | refine blk_alloc ?_ _)); exact BK481.out) hb); have n9_ := Aside0.mk (blk_below (g := gb495) (o := .cells #[.int .i64 t488, .slice Ao41 t489.length co41, .slice Ao42 t492.length co42] 44 (0, 0)) (by (with_reducible repeat (first | refine blk_drewN ?_ _ | refine blk_drew ?_ | refine blk_alloc ?_ _)); refine blk_put (cs := #[.int .i64 t488, .slice Ao41 t489.length co41, .slice none 0 0]) ?_ 2 _ rfl; (with_reducible repeat (first | refine blk_drewN ?_ _ | refine blk_drew ?_ | refine blk_alloc ?_ _)); refine blk_put (cs := #[.int .i64 t488, .slice none 0 0, .slice none 0 0]) ?_ 1 _ rfl; (with_reducible repeat (first | refine blk_drewN ?_ _ | refine blk_drew ?_ | refine blk_alloc ?_ _)); refine blk_put (cs := #[.int .i64 0, .slice none 0 0, .slice none 0 0]) ?_ 0 _ rfl; (with_reducible repeat (first | refine blk_drewN ?_ _ | refine blk_drew ?_ | refine blk_alloc ?_ _)); exact BK495.out) hb); have n10_ := Aside0.mk (below_step (by repeat (first | (with_reducible first | exact HB.out | apply below_alloc | apply pw_below_drewN | apply below_drew1 | refine below_set ?_ GE481.out | refine below_set ?_ GE495.out) | exact HB.out)) hb); clear HO470; clear HO473; clear HO477; clear HO480; clear HO484; clear HO487; clear HO491; clear HO494; clear BK481; clear BK495; clear HB; have HO470 := n0_; have HO473 := n1_; have HO477 := n2_; have HO480 := n3_; have HO484 := n4_; have HO487 := n5_; have HO491 := n6_; have HO494 := n7_; have BK481 := n8_; have BK495 := n9_; have HB := n10_; clear n0_ n1_ n2_ n3_ n4_ n5_ n6_ n7_ n8_ n9_ n10_; (try clear hb); (try clear hb2); (try clear hk); (try clear hi)) | ((with_reducible refine gate_callee (f := 15) rfl ?_); refine goesL_ (some 42) rfl rfl Try.func15 (by kernel_rfl) rfl #[.slice A0 l0.length c0] rfl (by (try simp only [List.map_toArray, List.map_cons, List.map_nil]); first | done | rfl | (simp only [List.length_drop, List.length_take]; rfl)) ?_; (with_reducible refine (laws_toStringS.calls k _ _ l0 t497 _ ?side1 ?side2 A15.out).mono ?_); (case side1 => repeat (first | exact (Kd.C_below HR0.out HB.out) | (with_reducible refine Kd.C_alloc ?_ _) | (with_reducible refine Kd.C_drewN ?_ _) | (with_reducible refine Kd.C_drew ?_))); (case side2 => exact HC0.out); rintro e w45 ⟨v498, rfl, ho0, hb⟩; refine ⟨_, rfl, ?_⟩; have n0_ := Aside0.mk (Kd.R_elder' (by (with_reducible repeat (first | apply Kd.R_alloc | apply Kd.R_drewN | apply Kd.R_drew)); exact HO470.out) (Kd.R_base ho0) hb); have n1_ := Aside0.mk (Kd.R_elder' (by (with_reducible repeat (first | apply Kd.R_alloc | apply Kd.R_drewN | apply Kd.R_drew)); exact HO473.out) (Kd.R_base ho0) hb); have n2_ := Aside0.mk (Kd.R_below (by (with_reducible repeat (first | apply Kd.R_alloc | apply Kd.R_drewN | apply Kd.R_drew)); exact HO477.out) hb); have n3_ := Aside0.mk (Kd.R_below (by (with_reducible repeat (first | apply Kd.R_alloc | apply Kd.R_drewN | apply Kd.R_drew)); exact HO480.out) hb); have n4_ := Aside0.mk (Kd.R_elder' (by (with_reducible repeat (first | apply Kd.R_alloc | apply Kd.R_drewN | apply Kd.R_drew)); exact HO484.out) (Kd.R_base ho0) hb); have n5_ := Aside0.mk (Kd.R_elder' (by (with_reducible repeat (first | apply Kd.R_alloc | apply Kd.R_drewN | apply Kd.R_drew)); exact HO487.out) (Kd.R_base ho0) hb); have n6_ := Aside0.mk (Kd.R_below (by (with_reducible repeat (first | apply Kd.R_alloc | apply Kd.R_drewN | apply Kd.R_drew)); exact HO491.out) hb); have n7_ := Aside0.mk (Kd.R_below (by (with_reducible repeat (first | apply Kd.R_alloc | apply Kd.R_drewN | apply Kd.R_drew)); exact HO494.out) hb); have n8_ := Aside0.mk (Kd.R_lower (Kd.R_new' (Kd.R_new' (Kd.R_new' (Kd.R_new' ho0 (Kd.R_lt (by (with_reducible repeat (first | apply Kd.R_alloc | apply Kd.R_drewN | apply Kd.R_drew)); exact HO470.out))) (Kd.R_lt (by (with_reducible repeat (first | apply Kd.R_alloc | apply Kd.R_drewN | apply Kd.R_drew)); exact HO473.out))) (Kd.R_lt (by (with_reducible repeat (first | apply Kd.R_alloc | apply Kd.R_drewN | apply Kd.R_drew)); exact HO484.out))) (Kd.R_lt (by (with_reducible repeat (first | apply Kd.R_alloc | apply Kd.R_drewN | apply Kd.R_drew)); exact HO487.out))) (below_size (by repeat (first | (with_reducible first | exact HB.out | apply below_alloc | apply pw_below_drewN | apply below_drew1 | refine below_set ?_ GE481.out | refine below_set ?_ GE495.out) | exact HB.out)))); have n9_ := Aside0.mk (blk_below (g := gb481) (o := .cells #[.int .i64 t474, .slice Ao31 t475.length co31, .slice Ao32 t478.length co32] 44 (0, 0)) (by (with_reducible repeat (first | refine blk_drewN ?_ _ | refine blk_drew ?_ | refine blk_alloc ?_ _)); exact BK481.out) hb); have n10_ := Aside0.mk (blk_below (g := gb495) (o := .cells #[.int .i64 t488, .slice Ao41 t489.length co41, .slice Ao42 t492.length co42] 44 (0, 0)) (by (with_reducible repeat (first | refine blk_drewN ?_ _ | refine blk_drew ?_ | refine blk_alloc ?_ _)); exact BK495.out) hb); have n11_ := Aside0.mk (below_step (by repeat (first | (with_reducible first | exact HB.out | apply below_alloc | apply pw_below_drewN | apply below_drew1 | refine below_set ?_ GE481.out | refine below_set ?_ GE495.out) | exact HB.out)) hb); clear HO470; clear HO473; clear HO477; clear HO480; clear HO484; clear HO487; clear HO491; clear HO494; clear BK481; clear BK495; clear HB; have HO470 := n0_; have HO473 := n1_; have HO477 := n2_; have HO480 := n3_; have HO484 := n4_; have HO487 := n5_; have HO491 := n6_; have HO494 := n7_; have HO499 := n8_; have BK481 := n9_; have BK495 := n10_; have HB := n11_; clear n0_ n1_ n2_ n3_ n4_ n5_ n6_ n7_ n8_ n9_ n10_ n11_; (try clear hb); (try clear hb2); (try clear hk); (try clear hi); (try clear ho0); obtain ⟨Ao46, co46, eo46⟩ := Kd.R_slice HO499.out; subst eo46) | ((with_reducible refine gate_callee (f := 18) rfl ?_); refine goesL_ (some 43) rfl rfl Try.func18 (by kernel_rfl) rfl #[.slice Ao35 t482.length co35, .slice Ao46 t497.length co46] rfl (by (try simp only [List.map_toArray, List.map_cons, List.map_nil]); first | done | rfl | (simp only [List.length_drop, List.length_take]; rfl)) ?_; (with_reducible refine (laws_eqStringS.calls k _ _ t482 _ _ t497 true _ ?side1 ?side2 ?side3 ?side4 A16.out).mono ?_); (case side1 => repeat (first | exact (Kd.R_reads' HO484.out).2.2 | (with_reducible refine Kd.C_alloc ?_ _) | (with_reducible refine Kd.C_drewN ?_ _) | (with_reducible refine Kd.C_drew ?_))); (case side2 => exact (Kd.R_reads' HO484.out).2.1); (case side3 => repeat (first | exact (Kd.R_reads' HO499.out).2.2 | (with_reducible refine Kd.C_alloc ?_ _) | (with_reducible refine Kd.C_drewN ?_ _) | (with_reducible refine Kd.C_drew ?_))); (case side4 => exact (Kd.R_reads' HO499.out).2.1); rintro e w' ⟨rfl, ⟨nd, rfl⟩⟩; refine ⟨_, rfl, ?_⟩) | ((with_reducible refine gate_callee (f := 15) rfl ?_); refine goesL_ (some 47) rfl rfl Try.func15 (by kernel_rfl) rfl #[.slice A1 l1.length c1] rfl (by (try simp only [List.map_toArray, List.map_cons, List.map_nil]); first | done | rfl | (simp only [List.length_drop, List.length_take]; rfl)) ?_; (with_reducible refine (laws_toStringS.calls k _ _ l1 t501 _ ?side1 ?side2 A18.out).mono ?_); (case side1 => repeat (first | exact (Kd.C_below HR1.out (by repeat (first | (with_reducible first | exact HB.out | apply below_alloc | apply pw_below_drewN | apply below_drew1 | refine below_set ?_ GE481.out | refine below_set ?_ GE495.out) | exact HB.out))) | (with_reducible refine Kd.C_alloc ?_ _) | (with_reducible refine Kd.C_drewN ?_ _) | (with_reducible refine Kd.C_drew ?_))); (case side2 => exact HC1.out); rintro e w47 ⟨v502, rfl, ho0, hb⟩; refine ⟨_, rfl, ?_⟩; have n0_ := Aside0.mk (Kd.R_elder' (by (with_reducible repeat (first | apply Kd.R_alloc | apply Kd.R_drewN | apply Kd.R_drew)); exact HO470.out) (Kd.R_base ho0) hb); have n1_ := Aside0.mk (Kd.R_elder' (by (with_reducible repeat (first | apply Kd.R_alloc | apply Kd.R_drewN | apply Kd.R_drew)); exact HO473.out) (Kd.R_base ho0) hb); have n2_ := Aside0.mk (Kd.R_below (by (with_reducible repeat (first | apply Kd.R_alloc | apply Kd.R_drewN | apply Kd.R_drew)); exact HO477.out) hb); have n3_ := Aside0.mk (Kd.R_below (by (with_reducible repeat (first | apply Kd.R_alloc | apply Kd.R_drewN | apply Kd.R_drew)); exact HO480.out) hb); have n4_ := Aside0.mk (Kd.R_elder' (by (with_reducible repeat (first | apply Kd.R_alloc | apply Kd.R_drewN | apply Kd.R_drew)); exact HO484.out) (Kd.R_base ho0) hb); have n5_ := Aside0.mk (Kd.R_elder' (by (with_reducible repeat (first | apply Kd.R_alloc | apply Kd.R_drewN | apply Kd.R_drew)); exact HO487.out) (Kd.R_base ho0) hb); have n6_ := Aside0.mk (Kd.R_below (by (with_reducible repeat (first | apply Kd.R_alloc | apply Kd.R_drewN | apply Kd.R_drew)); exact HO491.out) hb); have n7_ := Aside0.mk (Kd.R_below (by (with_reducible repeat (first | apply Kd.R_alloc | apply Kd.R_drewN | apply Kd.R_drew)); exact HO494.out) hb); have n8_ := Aside0.mk (Kd.R_elder' (by (with_reducible repeat (first | apply Kd.R_alloc | apply Kd.R_drewN | apply Kd.R_drew)); exact HO499.out) (Kd.R_base ho0) hb); have n9_ := Aside0.mk (Kd.R_lower (Kd.R_new' (Kd.R_new' (Kd.R_new' (Kd.R_new' (Kd.R_new' ho0 (Kd.R_lt (by (with_reducible repeat (first | apply Kd.R_alloc | apply Kd.R_drewN | apply Kd.R_drew)); exact HO470.out))) (Kd.R_lt (by (with_reducible repeat (first | apply Kd.R_alloc | apply Kd.R_drewN | apply Kd.R_drew)); exact HO473.out))) (Kd.R_lt (by (with_reducible repeat (first | apply Kd.R_alloc | apply Kd.R_drewN | apply Kd.R_drew)); exact HO484.out))) (Kd.R_lt (by (with_reducible repeat (first | apply Kd.R_alloc | apply Kd.R_drewN | apply Kd.R_drew)); exact HO487.out))) (Kd.R_lt (by (with_reducible repeat (first | apply Kd.R_alloc | apply Kd.R_drewN | apply Kd.R_drew)); exact HO499.out))) (below_size (by repeat (first | (with_reducible first | exact HB.out | apply below_alloc | apply pw_below_drewN | apply below_drew1 | refine below_set ?_ GE481.out | refine below_set ?_ GE495.out) | exact HB.out)))); have n10_ := Aside0.mk (blk_below (g := gb481) (o := .cells #[.int .i64 t474, .slice Ao31 t475.length co31, .slice Ao32 t478.length co32] 44 (0, 0)) (by (with_reducible repeat (first | refine blk_drewN ?_ _ | refine blk_drew ?_ | refine blk_alloc ?_ _)); exact BK481.out) hb); have n11_ := Aside0.mk (blk_below (g := gb495) (o := .cells #[.int .i64 t488, .slice Ao41 t489.length co41, .slice Ao42 t492.length co42] 44 (0, 0)) (by (with_reducible repeat (first | refine blk_drewN ?_ _ | refine blk_drew ?_ | refine blk_alloc ?_ _)); exact BK495.out) hb); have n12_ := Aside0.mk (below_step (by repeat (first | (with_reducible first | exact HB.out | apply below_alloc | apply pw_below_drewN | apply below_drew1 | refine below_set ?_ GE481.out | refine below_set ?_ GE495.out) | exact HB.out)) hb); clear HO470; clear HO473; clear HO477; clear HO480; clear HO484; clear HO487; clear HO491; clear HO494; clear HO499; clear BK481; clear BK495; clear HB; have HO470 := n0_; have HO473 := n1_; have HO477 := n2_; have HO480 := n3_; have HO484 := n4_; have HO487 := n5_; have HO491 := n6_; have HO494 := n7_; have HO499 := n8_; have HO503 := n9_; have BK481 := n10_; have BK495 := n11_; have HB := n12_; clear n0_ n1_ n2_ n3_ n4_ n5_ n6_ n7_ n8_ n9_ n10_ n11_ n12_; (try clear hb); (try clear hb2); (try clear hk); (try clear hi); (try clear ho0); obtain ⟨Ao48, co48, eo48⟩ := Kd.R_slice HO503.out; subst eo48) | ((with_reducible refine gate_callee (f := 18) rfl ?_); refine goesL_ (some 48) rfl rfl Try.func18 (by kernel_rfl) rfl #[.slice Ao36 t485.length co36, .slice Ao48 t501.length co48] rfl (by (try simp only [List.map_toArray, List.map_cons, List.map_nil]); first | done | rfl | (simp only [List.length_drop, List.length_take]; rfl)) ?_; (with_reducible refine (laws_eqStringS.calls k _ _ t485 _ _ t501 true _ ?side1 ?side2 ?side3 ?side4 A19.out).mono ?_); (case side1 => repeat (first | exact (Kd.R_reads' HO487.out).2.2 | (with_reducible refine Kd.C_alloc ?_ _) | (with_reducible refine Kd.C_drewN ?_ _) | (with_reducible refine Kd.C_drew ?_))); (case side2 => exact (Kd.R_reads' HO487.out).2.1); (case side3 => repeat (first | exact (Kd.R_reads' HO503.out).2.2 | (with_reducible refine Kd.C_alloc ?_ _) | (with_reducible refine Kd.C_drewN ?_ _) | (with_reducible refine Kd.C_drew ?_))); (case side4 => exact (Kd.R_reads' HO503.out).2.1); rintro e w' ⟨rfl, ⟨nd, rfl⟩⟩; refine ⟨_, rfl, ?_⟩) | ((with_reducible refine gate_callee (f := 32) rfl ?_); refine goesL_ (some 52) rfl rfl Try.func32 (by kernel_rfl) rfl #[.slice Ao35 t482.length co35, .int .i64 1] rfl (by (try simp only [List.map_toArray, List.map_cons, List.map_nil]); first | done | rfl | (simp only [List.length_drop, List.length_take]; rfl)) ?_; (with_reducible refine (laws_markStringS.calls k (fun k_ => some k_ = (.slice Ao35 t482.length co35 : Value).ownBlock) (.slice Ao35 t482.length co35) t482 1 t505 t506 w _ ?side1 ?side2 A21.out).mono ?_); (case side1 => repeat (first | (with_reducible first | exact HB.out | apply below_alloc | apply pw_below_drewN | apply below_drew1 | refine below_set ?_ GE481.out | refine below_set ?_ GE495.out) | exact HB.out)); (case side2 => exact Kd.R_tight rfl HO484.out); rintro e w49 ⟨rfl, hy0, hb, hkp⟩; refine ⟨_, rfl, ?_⟩; have n0_ := Aside0.mk (Kd.R_mono (ok' := fun k_ => some k_ ≠ (.slice Ao27 t471.length co27 : Value).ownBlock ∧ some k_ ≠ (.slice Ao35 t482.length co35 : Value).ownBlock ∧ some k_ ≠ (.slice Ao36 t485.length co36 : Value).ownBlock ∧ some k_ ≠ (.slice Ao46 t497.length co46 : Value).ownBlock ∧ some k_ ≠ (.slice Ao48 t501.length co48 : Value).ownBlock) (Kd.R_keptB (HO470.out) hkp (fun k_ hk_ hs_ => (hk_.1.1.1.2) hs_)) (fun k_ hk_ => ⟨hk_.1.1.1.1.1.2, hk_.1.1.1.1.2, hk_.1.1.1.2, hk_.1.1.2, hk_.1.2⟩)); have n1_ := Aside0.mk (Kd.R_mono (ok' := fun k_ => some k_ ≠ (.slice Ao26 t468.length co26 : Value).ownBlock ∧ some k_ ≠ (.slice Ao35 t482.length co35 : Value).ownBlock ∧ some k_ ≠ (.slice Ao36 t485.length co36 : Value).ownBlock ∧ some k_ ≠ (.slice Ao46 t497.length co46 : Value).ownBlock ∧ some k_ ≠ (.slice Ao48 t501.length co48 : Value).ownBlock) (Kd.R_keptB (HO473.out) hkp (fun k_ hk_ hs_ => (hk_.1.1.1.2) hs_)) (fun k_ hk_ => ⟨hk_.1.1.1.1.1.2, hk_.1.1.1.1.2, hk_.1.1.1.2, hk_.1.1.2, hk_.1.2⟩)); have n2_ := Aside0.mk (Kd.R_mono (ok' := fun k_ => some k_ ≠ (.slice Ao32 t478.length co32 : Value).ownBlock ∧ some k_ ≠ (.slice Ao41 t489.length co41 : Value).ownBlock ∧ some k_ ≠ (.slice Ao42 t492.length co42 : Value).ownBlock) (Kd.R_keptB ((Kd.R_apart' HO477.out (Kd.R_typed HO484.out) (by decide))) hkp (fun k_ hk_ hs_ => (hk_.2) hs_)) (fun k_ hk_ => ⟨hk_.1.1.1.1, hk_.1.1.1.2, hk_.1.1.2⟩)); have n3_ := Aside0.mk (Kd.R_mono (ok' := fun k_ => some k_ ≠ (.slice Ao31 t475.length co31 : Value).ownBlock ∧ some k_ ≠ (.slice Ao41 t489.length co41 : Value).ownBlock ∧ some k_ ≠ (.slice Ao42 t492.length co42 : Value).ownBlock) (Kd.R_keptB ((Kd.R_apart' HO480.out (Kd.R_typed HO484.out) (by decide))) hkp (fun k_ hk_ hs_ => (hk_.2) hs_)) (fun k_ hk_ => ⟨hk_.1.1.1.1, hk_.1.1.1.2, hk_.1.1.2⟩)); have n4_ := Aside0.mk (blk_kept (by (with_reducible repeat (first | refine blk_drewN ?_ _ | refine blk_drew ?_ | refine blk_alloc ?_ _)); exact BK481.out) hkp (fun hs_ => (fun e_ => (Kd.R_ne HO484.out BK481.out (by decide)) e_) hs_)); have n5_ := Aside0.mk (Kd.R_reok rfl hy0 (fun k_ e_ => HO484.out.1 k_ e_)); have n6_ := Aside0.mk (Kd.R_mono (ok' := fun k_ => some k_ ≠ (.slice Ao26 t468.length co26 : Value).ownBlock ∧ some k_ ≠ (.slice Ao27 t471.length co27 : Value).ownBlock ∧ some k_ ≠ (.slice Ao35 t482.length co35 : Value).ownBlock ∧ some k_ ≠ (.slice Ao46 t497.length co46 : Value).ownBlock ∧ some k_ ≠ (.slice Ao48 t501.length co48 : Value).ownBlock) (Kd.R_keptB (HO487.out) hkp (fun k_ hk_ hs_ => (hk_.1.1.2) hs_)) (fun k_ hk_ => ⟨hk_.1.1.1.1.1.2, hk_.1.1.1.1.2, hk_.1.1.1.2, hk_.1.1.2, hk_.1.2⟩)); have n7_ := Aside0.mk (Kd.R_mono (ok' := fun k_ => some k_ ≠ (.slice Ao31 t475.length co31 : Value).ownBlock ∧ some k_ ≠ (.slice Ao32 t478.length co32 : Value).ownBlock ∧ some k_ ≠ (.slice Ao42 t492.length co42 : Value).ownBlock) (Kd.R_keptB ((Kd.R_apart' HO491.out (Kd.R_typed HO484.out) (by decide))) hkp (fun k_ hk_ hs_ => (hk_.2) hs_)) (fun k_ hk_ => ⟨hk_.1.1.1.2, hk_.1.1.2, hk_.1.1.1.1⟩)); have n8_ := Aside0.mk (Kd.R_mono (ok' := fun k_ => some k_ ≠ (.slice Ao31 t475.length co31 : Value).ownBlock ∧ some k_ ≠ (.slice Ao32 t478.length co32 : Value).ownBlock ∧ some k_ ≠ (.slice Ao41 t489.length co41 : Value).ownBlock) (Kd.R_keptB ((Kd.R_apart' HO494.out (Kd.R_typed HO484.out) (by decide))) hkp (fun k_ hk_ hs_ => (hk_.2) hs_)) (fun k_ hk_ => ⟨hk_.1.1.1.2, hk_.1.1.2, hk_.1.1.1.1⟩)); have n9_ := Aside0.mk (blk_kept (by (with_reducible repeat (first | refine blk_drewN ?_ _ | refine blk_drew ?_ | refine blk_alloc ?_ _)); exact BK495.out) hkp (fun hs_ => (fun e_ => (Kd.R_ne HO484.out BK495.out (by decide)) e_) hs_)); have n10_ := Aside0.mk (Kd.R_mono (ok' := fun k_ => some k_ ≠ (.slice Ao26 t468.length co26 : Value).ownBlock ∧ some k_ ≠ (.slice Ao27 t471.length co27 : Value).ownBlock ∧ some k_ ≠ (.slice Ao35 t482.length co35 : Value).ownBlock ∧ some k_ ≠ (.slice Ao36 t485.length co36 : Value).ownBlock ∧ some k_ ≠ (.slice Ao48 t501.length co48 : Value).ownBlock) (Kd.R_keptB (HO499.out) hkp (fun k_ hk_ hs_ => (hk_.1.1.2) hs_)) (fun k_ hk_ => ⟨hk_.1.1.1.1.1.2, hk_.1.1.1.1.2, hk_.1.1.1.2, hk_.1.1.2, hk_.1.2⟩)); have n11_ := Aside0.mk (Kd.R_mono (ok' := fun k_ => some k_ ≠ (.slice Ao26 t468.length co26 : Value).ownBlock ∧ some k_ ≠ (.slice Ao27 t471.length co27 : Value).ownBlock ∧ some k_ ≠ (.slice Ao35 t482.length co35 : Value).ownBlock ∧ some k_ ≠ (.slice Ao36 t485.length co36 : Value).ownBlock ∧ some k_ ≠ (.slice Ao46 t497.length co46 : Value).ownBlock) (Kd.R_keptB (HO503.out) hkp (fun k_ hk_ hs_ => (hk_.1.1.2) hs_)) (fun k_ hk_ => ⟨hk_.1.1.1.1.1.2, hk_.1.1.1.1.2, hk_.1.1.1.2, hk_.1.1.2, hk_.1.2⟩)); have n12_ := Aside0.mk (hb); clear HO470; clear HO473; clear HO477; clear HO480; clear BK481; clear HO484; clear HO487; clear HO491; clear HO494; clear BK495; clear HO499; clear HO503; clear HB; have HO470 := n0_; have HO473 := n1_; have HO477 := n2_; have HO480 := n3_; have BK481 := n4_; have HO484 := n5_; have HO487 := n6_; have HO491 := n7_; have HO494 := n8_; have BK495 := n9_; have HO499 := n10_; have HO503 := n11_; have HB := n12_; clear n0_ n1_ n2_ n3_ n4_ n5_ n6_ n7_ n8_ n9_ n10_ n11_ n12_; (try clear hb); (try clear hkp); (try clear hy0)) | ((with_reducible refine gate_callee (f := 32) rfl ?_); refine goesL_ (some 55) rfl rfl Try.func32 (by kernel_rfl) rfl #[.slice Ao36 t485.length co36, .int .i64 t505] rfl (by (try simp only [List.map_toArray, List.map_cons, List.map_nil]); first | done | rfl | (simp only [List.length_drop, List.length_take]; rfl)) ?_; (with_reducible refine (laws_markStringS.calls k (fun k_ => some k_ = (.slice Ao36 t485.length co36 : Value).ownBlock) (.slice Ao36 t485.length co36) t485 t505 t507 t508 w _ ?side1 ?side2 A22.out).mono ?_); (case side1 => repeat (first | (with_reducible first | exact HB.out | apply below_alloc | apply pw_below_drewN | apply below_drew1 | refine below_set ?_ GE481.out | refine below_set ?_ GE495.out) | exact HB.out)); (case side2 => exact Kd.R_tight rfl HO487.out); rintro e w50 ⟨rfl, hy0, hb, hkp⟩; refine ⟨_, rfl, ?_⟩; have n0_ := Aside0.mk (Kd.R_mono (ok' := fun k_ => some k_ ≠ (.slice Ao27 t471.length co27 : Value).ownBlock ∧ some k_ ≠ (.slice Ao35 t482.length co35 : Value).ownBlock ∧ some k_ ≠ (.slice Ao36 t485.length co36 : Value).ownBlock ∧ some k_ ≠ (.slice Ao46 t497.length co46 : Value).ownBlock ∧ some k_ ≠ (.slice Ao48 t501.length co48 : Value).ownBlock) (Kd.R_keptB (HO470.out) hkp (fun k_ hk_ hs_ => (hk_.2.2.1) hs_)) (fun k_ hk_ => ⟨hk_.1.1, hk_.1.2.1, hk_.1.2.2.1, hk_.1.2.2.2.1, hk_.1.2.2.2.2⟩)); have n1_ := Aside0.mk (Kd.R_mono (ok' := fun k_ => some k_ ≠ (.slice Ao26 t468.length co26 : Value).ownBlock ∧ some k_ ≠ (.slice Ao35 t482.length co35 : Value).ownBlock ∧ some k_ ≠ (.slice Ao36 t485.length co36 : Value).ownBlock ∧ some k_ ≠ (.slice Ao46 t497.length co46 : Value).ownBlock ∧ some k_ ≠ (.slice Ao48 t501.length co48 : Value).ownBlock) (Kd.R_keptB (HO473.out) hkp (fun k_ hk_ hs_ => (hk_.2.2.1) hs_)) (fun k_ hk_ => ⟨hk_.1.1, hk_.1.2.1, hk_.1.2.2.1, hk_.1.2.2.2.1, hk_.1.2.2.2.2⟩)); have n2_ := Aside0.mk (Kd.R_mono (ok' := fun k_ => some k_ ≠ (.slice Ao32 t478.length co32 : Value).ownBlock ∧ some k_ ≠ (.slice Ao41 t489.length co41 : Value).ownBlock ∧ some k_ ≠ (.slice Ao42 t492.length co42 : Value).ownBlock) (Kd.R_keptB ((Kd.R_apart' HO477.out (Kd.R_typed HO487.out) (by decide))) hkp (fun k_ hk_ hs_ => (hk_.2) hs_)) (fun k_ hk_ => ⟨hk_.1.1.1, hk_.1.1.2.1, hk_.1.1.2.2⟩)); have n3_ := Aside0.mk (Kd.R_mono (ok' := fun k_ => some k_ ≠ (.slice Ao31 t475.length co31 : Value).ownBlock ∧ some k_ ≠ (.slice Ao41 t489.length co41 : Value).ownBlock ∧ some k_ ≠ (.slice Ao42 t492.length co42 : Value).ownBlock) (Kd.R_keptB ((Kd.R_apart' HO480.out (Kd.R_typed HO487.out) (by decide))) hkp (fun k_ hk_ hs_ => (hk_.2) hs_)) (fun k_ hk_ => ⟨hk_.1.1.1, hk_.1.1.2.1, hk_.1.1.2.2⟩)); have n4_ := Aside0.mk (blk_kept (by (with_reducible repeat (first | refine blk_drewN ?_ _ | refine blk_drew ?_ | refine blk_alloc ?_ _)); exact BK481.out) hkp (fun hs_ => (fun e_ => (Kd.R_ne HO487.out BK481.out (by decide)) e_) hs_)); have n5_ := Aside0.mk (Kd.R_mono (ok' := fun k_ => some k_ ≠ (.slice Ao26 t468.length co26 : Value).ownBlock ∧ some k_ ≠ (.slice Ao27 t471.length co27 : Value).ownBlock ∧ some k_ ≠ (.slice Ao36 t485.length co36 : Value).ownBlock ∧ some k_ ≠ (.slice Ao46 t497.length co46 : Value).ownBlock ∧ some k_ ≠ (.slice Ao48 t501.length co48 : Value).ownBlock) (Kd.R_keptB (HO484.out) hkp (fun k_ hk_ hs_ => (hk_.1.1.2) hs_)) (fun k_ hk_ => ⟨hk_.1.1.1.1.1.2, hk_.1.1.1.1.2, hk_.1.1.1.2, hk_.1.1.2, hk_.1.2⟩)); have n6_ := Aside0.mk (Kd.R_reok rfl hy0 (fun k_ e_ => HO487.out.1 k_ e_)); have n7_ := Aside0.mk (Kd.R_mono (ok' := fun k_ => some k_ ≠ (.slice Ao31 t475.length co31 : Value).ownBlock ∧ some k_ ≠ (.slice Ao32 t478.length co32 : Value).ownBlock ∧ some k_ ≠ (.slice Ao42 t492.length co42 : Value).ownBlock) (Kd.R_keptB ((Kd.R_apart' HO491.out (Kd.R_typed HO487.out) (by decide))) hkp (fun k_ hk_ hs_ => (hk_.2) hs_)) (fun k_ hk_ => ⟨hk_.1.1.1, hk_.1.1.2.1, hk_.1.1.2.2⟩)); have n8_ := Aside0.mk (Kd.R_mono (ok' := fun k_ => some k_ ≠ (.slice Ao31 t475.length co31 : Value).ownBlock ∧ some k_ ≠ (.slice Ao32 t478.length co32 : Value).ownBlock ∧ some k_ ≠ (.slice Ao41 t489.length co41 : Value).ownBlock) (Kd.R_keptB ((Kd.R_apart' HO494.out (Kd.R_typed HO487.out) (by decide))) hkp (fun k_ hk_ hs_ => (hk_.2) hs_)) (fun k_ hk_ => ⟨hk_.1.1.1, hk_.1.1.2.1, hk_.1.1.2.2⟩)); have n9_ := Aside0.mk (blk_kept (by (with_reducible repeat (first | refine blk_drewN ?_ _ | refine blk_drew ?_ | refine blk_alloc ?_ _)); exact BK495.out) hkp (fun hs_ => (fun e_ => (Kd.R_ne HO487.out BK495.out (by decide)) e_) hs_)); have n10_ := Aside0.mk (Kd.R_mono (ok' := fun k_ => some k_ ≠ (.slice Ao26 t468.length co26 : Value).ownBlock ∧ some k_ ≠ (.slice Ao27 t471.length co27 : Value).ownBlock ∧ some k_ ≠ (.slice Ao35 t482.length co35 : Value).ownBlock ∧ some k_ ≠ (.slice Ao36 t485.length co36 : Value).ownBlock ∧ some k_ ≠ (.slice Ao48 t501.length co48 : Value).ownBlock) (Kd.R_keptB (HO499.out) hkp (fun k_ hk_ hs_ => (hk_.2.2.2.1) hs_)) (fun k_ hk_ => ⟨hk_.1.1, hk_.1.2.1, hk_.1.2.2.1, hk_.1.2.2.2.1, hk_.1.2.2.2.2⟩)); have n11_ := Aside0.mk (Kd.R_mono (ok' := fun k_ => some k_ ≠ (.slice Ao26 t468.length co26 : Value).ownBlock ∧ some k_ ≠ (.slice Ao27 t471.length co27 : Value).ownBlock ∧ some k_ ≠ (.slice Ao35 t482.length co35 : Value).ownBlock ∧ some k_ ≠ (.slice Ao36 t485.length co36 : Value).ownBlock ∧ some k_ ≠ (.slice Ao46 t497.length co46 : Value).ownBlock) (Kd.R_keptB (HO503.out) hkp (fun k_ hk_ hs_ => (hk_.2.2.2.1) hs_)) (fun k_ hk_ => ⟨hk_.1.1, hk_.1.2.1, hk_.1.2.2.1, hk_.1.2.2.2.1, hk_.1.2.2.2.2⟩)); have n12_ := Aside0.mk (hb); clear HO470; clear HO473; clear HO477; clear HO480; clear BK481; clear HO484; clear HO487; clear HO491; clear HO494; clear BK495; clear HO499; clear HO503; clear HB; have HO470 := n0_; have HO473 := n1_; have HO477 := n2_; have HO480 := n3_; have BK481 := n4_; have HO484 := n5_; have HO487 := n6_; have HO491 := n7_; have HO494 := n8_; have BK495 := n9_; have HO499 := n10_; have HO503 := n11_; have HB := n12_; clear n0_ n1_ n2_ n3_ n4_ n5_ n6_ n7_ n8_ n9_ n10_ n11_ n12_; (try clear hb); (try clear hkp); (try clear hy0)))
      (try simp only [Act.put, List.setIfInBounds_toArray, List.set_cons_zero, List.set_cons_succ])
      go_cut [63] (fun v63 wc => ∃ (kq : Nat) (x63_22 : Bool), v63 = .bool x63_22 ∧ Aside0 (laws_FnExactMatchLines.j0 kq l0 l1 x63_22 t474 t475 t478 t488 t489 t492 = some r) ∧ Aside0 (kq ≤ k) ∧ Aside0 (Kd.R (Kd.int .i64) 2 wc w.heap.size (fun k_ => some k_ ≠ ((.slice Ao32 t478.length co32) : Value).ownBlock ∧ some k_ ≠ ((.slice Ao41 t489.length co41) : Value).ownBlock ∧ some k_ ≠ ((.slice Ao42 t492.length co42) : Value).ownBlock) (.slice Ao31 t475.length co31) t475) ∧ Aside0 (Kd.R (Kd.int .i64) 2 wc w.heap.size (fun k_ => some k_ ≠ ((.slice Ao31 t475.length co31) : Value).ownBlock ∧ some k_ ≠ ((.slice Ao41 t489.length co41) : Value).ownBlock ∧ some k_ ≠ ((.slice Ao42 t492.length co42) : Value).ownBlock) (.slice Ao32 t478.length co32) t478) ∧ Aside0 (Kd.R (Kd.int .i64) 2 wc w.heap.size (fun k_ => some k_ ≠ ((.slice Ao31 t475.length co31) : Value).ownBlock ∧ some k_ ≠ ((.slice Ao32 t478.length co32) : Value).ownBlock ∧ some k_ ≠ ((.slice Ao42 t492.length co42) : Value).ownBlock) (.slice Ao41 t489.length co41) t489) ∧ Aside0 (Kd.R (Kd.int .i64) 2 wc w.heap.size (fun k_ => some k_ ≠ ((.slice Ao31 t475.length co31) : Value).ownBlock ∧ some k_ ≠ ((.slice Ao32 t478.length co32) : Value).ownBlock ∧ some k_ ≠ ((.slice Ao41 t489.length co41) : Value).ownBlock) (.slice Ao42 t492.length co42) t492) ∧ Aside0 (wc.heap[gb481]? = some (.cells #[.int .i64 t474, (.slice Ao31 t475.length co31), (.slice Ao32 t478.length co32)] 44 (0, 0))) ∧ Aside0 (wc.heap[gb495]? = some (.cells #[.int .i64 t488, (.slice Ao41 t489.length co41), (.slice Ao42 t492.length co42)] 44 (0, 0))) ∧ Aside0 (Below w.heap.size w wc))
      case first =>
       have H := HC23.out
       clear HC23
       by_cases c51 : t507 < 0
       ·rw [if_pos c51] at H
        have c51b0 : decide (t507 < 0) = true := decide_eq_true c51
        clear c51
        (first | rw [c51b0] | (simp only [i64_w, i32_w]; rw [c51b0]) | skip)
        have H' := Aside0.mk H
        clear H
        go_wp2
        go_meet
        case rel => exact ⟨_, (true), (by first | rfl | (simp; done) | (simp [*]; done)), H', ⟨by first | omega | exact Nat.le_refl _⟩, ⟨by (with_reducible repeat (first | apply Kd.R_alloc | apply Kd.R_drewN | apply Kd.R_drew)); exact HO477.out⟩, ⟨by (with_reducible repeat (first | apply Kd.R_alloc | apply Kd.R_drewN | apply Kd.R_drew)); exact HO480.out⟩, ⟨by (with_reducible repeat (first | apply Kd.R_alloc | apply Kd.R_drewN | apply Kd.R_drew)); exact HO491.out⟩, ⟨by (with_reducible repeat (first | apply Kd.R_alloc | apply Kd.R_drewN | apply Kd.R_drew)); exact HO494.out⟩, ⟨by (with_reducible repeat (first | refine blk_drewN ?_ _ | refine blk_drew ?_ | refine blk_alloc ?_ _)); exact BK481.out⟩, ⟨by (with_reducible repeat (first | refine blk_drewN ?_ _ | refine blk_drew ?_ | refine blk_alloc ?_ _)); exact BK495.out⟩, ⟨by repeat (first | (with_reducible first | exact HB.out | apply below_alloc | apply pw_below_drewN | apply below_drew1 | refine below_set ?_ GE481.out | refine below_set ?_ GE495.out) | exact HB.out)⟩⟩
       ·rw [if_neg c51] at H
        have c51b0 : decide (t507 < 0) = false := decide_eq_false c51
        clear c51
        (first | rw [c51b0] | (simp only [i64_w, i32_w]; rw [c51b0]) | skip)
        replace H := Option.bind_eq_some_iff.mp H
        obtain ⟨t509, A520, H⟩ := H
        replace H : (laws_FnExactMatchLines.j0 k l0 l1 (!t509) t474 t475 t478 t488 t489 t492) = some r := H
        have A52 := Aside0.mk A520
        clear A520
        have H' := Aside0.mk H
        clear H
        have hnb53 := NB495_481.out
        have hnc53 := NB481_495.out
        have hcz54_0 : w50.cell? ⟨gb495, 0, none⟩ = some (.int .i64 t488) := (blk_cell BK495.out 0).trans rfl
        have hcz54_1 : w50.cell? ⟨gb495, 1, none⟩ = some (.slice Ao41 t489.length co41) := (blk_cell BK495.out 1).trans rfl
        have hcz54_2 : w50.cell? ⟨gb495, 2, none⟩ = some (.slice Ao42 t492.length co42) := (blk_cell BK495.out 2).trans rfl
        have hfz54_0 := blk_frozen BK495.out 0
        have hfz54_1 := blk_frozen BK495.out 1
        have hfz54_2 := blk_frozen BK495.out 2
        have hcz55_0 : w50.cell? ⟨gb481, 0, none⟩ = some (.int .i64 t474) := (blk_cell BK481.out 0).trans rfl
        have hcz55_1 : w50.cell? ⟨gb481, 1, none⟩ = some (.slice Ao31 t475.length co31) := (blk_cell BK481.out 1).trans rfl
        have hcz55_2 : w50.cell? ⟨gb481, 2, none⟩ = some (.slice Ao32 t478.length co32) := (blk_cell BK481.out 2).trans rfl
        have hfz55_0 := blk_frozen BK481.out 0
        have hfz55_1 := blk_frozen BK481.out 1
        have hfz55_2 := blk_frozen BK481.out 2
        go_wp2_with (first | (go_at_call 31; (with_reducible refine (laws_eqPairsResult.calls k t488 _ _ t489 _ _ t492 t474 _ _ t475 _ _ t478 t509 _ ?side1 ?side2 ?side3 ?side4 ?side5 ?side6 ?side7 ?side8 A52.out).mono ?_); (case side1 => repeat (first | exact (Kd.R_reads' HO491.out).2.2 | (with_reducible refine Kd.C_alloc ?_ _) | (with_reducible refine Kd.C_drewN ?_ _) | (with_reducible refine Kd.C_drew ?_))); (case side2 => exact (Kd.R_reads' HO491.out).2.1); (case side3 => repeat (first | exact (Kd.R_reads' HO494.out).2.2 | (with_reducible refine Kd.C_alloc ?_ _) | (with_reducible refine Kd.C_drewN ?_ _) | (with_reducible refine Kd.C_drew ?_))); (case side4 => exact (Kd.R_reads' HO494.out).2.1); (case side5 => repeat (first | exact (Kd.R_reads' HO477.out).2.2 | (with_reducible refine Kd.C_alloc ?_ _) | (with_reducible refine Kd.C_drewN ?_ _) | (with_reducible refine Kd.C_drew ?_))); (case side6 => exact (Kd.R_reads' HO477.out).2.1); (case side7 => repeat (first | exact (Kd.R_reads' HO480.out).2.2 | (with_reducible refine Kd.C_alloc ?_ _) | (with_reducible refine Kd.C_drewN ?_ _) | (with_reducible refine Kd.C_drew ?_))); (case side8 => exact (Kd.R_reads' HO480.out).2.1); rintro e w56 ⟨rfl, hb⟩; have n0_ := Aside0.mk (Kd.R_below (by (with_reducible repeat (first | apply Kd.R_alloc | apply Kd.R_drewN | apply Kd.R_drew)); exact HO470.out) hb); have n1_ := Aside0.mk (Kd.R_below (by (with_reducible repeat (first | apply Kd.R_alloc | apply Kd.R_drewN | apply Kd.R_drew)); exact HO473.out) hb); have n2_ := Aside0.mk (Kd.R_below (by (with_reducible repeat (first | apply Kd.R_alloc | apply Kd.R_drewN | apply Kd.R_drew)); exact HO477.out) hb); have n3_ := Aside0.mk (Kd.R_below (by (with_reducible repeat (first | apply Kd.R_alloc | apply Kd.R_drewN | apply Kd.R_drew)); exact HO480.out) hb); have n4_ := Aside0.mk (Kd.R_below (by (with_reducible repeat (first | apply Kd.R_alloc | apply Kd.R_drewN | apply Kd.R_drew)); exact HO484.out) hb); have n5_ := Aside0.mk (Kd.R_below (by (with_reducible repeat (first | apply Kd.R_alloc | apply Kd.R_drewN | apply Kd.R_drew)); exact HO487.out) hb); have n6_ := Aside0.mk (Kd.R_below (by (with_reducible repeat (first | apply Kd.R_alloc | apply Kd.R_drewN | apply Kd.R_drew)); exact HO491.out) hb); have n7_ := Aside0.mk (Kd.R_below (by (with_reducible repeat (first | apply Kd.R_alloc | apply Kd.R_drewN | apply Kd.R_drew)); exact HO494.out) hb); have n8_ := Aside0.mk (Kd.R_below (by (with_reducible repeat (first | apply Kd.R_alloc | apply Kd.R_drewN | apply Kd.R_drew)); exact HO499.out) hb); have n9_ := Aside0.mk (Kd.R_below (by (with_reducible repeat (first | apply Kd.R_alloc | apply Kd.R_drewN | apply Kd.R_drew)); exact HO503.out) hb); have n10_ := Aside0.mk (blk_below (g := gb481) (o := .cells #[.int .i64 t474, .slice Ao31 t475.length co31, .slice Ao32 t478.length co32] 44 (0, 0)) (by (with_reducible repeat (first | refine blk_drewN ?_ _ | refine blk_drew ?_ | refine blk_alloc ?_ _)); exact BK481.out) hb); have n11_ := Aside0.mk (blk_below (g := gb495) (o := .cells #[.int .i64 t488, .slice Ao41 t489.length co41, .slice Ao42 t492.length co42] 44 (0, 0)) (by (with_reducible repeat (first | refine blk_drewN ?_ _ | refine blk_drew ?_ | refine blk_alloc ?_ _)); exact BK495.out) hb); have n12_ := Aside0.mk (below_step (by repeat (first | (with_reducible first | exact HB.out | apply below_alloc | apply pw_below_drewN | apply below_drew1 | refine below_set ?_ GE481.out | refine below_set ?_ GE495.out) | exact HB.out)) hb); clear HO470; clear HO473; clear HO477; clear HO480; clear HO484; clear HO487; clear HO491; clear HO494; clear HO499; clear HO503; clear BK481; clear BK495; clear HB; have HO470 := n0_; have HO473 := n1_; have HO477 := n2_; have HO480 := n3_; have HO484 := n4_; have HO487 := n5_; have HO491 := n6_; have HO494 := n7_; have HO499 := n8_; have HO503 := n9_; have BK481 := n10_; have BK495 := n11_; have HB := n12_; clear n0_ n1_ n2_ n3_ n4_ n5_ n6_ n7_ n8_ n9_ n10_ n11_ n12_; (try clear hb); (try clear hb2); (try clear hk); (try clear hi)))
        go_meet
        case rel => exact ⟨_, (!t509), (by first | rfl | (simp; done) | (simp [*]; done)), H', ⟨by first | omega | exact Nat.le_refl _⟩, ⟨by (with_reducible repeat (first | apply Kd.R_alloc | apply Kd.R_drewN | apply Kd.R_drew)); exact HO477.out⟩, ⟨by (with_reducible repeat (first | apply Kd.R_alloc | apply Kd.R_drewN | apply Kd.R_drew)); exact HO480.out⟩, ⟨by (with_reducible repeat (first | apply Kd.R_alloc | apply Kd.R_drewN | apply Kd.R_drew)); exact HO491.out⟩, ⟨by (with_reducible repeat (first | apply Kd.R_alloc | apply Kd.R_drewN | apply Kd.R_drew)); exact HO494.out⟩, ⟨by (with_reducible repeat (first | refine blk_drewN ?_ _ | refine blk_drew ?_ | refine blk_alloc ?_ _)); exact BK481.out⟩, ⟨by (with_reducible repeat (first | refine blk_drewN ?_ _ | refine blk_drew ?_ | refine blk_alloc ?_ _)); exact BK495.out⟩, ⟨by repeat (first | (with_reducible first | exact HB.out | apply below_alloc | apply pw_below_drewN | apply below_drew1 | refine below_set ?_ GE481.out | refine below_set ?_ GE495.out) | exact HB.out)⟩⟩
      case rest =>
       clear HC23
       try clear c1
       try clear c2
       try clear p2
       try clear c3
       try clear c4
       try clear c4b0
       try clear c5
       try clear c6
       try clear c6b0
       try clear c7
       try clear c13
       try clear c14
       try clear c15
       try clear c17
       try clear c18
       try clear c20
       try clear c29
       try clear c30
       try clear c31
       try clear c32
       try clear c39
       try clear c51
       try clear c51b0
       try clear c53
       try clear hcz30_0
       try clear hcz30_1
       try clear hcz30_2
       try clear hcz40_0
       try clear hcz40_1
       try clear hcz40_2
       try clear hcz43_0
       try clear hcz43_1
       try clear hcz43_2
       try clear hcz54_0
       try clear hcz54_1
       try clear hcz54_2
       try clear hcz55_0
       try clear hcz55_1
       try clear hcz55_2
       try clear hfz30_0
       try clear hfz30_1
       try clear hfz30_2
       try clear hfz40_0
       try clear hfz40_1
       try clear hfz40_2
       try clear hfz43_0
       try clear hfz43_1
       try clear hfz43_2
       try clear hfz54_0
       try clear hfz54_1
       try clear hfz54_2
       try clear hfz55_0
       try clear hfz55_1
       try clear hfz55_2
       obtain ⟨kq, x63_22, rfl, HA, HJ22, HO_482001, HO_482002, HO_496001, HO_496002, BK481, BK495, HB⟩ := hcut
       cases kq with
       | zero => exact absurd HA.out (by simp [laws_FnExactMatchLines.j0])
       | succ kj22 =>
        have H := HA.out
        clear HA
        simp only [laws_FnExactMatchLines.j0] at H
        by_cases c57 : x63_22 = true
        ·subst c57
         have H1 : (some false) = some r := by rw [if_pos rfl] at H; exact H
         clear H
         have H := H1
         clear H1
         exact absurd ((Option.some.inj H).trans HLAW.out) (by decide)
        ·replace c57 := Bool.eq_false_iff.mpr c57
         subst c57
         have H1 : ((laws_markPairsResult.f kj22 t488 t489 t492 1).bind fun bt510 => ((laws_heldPairsResult.f kj22 t488 bt510.2.1 bt510.2.2 1).bind fun t513 => (if t513 < 0 then (some false) else (if t513 = bt510.1 then ((laws_toStringS.f kj22 l0).bind fun t514 => ((laws_toStringS.f kj22 l1).bind fun t517 => ((impl_MatchLines.f kj22 t514 t517).bind fun bt520 => ((laws_eqPairsResult.f kj22 bt520.1 bt520.2.1 bt520.2.2 t474 t475 t478).bind fun t528 => (if t528 = true then ((laws_heldPairsResult.f kj22 t488 bt510.2.1 bt510.2.2 1).bind fun t529 => (if t529 < 0 then (some false) else (if t529 = bt510.1 then (some true) else (some false)))) else (some false)))))) else (some false))))) = some r := by rw [if_neg (show ¬ (false = true) by decide)] at H; exact H
         clear H
         have H := H1
         clear H1
         replace H := Option.bind_eq_some_iff.mp H
         obtain ⟨⟨t510, t511, t512⟩, A580, H⟩ := H
         replace H : ((laws_heldPairsResult.f kj22 t488 t511 t512 1).bind fun t513 => (if t513 < 0 then (some false) else (if t513 = t510 then ((laws_toStringS.f kj22 l0).bind fun t514 => ((laws_toStringS.f kj22 l1).bind fun t517 => ((impl_MatchLines.f kj22 t514 t517).bind fun bt520 => ((laws_eqPairsResult.f kj22 bt520.1 bt520.2.1 bt520.2.2 t474 t475 t478).bind fun t528 => (if t528 = true then ((laws_heldPairsResult.f kj22 t488 t511 t512 1).bind fun t529 => (if t529 < 0 then (some false) else (if t529 = t510 then (some true) else (some false)))) else (some false)))))) else (some false)))) = some r := H
         have A58 := Aside0.mk A580
         clear A580
         replace H := Option.bind_eq_some_iff.mp H
         obtain ⟨t513, A590, H⟩ := H
         replace H : (if t513 < 0 then (some false) else (if t513 = t510 then ((laws_toStringS.f kj22 l0).bind fun t514 => ((laws_toStringS.f kj22 l1).bind fun t517 => ((impl_MatchLines.f kj22 t514 t517).bind fun bt520 => ((laws_eqPairsResult.f kj22 bt520.1 bt520.2.1 bt520.2.2 t474 t475 t478).bind fun t528 => (if t528 = true then ((laws_heldPairsResult.f kj22 t488 t511 t512 1).bind fun t529 => (if t529 < 0 then (some false) else (if t529 = t510 then (some true) else (some false)))) else (some false)))))) else (some false))) = some r := H
         have A59 := Aside0.mk A590
         clear A590
         by_cases c60 : t513 < 0
         ·rw [if_pos c60] at H
          have c60b0 : decide (t513 < 0) = true := decide_eq_true c60
          clear c60
          exact absurd ((Option.some.inj H).trans HLAW.out) (by decide)
         ·rw [if_neg c60] at H
          have c60b0 : decide (t513 < 0) = false := decide_eq_false c60
          clear c60
          by_cases c61 : t513 = t510
          ·rw [if_pos c61] at H
           have c61b0 : (t513 == t510) = true := beq_iff_eq.mpr c61
           have c61b1 : (t513 != t510) = false := bne_eq_false_iff_eq.mpr c61
           clear c61
           replace H := Option.bind_eq_some_iff.mp H
           obtain ⟨t514, A620, H⟩ := H
           replace H : ((laws_toStringS.f kj22 l1).bind fun t517 => ((impl_MatchLines.f kj22 t514 t517).bind fun bt520 => ((laws_eqPairsResult.f kj22 bt520.1 bt520.2.1 bt520.2.2 t474 t475 t478).bind fun t528 => (if t528 = true then ((laws_heldPairsResult.f kj22 t488 t511 t512 1).bind fun t529 => (if t529 < 0 then (some false) else (if t529 = t510 then (some true) else (some false)))) else (some false))))) = some r := H
           have A62 := Aside0.mk A620
           clear A620
           replace H := Option.bind_eq_some_iff.mp H
           obtain ⟨t517, A630, H⟩ := H
           replace H : ((impl_MatchLines.f kj22 t514 t517).bind fun bt520 => ((laws_eqPairsResult.f kj22 bt520.1 bt520.2.1 bt520.2.2 t474 t475 t478).bind fun t528 => (if t528 = true then ((laws_heldPairsResult.f kj22 t488 t511 t512 1).bind fun t529 => (if t529 < 0 then (some false) else (if t529 = t510 then (some true) else (some false)))) else (some false)))) = some r := H
           have A63 := Aside0.mk A630
           clear A630
           replace H := Option.bind_eq_some_iff.mp H
           obtain ⟨⟨t520, t521, t524⟩, A640, H⟩ := H
           replace H : ((laws_eqPairsResult.f kj22 t520 t521 t524 t474 t475 t478).bind fun t528 => (if t528 = true then ((laws_heldPairsResult.f kj22 t488 t511 t512 1).bind fun t529 => (if t529 < 0 then (some false) else (if t529 = t510 then (some true) else (some false)))) else (some false))) = some r := H
           have A64 := Aside0.mk A640
           clear A640
           replace H := Option.bind_eq_some_iff.mp H
           obtain ⟨t528, A650, H⟩ := H
           replace H : (if t528 = true then ((laws_heldPairsResult.f kj22 t488 t511 t512 1).bind fun t529 => (if t529 < 0 then (some false) else (if t529 = t510 then (some true) else (some false)))) else (some false)) = some r := H
           have A65 := Aside0.mk A650
           clear A650
           by_cases c66 : t528 = true
           ·subst c66
            have H1 : ((laws_heldPairsResult.f kj22 t488 t511 t512 1).bind fun t529 => (if t529 < 0 then (some false) else (if t529 = t510 then (some true) else (some false)))) = some r := by rw [if_pos rfl] at H; exact H
            clear H
            have H := H1
            clear H1
            replace H := Option.bind_eq_some_iff.mp H
            obtain ⟨t529, A670, H⟩ := H
            replace H : (if t529 < 0 then (some false) else (if t529 = t510 then (some true) else (some false))) = some r := H
            have A67 := Aside0.mk A670
            clear A670
            by_cases c68 : t529 < 0
            ·rw [if_pos c68] at H
             have c68b0 : decide (t529 < 0) = true := decide_eq_true c68
             clear c68
             exact absurd ((Option.some.inj H).trans HLAW.out) (by decide)
            ·rw [if_neg c68] at H
             have c68b0 : decide (t529 < 0) = false := decide_eq_false c68
             clear c68
             by_cases c69 : t529 = t510
             ·rw [if_pos c69] at H
              have c69b0 : (t529 == t510) = true := beq_iff_eq.mpr c69
              have c69b1 : (t529 != t510) = false := bne_eq_false_iff_eq.mpr c69
              clear c69
              obtain rfl := Option.some.inj H
              have hnb70 := NB495_481.out
              have hnc70 := NB481_495.out
              have hcz71_0 : wc.cell? ⟨gb495, 0, none⟩ = some (.int .i64 t488) := (blk_cell BK495.out 0).trans rfl
              have hcz71_1 : wc.cell? ⟨gb495, 1, none⟩ = some (.slice Ao41 t489.length co41) := (blk_cell BK495.out 1).trans rfl
              have hcz71_2 : wc.cell? ⟨gb495, 2, none⟩ = some (.slice Ao42 t492.length co42) := (blk_cell BK495.out 2).trans rfl
              have hfz71_0 := blk_frozen BK495.out 0
              have hfz71_1 := blk_frozen BK495.out 1
              have hfz71_2 := blk_frozen BK495.out 2
              go_wp2_with (first | ((with_reducible refine gate_callee (f := 33) rfl ?_); refine goesL_ (some 66) rfl rfl Try.func33 (by kernel_rfl) rfl #[.agg #[.int .i64 t488, .slice Ao41 t489.length co41, .slice Ao42 t492.length co42], .int .i64 1] rfl (by (try simp only [List.map_toArray, List.map_cons, List.map_nil]); first | done | rfl | (simp only [List.length_drop, List.length_take]; rfl)) ?_; (with_reducible refine (laws_markPairsResult.calls kj22 t488 (fun k_ => some k_ = (.slice Ao41 t489.length co41 : Value).ownBlock) (.slice Ao41 t489.length co41) t489 (fun k_ => some k_ = (.slice Ao42 t492.length co42 : Value).ownBlock) (.slice Ao42 t492.length co42) t492 1 t510 t511 t512 w _ ?side1 ?side2 ?side3 ?side4 ?side5 A58.out).mono ?_); (case side1 => repeat (first | (with_reducible first | exact HB.out | apply below_alloc | apply pw_below_drewN | apply below_drew1 | refine below_set ?_ GE481.out | refine below_set ?_ GE495.out) | exact HB.out)); (case side2 => exact Kd.R_tight rfl HO_496001.out); (case side3 => exact fun k_ e_ => (HO_496001.out.1 k_ e_.symm).2.2); (case side4 => exact Kd.R_tight rfl HO_496002.out); (case side5 => exact fun k_ e_ => (HO_496002.out.1 k_ e_.symm).2.2); rintro e w72 ⟨rfl, hy0, hy1, hb, hkp⟩; refine ⟨_, rfl, ?_⟩; have n0_ := Aside0.mk (Kd.R_mono (ok' := fun k_ => some k_ ≠ (.slice Ao32 t478.length co32 : Value).ownBlock ∧ some k_ ≠ (.slice Ao41 t489.length co41 : Value).ownBlock ∧ some k_ ≠ (.slice Ao42 t492.length co42 : Value).ownBlock) (Kd.R_keptB (HO_482001.out) hkp (fun k_ hk_ hs_ => Or.elim hs_ (fun e_ => (hk_.2.1) e_) (fun e_ => (hk_.2.2) e_))) (fun k_ hk_ => ⟨hk_.1.1, hk_.1.2.1, hk_.1.2.2⟩)); have n1_ := Aside0.mk (Kd.R_mono (ok' := fun k_ => some k_ ≠ (.slice Ao31 t475.length co31 : Value).ownBlock ∧ some k_ ≠ (.slice Ao41 t489.length co41 : Value).ownBlock ∧ some k_ ≠ (.slice Ao42 t492.length co42 : Value).ownBlock) (Kd.R_keptB (HO_482002.out) hkp (fun k_ hk_ hs_ => Or.elim hs_ (fun e_ => (hk_.2.1) e_) (fun e_ => (hk_.2.2) e_))) (fun k_ hk_ => ⟨hk_.1.1, hk_.1.2.1, hk_.1.2.2⟩)); have n2_ := Aside0.mk (Kd.R_reok rfl hy0 (fun k_ e_ => HO_496001.out.1 k_ e_)); have n3_ := Aside0.mk (Kd.R_reok rfl hy1 (fun k_ e_ => HO_496002.out.1 k_ e_)); have n4_ := Aside0.mk (blk_kept (by (with_reducible repeat (first | refine blk_drewN ?_ _ | refine blk_drew ?_ | refine blk_alloc ?_ _)); exact BK481.out) hkp (fun hs_ => Or.elim hs_ (fun e_ => (fun e_ => (Kd.R_ne HO_496001.out BK481.out (by decide)) e_) e_) (fun e_ => (fun e_ => (Kd.R_ne HO_496002.out BK481.out (by decide)) e_) e_))); have n5_ := Aside0.mk (blk_kept (by (with_reducible repeat (first | refine blk_drewN ?_ _ | refine blk_drew ?_ | refine blk_alloc ?_ _)); exact BK495.out) hkp (fun hs_ => Or.elim hs_ (fun e_ => (fun e_ => (Kd.R_ne HO_496001.out BK495.out (by decide)) e_) e_) (fun e_ => (fun e_ => (Kd.R_ne HO_496002.out BK495.out (by decide)) e_) e_))); have n6_ := Aside0.mk (hb); clear HO_482001; clear HO_482002; clear HO_496001; clear HO_496002; clear BK481; clear BK495; clear HB; have HO_482001 := n0_; have HO_482002 := n1_; have HO_496001 := n2_; have HO_496002 := n3_; have BK481 := n4_; have BK495 := n5_; have HB := n6_; clear n0_ n1_ n2_ n3_ n4_ n5_ n6_; (try clear hb); (try clear hkp); (try clear hy0); (try clear hy1); have hcz73_0 : w72.cell? ⟨gb495, 0, none⟩ = some (.int .i64 t488) := (blk_cell BK495.out 0).trans rfl; have hcz73_1 : w72.cell? ⟨gb495, 1, none⟩ = some (.slice Ao41 t489.length co41) := (blk_cell BK495.out 1).trans rfl; have hcz73_2 : w72.cell? ⟨gb495, 2, none⟩ = some (.slice Ao42 t492.length co42) := (blk_cell BK495.out 2).trans rfl; have hfz73_0 := blk_frozen BK495.out 0; have hfz73_1 := blk_frozen BK495.out 1; have hfz73_2 := blk_frozen BK495.out 2) | ((with_reducible refine gate_callee (f := 34) rfl ?_); refine goesL_ (some 69) rfl rfl Try.func34 (by kernel_rfl) rfl #[.agg #[.int .i64 t488, .slice Ao41 t511.length co41, .slice Ao42 t512.length co42], .int .i64 1] rfl (by (try simp only [List.map_toArray, List.map_cons, List.map_nil]); first | done | (rw [show t511.length = t489.length from (Kd.R_reads' HO_496001.out).1.symm, show t512.length = t492.length from (Kd.R_reads' HO_496002.out).1.symm] <;> rfl) | rfl | (simp only [List.length_drop, List.length_take]; rfl)) ?_; (with_reducible refine (laws_heldPairsResult.calls kj22 t488 _ _ t511 _ _ t512 1 t513 _ ?side1 ?side2 ?side3 ?side4 A59.out).mono ?_); (case side1 => repeat (first | exact (Kd.R_reads' HO_496001.out).2.2 | (with_reducible refine Kd.C_alloc ?_ _) | (with_reducible refine Kd.C_drewN ?_ _) | (with_reducible refine Kd.C_drew ?_))); (case side2 => rw [show t511.length = t489.length from (Kd.R_reads' HO_496001.out).1.symm]; exact (Kd.R_reads' HO_496001.out).2.1); (case side3 => repeat (first | exact (Kd.R_reads' HO_496002.out).2.2 | (with_reducible refine Kd.C_alloc ?_ _) | (with_reducible refine Kd.C_drewN ?_ _) | (with_reducible refine Kd.C_drew ?_))); (case side4 => rw [show t512.length = t492.length from (Kd.R_reads' HO_496002.out).1.symm]; exact (Kd.R_reads' HO_496002.out).2.1); rintro e w74 ⟨rfl, hb⟩; refine ⟨_, rfl, ?_⟩; have n0_ := Aside0.mk (Kd.R_below (by (with_reducible repeat (first | apply Kd.R_alloc | apply Kd.R_drewN | apply Kd.R_drew)); exact HO_482001.out) hb); have n1_ := Aside0.mk (Kd.R_below (by (with_reducible repeat (first | apply Kd.R_alloc | apply Kd.R_drewN | apply Kd.R_drew)); exact HO_482002.out) hb); have n2_ := Aside0.mk (Kd.R_below (by (with_reducible repeat (first | apply Kd.R_alloc | apply Kd.R_drewN | apply Kd.R_drew)); exact HO_496001.out) hb); have n3_ := Aside0.mk (Kd.R_below (by (with_reducible repeat (first | apply Kd.R_alloc | apply Kd.R_drewN | apply Kd.R_drew)); exact HO_496002.out) hb); have n4_ := Aside0.mk (blk_below (g := gb481) (o := .cells #[.int .i64 t474, .slice Ao31 t475.length co31, .slice Ao32 t478.length co32] 44 (0, 0)) (by (with_reducible repeat (first | refine blk_drewN ?_ _ | refine blk_drew ?_ | refine blk_alloc ?_ _)); exact BK481.out) hb); have n5_ := Aside0.mk (blk_below (g := gb495) (o := .cells #[.int .i64 t488, .slice Ao41 t489.length co41, .slice Ao42 t492.length co42] 44 (0, 0)) (by (with_reducible repeat (first | refine blk_drewN ?_ _ | refine blk_drew ?_ | refine blk_alloc ?_ _)); exact BK495.out) hb); have n6_ := Aside0.mk (below_step (by repeat (first | (with_reducible first | exact HB.out | apply below_alloc | apply pw_below_drewN | apply below_drew1 | refine below_set ?_ GE481.out | refine below_set ?_ GE495.out) | exact HB.out)) hb); clear HO_482001; clear HO_482002; clear HO_496001; clear HO_496002; clear BK481; clear BK495; clear HB; have HO_482001 := n0_; have HO_482002 := n1_; have HO_496001 := n2_; have HO_496002 := n3_; have BK481 := n4_; have BK495 := n5_; have HB := n6_; clear n0_ n1_ n2_ n3_ n4_ n5_ n6_; (try clear hb); (try clear hb2); (try clear hk); (try clear hi)) | ((with_reducible refine gate_callee (f := 15) rfl ?_); refine goesL_ (some 76) rfl rfl Try.func15 (by kernel_rfl) rfl #[.slice A0 l0.length c0] rfl (by (try simp only [List.map_toArray, List.map_cons, List.map_nil]); first | done | rfl | (simp only [List.length_drop, List.length_take]; rfl)) ?_; (with_reducible refine (laws_toStringS.calls kj22 _ _ l0 t514 _ ?side1 ?side2 A62.out).mono ?_); (case side1 => repeat (first | exact (Kd.C_below HR0.out HB.out) | (with_reducible refine Kd.C_alloc ?_ _) | (with_reducible refine Kd.C_drewN ?_ _) | (with_reducible refine Kd.C_drew ?_))); (case side2 => exact HC0.out); rintro e w75 ⟨v515, rfl, ho0, hb⟩; refine ⟨_, rfl, ?_⟩; have n0_ := Aside0.mk (Kd.R_below (by (with_reducible repeat (first | apply Kd.R_alloc | apply Kd.R_drewN | apply Kd.R_drew)); exact HO_482001.out) hb); have n1_ := Aside0.mk (Kd.R_below (by (with_reducible repeat (first | apply Kd.R_alloc | apply Kd.R_drewN | apply Kd.R_drew)); exact HO_482002.out) hb); have n2_ := Aside0.mk (Kd.R_below (by (with_reducible repeat (first | apply Kd.R_alloc | apply Kd.R_drewN | apply Kd.R_drew)); exact HO_496001.out) hb); have n3_ := Aside0.mk (Kd.R_below (by (with_reducible repeat (first | apply Kd.R_alloc | apply Kd.R_drewN | apply Kd.R_drew)); exact HO_496002.out) hb); have n4_ := Aside0.mk (Kd.R_lower ho0 (below_size (by repeat (first | (with_reducible first | exact HB.out | apply below_alloc | apply pw_below_drewN | apply below_drew1 | refine below_set ?_ GE481.out | refine below_set ?_ GE495.out) | exact HB.out)))); have n5_ := Aside0.mk (blk_below (g := gb481) (o := .cells #[.int .i64 t474, .slice Ao31 t475.length co31, .slice Ao32 t478.length co32] 44 (0, 0)) (by (with_reducible repeat (first | refine blk_drewN ?_ _ | refine blk_drew ?_ | refine blk_alloc ?_ _)); exact BK481.out) hb); have n6_ := Aside0.mk (blk_below (g := gb495) (o := .cells #[.int .i64 t488, .slice Ao41 t489.length co41, .slice Ao42 t492.length co42] 44 (0, 0)) (by (with_reducible repeat (first | refine blk_drewN ?_ _ | refine blk_drew ?_ | refine blk_alloc ?_ _)); exact BK495.out) hb); have n7_ := Aside0.mk (below_step (by repeat (first | (with_reducible first | exact HB.out | apply below_alloc | apply pw_below_drewN | apply below_drew1 | refine below_set ?_ GE481.out | refine below_set ?_ GE495.out) | exact HB.out)) hb); clear HO_482001; clear HO_482002; clear HO_496001; clear HO_496002; clear BK481; clear BK495; clear HB; have HO_482001 := n0_; have HO_482002 := n1_; have HO_496001 := n2_; have HO_496002 := n3_; have HO516 := n4_; have BK481 := n5_; have BK495 := n6_; have HB := n7_; clear n0_ n1_ n2_ n3_ n4_ n5_ n6_ n7_; (try clear hb); (try clear hb2); (try clear hk); (try clear hi); (try clear ho0)) | ((with_reducible refine gate_callee (f := 15) rfl ?_); refine goesL_ (some 78) rfl rfl Try.func15 (by kernel_rfl) rfl #[.slice A1 l1.length c1] rfl (by (try simp only [List.map_toArray, List.map_cons, List.map_nil]); first | done | rfl | (simp only [List.length_drop, List.length_take]; rfl)) ?_; (with_reducible refine (laws_toStringS.calls kj22 _ _ l1 t517 _ ?side1 ?side2 A63.out).mono ?_); (case side1 => repeat (first | exact (Kd.C_below HR1.out HB.out) | (with_reducible refine Kd.C_alloc ?_ _) | (with_reducible refine Kd.C_drewN ?_ _) | (with_reducible refine Kd.C_drew ?_))); (case side2 => exact HC1.out); rintro e w76 ⟨v518, rfl, ho0, hb⟩; refine ⟨_, rfl, ?_⟩; have n0_ := Aside0.mk (Kd.R_below (by (with_reducible repeat (first | apply Kd.R_alloc | apply Kd.R_drewN | apply Kd.R_drew)); exact HO_482001.out) hb); have n1_ := Aside0.mk (Kd.R_below (by (with_reducible repeat (first | apply Kd.R_alloc | apply Kd.R_drewN | apply Kd.R_drew)); exact HO_482002.out) hb); have n2_ := Aside0.mk (Kd.R_below (by (with_reducible repeat (first | apply Kd.R_alloc | apply Kd.R_drewN | apply Kd.R_drew)); exact HO_496001.out) hb); have n3_ := Aside0.mk (Kd.R_below (by (with_reducible repeat (first | apply Kd.R_alloc | apply Kd.R_drewN | apply Kd.R_drew)); exact HO_496002.out) hb); have n4_ := Aside0.mk (Kd.R_elder' (by (with_reducible repeat (first | apply Kd.R_alloc | apply Kd.R_drewN | apply Kd.R_drew)); exact HO516.out) (Kd.R_base ho0) hb); have n5_ := Aside0.mk (Kd.R_lower (Kd.R_new' ho0 (Kd.R_lt (by (with_reducible repeat (first | apply Kd.R_alloc | apply Kd.R_drewN | apply Kd.R_drew)); exact HO516.out))) (below_size (by repeat (first | (with_reducible first | exact HB.out | apply below_alloc | apply pw_below_drewN | apply below_drew1 | refine below_set ?_ GE481.out | refine below_set ?_ GE495.out) | exact HB.out)))); have n6_ := Aside0.mk (blk_below (g := gb481) (o := .cells #[.int .i64 t474, .slice Ao31 t475.length co31, .slice Ao32 t478.length co32] 44 (0, 0)) (by (with_reducible repeat (first | refine blk_drewN ?_ _ | refine blk_drew ?_ | refine blk_alloc ?_ _)); exact BK481.out) hb); have n7_ := Aside0.mk (blk_below (g := gb495) (o := .cells #[.int .i64 t488, .slice Ao41 t489.length co41, .slice Ao42 t492.length co42] 44 (0, 0)) (by (with_reducible repeat (first | refine blk_drewN ?_ _ | refine blk_drew ?_ | refine blk_alloc ?_ _)); exact BK495.out) hb); have n8_ := Aside0.mk (below_step (by repeat (first | (with_reducible first | exact HB.out | apply below_alloc | apply pw_below_drewN | apply below_drew1 | refine below_set ?_ GE481.out | refine below_set ?_ GE495.out) | exact HB.out)) hb); clear HO_482001; clear HO_482002; clear HO_496001; clear HO_496002; clear HO516; clear BK481; clear BK495; clear HB; have HO_482001 := n0_; have HO_482002 := n1_; have HO_496001 := n2_; have HO_496002 := n3_; have HO516 := n4_; have HO519 := n5_; have BK481 := n6_; have BK495 := n7_; have HB := n8_; clear n0_ n1_ n2_ n3_ n4_ n5_ n6_ n7_ n8_; (try clear hb); (try clear hb2); (try clear hk); (try clear hi); (try clear ho0); obtain ⟨Ao77, co77, eo77⟩ := Kd.R_slice HO516.out; subst eo77; obtain ⟨Ao78, co78, eo78⟩ := Kd.R_slice HO519.out; subst eo78) | ((with_reducible refine gate_callee (f := 30) rfl ?_); refine goesL_ (some 79) rfl rfl Try.func30 (by kernel_rfl) rfl #[.slice Ao77 t514.length co77, .slice Ao78 t517.length co78] rfl (by (try simp only [List.map_toArray, List.map_cons, List.map_nil]); first | done | rfl | (simp only [List.length_drop, List.length_take]; rfl)) ?_; (with_reducible refine (impl_MatchLines.calls kj22 _ _ t514 _ _ t517 t520 t521 t524 _ ?side1 ?side2 ?side3 ?side4 A64.out).mono ?_); (case side1 => repeat (first | exact (Kd.R_reads' HO516.out).2.2 | (with_reducible refine Kd.C_alloc ?_ _) | (with_reducible refine Kd.C_drewN ?_ _) | (with_reducible refine Kd.C_drew ?_))); (case side2 => exact (Kd.R_reads' HO516.out).2.1); (case side3 => repeat (first | exact (Kd.R_reads' HO519.out).2.2 | (with_reducible refine Kd.C_alloc ?_ _) | (with_reducible refine Kd.C_drewN ?_ _) | (with_reducible refine Kd.C_drew ?_))); (case side4 => exact (Kd.R_reads' HO519.out).2.1); rintro e w79 ⟨v522, v525, rfl, ho0, ho1, hb⟩; refine ⟨_, rfl, ?_⟩; have n0_ := Aside0.mk (Kd.R_mono (Kd.R_told (Kd.R_told (Kd.R_old (by (with_reducible repeat (first | apply Kd.R_alloc | apply Kd.R_drewN | apply Kd.R_drew)); exact HO_482001.out) hb) (Kd.R_base ho0)) (Kd.R_base ho1)) (fun _ h_ => h_.1)); have n1_ := Aside0.mk (Kd.R_mono (Kd.R_told (Kd.R_told (Kd.R_old (by (with_reducible repeat (first | apply Kd.R_alloc | apply Kd.R_drewN | apply Kd.R_drew)); exact HO_482002.out) hb) (Kd.R_base ho0)) (Kd.R_base ho1)) (fun _ h_ => h_.1)); have n2_ := Aside0.mk (Kd.R_mono (Kd.R_told (Kd.R_told (Kd.R_old (by (with_reducible repeat (first | apply Kd.R_alloc | apply Kd.R_drewN | apply Kd.R_drew)); exact HO_496001.out) hb) (Kd.R_base ho0)) (Kd.R_base ho1)) (fun _ h_ => h_.1)); have n3_ := Aside0.mk (Kd.R_mono (Kd.R_told (Kd.R_told (Kd.R_old (by (with_reducible repeat (first | apply Kd.R_alloc | apply Kd.R_drewN | apply Kd.R_drew)); exact HO_496002.out) hb) (Kd.R_base ho0)) (Kd.R_base ho1)) (fun _ h_ => h_.1)); have n4_ := Aside0.mk (Kd.R_below (by (with_reducible repeat (first | apply Kd.R_alloc | apply Kd.R_drewN | apply Kd.R_drew)); exact HO516.out) hb); have n5_ := Aside0.mk (Kd.R_below (by (with_reducible repeat (first | apply Kd.R_alloc | apply Kd.R_drewN | apply Kd.R_drew)); exact HO519.out) hb); have n6_ := Aside0.mk (Kd.R_lower (Kd.R_new' (Kd.R_new' (Kd.R_new' (Kd.R_new' ho0 (Kd.R_lt (by (with_reducible repeat (first | apply Kd.R_alloc | apply Kd.R_drewN | apply Kd.R_drew)); exact HO_482001.out))) (Kd.R_lt (by (with_reducible repeat (first | apply Kd.R_alloc | apply Kd.R_drewN | apply Kd.R_drew)); exact HO_482002.out))) (Kd.R_lt (by (with_reducible repeat (first | apply Kd.R_alloc | apply Kd.R_drewN | apply Kd.R_drew)); exact HO_496001.out))) (Kd.R_lt (by (with_reducible repeat (first | apply Kd.R_alloc | apply Kd.R_drewN | apply Kd.R_drew)); exact HO_496002.out))) (below_size (by repeat (first | (with_reducible first | exact HB.out | apply below_alloc | apply pw_below_drewN | apply below_drew1 | refine below_set ?_ GE481.out | refine below_set ?_ GE495.out) | exact HB.out)))); have n7_ := Aside0.mk (Kd.R_lower (Kd.R_new' (Kd.R_new' (Kd.R_new' (Kd.R_new' ho1 (Kd.R_lt (by (with_reducible repeat (first | apply Kd.R_alloc | apply Kd.R_drewN | apply Kd.R_drew)); exact HO_482001.out))) (Kd.R_lt (by (with_reducible repeat (first | apply Kd.R_alloc | apply Kd.R_drewN | apply Kd.R_drew)); exact HO_482002.out))) (Kd.R_lt (by (with_reducible repeat (first | apply Kd.R_alloc | apply Kd.R_drewN | apply Kd.R_drew)); exact HO_496001.out))) (Kd.R_lt (by (with_reducible repeat (first | apply Kd.R_alloc | apply Kd.R_drewN | apply Kd.R_drew)); exact HO_496002.out))) (below_size (by repeat (first | (with_reducible first | exact HB.out | apply below_alloc | apply pw_below_drewN | apply below_drew1 | refine below_set ?_ GE481.out | refine below_set ?_ GE495.out) | exact HB.out)))); have n8_ := Aside0.mk (blk_below (g := gb481) (o := .cells #[.int .i64 t474, .slice Ao31 t475.length co31, .slice Ao32 t478.length co32] 44 (0, 0)) (by (with_reducible repeat (first | refine blk_drewN ?_ _ | refine blk_drew ?_ | refine blk_alloc ?_ _)); exact BK481.out) hb); have n9_ := Aside0.mk (blk_below (g := gb495) (o := .cells #[.int .i64 t488, .slice Ao41 t489.length co41, .slice Ao42 t492.length co42] 44 (0, 0)) (by (with_reducible repeat (first | refine blk_drewN ?_ _ | refine blk_drew ?_ | refine blk_alloc ?_ _)); exact BK495.out) hb); have n10_ := Aside0.mk (below_step (by repeat (first | (with_reducible first | exact HB.out | apply below_alloc | apply pw_below_drewN | apply below_drew1 | refine below_set ?_ GE481.out | refine below_set ?_ GE495.out) | exact HB.out)) hb); clear HO_482001; clear HO_482002; clear HO_496001; clear HO_496002; clear HO516; clear HO519; clear BK481; clear BK495; clear HB; have HO_482001 := n0_; have HO_482002 := n1_; have HO_496001 := n2_; have HO_496002 := n3_; have HO516 := n4_; have HO519 := n5_; have HO523 := n6_; have HO526 := n7_; have BK481 := n8_; have BK495 := n9_; have HB := n10_; clear n0_ n1_ n2_ n3_ n4_ n5_ n6_ n7_ n8_ n9_ n10_; (try clear hb); (try clear hb2); (try clear hk); (try clear hi); (try clear ho0); (try clear ho1)) | ((with_reducible refine gate_dst (N := 13) rfl ?_); refine box_event ?hg (N := 13) ?hd (cs := #[.int .i64 0, .slice none 0 0, .slice none 0 0]) (t := 44) ?hr ?_; (case hd => rfl); (case hg => rfl); (case hr => first | (go_simp; done) | (go_simp; rfl)); intro gb527 hg w80 hbox hb; have n0_ := Aside0.mk (Kd.R_below (by (with_reducible repeat (first | apply Kd.R_alloc | apply Kd.R_drewN | apply Kd.R_drew)); exact HO_482001.out) hb); have n1_ := Aside0.mk (Kd.R_below (by (with_reducible repeat (first | apply Kd.R_alloc | apply Kd.R_drewN | apply Kd.R_drew)); exact HO_482002.out) hb); have n2_ := Aside0.mk (Kd.R_below (by (with_reducible repeat (first | apply Kd.R_alloc | apply Kd.R_drewN | apply Kd.R_drew)); exact HO_496001.out) hb); have n3_ := Aside0.mk (Kd.R_below (by (with_reducible repeat (first | apply Kd.R_alloc | apply Kd.R_drewN | apply Kd.R_drew)); exact HO_496002.out) hb); have n4_ := Aside0.mk (Kd.R_below (by (with_reducible repeat (first | apply Kd.R_alloc | apply Kd.R_drewN | apply Kd.R_drew)); exact HO516.out) hb); have n5_ := Aside0.mk (Kd.R_below (by (with_reducible repeat (first | apply Kd.R_alloc | apply Kd.R_drewN | apply Kd.R_drew)); exact HO519.out) hb); have n6_ := Aside0.mk (Kd.R_below (by (with_reducible repeat (first | apply Kd.R_alloc | apply Kd.R_drewN | apply Kd.R_drew)); exact HO523.out) hb); have n7_ := Aside0.mk (Kd.R_below (by (with_reducible repeat (first | apply Kd.R_alloc | apply Kd.R_drewN | apply Kd.R_drew)); exact HO526.out) hb); have n8_ := Aside0.mk (blk_below (g := gb481) (o := .cells #[.int .i64 t474, .slice Ao31 t475.length co31, .slice Ao32 t478.length co32] 44 (0, 0)) (by (with_reducible repeat (first | refine blk_drewN ?_ _ | refine blk_drew ?_ | refine blk_alloc ?_ _)); exact BK481.out) hb); have n9_ := Aside0.mk (blk_below (g := gb495) (o := .cells #[.int .i64 t488, .slice Ao41 t489.length co41, .slice Ao42 t492.length co42] 44 (0, 0)) (by (with_reducible repeat (first | refine blk_drewN ?_ _ | refine blk_drew ?_ | refine blk_alloc ?_ _)); exact BK495.out) hb); have n10_ := Aside0.mk (below_step (by repeat (first | (with_reducible first | exact HB.out | apply below_alloc | apply pw_below_drewN | apply below_drew1 | refine below_set ?_ GE481.out | refine below_set ?_ GE495.out) | exact HB.out)) hb); have n11_ := Aside0.mk (hbox); have n12_ := Aside0.mk ((by rw [hg]; exact (below_size (by repeat (first | (with_reducible first | exact HB.out | apply below_alloc | apply pw_below_drewN | apply below_drew1 | refine below_set ?_ GE481.out | refine below_set ?_ GE495.out) | exact HB.out))) : w.heap.size ≤ gb527)); have n13_ := Aside0.mk ((by rw [hg]; exact (below_size (by repeat (first | (with_reducible first | exact HB.out | apply below_alloc | apply pw_below_drewN | apply below_drew1 | refine below_set ?_ GE481.out | refine below_set ?_ GE495.out) | exact HB.out))) : w.heap.size ≤ gb527)); have n14_ := Aside0.mk ((by rw [hg]; exact Nat.ne_of_lt (blk_lt (g := gb481) (o := .cells #[.int .i64 t474, .slice Ao31 t475.length co31, .slice Ao32 t478.length co32] 44 (0, 0)) (by (with_reducible repeat (first | refine blk_drewN ?_ _ | refine blk_drew ?_ | refine blk_alloc ?_ _)); exact BK481.out)) : gb481 ≠ gb527)); have n15_ := Aside0.mk ((by rw [hg]; exact Nat.ne_of_gt (blk_lt (g := gb481) (o := .cells #[.int .i64 t474, .slice Ao31 t475.length co31, .slice Ao32 t478.length co32] 44 (0, 0)) (by (with_reducible repeat (first | refine blk_drewN ?_ _ | refine blk_drew ?_ | refine blk_alloc ?_ _)); exact BK481.out)) : gb527 ≠ gb481)); have n16_ := Aside0.mk ((by rw [hg]; exact Nat.ne_of_lt (blk_lt (g := gb495) (o := .cells #[.int .i64 t488, .slice Ao41 t489.length co41, .slice Ao42 t492.length co42] 44 (0, 0)) (by (with_reducible repeat (first | refine blk_drewN ?_ _ | refine blk_drew ?_ | refine blk_alloc ?_ _)); exact BK495.out)) : gb495 ≠ gb527)); have n17_ := Aside0.mk ((by rw [hg]; exact Nat.ne_of_gt (blk_lt (g := gb495) (o := .cells #[.int .i64 t488, .slice Ao41 t489.length co41, .slice Ao42 t492.length co42] 44 (0, 0)) (by (with_reducible repeat (first | refine blk_drewN ?_ _ | refine blk_drew ?_ | refine blk_alloc ?_ _)); exact BK495.out)) : gb527 ≠ gb495)); clear HO_482001; clear HO_482002; clear HO_496001; clear HO_496002; clear HO516; clear HO519; clear HO523; clear HO526; clear BK481; clear BK495; clear HB; have HO_482001 := n0_; have HO_482002 := n1_; have HO_496001 := n2_; have HO_496002 := n3_; have HO516 := n4_; have HO519 := n5_; have HO523 := n6_; have HO526 := n7_; have BK481 := n8_; have BK495 := n9_; have HB := n10_; have BK527 := n11_; have GW527 := n12_; have GE527 := n13_; have NB481_527 := n14_; have NB527_481 := n15_; have NB495_527 := n16_; have NB527_495 := n17_; clear n0_ n1_ n2_ n3_ n4_ n5_ n6_ n7_ n8_ n9_ n10_ n11_ n12_ n13_ n14_ n15_ n16_ n17_; clear hb hbox hg; have hnb81 := NB527_481.out; have hnc81 := NB481_527.out; have hnb82 := NB527_495.out; have hnc82 := NB495_527.out; have hcz83_0 : w80.cell? ⟨gb527, 0, none⟩ = some (.int .i64 0) := (blk_cell BK527.out 0).trans rfl; have hcz83_1 : w80.cell? ⟨gb527, 1, none⟩ = some (.slice none 0 0) := (blk_cell BK527.out 1).trans rfl; have hcz83_2 : w80.cell? ⟨gb527, 2, none⟩ = some (.slice none 0 0) := (blk_cell BK527.out 2).trans rfl; have hfz83_0 := blk_frozen BK527.out 0; have hfz83_1 := blk_frozen BK527.out 1; have hfz83_2 := blk_frozen BK527.out 2; obtain ⟨Ao84, co84, eo84⟩ := Kd.R_slice HO523.out; subst eo84; obtain ⟨Ao85, co85, eo85⟩ := Kd.R_slice HO526.out; subst eo85; have hcz86_0 : w80.cell? ⟨gb481, 0, none⟩ = some (.int .i64 t474) := (blk_cell BK481.out 0).trans rfl; have hcz86_1 : w80.cell? ⟨gb481, 1, none⟩ = some (.slice Ao31 t475.length co31) := (blk_cell BK481.out 1).trans rfl; have hcz86_2 : w80.cell? ⟨gb481, 2, none⟩ = some (.slice Ao32 t478.length co32) := (blk_cell BK481.out 2).trans rfl; have hfz86_0 := blk_frozen BK481.out 0; have hfz86_1 := blk_frozen BK481.out 1; have hfz86_2 := blk_frozen BK481.out 2) | ((with_reducible refine gate_callee (f := 31) rfl ?_); refine goesL_ (some 82) rfl rfl Try.func31 (by kernel_rfl) rfl #[.agg #[.int .i64 t520, .slice Ao84 t521.length co84, .slice Ao85 t524.length co85], .agg #[.int .i64 t474, .slice Ao31 t475.length co31, .slice Ao32 t478.length co32]] rfl (by (try simp only [List.map_toArray, List.map_cons, List.map_nil]); first | done | rfl | (simp only [List.length_drop, List.length_take]; rfl)) ?_; (with_reducible refine (laws_eqPairsResult.calls kj22 t520 _ _ t521 _ _ t524 t474 _ _ t475 _ _ t478 true _ ?side1 ?side2 ?side3 ?side4 ?side5 ?side6 ?side7 ?side8 A65.out).mono ?_); (case side1 => refine (Kd.R_reads' (e := 2) (base := w.heap.size) (ok := fun k_ => ((((some k_ ≠ (.slice Ao85 t524.length co85 : Value).ownBlock ∧ some k_ ≠ (.slice Ao31 t475.length co31 : Value).ownBlock) ∧ some k_ ≠ (.slice Ao32 t478.length co32 : Value).ownBlock) ∧ some k_ ≠ (.slice Ao41 t489.length co41 : Value).ownBlock) ∧ some k_ ≠ (.slice Ao42 t492.length co42 : Value).ownBlock)) (n := t521.length) (c := co84) ?_).2.2; exact (by (with_reducible repeat (first | apply Kd.R_alloc | apply Kd.R_drewN | apply Kd.R_drew)); exact (Kd.R_mono (Kd.R_far (p := ⟨gb527, 2, none⟩) (Kd.R_far (p := ⟨gb527, 1, none⟩) (Kd.R_far (p := ⟨gb527, 0, none⟩) (Kd.R_types HO523.out BK527.out (by decide)) (fun _ hk => hk.2) (.int .i64 t520)) (fun _ hk => hk.2) (.slice Ao84 t521.length co84)) (fun _ hk => hk.2) (.slice Ao85 t524.length co85)) (fun _ h_ => h_.1)))); (case side2 => exact (Kd.R_reads' HO523.out).2.1); (case side3 => refine (Kd.R_reads' (e := 2) (base := w.heap.size) (ok := fun k_ => ((((some k_ ≠ (.slice Ao84 t521.length co84 : Value).ownBlock ∧ some k_ ≠ (.slice Ao31 t475.length co31 : Value).ownBlock) ∧ some k_ ≠ (.slice Ao32 t478.length co32 : Value).ownBlock) ∧ some k_ ≠ (.slice Ao41 t489.length co41 : Value).ownBlock) ∧ some k_ ≠ (.slice Ao42 t492.length co42 : Value).ownBlock)) (n := t524.length) (c := co85) ?_).2.2; exact (by (with_reducible repeat (first | apply Kd.R_alloc | apply Kd.R_drewN | apply Kd.R_drew)); exact (Kd.R_mono (Kd.R_far (p := ⟨gb527, 2, none⟩) (Kd.R_far (p := ⟨gb527, 1, none⟩) (Kd.R_far (p := ⟨gb527, 0, none⟩) (Kd.R_types HO526.out BK527.out (by decide)) (fun _ hk => hk.2) (.int .i64 t520)) (fun _ hk => hk.2) (.slice Ao84 t521.length co84)) (fun _ hk => hk.2) (.slice Ao85 t524.length co85)) (fun _ h_ => h_.1)))); (case side4 => exact (Kd.R_reads' HO526.out).2.1); (case side5 => refine (Kd.R_reads' (e := 2) (base := w.heap.size) (ok := fun k_ => (((some k_ ≠ (.slice Ao32 t478.length co32 : Value).ownBlock ∧ (some k_ ≠ (.slice Ao41 t489.length co41 : Value).ownBlock ∧ some k_ ≠ (.slice Ao42 t492.length co42 : Value).ownBlock)) ∧ some k_ ≠ (.slice Ao84 t521.length co84 : Value).ownBlock) ∧ some k_ ≠ (.slice Ao85 t524.length co85 : Value).ownBlock)) (n := t475.length) (c := co31) ?_).2.2; exact (by (with_reducible repeat (first | apply Kd.R_alloc | apply Kd.R_drewN | apply Kd.R_drew)); exact (Kd.R_mono (Kd.R_far (p := ⟨gb527, 2, none⟩) (Kd.R_far (p := ⟨gb527, 1, none⟩) (Kd.R_far (p := ⟨gb527, 0, none⟩) (Kd.R_types HO_482001.out BK527.out (by decide)) (fun _ hk => hk.2) (.int .i64 t520)) (fun _ hk => hk.2) (.slice Ao84 t521.length co84)) (fun _ hk => hk.2) (.slice Ao85 t524.length co85)) (fun _ h_ => h_.1)))); (case side6 => exact (Kd.R_reads' HO_482001.out).2.1); (case side7 => refine (Kd.R_reads' (e := 2) (base := w.heap.size) (ok := fun k_ => (((some k_ ≠ (.slice Ao31 t475.length co31 : Value).ownBlock ∧ (some k_ ≠ (.slice Ao41 t489.length co41 : Value).ownBlock ∧ some k_ ≠ (.slice Ao42 t492.length co42 : Value).ownBlock)) ∧ some k_ ≠ (.slice Ao84 t521.length co84 : Value).ownBlock) ∧ some k_ ≠ (.slice Ao85 t524.length co85 : Value).ownBlock)) (n := t478.length) (c := co32) ?_).2.2; exact (by (with_reducible repeat (first | apply Kd.R_alloc | apply Kd.R_drewN | apply Kd.R_drew)); exact (Kd.R_mono (Kd.R_far (p := ⟨gb527, 2, none⟩) (Kd.R_far (p := ⟨gb527, 1, none⟩) (Kd.R_far (p := ⟨gb527, 0, none⟩) (Kd.R_types HO_482002.out BK527.out (by decide)) (fun _ hk => hk.2) (.int .i64 t520)) (fun _ hk => hk.2) (.slice Ao84 t521.length co84)) (fun _ hk => hk.2) (.slice Ao85 t524.length co85)) (fun _ h_ => h_.1)))); (case side8 => exact (Kd.R_reads' HO_482002.out).2.1); rintro e w87 ⟨rfl, hb⟩; refine ⟨_, rfl, ?_⟩; have n0_ := Aside0.mk (Kd.R_below (by (with_reducible repeat (first | apply Kd.R_alloc | apply Kd.R_drewN | apply Kd.R_drew)); exact (Kd.R_mono (Kd.R_far (p := ⟨gb527, 2, none⟩) (Kd.R_far (p := ⟨gb527, 1, none⟩) (Kd.R_far (p := ⟨gb527, 0, none⟩) (Kd.R_types HO_482001.out BK527.out (by decide)) (fun _ hk => hk.2) (.int .i64 t520)) (fun _ hk => hk.2) (.slice Ao84 t521.length co84)) (fun _ hk => hk.2) (.slice Ao85 t524.length co85)) (fun _ h_ => h_.1))) hb); have n1_ := Aside0.mk (Kd.R_below (by (with_reducible repeat (first | apply Kd.R_alloc | apply Kd.R_drewN | apply Kd.R_drew)); exact (Kd.R_mono (Kd.R_far (p := ⟨gb527, 2, none⟩) (Kd.R_far (p := ⟨gb527, 1, none⟩) (Kd.R_far (p := ⟨gb527, 0, none⟩) (Kd.R_types HO_482002.out BK527.out (by decide)) (fun _ hk => hk.2) (.int .i64 t520)) (fun _ hk => hk.2) (.slice Ao84 t521.length co84)) (fun _ hk => hk.2) (.slice Ao85 t524.length co85)) (fun _ h_ => h_.1))) hb); have n2_ := Aside0.mk (Kd.R_below (by (with_reducible repeat (first | apply Kd.R_alloc | apply Kd.R_drewN | apply Kd.R_drew)); exact (Kd.R_mono (Kd.R_far (p := ⟨gb527, 2, none⟩) (Kd.R_far (p := ⟨gb527, 1, none⟩) (Kd.R_far (p := ⟨gb527, 0, none⟩) (Kd.R_types HO_496001.out BK527.out (by decide)) (fun _ hk => hk.2) (.int .i64 t520)) (fun _ hk => hk.2) (.slice Ao84 t521.length co84)) (fun _ hk => hk.2) (.slice Ao85 t524.length co85)) (fun _ h_ => h_.1))) hb); have n3_ := Aside0.mk (Kd.R_below (by (with_reducible repeat (first | apply Kd.R_alloc | apply Kd.R_drewN | apply Kd.R_drew)); exact (Kd.R_mono (Kd.R_far (p := ⟨gb527, 2, none⟩) (Kd.R_far (p := ⟨gb527, 1, none⟩) (Kd.R_far (p := ⟨gb527, 0, none⟩) (Kd.R_types HO_496002.out BK527.out (by decide)) (fun _ hk => hk.2) (.int .i64 t520)) (fun _ hk => hk.2) (.slice Ao84 t521.length co84)) (fun _ hk => hk.2) (.slice Ao85 t524.length co85)) (fun _ h_ => h_.1))) hb); have n4_ := Aside0.mk (Kd.R_below (by (with_reducible repeat (first | apply Kd.R_alloc | apply Kd.R_drewN | apply Kd.R_drew)); exact (Kd.R_mono (Kd.R_far (p := ⟨gb527, 2, none⟩) (Kd.R_far (p := ⟨gb527, 1, none⟩) (Kd.R_far (p := ⟨gb527, 0, none⟩) (Kd.R_types HO516.out BK527.out (by decide)) (fun _ hk => hk.2) (.int .i64 t520)) (fun _ hk => hk.2) (.slice Ao84 t521.length co84)) (fun _ hk => hk.2) (.slice Ao85 t524.length co85)) (fun _ h_ => h_.1))) hb); have n5_ := Aside0.mk (Kd.R_below (by (with_reducible repeat (first | apply Kd.R_alloc | apply Kd.R_drewN | apply Kd.R_drew)); exact (Kd.R_mono (Kd.R_far (p := ⟨gb527, 2, none⟩) (Kd.R_far (p := ⟨gb527, 1, none⟩) (Kd.R_far (p := ⟨gb527, 0, none⟩) (Kd.R_types HO519.out BK527.out (by decide)) (fun _ hk => hk.2) (.int .i64 t520)) (fun _ hk => hk.2) (.slice Ao84 t521.length co84)) (fun _ hk => hk.2) (.slice Ao85 t524.length co85)) (fun _ h_ => h_.1))) hb); have n6_ := Aside0.mk (Kd.R_below (by (with_reducible repeat (first | apply Kd.R_alloc | apply Kd.R_drewN | apply Kd.R_drew)); exact (Kd.R_mono (Kd.R_far (p := ⟨gb527, 2, none⟩) (Kd.R_far (p := ⟨gb527, 1, none⟩) (Kd.R_far (p := ⟨gb527, 0, none⟩) (Kd.R_types HO523.out BK527.out (by decide)) (fun _ hk => hk.2) (.int .i64 t520)) (fun _ hk => hk.2) (.slice Ao84 t521.length co84)) (fun _ hk => hk.2) (.slice Ao85 t524.length co85)) (fun _ h_ => h_.1))) hb); have n7_ := Aside0.mk (Kd.R_below (by (with_reducible repeat (first | apply Kd.R_alloc | apply Kd.R_drewN | apply Kd.R_drew)); exact (Kd.R_mono (Kd.R_far (p := ⟨gb527, 2, none⟩) (Kd.R_far (p := ⟨gb527, 1, none⟩) (Kd.R_far (p := ⟨gb527, 0, none⟩) (Kd.R_types HO526.out BK527.out (by decide)) (fun _ hk => hk.2) (.int .i64 t520)) (fun _ hk => hk.2) (.slice Ao84 t521.length co84)) (fun _ hk => hk.2) (.slice Ao85 t524.length co85)) (fun _ h_ => h_.1))) hb); have n8_ := Aside0.mk (blk_below (g := gb481) (o := .cells #[.int .i64 t474, .slice Ao31 t475.length co31, .slice Ao32 t478.length co32] 44 (0, 0)) (by (with_reducible repeat (first | refine blk_drewN ?_ _ | refine blk_drew ?_ | refine blk_alloc ?_ _)); refine blk_far ?_ NB481_527.out _; (with_reducible repeat (first | refine blk_drewN ?_ _ | refine blk_drew ?_ | refine blk_alloc ?_ _)); refine blk_far ?_ NB481_527.out _; (with_reducible repeat (first | refine blk_drewN ?_ _ | refine blk_drew ?_ | refine blk_alloc ?_ _)); refine blk_far ?_ NB481_527.out _; (with_reducible repeat (first | refine blk_drewN ?_ _ | refine blk_drew ?_ | refine blk_alloc ?_ _)); exact BK481.out) hb); have n9_ := Aside0.mk (blk_below (g := gb495) (o := .cells #[.int .i64 t488, .slice Ao41 t489.length co41, .slice Ao42 t492.length co42] 44 (0, 0)) (by (with_reducible repeat (first | refine blk_drewN ?_ _ | refine blk_drew ?_ | refine blk_alloc ?_ _)); refine blk_far ?_ NB495_527.out _; (with_reducible repeat (first | refine blk_drewN ?_ _ | refine blk_drew ?_ | refine blk_alloc ?_ _)); refine blk_far ?_ NB495_527.out _; (with_reducible repeat (first | refine blk_drewN ?_ _ | refine blk_drew ?_ | refine blk_alloc ?_ _)); refine blk_far ?_ NB495_527.out _; (with_reducible repeat (first | refine blk_drewN ?_ _ | refine blk_drew ?_ | refine blk_alloc ?_ _)); exact BK495.out) hb); have n10_ := Aside0.mk (blk_below (g := gb527) (o := .cells #[.int .i64 t520, .slice Ao84 t521.length co84, .slice Ao85 t524.length co85] 44 (0, 0)) (by (with_reducible repeat (first | refine blk_drewN ?_ _ | refine blk_drew ?_ | refine blk_alloc ?_ _)); refine blk_put (cs := #[.int .i64 t520, .slice Ao84 t521.length co84, .slice none 0 0]) ?_ 2 _ rfl; (with_reducible repeat (first | refine blk_drewN ?_ _ | refine blk_drew ?_ | refine blk_alloc ?_ _)); refine blk_put (cs := #[.int .i64 t520, .slice none 0 0, .slice none 0 0]) ?_ 1 _ rfl; (with_reducible repeat (first | refine blk_drewN ?_ _ | refine blk_drew ?_ | refine blk_alloc ?_ _)); refine blk_put (cs := #[.int .i64 0, .slice none 0 0, .slice none 0 0]) ?_ 0 _ rfl; (with_reducible repeat (first | refine blk_drewN ?_ _ | refine blk_drew ?_ | refine blk_alloc ?_ _)); exact BK527.out) hb); have n11_ := Aside0.mk (below_step (by repeat (first | (with_reducible first | exact HB.out | apply below_alloc | apply pw_below_drewN | apply below_drew1 | refine below_set ?_ GE481.out | refine below_set ?_ GE495.out | refine below_set ?_ GE527.out) | exact HB.out)) hb); clear HO_482001; clear HO_482002; clear HO_496001; clear HO_496002; clear HO516; clear HO519; clear HO523; clear HO526; clear BK481; clear BK495; clear BK527; clear HB; have HO_482001 := n0_; have HO_482002 := n1_; have HO_496001 := n2_; have HO_496002 := n3_; have HO516 := n4_; have HO519 := n5_; have HO523 := n6_; have HO526 := n7_; have BK481 := n8_; have BK495 := n9_; have BK527 := n10_; have HB := n11_; clear n0_ n1_ n2_ n3_ n4_ n5_ n6_ n7_ n8_ n9_ n10_ n11_; (try clear hb); (try clear hb2); (try clear hk); (try clear hi); have hcz88_0 : w87.cell? ⟨gb495, 0, none⟩ = some (.int .i64 t488) := (blk_cell BK495.out 0).trans rfl; have hcz88_1 : w87.cell? ⟨gb495, 1, none⟩ = some (.slice Ao41 t489.length co41) := (blk_cell BK495.out 1).trans rfl; have hcz88_2 : w87.cell? ⟨gb495, 2, none⟩ = some (.slice Ao42 t492.length co42) := (blk_cell BK495.out 2).trans rfl; have hfz88_0 := blk_frozen BK495.out 0; have hfz88_1 := blk_frozen BK495.out 1; have hfz88_2 := blk_frozen BK495.out 2) | ((with_reducible refine gate_callee (f := 34) rfl ?_); refine goesL_ (some 86) rfl rfl Try.func34 (by kernel_rfl) rfl #[.agg #[.int .i64 t488, .slice Ao41 t511.length co41, .slice Ao42 t512.length co42], .int .i64 1] rfl (by (try simp only [List.map_toArray, List.map_cons, List.map_nil]); first | done | (rw [show t511.length = t489.length from (Kd.R_reads' HO_496001.out).1.symm, show t512.length = t492.length from (Kd.R_reads' HO_496002.out).1.symm] <;> rfl) | rfl | (simp only [List.length_drop, List.length_take]; rfl)) ?_; (with_reducible refine (laws_heldPairsResult.calls kj22 t488 _ _ t511 _ _ t512 1 t529 _ ?side1 ?side2 ?side3 ?side4 A67.out).mono ?_); (case side1 => repeat (first | exact (Kd.R_reads' HO_496001.out).2.2 | (with_reducible refine Kd.C_alloc ?_ _) | (with_reducible refine Kd.C_drewN ?_ _) | (with_reducible refine Kd.C_drew ?_))); (case side2 => rw [show t511.length = t489.length from (Kd.R_reads' HO_496001.out).1.symm]; exact (Kd.R_reads' HO_496001.out).2.1); (case side3 => repeat (first | exact (Kd.R_reads' HO_496002.out).2.2 | (with_reducible refine Kd.C_alloc ?_ _) | (with_reducible refine Kd.C_drewN ?_ _) | (with_reducible refine Kd.C_drew ?_))); (case side4 => rw [show t512.length = t492.length from (Kd.R_reads' HO_496002.out).1.symm]; exact (Kd.R_reads' HO_496002.out).2.1); rintro e w89 ⟨rfl, hb⟩; refine ⟨_, rfl, ?_⟩; have n0_ := Aside0.mk (Kd.R_below (by (with_reducible repeat (first | apply Kd.R_alloc | apply Kd.R_drewN | apply Kd.R_drew)); exact HO_482001.out) hb); have n1_ := Aside0.mk (Kd.R_below (by (with_reducible repeat (first | apply Kd.R_alloc | apply Kd.R_drewN | apply Kd.R_drew)); exact HO_482002.out) hb); have n2_ := Aside0.mk (Kd.R_below (by (with_reducible repeat (first | apply Kd.R_alloc | apply Kd.R_drewN | apply Kd.R_drew)); exact HO_496001.out) hb); have n3_ := Aside0.mk (Kd.R_below (by (with_reducible repeat (first | apply Kd.R_alloc | apply Kd.R_drewN | apply Kd.R_drew)); exact HO_496002.out) hb); have n4_ := Aside0.mk (Kd.R_below (by (with_reducible repeat (first | apply Kd.R_alloc | apply Kd.R_drewN | apply Kd.R_drew)); exact HO516.out) hb); have n5_ := Aside0.mk (Kd.R_below (by (with_reducible repeat (first | apply Kd.R_alloc | apply Kd.R_drewN | apply Kd.R_drew)); exact HO519.out) hb); have n6_ := Aside0.mk (Kd.R_below (by (with_reducible repeat (first | apply Kd.R_alloc | apply Kd.R_drewN | apply Kd.R_drew)); exact HO523.out) hb); have n7_ := Aside0.mk (Kd.R_below (by (with_reducible repeat (first | apply Kd.R_alloc | apply Kd.R_drewN | apply Kd.R_drew)); exact HO526.out) hb); have n8_ := Aside0.mk (blk_below (g := gb481) (o := .cells #[.int .i64 t474, .slice Ao31 t475.length co31, .slice Ao32 t478.length co32] 44 (0, 0)) (by (with_reducible repeat (first | refine blk_drewN ?_ _ | refine blk_drew ?_ | refine blk_alloc ?_ _)); exact BK481.out) hb); have n9_ := Aside0.mk (blk_below (g := gb495) (o := .cells #[.int .i64 t488, .slice Ao41 t489.length co41, .slice Ao42 t492.length co42] 44 (0, 0)) (by (with_reducible repeat (first | refine blk_drewN ?_ _ | refine blk_drew ?_ | refine blk_alloc ?_ _)); exact BK495.out) hb); have n10_ := Aside0.mk (blk_below (g := gb527) (o := .cells #[.int .i64 t520, .slice Ao84 t521.length co84, .slice Ao85 t524.length co85] 44 (0, 0)) (by (with_reducible repeat (first | refine blk_drewN ?_ _ | refine blk_drew ?_ | refine blk_alloc ?_ _)); exact BK527.out) hb); have n11_ := Aside0.mk (below_step (by repeat (first | (with_reducible first | exact HB.out | apply below_alloc | apply pw_below_drewN | apply below_drew1 | refine below_set ?_ GE481.out | refine below_set ?_ GE495.out | refine below_set ?_ GE527.out) | exact HB.out)) hb); clear HO_482001; clear HO_482002; clear HO_496001; clear HO_496002; clear HO516; clear HO519; clear HO523; clear HO526; clear BK481; clear BK495; clear BK527; clear HB; have HO_482001 := n0_; have HO_482002 := n1_; have HO_496001 := n2_; have HO_496002 := n3_; have HO516 := n4_; have HO519 := n5_; have HO523 := n6_; have HO526 := n7_; have BK481 := n8_; have BK495 := n9_; have BK527 := n10_; have HB := n11_; clear n0_ n1_ n2_ n3_ n4_ n5_ n6_ n7_ n8_ n9_ n10_ n11_; (try clear hb); (try clear hb2); (try clear hk); (try clear hi)))
              go_ret
              exact ⟨by first | rfl | (simp [errW_none, errW_some] <;> rfl) | (simp [*, errW_none, errW_some] <;> rfl), by repeat (first | (with_reducible first | exact HB.out | apply below_alloc | apply pw_below_drewN | apply below_drew1 | refine below_set ?_ GE481.out | refine below_set ?_ GE495.out | refine below_set ?_ GE527.out) | exact HB.out)⟩
             ·rw [if_neg c69] at H
              have c69b0 : (t529 == t510) = false := beq_eq_false_iff_ne.mpr c69
              have c69b1 : (t529 != t510) = true := bne_iff_ne.mpr c69
              exact absurd ((Option.some.inj H).trans HLAW.out) (by decide)
           ·replace c66 := Bool.eq_false_iff.mpr c66
            subst c66
            have H1 : (some false) = some r := by rw [if_neg (show ¬ (false = true) by decide)] at H; exact H
            clear H
            have H := H1
            clear H1
            exact absurd ((Option.some.inj H).trans HLAW.out) (by decide)
          ·rw [if_neg c61] at H
           have c61b0 : (t513 == t510) = false := beq_eq_false_iff_ne.mpr c61
           have c61b1 : (t513 != t510) = true := bne_iff_ne.mpr c61
           exact absurd ((Option.some.inj H).trans HLAW.out) (by decide)
     ·replace c20 := Bool.eq_false_iff.mpr c20
      subst c20
      have H1 : (some false) = some r := by rw [if_neg (show ¬ (false = true) by decide)] at H; exact H
      clear H
      have H := H1
      clear H1
      exact absurd ((Option.some.inj H).trans HLAW.out) (by decide)
    ·replace c17 := Bool.eq_false_iff.mpr c17
     subst c17
     have H1 : (some false) = some r := by rw [if_neg (show ¬ (false = true) by decide)] at H; exact H
     clear H
     have H := H1
     clear H1
     exact absurd ((Option.some.inj H).trans HLAW.out) (by decide)
   ·replace c14 := Bool.eq_false_iff.mpr c14
    subst c14
    have H1 : (some false) = some r := by rw [if_neg (show ¬ (false = true) by decide)] at H; exact H
    clear H
    have H := H1
    clear H1
    exact absurd ((Option.some.inj H).trans HLAW.out) (by decide)
end Go.Proofs.Ytihbalbcocfnfaa.P
end
section
set_option linter.unusedVariables false
namespace Go.Proofs.Ytihbalbcocfnfaa.P
open Go.RowKit Go.Proofs.YtihbalbcocfnfaaW.PrintWords Go.Proofs.YtihbalbcocfnfaaW.PrintLast
namespace UFnExactMatchLines
def Pure : Prop := ∀ (l0 : List ByteArray) (l1 : List ByteArray), (l0.length ≤ 9223372036854775807 ∧ ∀ x ∈ l0, x.size ≤ 9223372036854775807) → (l1.length ≤ 9223372036854775807 ∧ ∀ x ∈ l1, x.size ≤ 9223372036854775807) → ∃ k, laws_FnExactMatchLines.f k l0 l1 = some true
end UFnExactMatchLines
end Go.Proofs.Ytihbalbcocfnfaa.P
end
section
set_option linter.unusedVariables false
set_option linter.unusedSimpArgs false
namespace Go.Proofs.Ytihbalbcocfnfaa.P
open Go.RowKit Go.Proofs.YtihbalbcocfnfaaW.PrintWords Go.Proofs.YtihbalbcocfnfaaW.PrintLast
theorem wid {x : Int} (h0 : -9223372036854775808 ≤ x) (h1 : x ≤ 9223372036854775807) : wrap64 x = x := by
  unfold wrap64
  omega
theorem wsucc {i n : Nat} (h : i < n) (hn : n ≤ 9223372036854775807) : wrap64 ((i : Int) + 1) = ((i + 1 : Nat) : Int) := by
  rw [wid (by omega) (by omega)]
  rfl
theorem Ev_if {α : Type} {c : Prop} [Decidable c] {a b : Nat → Option α} {r : α} (hp : c → Ev a r) (hn : ¬ c → Ev b r) : Ev (fun k => if c then a k else b k) r := by
  by_cases h : c
  · exact (hp h).congr (fun k => if_pos h)
  · exact (hn h).congr (fun k => if_neg h)
theorem Ev_pos {α : Type} {c : Prop} [Decidable c] {a b : Nat → Option α} {r : α} (hc : c) (h : Ev a r) : Ev (fun k => if c then a k else b k) r := h.congr (fun k => if_pos hc)
theorem Ev_neg {α : Type} {c : Prop} [Decidable c] {a b : Nat → Option α} {r : α} (hc : ¬ c) (h : Ev b r) : Ev (fun k => if c then a k else b k) r := h.congr (fun k => if_neg hc)
theorem Ev_call {α β : Type} {g : Nat → Option α} {f : Nat → α → Option β} {a : α} {r : β} (h : Ev g a) (k : Ev (fun n => f n a) r) : Ev (fun n => (g n).bind (f n)) r := Ev.bind h k
theorem Ev_const {α β : Type} {g : Option α} {f : Nat → α → Option β} {a : α} {r : β} (h : g = some a) (k : Ev (fun n => f n a) r) : Ev (fun n => g.bind (f n)) r :=
  Ev.bind (g := fun _ => g) ⟨0, fun _ _ => h⟩ k
theorem Ev_eq {α : Type} {g : Nat → Option α} {r r' : α} (h : Ev g r) (e : r = r') : Ev g r' := e ▸ h
theorem Ev_val {α : Type} {r r' : α} (h : r = r') : Ev (fun _ => some r) r' := ⟨0, fun _ _ => by rw [h]⟩
theorem rd_nat {α : Type} (d : α) {xs : List α} {i : Nat} (h : i < xs.length) : rdOf d xs (i : Int) = xs[i] := by
  unfold rdOf
  rw [Int.toNat_natCast, List.getD_eq_getElem?_getD, List.getElem?_eq_getElem h]
  rfl
theorem rdi_nat {xs : List Int} {i : Nat} (h : i < xs.length) : rd xs (i : Int) = xs[i] := by
  unfold rd
  rw [Int.toNat_natCast, List.getD_eq_getElem?_getD, List.getElem?_eq_getElem h]
  rfl
theorem bt_nat {s : ByteArray} {i : Nat} (h : i < s.data.toList.length) : bt s (i : Int) = ((s.data.toList[i]).toNat : Int) := by
  have h' : i < s.size := by simpa using h
  unfold bt
  rw [dif_pos (by rw [Int.toNat_natCast]; exact h')]
  simp [ByteArray.getElem_eq_getElem_data]
theorem data_eq {a b : ByteArray} : a.toList = b.toList ↔ a = b := by
  rw [ByteArray.toList_eq, ByteArray.toList_eq]
  constructor
  · intro h
    cases a
    cases b
    simpa using h
  · rintro rfl
    rfl
theorem toList_nil {a : ByteArray} : a.toList = ([] : List UInt8) ↔ a.data.toList = [] := by rw [ByteArray.toList_eq]
theorem size_data (a : ByteArray) : a.data.toList.length = a.size := by simp
theorem drop_at {α : Type} {xs : List α} {i : Nat} (h : i < xs.length) : xs.drop i = xs[i] :: xs.drop (i + 1) := List.drop_eq_getElem_cons h
def total : List ByteArray → Nat
  | [] => 0
  | x :: l => x.size + total l
end Go.Proofs.Ytihbalbcocfnfaa.P
end
section
namespace Go.Proofs.Ytihbalbcocfnfaa.P
open Go.RowKit Go.Proofs.YtihbalbcocfnfaaW.PrintWords Go.Proofs.YtihbalbcocfnfaaW.PrintLast Go.Proofs.YtihbalbcocfnfaaW.PrintMore
attribute [local go_sem] max2_int min2_int max_two min_two max_three min_three max_four min_four
end Go.Proofs.Ytihbalbcocfnfaa.P
end
section
namespace Go.Proofs.Ytihbalbcocfnfaa.P
open Go.RowKit Go.Proofs.YtihbalbcocfnfaaW.PrintWords Go.Proofs.YtihbalbcocfnfaaW.PrintLast Go.Proofs.YtihbalbcocfnfaaW.PrintMore
attribute [local go_sem] max2_int min2_int max_two min_two max_three min_three max_four min_four
end Go.Proofs.Ytihbalbcocfnfaa.P
end
section
set_option linter.unusedVariables false
set_option linter.unusedSimpArgs false
namespace Go.Proofs.Ytihbalbcocfnfaa.P
open Go.RowKit Go.Proofs.YtihbalbcocfnfaaW.PrintWords Go.Proofs.YtihbalbcocfnfaaW.PrintLast
theorem sz_loop (xs : List ByteArray) (hx : ∀ x ∈ xs, x.size ≤ 9223372036854775807) (hl : xs.length ≤ 9223372036854775807) : ∀ (d i : Nat) (n : Int), xs.length - i = d → i ≤ xs.length → 0 ≤ n → n ≤ 1048576 →
    ∃ r, Ev (fun k => laws_szStringS.l0 k xs n (i : Int)) r ∧ (r < 0 ∨ (0 ≤ r ∧ r ≤ n ∧ (total (xs.drop i) : Int) = n - r)) := by
  intro d
  induction d with
  | zero =>
    intro i n hd hi h0 h1
    have : i = xs.length := by omega
    subst this
    refine ⟨n, Ev.step (fun k => by rw [laws_szStringS.l0]) (Ev_neg (by omega) (Ev.now _)), .inr ⟨h0, Int.le_refl _, ?_⟩⟩
    rw [List.drop_length]
    simp [total]
  | succ d ih =>
    intro i n hd hi h0 h1
    have hlt : i < xs.length := by omega
    have hs := hx xs[i] (List.getElem_mem hlt)
    by_cases hc : n - (xs[i].size : Int) < 0
    · refine ⟨-1, Ev.step (fun k => by rw [laws_szStringS.l0]) (Ev_pos (by omega) (Ev_pos (by omega) ?_)), .inl (by omega)⟩
      rw [rd_nat _ hlt, wid (by omega) (by omega)]
      exact Ev_pos hc (Ev.now _)
    · obtain ⟨r, hr, hp⟩ := ih (i + 1) (n - (xs[i].size : Int)) (by omega) (by omega) (by omega) (by omega)
      refine ⟨r, Ev.step (fun k => by rw [laws_szStringS.l0]) (Ev_pos (by omega) (Ev_pos (by omega) ?_)), ?_⟩
      · rw [rd_nat _ hlt, wid (by omega) (by omega), wsucc hlt hl]
        exact Ev_neg hc hr
      · rcases hp with hp | ⟨h2, h3, h4⟩
        · exact .inl hp
        · refine .inr ⟨h2, by omega, ?_⟩
          rw [drop_at hlt]
          simp only [total]
          omega
theorem sz_tells (xs : List ByteArray) (hg : xs.length ≤ 9223372036854775807 ∧ ∀ x ∈ xs, x.size ≤ 9223372036854775807) (n : Int) (h0 : 0 ≤ n) (h1 : n ≤ 1048576) :
    ∃ r, Ev (fun k => laws_szStringS.f k xs n) r ∧ (r < 0 ∨ (0 ≤ r ∧ r ≤ n ∧ (xs.length : Int) + (total xs : Int) = n - r)) := by
  by_cases hc : n - (xs.length : Int) < 0
  · refine ⟨-1, ?_, .inl (by omega)⟩
    unfold laws_szStringS.f
    rw [wid (by omega) (by omega)]
    exact Ev_pos hc (Ev.now _)
  · obtain ⟨r, hr, hp⟩ := sz_loop xs hg.2 hg.1 _ 0 (n - (xs.length : Int)) rfl (by omega) (by omega) (by omega)
    refine ⟨r, ?_, ?_⟩
    · unfold laws_szStringS.f
      rw [wid (by omega) (by omega)]
      exact Ev_neg hc hr
    · rcases hp with hp | ⟨h2, h3, h4⟩
      · exact .inl hp
      · rw [List.drop_zero] at h4
        exact .inr ⟨h2, by omega, by omega⟩
theorem to_loop (xs : List ByteArray) (hl : xs.length ≤ 9223372036854775807) : ∀ (d i : Nat) (ys : List ByteArray), xs.length - i = d → i ≤ xs.length → ys.length = xs.length →
    Ev (fun k => laws_toStringS.l0 k xs ys (i : Int)) (ys.take i ++ xs.drop i) := by
  intro d
  induction d with
  | zero =>
    intro i ys hd hi hy
    have : i = xs.length := by omega
    subst this
    refine Ev.step (fun k => by rw [laws_toStringS.l0]) (Ev_neg (by omega) (Ev_val ?_))
    rw [List.drop_length, List.append_nil, ← hy, List.take_length]
  | succ d ih =>
    intro i ys hd hi hy
    have hlt : i < xs.length := by omega
    refine Ev.step (fun k => by rw [laws_toStringS.l0]) (Ev_pos (by omega) (Ev_pos (by omega) (Ev_pos (by omega) ?_)))
    rw [rd_nat _ hlt, wsucc hlt hl, Int.toNat_natCast]
    have h := ih (i + 1) (ys.set i xs[i]) (by omega) (by omega) (by rw [List.length_set]; exact hy)
    refine Ev_eq h ?_
    rw [drop_at hlt, List.take_succ_eq_append_getElem (by rw [List.length_set]; omega), List.getElem_set_self, List.take_set_of_le (by omega), List.append_assoc]
    rfl
theorem to_tells (xs : List ByteArray) (hl : xs.length ≤ 17592186044416) : Ev (fun k => laws_toStringS.f k xs) xs := by
  unfold laws_toStringS.f
  refine Ev_pos (by omega) (Ev_pos (by rw [Int.toNat_natCast]; exact hl) ?_)
  have h := to_loop xs (by omega) _ 0 (List.replicate ((xs.length : Int) : Int).toNat (⟨#[]⟩ : ByteArray)) rfl (by omega) (by simp)
  exact Ev_eq h (by simp)
theorem eq_loop (xs : List ByteArray) (hl : xs.length ≤ 9223372036854775807) : ∀ (d i : Nat), xs.length - i = d → i ≤ xs.length → Ev (fun k => laws_eqStringS.l0 k xs xs (i : Int)) true := by
  intro d
  induction d with
  | zero => intro i hd hi; exact Ev.step (fun k => by rw [laws_eqStringS.l0]) (Ev_neg (by omega) (Ev.now _))
  | succ d ih =>
    intro i hd hi
    have hlt : i < xs.length := by omega
    refine Ev.step (fun k => by rw [laws_eqStringS.l0]) (Ev_pos (by omega) (Ev_pos (by omega) (Ev_pos (by omega) (Ev_pos rfl ?_))))
    rw [wsucc hlt hl]
    exact ih (i + 1) (by omega) (by omega)
theorem eq_tells (xs : List ByteArray) (hl : xs.length ≤ 9223372036854775807) : Ev (fun k => laws_eqStringS.f k xs xs) true := by
  unfold laws_eqStringS.f
  exact Ev_pos rfl (eq_loop xs hl _ 0 rfl (by omega))
end Go.Proofs.Ytihbalbcocfnfaa.P
end
section
set_option linter.unusedVariables false
set_option linter.unusedSimpArgs false
namespace Go.Proofs.Ytihbalbcocfnfaa.P
open Go.RowKit
theorem index_low (l : List UInt8) (c : UInt8) : -1 ≤ Lib.indexByte l c := by
  induction l with
  | nil => simp [Lib.indexByte]
  | cons b l ih =>
    unfold Lib.indexByte
    split
    · omega
    · split
      · omega
      · omega
theorem index_mem (l : List UInt8) (c : UInt8) : Lib.indexByte l c ≥ 0 ↔ c ∈ l := by
  induction l with
  | nil => simp [Lib.indexByte]
  | cons b l ih =>
    have hl := index_low l c
    unfold Lib.indexByte
    by_cases h : b = c
    · subst h
      simp
    · have h2 : (b == c) = false := by simpa using h
      rw [h2, List.mem_cons]
      have h3 : ¬ c = b := fun e => h e.symm
      by_cases h4 : Lib.indexByte l c = -1
      · have h5 : (Lib.indexByte l c == -1) = true := by simpa using h4
        rw [h5]
        have : ¬ c ∈ l := fun hm => by have := ih.2 hm; omega
        simp [h3, this]
      · have h5 : (Lib.indexByte l c == -1) = false := by simpa using h4
        rw [h5]
        have : c ∈ l := ih.1 (by omega)
        simp [this]
        omega
def lineEnd : List UInt8 → Nat
  | [] => 0
  | c :: l => if c = 10 then 0 else lineEnd l + 1
theorem lineEnd_le (l : List UInt8) : lineEnd l ≤ l.length := by
  induction l with
  | nil => simp [lineEnd]
  | cons c l ih =>
    unfold lineEnd
    split
    · omega
    · simp
      omega
theorem lineEnd_mem (l : List UInt8) : lineEnd l < l.length ↔ 10 ∈ l := by
  induction l with
  | nil => simp [lineEnd]
  | cons c l ih =>
    unfold lineEnd
    by_cases h : c = 10
    · subst h
      simp
    · rw [if_neg h, List.length_cons, List.mem_cons]
      have h2 : ¬ (10 : UInt8) = c := fun e => h e.symm
      simp only [h2, false_or]
      rw [← ih]
      omega
theorem lineEnd_early (l : List UInt8) : lineEnd l < l.length - 1 ↔ 10 ∈ l.dropLast := by
  induction l with
  | nil => simp [lineEnd]
  | cons c l ih =>
    cases l with
    | nil =>
      simp [lineEnd]
    | cons d l =>
      unfold lineEnd
      by_cases h : c = 10
      · subst h
        simp
      · rw [if_neg h, List.dropLast_cons_cons, List.mem_cons]
        have h2 : ¬ (10 : UInt8) = c := fun e => h e.symm
        simp only [h2, false_or]
        rw [← ih]
        simp only [List.length_cons]
        omega
theorem suffix_last (l : List UInt8) : Lib.hasSuffix l [10] = true ↔ ∃ r, l = r ++ [10] := by
  unfold Lib.hasSuffix
  rw [List.isSuffixOf_iff_suffix]
  constructor
  · rintro ⟨r, h⟩
    exact ⟨r, h.symm⟩
  · rintro ⟨r, h⟩
    exact ⟨r, h.symm⟩
theorem suffix_iff (l : List UInt8) (h : ¬ 10 ∈ l.dropLast) : Lib.hasSuffix l [10] = true ↔ 10 ∈ l := by
  rw [suffix_last]
  constructor
  · rintro ⟨r, rfl⟩
    simp
  · intro hm
    have hne : l ≠ [] := by
      rintro rfl
      simp at hm
    have e := List.dropLast_concat_getLast hne
    rw [← e] at hm
    rcases List.mem_append.1 hm with h1 | h1
    · exact absurd h1 h
    · refine ⟨l.dropLast, ?_⟩
      have h2 : (10 : UInt8) = l.getLast hne := by simpa using h1
      rw [h2]
      exact e.symm
end Go.Proofs.Ytihbalbcocfnfaa.P
end
section
set_option linter.unusedVariables false
set_option linter.unusedSimpArgs false
namespace Go.Proofs.Ytihbalbcocfnfaa.P
open Go.RowKit Go.Proofs.YtihbalbcocfnfaaW.PrintWords Go.Proofs.YtihbalbcocfnfaaW.PrintLast
theorem ended_loop (s : ByteArray) (hs : s.size ≤ 9223372036854775807) : ∀ (d i : Nat), s.size - i = d → i ≤ s.size → Ev (fun k => spec_l1Ended.l0 k s (i : Int)) (((i + lineEnd (s.data.toList.drop i) : Nat)) : Int) := by
  intro d
  induction d with
  | zero =>
    intro i hd hi
    refine Ev.step (fun k => by rw [spec_l1Ended.l0]) (Ev_neg (by omega) (Ev_val ?_))
    rw [List.drop_eq_nil_of_le (by rw [size_data]; omega)]
    simp only [lineEnd]
    omega
  | succ d ih =>
    intro i hd hi
    have hlt : i < s.data.toList.length := by rw [size_data]; omega
    refine Ev.step (fun k => by rw [spec_l1Ended.l0]) (Ev_pos (by omega) (Ev_pos (by omega) ?_))
    rw [bt_nat hlt, drop_at hlt, wsucc (n := s.size) (by omega) hs]
    refine Ev_if (fun h => Ev_val ?_) (fun h => Ev_eq (ih (i + 1) (by omega) (by omega)) ?_)
    · have : s.data.toList[i] = 10 := by
        apply UInt8.toNat_inj.1
        have h2 : s.data.toList[i].toNat = 10 := by omega
        exact h2
      rw [lineEnd, if_pos this]
      rfl
    · have : ¬ s.data.toList[i] = 10 := fun e => h (by rw [e]; rfl)
      rw [lineEnd, if_neg this]
      omega
theorem ended_tells (s : ByteArray) (hs : s.size ≤ 9223372036854775807) : Ev (fun k => spec_l1Ended.f k s) ((lineEnd s.data.toList : Nat) : Int) := by
  unfold spec_l1Ended.f
  have h := ended_loop s hs _ 0 rfl (by omega)
  rw [List.drop_zero, Nat.zero_add] at h
  exact h
def lineBad (s : List UInt8) (last : Bool) : Bool := decide (s = [] ∨ 10 ∈ s.dropLast ∨ (¬ 10 ∈ s ∧ last = false))
def linesBad : List ByteArray → Bool
  | [] => false
  | x :: r => lineBad x.data.toList (decide (r = [])) || linesBad r
theorem lb_go {x : ByteArray} {r : List ByteArray} (h : lineBad x.data.toList (decide (r = [])) = false) : (if linesBad r then (1 : Int) else 0) = if linesBad (x :: r) then 1 else 0 := by
  unfold linesBad
  rw [h, Bool.false_or]
  cases r <;> rfl
theorem lb_end {x : ByteArray} {r : List ByteArray} (h : lineBad x.data.toList (decide (r = [])) = true) : (1 : Int) = if linesBad (x :: r) then 1 else 0 := by
  unfold linesBad
  rw [h, Bool.true_or]
  rfl
def LF (xs : List ByteArray) : Int := if xs.length > 100 ∨ total xs > 2000 then 2 else if linesBad xs then 1 else 0
theorem slf_loop1 (xs : List ByteArray) (hx : ∀ x ∈ xs, x.size ≤ 9223372036854775807) (hl : xs.length ≤ 9223372036854775807) : ∀ (d i : Nat), xs.length - i = d → i ≤ xs.length →
    Ev (fun k => spec_LinesFault.l1 k xs (i : Int)) (if linesBad (xs.drop i) then 1 else 0) := by
  intro d
  induction d with
  | zero =>
    intro i hd hi
    refine Ev.step (fun k => by rw [spec_LinesFault.l1]) (Ev_neg (by omega) (Ev_val ?_))
    rw [List.drop_eq_nil_of_le (by omega)]
    rfl
  | succ d ih =>
    intro i hd hi
    have hlt : i < xs.length := by omega
    have hs := hx xs[i] (List.getElem_mem hlt)
    refine Ev.step (fun k => by rw [spec_LinesFault.l1]) (Ev_pos (by omega) (Ev_pos (by omega) ?_))
    rw [rd_nat _ hlt, drop_at hlt, wsucc hlt hl]
    refine Ev_call (ended_tells _ hs) ?_
    have hle := lineEnd_le xs[i].data.toList
    rw [size_data] at hle
    have hrest : xs.drop (i + 1) = [] ↔ i + 1 = xs.length := by
      rw [List.drop_eq_nil_iff]
      omega
    refine Ev_if (fun h => Ev_val ?_) (fun h => ?_)
    · have h2 := toList_nil.1 h
      exact lb_end (by simp [lineBad, h2])
    have hne : ¬ xs[i].data.toList = [] := fun e => h (toList_nil.2 e)
    have h0 : xs[i].data.toList.length ≠ 0 := fun e => hne (List.length_eq_zero_iff.1 e)
    rw [size_data] at h0
    rw [wid (by omega) (by omega)]
    have hearly := lineEnd_early xs[i].data.toList
    rw [size_data] at hearly
    have hmem := lineEnd_mem xs[i].data.toList
    rw [size_data] at hmem
    refine Ev_if (fun h => Ev_val ?_) (fun h => ?_)
    · have h2 : 10 ∈ xs[i].data.toList.dropLast := hearly.1 (by omega)
      exact lb_end (by simp [lineBad, h2])
    have hn2 : ¬ 10 ∈ xs[i].data.toList.dropLast := fun e => h (by have := hearly.2 e; omega)
    have go : (¬ 10 ∈ xs[i].data.toList → i + 1 = xs.length) → Ev (fun k => spec_LinesFault.l1 k xs ((i + 1 : Nat) : Int)) (if linesBad (xs[i] :: xs.drop (i + 1)) then 1 else 0) := by
      intro hg
      refine Ev_eq (ih (i + 1) (by omega) (by omega)) ?_
      have : lineBad xs[i].data.toList (decide (xs.drop (i + 1) = [])) = false := by
        unfold lineBad
        rw [decide_eq_false_iff_not]
        rintro (h1 | h1 | ⟨h1, h2⟩)
        · exact hne h1
        · exact hn2 h1
        · rw [decide_eq_false_iff_not, hrest] at h2
          exact h2 (hg h1)
      exact lb_go this
    refine Ev_if (fun h => ?_) (fun h => ?_)
    · have hno : ¬ 10 ∈ xs[i].data.toList := fun e => by have := hmem.2 e; omega
      rw [wid (by omega) (by omega)]
      refine Ev_if (fun h3 => Ev_val ?_) (fun h3 => go (fun _ => by omega))
      have : lineBad xs[i].data.toList (decide (xs.drop (i + 1) = [])) = true := by
        unfold lineBad
        rw [decide_eq_true_iff]
        refine .inr (.inr ⟨hno, ?_⟩)
        rw [decide_eq_false_iff_not, hrest]
        omega
      exact lb_end this
    · exact go (fun hno => absurd (hmem.1 (by omega)) hno)
theorem slf_loop0 (xs : List ByteArray) (hx : ∀ x ∈ xs, x.size ≤ 9223372036854775807) (hl : xs.length ≤ 9223372036854775807) (hb : total xs ≤ 9223372036854775807) : ∀ (d i n : Nat), xs.length - i = d → i ≤ xs.length → n + total (xs.drop i) = total xs →
    Ev (fun k => spec_LinesFault.l0 k xs (n : Int) (i : Int)) (LF xs) := by
  intro d
  induction d with
  | zero =>
    intro i n hd hi hn
    rw [List.drop_eq_nil_of_le (by omega)] at hn
    simp only [total, Nat.add_zero] at hn
    refine Ev.step (fun k => by rw [spec_LinesFault.l0]) (Ev_neg (by omega) ?_)
    have body : ∀ b : Bool, b = decide (xs.length > 100 ∨ total xs > 2000) → Ev (fun k => spec_LinesFault.j1 k xs b) (LF xs) := by
      intro b hb2
      refine Ev.step (fun k => by rw [spec_LinesFault.j1]) ?_
      unfold LF
      rw [hb2]
      refine Ev_if (fun h => Ev_val ?_) (fun h => ?_)
      · rw [if_pos (of_decide_eq_true h)]
      · rw [if_neg (fun e => h (decide_eq_true e))]
        have := slf_loop1 xs hx hl _ 0 rfl (by omega)
        rw [List.drop_zero] at this
        exact this
    refine Ev_if (fun h => body _ ?_) (fun h => body _ ?_)
    · symm
      rw [decide_eq_true_iff]
      exact .inl (by omega)
    · rw [decide_eq_decide]
      omega
  | succ d ih =>
    intro i n hd hi hn
    have hlt : i < xs.length := by omega
    rw [drop_at hlt] at hn
    simp only [total] at hn
    refine Ev.step (fun k => by rw [spec_LinesFault.l0]) (Ev_pos (by omega) (Ev_pos (by omega) ?_))
    rw [rd_nat _ hlt, wsucc hlt hl, wid (by omega) (by omega), show (n : Int) + (xs[i].size : Int) = ((n + xs[i].size : Nat) : Int) by omega]
    exact ih (i + 1) (n + xs[i].size) (by omega) (by omega) (by omega)
theorem slf_tells (xs : List ByteArray) (hx : ∀ x ∈ xs, x.size ≤ 9223372036854775807) (hl : xs.length ≤ 9223372036854775807) (hb : total xs ≤ 9223372036854775807) : Ev (fun k => spec_LinesFault.f k xs) (LF xs) := by
  unfold spec_LinesFault.f
  exact slf_loop0 xs hx hl hb _ 0 0 rfl (by omega) (by simp)
theorem isLine_tells (s : ByteArray) (hs : s.size ≤ 9223372036854775807) : impl_isLine.f s = some (decide (¬ (s.data.toList = [] ∨ 10 ∈ s.data.toList.dropLast))) := by
  unfold impl_isLine.f
  by_cases h : s.data.toList = []
  · rw [if_pos (toList_nil.2 h)]
    simp [h]
  · have h0 : s.data.toList.length ≠ 0 := fun e => h (List.length_eq_zero_iff.1 e)
    rw [size_data] at h0
    rw [if_neg (fun e => h (toList_nil.1 e)), wid (by omega) (by omega), if_pos (by omega), if_pos (by omega)]
    have he : (s.extract 0 ((s.size : Int) - 1).toNat).data.toList = s.data.toList.dropLast := by
      rw [← ByteArray.toList_eq, Lib.extract_toList, List.drop_zero, List.dropLast_eq_take, size_data]
      congr 1
      omega
    unfold strings_Contains.f
    simp only [Option.bind_some]
    rw [he]
    congr 1
    have hi := index_mem s.data.toList.dropLast 10
    by_cases hm : 10 ∈ s.data.toList.dropLast
    · have : (0 : Int) ≤ Lib.indexByte s.data.toList.dropLast 10 := hi.2 hm
      simp [hm, this]
    · have : ¬ (0 : Int) ≤ Lib.indexByte s.data.toList.dropLast 10 := fun e => hm (hi.1 e)
      simp only [this, hm, h]
      simp
theorem isWhole_tells (s : ByteArray) (hs : s.size ≤ 9223372036854775807) : impl_isWhole.f s = some (Lib.hasSuffix s.data.toList [10]) := by
  unfold impl_isWhole.f strings_HasSuffix.f
  rw [if_pos hs]
  rfl
theorem ilf_loop (xs : List ByteArray) (hx : ∀ x ∈ xs, x.size ≤ 9223372036854775807) (hl : xs.length ≤ 9223372036854775807) : ∀ (d i : Nat), xs.length - i = d → i ≤ xs.length →
    Ev (fun k => impl_LinesFault.l0 k xs xs (xs.length : Int) (i : Int)) (if linesBad (xs.drop i) then 1 else 0) := by
  intro d
  induction d with
  | zero =>
    intro i hd hi
    refine Ev.step (fun k => by rw [impl_LinesFault.l0]) (Ev_neg (by omega) (Ev_val ?_))
    rw [List.drop_eq_nil_of_le (by omega)]
    rfl
  | succ d ih =>
    intro i hd hi
    have hlt : i < xs.length := by omega
    have hs := hx xs[i] (List.getElem_mem hlt)
    have hrest : xs.drop (i + 1) = [] ↔ i + 1 = xs.length := by
      rw [List.drop_eq_nil_iff]
      omega
    refine Ev.step (fun k => by rw [impl_LinesFault.l0]) (Ev_pos (by omega) (Ev_pos (by omega) (Ev_pos (by omega) ?_)))
    rw [rd_nat _ hlt, drop_at hlt, wsucc hlt hl]
    refine Ev_const (isLine_tells _ hs) ?_
    refine Ev_if (fun h => ?_) (fun h => Ev_val ?_)
    · have h := of_decide_eq_true h
      have hne : ¬ xs[i].data.toList = [] := fun e => h (.inl e)
      have hn2 : ¬ 10 ∈ xs[i].data.toList.dropLast := fun e => h (.inr e)
      have go : (¬ 10 ∈ xs[i].data.toList → i + 1 = xs.length) → Ev (fun k => impl_LinesFault.l0 k xs xs (xs.length : Int) ((i + 1 : Nat) : Int)) (if linesBad (xs[i] :: xs.drop (i + 1)) then 1 else 0) := by
        intro hg
        refine Ev_eq (ih (i + 1) (by omega) (by omega)) ?_
        have : lineBad xs[i].data.toList (decide (xs.drop (i + 1) = [])) = false := by
          unfold lineBad
          rw [decide_eq_false_iff_not]
          rintro (h1 | h1 | ⟨h1, h2⟩)
          · exact hne h1
          · exact hn2 h1
          · rw [decide_eq_false_iff_not, hrest] at h2
            exact h2 (hg h1)
        exact lb_go this
      have hsuf := suffix_iff _ hn2
      refine Ev_const (isWhole_tells _ hs) (Ev_if (fun h3 => go (fun hno => absurd (hsuf.1 h3) hno)) (fun h3 => ?_))
      rw [wid (by omega) (by omega)]
      refine Ev_if (fun h4 => go (fun _ => by omega)) (fun h4 => Ev_val ?_)
      have : lineBad xs[i].data.toList (decide (xs.drop (i + 1) = [])) = true := by
        unfold lineBad
        rw [decide_eq_true_iff]
        refine .inr (.inr ⟨fun e => h3 (hsuf.2 e), ?_⟩)
        rw [decide_eq_false_iff_not, hrest]
        omega
      exact lb_end this
    · have h2 : xs[i].data.toList = [] ∨ 10 ∈ xs[i].data.toList.dropLast := Classical.byContradiction (fun e => h (decide_eq_true e))
      have : lineBad xs[i].data.toList (decide (xs.drop (i + 1) = [])) = true := by
        unfold lineBad
        rw [decide_eq_true_iff]
        rcases h2 with h2 | h2
        · exact .inl h2
        · exact .inr (.inl h2)
      exact lb_end this
theorem join_flat (xs : List ByteArray) : Lib.join (xs.map (·.data.toList)) [] = (xs.map (·.data.toList)).flatten := by
  unfold Lib.join
  induction xs with
  | nil => rfl
  | cons x l ih =>
    cases l with
    | nil => simp [List.intercalate]
    | cons y l =>
      simp only [List.map_cons, List.intercalate, List.intersperse, List.flatten_cons, List.nil_append] at ih ⊢
      rw [ih]
theorem join_all (xs : List ByteArray) : (Lib.join (xs.map (·.data.toList)) []).length = total xs := by
  rw [join_flat]
  induction xs with
  | nil => rfl
  | cons x l ih =>
    rw [List.map_cons, List.flatten_cons, List.length_append, ih, size_data]
    rfl
theorem ilf_tells (xs : List ByteArray) (hx : ∀ x ∈ xs, x.size ≤ 9223372036854775807) (hl : xs.length ≤ 140737488355328) (hb : total xs ≤ 140737488355328) : Ev (fun k => impl_LinesFault.f k xs) (LF xs) := by
  unfold impl_LinesFault.f
  have body : ∀ b : Bool, b = decide (xs.length > 100 ∨ total xs > 2000) → Ev (fun k => impl_LinesFault.j0 k xs b) (LF xs) := by
    intro b hb2
    refine Ev.step (fun k => by rw [impl_LinesFault.j0]) ?_
    unfold LF
    rw [hb2]
    refine Ev_if (fun h => Ev_val ?_) (fun h => ?_)
    · rw [if_pos (of_decide_eq_true h)]
    · rw [if_neg (fun e => h (decide_eq_true e))]
      have := ilf_loop xs hx (by omega) _ 0 rfl (by omega)
      rw [List.drop_zero] at this
      exact this
  refine Ev_if (fun h => body _ ?_) (fun h => ?_)
  · symm
    rw [decide_eq_true_iff]
    exact .inl (by omega)
  · have hj := join_all xs
    refine Ev_const (a := ⟨(Lib.join (xs.map (·.data.toList)) []).toArray⟩) ?_ (body _ ?_)
    · unfold strings_Join.f
      exact if_pos ⟨hl, by show (Lib.join _ []).length ≤ _; omega⟩
    · rw [decide_eq_decide]
      have : ((⟨(Lib.join (xs.map (·.data.toList)) []).toArray⟩ : ByteArray).size) = total xs := by
        rw [← hj]
        simp [ByteArray.size]
      rw [this]
      omega
end Go.Proofs.Ytihbalbcocfnfaa.P
end
section
set_option linter.unusedVariables false
set_option linter.unusedSimpArgs false
namespace Go.Proofs.Ytihbalbcocfnfaa.P
open Go.RowKit Go.Proofs.YtihbalbcocfnfaaW.PrintWords Go.Proofs.YtihbalbcocfnfaaW.PrintLast
def Small (xs : List ByteArray) : Prop := (∀ x ∈ xs, x.size ≤ 9223372036854775807) ∧ xs.length ≤ 1048576 ∧ total xs ≤ 1048576
theorem Small.slf {xs : List ByteArray} (h : Small xs) : Ev (fun k => spec_LinesFault.f k xs) (LF xs) := slf_tells xs h.1 (by have := h.2.1; omega) (by have := h.2.2; omega)
theorem Small.ilf {xs : List ByteArray} (h : Small xs) : Ev (fun k => impl_LinesFault.f k xs) (LF xs) := ilf_tells xs h.1 (by have := h.2.1; omega) (by have := h.2.2; omega)
theorem LF_zero {xs : List ByteArray} (h : LF xs = 0) : xs.length ≤ 100 ∧ total xs ≤ 2000 ∧ linesBad xs = false := by
  unfold LF at h
  split at h
  · omega
  · rename_i h1
    split at h
    · omega
    · rename_i h2
      exact ⟨by omega, by omega, by simpa using h2⟩
def LF2 (a b : List ByteArray) : Int := if LF a = 0 then LF b else LF a
theorem LF2_zero {a b : List ByteArray} (h : LF2 a b = 0) : LF a = 0 ∧ LF b = 0 := by
  unfold LF2 at h
  split at h
  · exact ⟨by assumption, h⟩
  · exact absurd h (by assumption)
theorem asked_tells {a b : List ByteArray} (ha : Small a) (hb : Small b) : Ev (fun k => spec_l2Asked.f k a b) (LF2 a b) := by
  unfold spec_l2Asked.f LF2
  refine Ev_call ha.slf (Ev_if (fun h => ?_) (fun h => ?_))
  · rw [if_pos h]
    exact Ev_call hb.slf (Ev.now _)
  · rw [if_neg h]
    exact Ev.now _
def firstOf : List Int → Int
  | [] => 0
  | c :: l => if c = 0 then firstOf l else c
theorem first_loop (xs : List Int) (hl : xs.length ≤ 9223372036854775807) : ∀ (d i : Nat), xs.length - i = d → i ≤ xs.length → Ev (fun k => impl_firstCode.l0 k xs (xs.length : Int) (i : Int)) (firstOf (xs.drop i)) := by
  intro d
  induction d with
  | zero =>
    intro i hd hi
    refine Ev.step (fun k => by rw [impl_firstCode.l0]) (Ev_neg (by omega) (Ev_val ?_))
    rw [List.drop_eq_nil_of_le (by omega)]
    rfl
  | succ d ih =>
    intro i hd hi
    have hlt : i < xs.length := by omega
    refine Ev.step (fun k => by rw [impl_firstCode.l0]) (Ev_pos (by omega) (Ev_pos (by omega) (Ev_pos (by omega) ?_)))
    rw [rdi_nat hlt, drop_at hlt, wsucc hlt hl, firstOf]
    refine Ev_if (fun h => ?_) (fun h => ?_)
    · rw [if_pos h]
      exact ih (i + 1) (by omega) (by omega)
    · rw [if_neg h]
      exact Ev.now _
theorem first_tells (xs : List Int) (hl : xs.length ≤ 9223372036854775807) : Ev (fun k => impl_firstCode.f k xs) (firstOf xs) := by
  unfold impl_firstCode.f
  have := first_loop xs hl _ 0 rfl (by omega)
  rw [List.drop_zero] at this
  exact this
theorem both_tells {a b : List ByteArray} (ha : Small a) (hb : Small b) : Ev (fun k => impl_bothLines.f k a b) (LF2 a b) := by
  unfold impl_bothLines.f LF2
  refine Ev_call ha.ilf (Ev_call hb.ilf (Ev_call (first_tells _ (by simp)) (Ev_val ?_)))
  simp only [firstOf]
  split
  · split <;> omega
  · rfl
end Go.Proofs.Ytihbalbcocfnfaa.P
end
section
set_option linter.unusedVariables false
set_option linter.unusedSimpArgs false
namespace Go.Proofs.Ytihbalbcocfnfaa.P
open Go.RowKit Go.Proofs.YtihbalbcocfnfaaW.PrintWords Go.Proofs.YtihbalbcocfnfaaW.PrintLast
theorem guard_lines (xs : List ByteArray) (hg : xs.length ≤ 9223372036854775807 ∧ ∀ x ∈ xs, x.size ≤ 9223372036854775807) (n : Int) (h0 : 0 ≤ n) (h1 : n ≤ 1048576) {F : Nat → Int → Option Bool}
    (h : ∀ r, 0 ≤ r → r ≤ n → Small xs → Ev (fun k => F k r) true) : Ev (fun k => (laws_szStringS.f k xs n).bind fun t => (if t < 0 then (some true) else F k t)) true := by
  obtain ⟨r, hr, hp⟩ := sz_tells xs hg n h0 h1
  refine Ev_call hr ?_
  rcases hp with hp | ⟨h2, h3, h4⟩
  · exact Ev_pos hp (Ev.now _)
  · exact Ev_neg (by omega) (h r h2 h3 ⟨hg.2, by omega, by omega⟩)
theorem Small.to {xs : List ByteArray} (h : Small xs) : Ev (fun k => laws_toStringS.f k xs) xs := to_tells xs (by have := h.2.1; omega)
theorem Small.eq {xs : List ByteArray} (h : Small xs) : Ev (fun k => laws_eqStringS.f k xs xs) true := eq_tells xs (by have := h.2.1; omega)
end Go.Proofs.Ytihbalbcocfnfaa.P
end
section
set_option linter.unusedVariables false
set_option linter.unusedSimpArgs false
namespace Go.Proofs.Ytihbalbcocfnfaa.P
section
variable {α : Type} [DecidableEq α]
def lcs : List α → List α → Nat
  | [], _ => 0
  | _ :: _, [] => 0
  | x :: a, y :: b => if x = y then lcs a b + 1 else max (lcs a (y :: b)) (lcs (x :: a) b)
termination_by a b => a.length + b.length
theorem lcs_nil (b : List α) : lcs [] b = 0 := by rw [lcs]
theorem lcs_nil' (a : List α) : lcs a [] = 0 := by cases a <;> rw [lcs]
theorem lcs_cons (x y : α) (a b : List α) : lcs (x :: a) (y :: b) = if x = y then lcs a b + 1 else max (lcs a (y :: b)) (lcs (x :: a) b) := by rw [lcs]
theorem lcs_both : ∀ (n : Nat) (a b : List α), a.length + b.length = n → (∀ x, lcs a b ≤ lcs (x :: a) b) ∧ (∀ y, lcs a (y :: b) ≤ lcs a b + 1) := by
  intro n
  induction n using Nat.strongRecOn with
  | _ n ih =>
    intro a b hn
    constructor
    · intro x
      cases b with
      | nil => rw [lcs_nil', lcs_nil']; exact Nat.le_refl _
      | cons y b =>
        rw [lcs_cons]
        split
        · exact (ih (a.length + b.length) (by simp at hn; omega) a b rfl).2 y
        · exact Nat.le_max_left _ _
    · intro y
      cases a with
      | nil => rw [lcs_nil, lcs_nil]; omega
      | cons x a =>
        have h := ih (a.length + b.length) (by simp at hn; omega) a b rfl
        have h1 := h.1 x
        have h2 := h.2 y
        rw [lcs_cons]
        split <;> omega
theorem lcs_step (y : α) (a b : List α) : lcs a (y :: b) ≤ lcs a b + 1 := (lcs_both _ a b rfl).2 y
theorem lcs_comm : ∀ (n : Nat) (a b : List α), a.length + b.length = n → lcs a b = lcs b a := by
  intro n
  induction n using Nat.strongRecOn with
  | _ n ih =>
    intro a b hn
    cases a with
    | nil => rw [lcs_nil, lcs_nil']
    | cons x a =>
      cases b with
      | nil => rw [lcs_nil, lcs_nil']
      | cons y b =>
        simp only [List.length_cons] at hn
        have h0 := ih (a.length + b.length) (by omega) a b rfl
        have h1 := ih (a.length + (b.length + 1)) (by omega) a (y :: b) rfl
        have h2 := ih (a.length + 1 + b.length) (by omega) (x :: a) b rfl
        rw [lcs_cons, lcs_cons]
        by_cases h : x = y
        · rw [if_pos h, if_pos h.symm, h0]
        · rw [if_neg h, if_neg (fun e => h e.symm), h1, h2]
          exact Nat.max_comm _ _
theorem lcs_symm (a b : List α) : lcs a b = lcs b a := lcs_comm _ a b rfl
theorem lcs_step' (x : α) (a b : List α) : lcs (x :: a) b ≤ lcs a b + 1 := by rw [lcs_symm (x :: a) b, lcs_symm a b]; exact lcs_step x b a
theorem lcs_le : ∀ (a b : List α), lcs a b ≤ a.length := by
  intro a b
  induction a with
  | nil => rw [lcs_nil]; exact Nat.le_refl _
  | cons x a ih =>
    have := lcs_step' x a b
    simp only [List.length_cons]
    omega
theorem lcs_at {a b : List α} {i j : Nat} (hi : i < a.length) (hj : j < b.length) :
    lcs (a.drop i) (b.drop j) = if a[i] = b[j] then lcs (a.drop (i + 1)) (b.drop (j + 1)) + 1 else max (lcs (a.drop (i + 1)) (b.drop j)) (lcs (a.drop i) (b.drop (j + 1))) := by
  rw [drop_at hi, drop_at hj, lcs_cons]
theorem lcs_at3 {a b : List α} {i j : Nat} (hi : i < a.length) (hj : j < b.length) (h : a[i] = b[j]) :
    lcs (a.drop i) (b.drop j) = max (max (lcs (a.drop (i + 1)) (b.drop j)) (lcs (a.drop i) (b.drop (j + 1)))) (lcs (a.drop (i + 1)) (b.drop (j + 1)) + 1) := by
  have e := lcs_at hi hj
  rw [if_pos h] at e
  have h1 : lcs (a.drop (i + 1)) (b.drop j) ≤ lcs (a.drop (i + 1)) (b.drop (j + 1)) + 1 := by
    rw [drop_at hj]
    exact lcs_step _ _ _
  have h2 : lcs (a.drop i) (b.drop (j + 1)) ≤ lcs (a.drop (i + 1)) (b.drop (j + 1)) + 1 := by
    rw [drop_at hi]
    exact lcs_step' _ _ _
  omega
end
theorem getD_set {β : Type} {l : List β} {i r : Nat} {x d : β} (h : i < l.length) : (l.set i x).getD r d = if r = i then x else l.getD r d := by
  rw [List.getD_eq_getElem?_getD, List.getD_eq_getElem?_getD, List.getElem?_set]
  by_cases e : i = r
  · subst e
    simp [h]
  · rw [if_neg e, if_neg (fun z => e z.symm)]
structure TabInv {α : Type} [DecidableEq α] (a b : List α) (t : List (List Int)) (i j : Nat) : Prop where
  len : t.length = a.length + 1
  rows : ∀ r, r ≤ a.length → (t.getD r []).length = b.length + 1
  val : ∀ r c, r ≤ a.length → c ≤ b.length → (i ≤ r ∨ (r + 1 = i ∧ j ≤ c) ∨ c = b.length ∨ r = a.length) → (t.getD r []).getD c 0 = (lcs (a.drop r) (b.drop c) : Int)
theorem TabInv.start {α : Type} [DecidableEq α] (a b : List α) : TabInv a b (List.replicate (a.length + 1) (List.replicate (b.length + 1) 0)) (a.length) (b.length) := by
  have hg : ∀ r, r ≤ a.length → (List.replicate (a.length + 1) (List.replicate (b.length + 1) (0 : Int))).getD r [] = List.replicate (b.length + 1) 0 := fun r hr => by
    rw [List.getD_eq_getElem?_getD, List.getElem?_replicate, if_pos (by omega)]
    rfl
  refine ⟨by simp, fun r hr => by rw [hg r hr]; simp, fun r c hr hc h => ?_⟩
  rw [hg r hr, List.getD_eq_getElem?_getD, List.getElem?_replicate, if_pos (by omega), Option.getD_some]
  have : lcs (a.drop r) (b.drop c) = 0 := by
    have hcase : c = b.length ∨ r = a.length := by omega
    rcases hcase with e | e
    · rw [List.drop_eq_nil_of_le (show b.length ≤ c by omega), lcs_nil']
    · rw [List.drop_eq_nil_of_le (show a.length ≤ r by omega), lcs_nil]
  rw [this]
  rfl
theorem TabInv.put {α : Type} [DecidableEq α] {a b : List α} {t : List (List Int)} {i j : Nat} (h : TabInv a b t (i + 1) (j + 1)) (hi : i < a.length) (hj : j < b.length) {v : Int} (hv : v = (lcs (a.drop i) (b.drop j) : Int)) :
    TabInv a b (t.set i ((t.getD i []).set j v)) (i + 1) j := by
  have hl := h.len
  have hr0 := h.rows i (by omega)
  refine ⟨by rw [List.length_set]; exact hl, fun r hr => ?_, fun r c hr hc hcase => ?_⟩
  · rw [getD_set (by omega)]
    split
    · rw [List.length_set]; exact hr0
    · exact h.rows r hr
  · rw [getD_set (by omega)]
    by_cases e : r = i
    · subst e
      rw [if_pos rfl, getD_set (by omega)]
      by_cases e2 : c = j
      · subst e2
        rw [if_pos rfl, hv]
      · rw [if_neg e2]
        exact h.val r c hr hc (by omega)
    · rw [if_neg e]
      exact h.val r c hr hc (by omega)
theorem TabInv.next {α : Type} [DecidableEq α] {a b : List α} {t : List (List Int)} {i : Nat} (h : TabInv a b t (i + 1) 0) : TabInv a b t i b.length :=
  ⟨h.len, h.rows, fun r c hr hc hcase => h.val r c hr hc (by omega)⟩
theorem TabInv.all {α : Type} [DecidableEq α] {a b : List α} {t : List (List Int)} {j : Nat} (h : TabInv a b t 0 j) {r c : Nat} (hr : r ≤ a.length) (hc : c ≤ b.length) : (t.getD r []).getD c 0 = (lcs (a.drop r) (b.drop c) : Int) := h.val r c hr hc (.inl (by omega))
end Go.Proofs.Ytihbalbcocfnfaa.P
end
section
namespace Go.Proofs.Ytihbalbcocfnfaa.P
open Go.RowKit
theorem wsucc' {i : Nat} (hn : i < 9223372036854775807) : wrap64 ((i : Int) + 1) = ((i + 1 : Nat) : Int) := by
  rw [wid (by omega) (by omega)]
  omega
end Go.Proofs.Ytihbalbcocfnfaa.P
end
section
set_option linter.unusedVariables false
set_option linter.unusedSimpArgs false
namespace Go.Proofs.Ytihbalbcocfnfaa.P
open Go.RowKit Go.Proofs.YtihbalbcocfnfaaW.PrintWords Go.Proofs.YtihbalbcocfnfaaW.PrintLast
theorem rdl_nat (t : List (List Int)) (i : Nat) : rd_L4 t (i : Int) = t.getD i [] := by
  unfold rd_L4
  rw [Int.toNat_natCast]
theorem rd_getD (t : List Int) (i : Nat) : rd t (i : Int) = t.getD i 0 := by
  unfold rd
  rw [Int.toNat_natCast]
theorem max_tells (x y : Int) : spec_l1Max.f x y = some (max x y) := by
  unfold spec_l1Max.f
  split
  · rw [Int.max_def, if_neg (by omega)]
  · rw [Int.max_def, if_pos (by omega)]
theorem mx_max (x y : Int) : mx x y = max x y := by
  unfold mx
  split
  · rw [Int.max_def, if_pos (by omega)]
  · rw [Int.max_def]
    split <;> omega
theorem stab2 (a b : List ByteArray) (ha : a.length ≤ 1000000) (hb : b.length ≤ 1000000) (i : Nat) (hi : i < a.length) (K : List (List Int) → Prop)
    (hK : ∀ t, TabInv a b t (i + 1) 0 → ∃ t', K t' ∧ Ev (fun k => spec_l2Table.l1 k a b t (wrap64 ((i : Int) - 1))) t') : ∀ (j : Nat) (t : List (List Int)), j ≤ b.length → TabInv a b t (i + 1) j →
    ∃ t', K t' ∧ Ev (fun k => spec_l2Table.l2 k a b t (i : Int) ((j : Int) - 1)) t' := by
  intro j
  induction j with
  | zero =>
    intro t hj ht
    obtain ⟨t', h1, h2⟩ := hK t ht
    exact ⟨t', h1, Ev.step (fun k => by rw [spec_l2Table.l2]) (Ev_neg (by omega) h2)⟩
  | succ j ih =>
    intro t hj ht
    have hl := ht.len
    have hri := ht.rows i (by omega)
    have hri1 := ht.rows (i + 1) (by omega)
    have e1 := ht.val (i + 1) j (by omega) (by omega) (.inl (by omega))
    have e2 := ht.val i (j + 1) (by omega) (by omega) (by omega)
    have e3 := ht.val (i + 1) (j + 1) (by omega) (by omega) (.inl (by omega))
    have hat := lcs_at (a := a) (b := b) hi (show j < b.length by omega)
    have hb1 := lcs_le (a.drop i) (b.drop j)
    have hb3 := lcs_le (a.drop (i + 1)) (b.drop (j + 1))
    rw [List.length_drop] at hb1 hb3
    obtain ⟨t', h1, h2⟩ := ih (t.set i ((t.getD i []).set j ((lcs (a.drop i) (b.drop j) : Nat) : Int))) (by omega) (ht.put hi (by omega) rfl)
    refine ⟨t', h1, Ev.step (fun k => by rw [spec_l2Table.l2]) ?_⟩
    rw [wsucc' (i := i) (by omega), rdl_nat, rdl_nat, show ((((j + 1 : Nat) : Int)) - 1) = (j : Int) by omega, wsucc' (i := j) (by omega), rd_getD, rd_getD, rd_getD, rd_nat _ hi, rd_nat _ (show j < b.length by omega), e1, e2, e3, Int.toNat_natCast, Int.toNat_natCast]
    refine Ev_pos (by omega) (Ev_pos (by omega) (Ev_pos (by omega) (Ev_pos (by omega) (Ev_pos (by omega) (Ev_pos (by omega) (Ev_pos (by omega) (Ev_pos (by omega) (Ev_pos (by omega) (Ev_const (max_tells _ _) (Ev_pos (by omega) (Ev_pos (by omega) ?_)))))))))))
    refine Ev_if (fun h => ?_) (fun h => ?_)
    · have hx := data_eq.1 h
      have h3 := lcs_at3 (a := a) (b := b) hi (show j < b.length by omega) hx
      rw [wid (by omega) (by omega)]
      refine Ev_pos (by omega) (Ev_const (max_tells _ _) (Ev_pos (by omega) ?_))
      rw [show max (max ((lcs (a.drop (i + 1)) (b.drop j) : Nat) : Int) ((lcs (a.drop i) (b.drop (j + 1)) : Nat) : Int)) (1 + ((lcs (a.drop (i + 1)) (b.drop (j + 1)) : Nat) : Int)) = ((lcs (a.drop i) (b.drop j) : Nat) : Int) by omega, wid (by omega) (by omega)]
      exact h2
    · have hx : ¬ a[i] = b[j] := fun e => h (data_eq.2 e)
      rw [if_neg hx] at hat
      refine Ev_pos (by omega) ?_
      rw [show max ((lcs (a.drop (i + 1)) (b.drop j) : Nat) : Int) ((lcs (a.drop i) (b.drop (j + 1)) : Nat) : Int) = ((lcs (a.drop i) (b.drop j) : Nat) : Int) by omega, wid (by omega) (by omega)]
      exact h2
theorem stab1 (a b : List ByteArray) (ha : a.length ≤ 1000000) (hb : b.length ≤ 1000000) : ∀ (i : Nat) (t : List (List Int)), i ≤ a.length → TabInv a b t i b.length → ∃ t', TabInv a b t' 0 b.length ∧ Ev (fun k => spec_l2Table.l1 k a b t ((i : Int) - 1)) t' := by
  intro i
  induction i with
  | zero =>
    intro t hi ht
    exact ⟨t, ht, Ev.step (fun k => by rw [spec_l2Table.l1]) (Ev_neg (by omega) (Ev.now _))⟩
  | succ i ih =>
    intro t hi ht
    obtain ⟨t', h1, h2⟩ := stab2 a b ha hb i (by omega) (fun t' => TabInv a b t' 0 b.length) (fun t ht => by
      obtain ⟨t', h1, h2⟩ := ih t (by omega) ht.next
      exact ⟨t', h1, by rw [wid (by omega) (by omega)]; exact h2⟩) b.length t (Nat.le_refl _) ht
    refine ⟨t', h1, Ev.step (fun k => by rw [spec_l2Table.l1]) (Ev_pos (by omega) ?_)⟩
    rw [wid (x := (b.length : Int) - 1) (by omega) (by omega), show (((i + 1 : Nat) : Int) - 1) = (i : Int) by omega]
    exact h2
theorem stab0 (a b : List ByteArray) (ha : a.length ≤ 1000000) (hb : b.length ≤ 1000000) (t' : List (List Int)) (h : Ev (fun k => spec_l2Table.l1 k a b (List.replicate (a.length + 1) (List.replicate (b.length + 1) 0)) ((a.length : Int) - 1)) t') :
    ∀ (d i : Nat), a.length + 1 - i = d → i ≤ a.length + 1 → Ev (fun k => spec_l2Table.l0 k a b (List.replicate i (List.replicate (b.length + 1) 0)) (i : Int)) t' := by
  intro d
  induction d with
  | zero =>
    intro i hd hi
    have : i = a.length + 1 := by omega
    subst this
    refine Ev.step (fun k => by rw [spec_l2Table.l0]) (Ev_neg (by omega) ?_)
    rw [wid (by omega) (by omega)]
    exact h
  | succ d ih =>
    intro i hd hi
    refine Ev.step (fun k => by rw [spec_l2Table.l0]) (Ev_pos (by omega) ?_)
    rw [wsucc' (i := b.length) (by omega), wsucc' (i := i) (by omega), Int.toNat_natCast]
    refine Ev_pos (by omega) (Ev_pos (by omega) (Ev_pos (by rw [List.length_replicate]; omega) ?_))
    rw [← List.replicate_succ']
    exact ih (i + 1) (by omega) (by omega)
theorem stab_tells (a b : List ByteArray) (ha : a.length ≤ 1000000) (hb : b.length ≤ 1000000) : ∃ t, TabInv a b t 0 b.length ∧ Ev (fun k => spec_l2Table.f k a b) t := by
  obtain ⟨t, h1, h2⟩ := stab1 a b ha hb a.length _ (Nat.le_refl _) (TabInv.start a b)
  refine ⟨t, h1, ?_⟩
  unfold spec_l2Table.f
  exact stab0 a b ha hb t h2 _ 0 rfl (by omega)
theorem itab2 (a b : List ByteArray) (ha : a.length ≤ 1000000) (hb : b.length ≤ 1000000) (i : Nat) (hi : i < a.length) (K : List (List Int) → Prop)
    (hK : ∀ t, TabInv a b t (i + 1) 0 → ∃ t', K t' ∧ Ev (fun k => impl_commons.l1 k a b t (wrap64 ((i : Int) - 1))) t') : ∀ (j : Nat) (t : List (List Int)), j ≤ b.length → TabInv a b t (i + 1) j →
    ∃ t', K t' ∧ Ev (fun k => impl_commons.l2 k a b t (i : Int) ((j : Int) - 1)) t' := by
  intro j
  induction j with
  | zero =>
    intro t hj ht
    obtain ⟨t', h1, h2⟩ := hK t ht
    exact ⟨t', h1, Ev.step (fun k => by rw [impl_commons.l2]) (Ev_neg (by omega) h2)⟩
  | succ j ih =>
    intro t hj ht
    have hl := ht.len
    have hri := ht.rows i (by omega)
    have hri1 := ht.rows (i + 1) (by omega)
    have e1 := ht.val (i + 1) j (by omega) (by omega) (.inl (by omega))
    have e2 := ht.val i (j + 1) (by omega) (by omega) (by omega)
    have e3 := ht.val (i + 1) (j + 1) (by omega) (by omega) (.inl (by omega))
    have hat := lcs_at (a := a) (b := b) hi (show j < b.length by omega)
    have hb1 := lcs_le (a.drop i) (b.drop j)
    have hb3 := lcs_le (a.drop (i + 1)) (b.drop (j + 1))
    rw [List.length_drop] at hb1 hb3
    obtain ⟨t', h1, h2⟩ := ih (t.set i ((t.getD i []).set j ((lcs (a.drop i) (b.drop j) : Nat) : Int))) (by omega) (ht.put hi (by omega) rfl)
    refine ⟨t', h1, Ev.step (fun k => by rw [impl_commons.l2]) ?_⟩
    rw [wsucc' (i := i) (by omega), rdl_nat, rdl_nat, show ((((j + 1 : Nat) : Int)) - 1) = (j : Int) by omega, wsucc' (i := j) (by omega), rd_getD, rd_getD, e1, e2, Int.toNat_natCast, Int.toNat_natCast, mx_max]
    refine Ev_pos (by omega) (Ev_pos (by omega) (Ev_pos (by omega) (Ev_pos (by omega) (Ev_pos (by omega) (Ev_pos (by omega) (Ev_pos (by omega) (Ev_pos (by omega) (Ev_pos (by omega) (Ev_pos (by omega) ?_)))))))))
    refine Ev_const rfl ?_
    rw [rd_nat _ hi, rd_nat _ (show j < b.length by omega), rdl_nat, rdl_nat, getD_set (by omega), getD_set (by omega), if_neg (by omega), if_pos rfl, rd_getD, e3]
    refine Ev_pos (by omega) (Ev_pos (by omega) ?_)
    refine Ev_if (fun h => ?_) (fun h => ?_)
    · have hx := data_eq.1 h
      rw [if_pos hx] at hat
      refine Ev_pos (by omega) (Ev_pos (by rw [List.length_set]; omega) ?_)
      rw [wid (by omega) (by omega), wid (by omega) (by omega), List.set_set, List.set_set, show ((lcs (a.drop (i + 1)) (b.drop (j + 1)) : Nat) : Int) + 1 = ((lcs (a.drop i) (b.drop j) : Nat) : Int) by omega]
      exact h2
    · have hx : ¬ a[i] = b[j] := fun e => h (data_eq.2 e)
      rw [if_neg hx] at hat
      rw [show max ((lcs (a.drop (i + 1)) (b.drop j) : Nat) : Int) ((lcs (a.drop i) (b.drop (j + 1)) : Nat) : Int) = ((lcs (a.drop i) (b.drop j) : Nat) : Int) by omega, wid (by omega) (by omega)]
      exact h2
theorem itab1 (a b : List ByteArray) (ha : a.length ≤ 1000000) (hb : b.length ≤ 1000000) : ∀ (i : Nat) (t : List (List Int)), i ≤ a.length → TabInv a b t i b.length → ∃ t', TabInv a b t' 0 b.length ∧ Ev (fun k => impl_commons.l1 k a b t ((i : Int) - 1)) t' := by
  intro i
  induction i with
  | zero =>
    intro t hi ht
    exact ⟨t, ht, Ev.step (fun k => by rw [impl_commons.l1]) (Ev_neg (by omega) (Ev.now _))⟩
  | succ i ih =>
    intro t hi ht
    obtain ⟨t', h1, h2⟩ := itab2 a b ha hb i (by omega) (fun t' => TabInv a b t' 0 b.length) (fun t ht => by
      obtain ⟨t', h1, h2⟩ := ih t (by omega) ht.next
      exact ⟨t', h1, by rw [wid (by omega) (by omega)]; exact h2⟩) b.length t (Nat.le_refl _) ht
    refine ⟨t', h1, Ev.step (fun k => by rw [impl_commons.l1]) (Ev_pos (by omega) ?_)⟩
    rw [wid (x := (b.length : Int) - 1) (by omega) (by omega), show (((i + 1 : Nat) : Int) - 1) = (i : Int) by omega]
    exact h2
theorem set_rep {β : Type} (z y : β) (i d : Nat) : (List.replicate i z ++ List.replicate (d + 1) y).set i z = List.replicate (i + 1) z ++ List.replicate d y := by
  rw [List.set_append_right _ _ (by simp), List.length_replicate, Nat.sub_self, List.replicate_succ (n := d), List.set_cons_zero, List.replicate_succ', List.append_assoc]
  rfl
theorem itab0 (a b : List ByteArray) (ha : a.length ≤ 1000000) (hb : b.length ≤ 1000000) (t' : List (List Int)) (h : Ev (fun k => impl_commons.l1 k a b (List.replicate (a.length + 1) (List.replicate (b.length + 1) 0)) ((a.length : Int) - 1)) t') :
    ∀ (d i : Nat), a.length + 1 - i = d → i ≤ a.length + 1 → Ev (fun k => impl_commons.l0 k a b (List.replicate i (List.replicate (b.length + 1) 0) ++ List.replicate d []) ((a.length + 1 : Nat) : Int) (i : Int)) t' := by
  intro d
  induction d with
  | zero =>
    intro i hd hi
    have : i = a.length + 1 := by omega
    subst this
    refine Ev.step (fun k => by rw [impl_commons.l0]) (Ev_neg (by omega) ?_)
    rw [wid (by omega) (by omega), List.replicate_zero, List.append_nil]
    exact h
  | succ d ih =>
    intro i hd hi
    refine Ev.step (fun k => by rw [impl_commons.l0]) (Ev_pos (by omega) ?_)
    rw [wsucc' (i := b.length) (by omega), wsucc' (i := i) (by omega), Int.toNat_natCast, Int.toNat_natCast]
    refine Ev_pos (by omega) (Ev_pos (by omega) (Ev_pos (by omega) (Ev_pos (by simp; omega) ?_)))
    rw [set_rep]
    exact ih (i + 1) (by omega) (by omega)
theorem itab_tells (a b : List ByteArray) (ha : a.length ≤ 1000000) (hb : b.length ≤ 1000000) : ∃ t, TabInv a b t 0 b.length ∧ Ev (fun k => impl_commons.f k a b) t := by
  obtain ⟨t, h1, h2⟩ := itab1 a b ha hb a.length _ (Nat.le_refl _) (TabInv.start a b)
  refine ⟨t, h1, ?_⟩
  unfold impl_commons.f
  rw [wsucc' (i := a.length) (by omega), Int.toNat_natCast]
  refine Ev_pos (by omega) (Ev_pos (by omega) (Ev_const rfl ?_))
  rw [List.length_replicate]
  have h := itab0 a b ha hb t h2 _ 0 rfl (by omega)
  rw [List.replicate_zero, List.nil_append, Nat.sub_zero] at h
  exact h
end Go.Proofs.Ytihbalbcocfnfaa.P
end
section
set_option linter.unusedVariables false
set_option linter.unusedSimpArgs false
namespace Go.Proofs.Ytihbalbcocfnfaa.P
open Go.RowKit Go.Proofs.YtihbalbcocfnfaaW.PrintWords Go.Proofs.YtihbalbcocfnfaaW.PrintLast
def mt : List ByteArray → List ByteArray → Nat → Nat → List Int × List Int
  | [], _, _, _ => ([], [])
  | _ :: _, [], _, _ => ([], [])
  | x :: a, y :: b, i, j => if x = y then ((i : Int) :: (mt a b (i + 1) (j + 1)).1, (j : Int) :: (mt a b (i + 1) (j + 1)).2) else if lcs (x :: a) b ≤ lcs a (y :: b) then mt a (y :: b) (i + 1) j else mt (x :: a) b i (j + 1)
termination_by a b => a.length + b.length
theorem mt_nil (b : List ByteArray) (i j : Nat) : mt [] b i j = ([], []) := by rw [mt]
theorem mt_nil' (a : List ByteArray) (i j : Nat) : mt a [] i j = ([], []) := by cases a <;> rw [mt]
theorem mt_eq {a b : List ByteArray} {i j : Nat} (hi : i < a.length) (hj : j < b.length) (h : a[i] = b[j]) (p q : Nat) :
    mt (a.drop i) (b.drop j) p q = ((p : Int) :: (mt (a.drop (i + 1)) (b.drop (j + 1)) (p + 1) (q + 1)).1, (q : Int) :: (mt (a.drop (i + 1)) (b.drop (j + 1)) (p + 1) (q + 1)).2) := by
  rw [drop_at hi, drop_at hj, mt, if_pos h]
theorem mt_a {a b : List ByteArray} {i j : Nat} (hi : i < a.length) (hj : j < b.length) (h : ¬ a[i] = b[j]) (h2 : lcs (a.drop i) (b.drop (j + 1)) ≤ lcs (a.drop (i + 1)) (b.drop j)) (p q : Nat) :
    mt (a.drop i) (b.drop j) p q = mt (a.drop (i + 1)) (b.drop j) (p + 1) q := by
  rw [drop_at hi, drop_at hj] at *
  rw [mt, if_neg h, if_pos h2]
theorem mt_b {a b : List ByteArray} {i j : Nat} (hi : i < a.length) (hj : j < b.length) (h : ¬ a[i] = b[j]) (h2 : ¬ lcs (a.drop i) (b.drop (j + 1)) ≤ lcs (a.drop (i + 1)) (b.drop j)) (p q : Nat) :
    mt (a.drop i) (b.drop j) p q = mt (a.drop i) (b.drop (j + 1)) p (q + 1) := by
  rw [drop_at hi, drop_at hj] at *
  rw [mt, if_neg h, if_neg h2]
theorem mt_len : ∀ (n : Nat) (a b : List ByteArray) (i j : Nat), a.length + b.length = n → (mt a b i j).1.length = lcs a b ∧ (mt a b i j).2.length = lcs a b := by
  intro n
  induction n using Nat.strongRecOn with
  | _ n ih =>
    intro a b i j hn
    cases a with
    | nil => rw [mt_nil, lcs_nil]; exact ⟨rfl, rfl⟩
    | cons x a =>
      cases b with
      | nil => rw [mt_nil', lcs_nil']; exact ⟨rfl, rfl⟩
      | cons y b =>
        simp only [List.length_cons] at hn
        rw [mt, lcs_cons]
        split
        · have := ih _ (by omega) a b (i + 1) (j + 1) rfl
          exact ⟨by rw [List.length_cons, this.1], by rw [List.length_cons, this.2]⟩
        · split
          · rename_i h1 h2
            have := ih _ (by simp only [List.length_cons]; omega) a (y :: b) (i + 1) j rfl
            rw [Nat.max_eq_left h2]
            exact this
          · rename_i h1 h2
            have := ih _ (by simp only [List.length_cons]; omega) (x :: a) b i (j + 1) rfl
            rw [Nat.max_eq_right (by omega)]
            exact this
theorem spec_l2Match_loop (a b : List ByteArray) (ha : a.length ≤ 1000000) (hb : b.length ≤ 1000000) (t : List (List Int)) (ht : TabInv a b t 0 b.length) : ∀ (n i j : Nat) (x y : List Int), (a.length - i) + (b.length - j) = n → i ≤ a.length → j ≤ b.length → x.length ≤ i → y.length ≤ j →
    Ev (fun k => spec_l2Match.l0 k a b t x y (i : Int) (j : Int)) (x ++ (mt (a.drop i) (b.drop j) i j).1, y ++ (mt (a.drop i) (b.drop j) i j).2) := by
  intro n
  induction n using Nat.strongRecOn with
  | _ n ih =>
    intro i j x y hn hi hj hx hy
    by_cases h : i < a.length ∧ j < b.length
    · obtain ⟨h1, h2⟩ := h
      have hl := ht.len
      have r0 := ht.rows i (by omega)
      have r1 := ht.rows (i + 1) (by omega)
      have v1 := ht.all (r := i + 1) (c := j) (by omega) (by omega)
      have v2 := ht.all (r := i) (c := j + 1) (by omega) (by omega)
      refine Ev.step (fun k => by rw [spec_l2Match.l0]) (Ev_pos (by omega) ?_)
      rw [show (decide ((j : Int) < (b.length : Int))) = true from decide_eq_true (by omega)]
      refine Ev.step (fun k => by rw [spec_l2Match.j1]) (Ev_pos rfl (Ev_pos (by omega) (Ev_pos (by omega) (Ev_pos (by omega) (Ev_pos (by omega) ?_)))))
      rw [rd_nat _ h1, rd_nat _ h2, wsucc' (i := i) (by omega), wsucc' (i := j) (by omega), rdl_nat, rdl_nat, rd_getD, rd_getD, v1, v2]
      refine Ev_if (fun h => ?_) (fun h => ?_)
      · rw [mt_eq h1 h2 (data_eq.1 h)]
        refine Ev_pos (by omega) (Ev_pos (by omega) ?_)
        have e := ih _ (by omega) (i + 1) (j + 1) (x ++ [(i : Int)]) (y ++ [(j : Int)]) rfl (by omega) (by omega) (by simp; omega) (by simp; omega)
        rw [List.append_assoc, List.append_assoc] at e
        exact e
      · have hne : ¬ a[i] = b[j] := fun e => h (data_eq.2 e)
        refine Ev_pos (by omega) (Ev_pos (by omega) (Ev_pos (by omega) (Ev_pos (by omega) (Ev_pos (by omega) (Ev_pos (by omega) ?_)))))
        refine Ev_if (fun h3 => ?_) (fun h3 => ?_)
        · rw [mt_a h1 h2 hne (by omega)]
          exact ih _ (by omega) (i + 1) j x y rfl (by omega) (by omega) (by omega) (by omega)
        · rw [mt_b h1 h2 hne (by omega)]
          exact ih _ (by omega) i (j + 1) x y rfl (by omega) (by omega) (by omega) (by omega)
    · have hm : mt (a.drop i) (b.drop j) i j = ([], []) := by
        by_cases h1 : i < a.length
        · rw [List.drop_eq_nil_of_le (show b.length ≤ j by omega), mt_nil']
        · rw [List.drop_eq_nil_of_le (show a.length ≤ i by omega), mt_nil]
      rw [hm, List.append_nil, List.append_nil]
      have e : Ev (fun k => spec_l2Match.j1 k a b t x y (i : Int) (j : Int) false) (x, y) := Ev.step (fun k => by rw [spec_l2Match.j1]) (Ev_neg (by simp) (Ev.now _))
      refine Ev.step (fun k => by rw [spec_l2Match.l0]) (Ev_if (fun h1 => ?_) (fun h1 => e))
      rw [show (decide ((j : Int) < (b.length : Int))) = false from decide_eq_false (by omega)]
      exact e
theorem spec_l2Match_tells (a b : List ByteArray) (ha : a.length ≤ 1000000) (hb : b.length ≤ 1000000) : Ev (fun k => spec_l2Match.f k a b) (mt a b 0 0) := by
  obtain ⟨t, h1, h2⟩ := stab_tells a b ha hb
  unfold spec_l2Match.f
  refine Ev_call h2 ?_
  have e := spec_l2Match_loop a b ha hb t h1 _ 0 0 [] [] rfl (by omega) (by omega) (by simp) (by simp)
  rw [List.drop_zero, List.drop_zero, List.nil_append, List.nil_append] at e
  exact e
theorem impl_match_loop (a b : List ByteArray) (ha : a.length ≤ 1000000) (hb : b.length ≤ 1000000) (t : List (List Int)) (ht : TabInv a b t 0 b.length) : ∀ (n i j : Nat) (x y : List Int), (a.length - i) + (b.length - j) = n → i ≤ a.length → j ≤ b.length → x.length ≤ i → y.length ≤ j →
    Ev (fun k => impl_match.l0 k a b t x y (i : Int) (j : Int)) (x ++ (mt (a.drop i) (b.drop j) i j).1, y ++ (mt (a.drop i) (b.drop j) i j).2) := by
  intro n
  induction n using Nat.strongRecOn with
  | _ n ih =>
    intro i j x y hn hi hj hx hy
    by_cases h : i < a.length ∧ j < b.length
    · obtain ⟨h1, h2⟩ := h
      have hl := ht.len
      have r0 := ht.rows i (by omega)
      have r1 := ht.rows (i + 1) (by omega)
      have v1 := ht.all (r := i + 1) (c := j) (by omega) (by omega)
      have v2 := ht.all (r := i) (c := j + 1) (by omega) (by omega)
      refine Ev.step (fun k => by rw [impl_match.l0]) (Ev_pos (by omega) ?_)
      rw [show (decide ((j : Int) < (b.length : Int))) = true from decide_eq_true (by omega)]
      refine Ev.step (fun k => by rw [impl_match.j1]) (Ev_pos rfl (Ev_pos (by omega) (Ev_pos (by omega) (Ev_pos (by omega) (Ev_pos (by omega) ?_)))))
      rw [rd_nat _ h1, rd_nat _ h2, wsucc' (i := i) (by omega), wsucc' (i := j) (by omega), rdl_nat, rdl_nat, rd_getD, rd_getD, v1, v2]
      refine Ev_if (fun h => ?_) (fun h => ?_)
      · rw [mt_eq h1 h2 (data_eq.1 h)]
        refine Ev_pos (by omega) (Ev_pos (by omega) ?_)
        have e := ih _ (by omega) (i + 1) (j + 1) (x ++ [(i : Int)]) (y ++ [(j : Int)]) rfl (by omega) (by omega) (by simp; omega) (by simp; omega)
        rw [List.append_assoc, List.append_assoc] at e
        exact e
      · have hne : ¬ a[i] = b[j] := fun e => h (data_eq.2 e)
        refine Ev_pos (by omega) (Ev_pos (by omega) (Ev_pos (by omega) (Ev_pos (by omega) (Ev_pos (by omega) (Ev_pos (by omega) ?_)))))
        refine Ev_if (fun h3 => ?_) (fun h3 => ?_)
        · rw [mt_a h1 h2 hne (by omega)]
          exact ih _ (by omega) (i + 1) j x y rfl (by omega) (by omega) (by omega) (by omega)
        · rw [mt_b h1 h2 hne (by omega)]
          exact ih _ (by omega) i (j + 1) x y rfl (by omega) (by omega) (by omega) (by omega)
    · have hm : mt (a.drop i) (b.drop j) i j = ([], []) := by
        by_cases h1 : i < a.length
        · rw [List.drop_eq_nil_of_le (show b.length ≤ j by omega), mt_nil']
        · rw [List.drop_eq_nil_of_le (show a.length ≤ i by omega), mt_nil]
      rw [hm, List.append_nil, List.append_nil]
      have e : Ev (fun k => impl_match.j1 k a b t x y (i : Int) (j : Int) false) (x, y) := Ev.step (fun k => by rw [impl_match.j1]) (Ev_neg (by simp) (Ev.now _))
      refine Ev.step (fun k => by rw [impl_match.l0]) (Ev_if (fun h1 => ?_) (fun h1 => e))
      rw [show (decide ((j : Int) < (b.length : Int))) = false from decide_eq_false (by omega)]
      exact e
theorem impl_match_tells (a b : List ByteArray) (ha : a.length ≤ 1000000) (hb : b.length ≤ 1000000) : Ev (fun k => impl_match.f k a b) (mt a b 0 0) := by
  obtain ⟨t, h1, h2⟩ := itab_tells a b ha hb
  unfold impl_match.f
  refine Ev_call h2 ?_
  have e := impl_match_loop a b ha hb t h1 _ 0 0 [] [] rfl (by omega) (by omega) (by simp) (by simp)
  rw [List.drop_zero, List.drop_zero, List.nil_append, List.nil_append] at e
  exact e
end Go.Proofs.Ytihbalbcocfnfaa.P
end
section
namespace Go.Proofs.Ytihbalbcocfnfaa.P
open Go.RowKit Go.Proofs.YtihbalbcocfnfaaW.PrintWords Go.Proofs.YtihbalbcocfnfaaW.PrintLast Go.Proofs.YtihbalbcocfnfaaW.PrintMore
attribute [local go_sem] max2_int min2_int max_two min_two max_three min_three max_four min_four
end Go.Proofs.Ytihbalbcocfnfaa.P
end
section
namespace Go.Proofs.Ytihbalbcocfnfaa.P
open Go.RowKit Go.Proofs.YtihbalbcocfnfaaW.PrintWords Go.Proofs.YtihbalbcocfnfaaW.PrintLast Go.Proofs.YtihbalbcocfnfaaW.PrintMore
attribute [local go_sem] max2_int min2_int max_two min_two max_three min_three max_four min_four
end Go.Proofs.Ytihbalbcocfnfaa.P
end
section
namespace Go.Proofs.Ytihbalbcocfnfaa.P
open Go.RowKit Go.Proofs.YtihbalbcocfnfaaW.PrintWords Go.Proofs.YtihbalbcocfnfaaW.PrintLast Go.Proofs.YtihbalbcocfnfaaW.PrintMore
attribute [local go_sem] max2_int min2_int max_two min_two max_three min_three max_four min_four
end Go.Proofs.Ytihbalbcocfnfaa.P
end
section
namespace Go.Proofs.Ytihbalbcocfnfaa.P
open Go.RowKit Go.Proofs.YtihbalbcocfnfaaW.PrintWords Go.Proofs.YtihbalbcocfnfaaW.PrintLast Go.Proofs.YtihbalbcocfnfaaW.PrintMore
attribute [local go_sem] max2_int min2_int max_two min_two max_three min_three max_four min_four
end Go.Proofs.Ytihbalbcocfnfaa.P
end
section
set_option linter.unusedVariables false
set_option linter.unusedSimpArgs false
namespace Go.Proofs.Ytihbalbcocfnfaa.P
open Go.RowKit Go.Proofs.YtihbalbcocfnfaaW.PrintWords Go.Proofs.YtihbalbcocfnfaaW.PrintLast
theorem mtext_loop : ∀ (n : Nat) (s : ByteArray), n + s.size ≤ 4611686018427387904 → ∃ t, Ev (fun k => laws_markText.l0 k (n : Int) s) t := by
  intro n
  induction n using Nat.strongRecOn with
  | _ n ih =>
    intro s hs
    by_cases h : n = 0
    · subst h
      exact ⟨_, Ev.step (fun k => by rw [laws_markText.l0]) (Ev_neg (by omega) (Ev_pos (by omega) (Ev.now _)))⟩
    · have hq : Int.tdiv (n : Int) 10 = ((n / 10 : Nat) : Int) := by
        rw [Int.tdiv_eq_ediv_of_nonneg (by omega)]
        omega
      have hsz : (strOfNums [(wrap64 (48 + (Int.tmod (n : Int) 10))) % 256] ++ s).size = 1 + s.size := by
        rw [ByteArray.size_append, strOfNums_size]
        rfl
      obtain ⟨t, ht⟩ := ih (n / 10) (by omega) (strOfNums [(wrap64 (48 + (Int.tmod (n : Int) 10))) % 256] ++ s) (by rw [hsz]; omega)
      refine ⟨t, Ev.step (fun k => by rw [laws_markText.l0]) (Ev_pos (by omega) ?_)⟩
      refine Ev_const rfl ?_
      refine Ev_pos (by rw [strOfNums_size]; simp; omega) ?_
      rw [hq, wid (by omega) (by omega)]
      exact ht
theorem mtext_some (n : Nat) (hn : n ≤ 4611686018427387904) : ∃ t, Ev (fun k => laws_markText.f k (n : Int)) t := by
  unfold laws_markText.f
  by_cases h : n = 0
  · subst h
    exact ⟨_, Ev_pos (by omega) (Ev.now _)⟩
  · obtain ⟨t, ht⟩ := mtext_loop n (⟨#[]⟩ : ByteArray) (by simp [ByteArray.size]; exact hn)
    exact ⟨t, Ev_neg (by omega) ht⟩
noncomputable def mtx (n : Nat) : ByteArray := @Classical.epsilon ByteArray ⟨⟨#[]⟩⟩ (fun t => Ev (fun k => laws_markText.f k (n : Int)) t)
theorem mtx_tells (n : Nat) (hn : n ≤ 4611686018427387904) : Ev (fun k => laws_markText.f k (n : Int)) (mtx n) := @Classical.epsilon_spec _ _ (mtext_some n hn)
noncomputable def mks : Nat → Nat → List ByteArray
  | _, 0 => []
  | n, d + 1 => mtx n :: mks (n + 1) d
theorem mark_loop (L : Nat) (hL : L ≤ 1000000000) : ∀ (d i n : Nat) (x : List ByteArray), L - i = d → i ≤ L → x.length = L → n + d ≤ 4611686018427387904 →
    Ev (fun k => laws_markStringS.l0 k x (n : Int) (i : Int)) (((n + d : Nat) : Int), x.take i ++ mks n d) := by
  intro d
  induction d with
  | zero =>
    intro i n x hd hi hx hn
    refine Ev.step (fun k => by rw [laws_markStringS.l0]) (Ev_neg (by omega) (Ev_val ?_))
    rw [mks, List.append_nil, List.take_of_length_le (by omega)]
    rfl
  | succ d ih =>
    intro i n x hd hi hx hn
    refine Ev.step (fun k => by rw [laws_markStringS.l0]) (Ev_pos (by omega) ?_)
    refine Ev_call (mtx_tells n (by omega)) ?_
    refine Ev_pos (by omega) ?_
    rw [wsucc' (i := n) (by omega), wsucc' (i := i) (by omega), Int.toNat_natCast]
    refine Ev_eq (ih (i + 1) (n + 1) (x.set i (mtx n)) (by omega) (by omega) (by rw [List.length_set]; exact hx) (by omega)) ?_
    rw [mks, List.take_succ_eq_append_getElem (by rw [List.length_set]; omega), List.getElem_set_self, List.take_set_of_le (by omega), List.append_assoc, show n + 1 + d = n + (d + 1) by omega]
    rfl
theorem mark_tells (x : List ByteArray) (n : Nat) (hx : x.length ≤ 1000000000) (hn : n ≤ 4611686017427387904) : Ev (fun k => laws_markStringS.f k x (n : Int)) (((n + x.length : Nat) : Int), mks n x.length) := by
  unfold laws_markStringS.f
  have h := mark_loop x.length hx _ 0 n x rfl (by omega) rfl (by omega)
  rw [List.take_zero, List.nil_append, Nat.sub_zero] at h
  exact h
def mis : Nat → Nat → List Int
  | _, 0 => []
  | n, d + 1 => (n : Int) :: mis (n + 1) d
theorem mis_length : ∀ (d n : Nat), (mis n d).length = d
  | 0, _ => rfl
  | d + 1, n => by rw [mis, List.length_cons, mis_length d (n + 1)]
theorem marki_loop (L : Nat) (hL : L ≤ 1000000000) : ∀ (d i n : Nat) (x : List Int), L - i = d → i ≤ L → x.length = L → n + d ≤ 4611686018427387904 →
    Ev (fun k => laws_markInt64S.l0 k x (n : Int) (i : Int)) (((n + d : Nat) : Int), x.take i ++ mis n d) := by
  intro d
  induction d with
  | zero =>
    intro i n x hd hi hx hn
    refine Ev.step (fun k => by rw [laws_markInt64S.l0]) (Ev_neg (by omega) (Ev_val ?_))
    rw [mis, List.append_nil, List.take_of_length_le (by omega)]
    rfl
  | succ d ih =>
    intro i n x hd hi hx hn
    refine Ev.step (fun k => by rw [laws_markInt64S.l0]) (Ev_pos (by omega) (Ev_pos (by omega) ?_))
    rw [wsucc' (i := n) (by omega), wsucc' (i := i) (by omega), Int.toNat_natCast]
    refine Ev_eq (ih (i + 1) (n + 1) (x.set i (n : Int)) (by omega) (by omega) (by rw [List.length_set]; exact hx) (by omega)) ?_
    rw [mis, List.take_succ_eq_append_getElem (by rw [List.length_set]; omega), List.getElem_set_self, List.take_set_of_le (by omega), List.append_assoc, show n + 1 + d = n + (d + 1) by omega]
    rfl
theorem marki_tells (x : List Int) (n : Nat) (hx : x.length ≤ 1000000000) (hn : n ≤ 4611686017427387904) : Ev (fun k => laws_markInt64S.f k x (n : Int)) (((n + x.length : Nat) : Int), mis n x.length) := by
  unfold laws_markInt64S.f
  have h := marki_loop x.length hx _ 0 n x rfl (by omega) rfl (by omega)
  rw [List.take_zero, List.nil_append, Nat.sub_zero] at h
  exact h
theorem heldi_loop : ∀ (d n : Nat) (p : List Int), p.length + d ≤ 1000000000 → n + d ≤ 4611686018427387904 → Ev (fun k => laws_heldInt64S.l0 k (p ++ mis n d) (n : Int) (p.length : Int)) ((n + d : Nat) : Int) := by
  intro d
  induction d with
  | zero =>
    intro n p hp hn
    refine Ev.step (fun k => by rw [laws_heldInt64S.l0]) ?_
    exact Ev_neg (by rw [mis, List.append_nil]; omega) (Ev.now _)
  | succ d ih =>
    intro n p hp hn
    have hl : (p ++ mis n (d + 1)).length = p.length + (d + 1) := by rw [List.length_append, mis_length]
    refine Ev.step (fun k => by rw [laws_heldInt64S.l0]) (Ev_pos (by omega) (Ev_pos (by omega) ?_))
    have hg : rd (p ++ mis n (d + 1)) (p.length : Int) = (n : Int) := by
      rw [rdi_nat (by omega), List.getElem_append_right (by omega)]
      simp [mis]
    rw [hg, wsucc' (i := n) (by omega), wsucc' (i := p.length) (by omega)]
    refine Ev_pos rfl ?_
    have h := ih (n + 1) (p ++ [(n : Int)]) (by simp; omega) (by omega)
    rw [List.append_assoc, List.length_append, List.length_singleton] at h
    rw [show n + (d + 1) = n + 1 + d by omega, mis]
    exact h
theorem heldi_tells (n d : Nat) (hd : d ≤ 1000000000) (hn : n ≤ 4611686017427387904) : Ev (fun k => laws_heldInt64S.f k (mis n d) (n : Int)) ((n + d : Nat) : Int) := by
  unfold laws_heldInt64S.f
  exact heldi_loop d n [] (by simp; exact hd) (by omega)
theorem eqi_loop (xs : List Int) (hl : xs.length ≤ 9223372036854775807) : ∀ (d i : Nat), xs.length - i = d → i ≤ xs.length → Ev (fun k => laws_eqInt64S.l0 k xs xs (i : Int)) true := by
  intro d
  induction d with
  | zero => intro i hd hi; exact Ev.step (fun k => by rw [laws_eqInt64S.l0]) (Ev_neg (by omega) (Ev.now _))
  | succ d ih =>
    intro i hd hi
    have hlt : i < xs.length := by omega
    refine Ev.step (fun k => by rw [laws_eqInt64S.l0]) (Ev_pos (by omega) (Ev_pos (by omega) (Ev_pos (by omega) (Ev_pos rfl ?_))))
    rw [wsucc hlt hl]
    exact ih (i + 1) (by omega) (by omega)
theorem eqi_tells (xs : List Int) (hl : xs.length ≤ 9223372036854775807) : Ev (fun k => laws_eqInt64S.f k xs xs) true := by
  unfold laws_eqInt64S.f
  exact Ev_pos rfl (eqi_loop xs hl _ 0 rfl (by omega))
end Go.Proofs.Ytihbalbcocfnfaa.P
end
section
set_option linter.unusedVariables false
set_option linter.unusedSimpArgs false
namespace Go.Proofs.Ytihbalbcocfnfaa.P
open Go.RowKit Go.Proofs.YtihbalbcocfnfaaW.PrintWords Go.Proofs.YtihbalbcocfnfaaW.PrintLast
def MP (a b : List ByteArray) : Int × List Int × List Int := if LF2 a b = 0 then (0, (mt a b 0 0).1, (mt a b 0 0).2) else (LF2 a b, [], [])
theorem MP_len (a b : List ByteArray) : (MP a b).2.1.length ≤ 100 ∧ (MP a b).2.2.length ≤ 100 := by
  unfold MP
  split
  · rename_i h
    have h1 := LF_zero (LF2_zero h).1
    have hl := mt_len _ a b 0 0 rfl
    have hle := lcs_le a b
    exact ⟨by show (mt a b 0 0).1.length ≤ _; omega, by show (mt a b 0 0).2.length ≤ _; omega⟩
  · exact ⟨by simp, by simp⟩
theorem smp_tells {a b : List ByteArray} (ha : Small a) (hb : Small b) : Ev (fun k => spec_MatchLines.f k a b) (MP a b) := by
  unfold spec_MatchLines.f MP
  refine Ev_call (asked_tells ha hb) (Ev_if (fun h => ?_) (fun h => ?_))
  · rw [if_pos h]
    have h1 := LF_zero (LF2_zero h).1
    have h2 := LF_zero (LF2_zero h).2
    exact Ev_call (spec_l2Match_tells a b (by omega) (by omega)) (Ev.now _)
  · rw [if_neg h]
    exact Ev.now _
theorem imp_tells {a b : List ByteArray} (ha : Small a) (hb : Small b) : Ev (fun k => impl_MatchLines.f k a b) (MP a b) := by
  unfold impl_MatchLines.f MP
  refine Ev_call (both_tells ha hb) (Ev_if (fun h => ?_) (fun h => ?_))
  · rw [if_pos h]
    have h1 := LF_zero (LF2_zero h).1
    have h2 := LF_zero (LF2_zero h).2
    exact Ev_call (impl_match_tells a b (by omega) (by omega)) (Ev.now _)
  · rw [if_neg h]
    exact Ev.now _
theorem eqp_tells (c : Int) (x y : List Int) (hx : x.length ≤ 1000000) (hy : y.length ≤ 1000000) : Ev (fun k => laws_eqPairsResult.f k c x y c x y) true := by
  unfold laws_eqPairsResult.f
  exact Ev_pos rfl (Ev_call (eqi_tells x (by omega)) (Ev_pos rfl (Ev_call (eqi_tells y (by omega)) (Ev_pos rfl (Ev.now _)))))
theorem markp_tells (c : Int) (x y : List Int) (n : Nat) (hx : x.length ≤ 1000000) (hy : y.length ≤ 1000000) (hn : n ≤ 1000000) :
    Ev (fun k => laws_markPairsResult.f k c x y (n : Int)) (((n + x.length + y.length : Nat) : Int), mis n x.length, mis (n + x.length) y.length) := by
  unfold laws_markPairsResult.f
  exact Ev_call (marki_tells x n (by omega) (by omega)) (Ev_call (marki_tells y (n + x.length) (by omega) (by omega)) (Ev.now _))
theorem heldp_tells (c : Int) (p q : Nat) (n : Nat) (hx : p ≤ 1000000) (hy : q ≤ 1000000) (hn : n ≤ 1000000) :
    Ev (fun k => laws_heldPairsResult.f k c (mis n p) (mis (n + p) q) (n : Int)) ((n + p + q : Nat) : Int) := by
  unfold laws_heldPairsResult.f
  exact Ev_call (heldi_tells n p (by omega) (by omega)) (Ev_neg (by omega) (Ev_call (heldi_tells (n + p) q (by omega) (by omega)) (Ev_neg (by omega) (Ev.now _))))
end Go.Proofs.Ytihbalbcocfnfaa.P
end
section
set_option linter.unusedVariables false
namespace Go.Proofs.Ytihbalbcocfnfaa.P.VFnExactMatchLines
open Go.RowKit Go.Proofs.YtihbalbcocfnfaaW.PrintWords Go.Proofs.YtihbalbcocfnfaaW.PrintLast
theorem behind (a b : List ByteArray) (ha : Small a) (hb : Small b) (c : Int) (x y : List Int) (h : MP a b = (c, x, y)) : Ev (fun k => laws_FnExactMatchLines.j0 k a b false c x y c x y) true := by
  have hl := MP_len a b
  rw [h] at hl
  obtain ⟨h1, h2⟩ := hl
  have h1 : x.length ≤ 100 := h1
  have h2 : y.length ≤ 100 := h2
  refine Ev.step (fun k => by rw [laws_FnExactMatchLines.j0]) (Ev_neg (by simp) ?_)
  refine Ev_call (markp_tells c x y 1 (by omega) (by omega) (by omega)) ?_
  have hh := heldp_tells c x.length y.length 1 (by omega) (by omega) (by omega)
  refine Ev_call hh (Ev_neg (by omega) (Ev_pos rfl ?_))
  refine Ev_call ha.to (Ev_call hb.to (Ev_call (imp_tells ha hb) ?_))
  rw [h]
  exact Ev_call (eqp_tells c x y (by omega) (by omega)) (Ev_pos rfl (Ev_call hh (Ev_neg (by omega) (Ev_pos rfl (Ev.now _)))))
theorem proof : UFnExactMatchLines.Pure := by
  intro l0 l1 g0 g1
  apply Ev.rounds
  unfold laws_FnExactMatchLines.f
  refine guard_lines l0 g0 1048576 (by omega) (by omega) (fun r h0 h1 hs => guard_lines l1 g1 r (by omega) (by omega) (fun r2 h2 h3 ht => ?_))
  obtain ⟨c, x, y, hm⟩ : ∃ c x y, MP l0 l1 = (c, x, y) := ⟨_, _, _, rfl⟩
  have hl := MP_len l0 l1
  rw [hm] at hl
  obtain ⟨h1, h2⟩ := hl
  have h1 : x.length ≤ 100 := h1
  have h2 : y.length ≤ 100 := h2
  have s1 := smp_tells hs ht
  have s2 := imp_tells hs ht
  rw [hm] at s1 s2
  have n1 := hs.2.1
  have n2 := ht.2.1
  refine Ev_call hs.to (Ev_call ht.to (Ev_call s1 (Ev_call hs.to (Ev_call ht.to (Ev_call s2 ?_)))))
  have e := eqp_tells c x y (by omega) (by omega)
  refine Ev_call e (Ev_pos rfl (Ev_call hs.to (Ev_call hs.eq (Ev_pos rfl (Ev_call ht.to (Ev_call ht.eq (Ev_pos rfl ?_)))))))
  refine Ev_call (mark_tells l0 1 (by omega) (by omega)) (Ev_call (mark_tells l1 (1 + l0.length) (by omega) (by omega)) (Ev_neg (by omega) (Ev_call e ?_)))
  exact behind l0 l1 hs ht c x y hm
end Go.Proofs.Ytihbalbcocfnfaa.P.VFnExactMatchLines
end
section
set_option linter.unusedVariables false
set_option linter.unusedSimpArgs false
namespace Go.Proofs.Ytihbalbcocfnfaa.O
open Go.RowKit Go.ChangeShapes Go.WideShapes Go.Proofs.YtihbalbcocfnfaaW.PrintWords
def Opens {α : Type} (P : Program) (t : TypeId) (d : Kd α) (G : α → Prop) : Prop :=
  P.cellsOf t = d.sz ∧ ∀ {H : Type} {enc : TypeId × Value → H} {w : World} {base : Nat} {spare : Nat → Bool} {held : Bool} {fuel : Nat} {cs : List Value} {x : DataW H × List MemPlace},
    DataW.trod enc P w base spare held fuel t cs = some x → ∃ a, d.K w a cs ∧ G a
theorem list_of {α : Type} {Q : Nat → α → Prop} : ∀ n : Nat, (∀ j, j < n → ∃ p, Q j p) → ∃ xs : List α, xs.length = n ∧ ∀ j p, xs[j]? = some p → Q j p
  | 0, _ => ⟨[], rfl, fun j p h => by simp at h⟩
  | n + 1, h => by
    obtain ⟨xs, hl, hx⟩ := list_of n (fun j hj => h j (Nat.lt_succ_of_lt hj))
    obtain ⟨p, hp⟩ := h n (Nat.lt_succ_self n)
    refine ⟨xs ++ [p], by simp [hl], fun j q hq => ?_⟩
    rcases Nat.lt_or_ge j xs.length with hj | hj
    · rw [List.getElem?_append_left hj] at hq
      exact hx j q hq
    · have hj' : j = xs.length := by
        have := (List.getElem?_eq_some_iff.1 hq).1
        rw [List.length_append, List.length_singleton] at this
        omega
      subst hj'
      have e : p = q := by simpa using hq
      subst e
      rw [hl]
      exact hp
theorem cells_get {w : World} {base : Nat} {a : Addr} {n : Nat} {cs : List Value} (h : w.cells? base a n = some cs) : cs.length = n ∧ ∀ i u, cs[i]? = some u → w.cell? (a.add i) = some u := by
  unfold World.cells? at h
  split at h
  · have hl := mapM_some_length h
    rw [List.length_range] at hl
    refine ⟨hl, fun i u hu => ?_⟩
    have hi : i < n := by
      have := (List.getElem?_eq_some_iff.1 hu).1
      omega
    have := mapM_some_get h i i (by simp [hi])
    rw [this, hu]
  · simp at h
theorem opens_string {P : Program} {t : TypeId} (ht : P.underlying t = some .string) (hc : P.cellsOf t = 1) : Opens P t Kd.string (fun s => s.size ≤ 9223372036854775807) :=
  ⟨hc, fun h => by
    obtain ⟨s, rfl, _, hw⟩ := DataW.trod_string ht h
    exact ⟨s, rfl, hw⟩⟩
theorem opens_slice {α : Type} {P : Program} {t e : TypeId} {d : Kd α} {G : α → Prop} (ht : P.underlying t = some (.slice e)) (hc : P.cellsOf t = 1) (he : Opens P e d G) :
    Opens P t (Kd.slice e d) (fun l => l.length ≤ 9223372036854775807 ∧ ∀ x ∈ l, G x) := by
  refine ⟨hc, fun {H enc w base spare held fuel cs x} h => ?_⟩
  rcases DataW.trod_slice ht h with ⟨rfl, _⟩ | ⟨a, len, cap, elems, rest, n, _, rfl, _, hb, hl, hm, hlen, hel, _, _⟩
  · exact ⟨[], ⟨none, 0, rfl, Nat.le_refl _, rfl, by simp, fun hp => absurd hp (by simp)⟩, by simp, by simp⟩
  · have hcap : cap ≤ 9223372036854775807 := hm
    obtain ⟨xs, hxl, hx⟩ := list_of (Q := fun j p => (∃ c : List Value, c.length = d.sz ∧ d.K w p c ∧ ∀ i u, c[i]? = some u → w.cell? (a.add (j * d.sz + i)) = some u) ∧ G p) len (fun j hj => by
      have h1 := hel j hj
      rw [List.getElem?_eq_getElem (by omega), Option.bind_eq_some_iff] at h1
      obtain ⟨cs', hcs, hy⟩ := h1
      obtain ⟨p, hK, hG⟩ := he.2 hy
      obtain ⟨hcl, hcell⟩ := cells_get hcs
      refine ⟨p, ⟨cs', by rw [hcl, he.1], hK, fun i u hu => ?_⟩, hG⟩
      have := hcell i u hu
      rw [he.1] at this
      rw [← Addr.add_add]
      exact this)
    have hlen2 : xs.length ≤ cap := by omega
    refine ⟨xs, ⟨some a, cap, ?_, hlen2, rfl, by omega, fun _ => ⟨a, rfl, fun j p hj => (hx j p hj).1⟩⟩, by omega, fun y hy => ?_⟩
    · rw [hxl]
    · obtain ⟨j, hj⟩ := List.getElem?_of_mem hy
      exact (hx j y hj).2
end Go.Proofs.Ytihbalbcocfnfaa.O
end
namespace Go.Proofs.Ytihbalbcocfnfaa.fnExactMatchLines
open Go.ChangeShapes Go.WideShapes Go.ChangeAt Go.RowKit
open Go.ChangeMaps (open_string shut_string)
open Go.Proofs.Ytihbalbcocfnfaa.P Go.Proofs.Ytihbalbcocfnfaa.P.UFnExactMatchLines Go.Proofs.YtihbalbcocfnfaaW.PrintWords
set_option linter.unusedVariables false
theorem own : ownKnob Try.prog.godebug = none := by kernel_rfl
theorem laidOut : laidOutB Try.prog = true := by kernel_rfl
set_option maxRecDepth 100000 in
theorem lifted (os : Os) (started : os.Started) (H : Type) (enc : TypeId × Value → H) :
    ReturnsInHanded {} Try.checked os 7 .any (Rows.fnExactMatchLinesSpec.pre6 enc Try.prog Try.f7 Rows.fnExactMatchLinesRow.domain false) (Rows.fnExactMatchLinesSpec.post enc Try.prog Try.f7 false true false false) := by
  refine returnsInHanded_of_change_sized (C := Try.checked) own started (by kernel_rfl) Try.func7
    (ChangeSpec.witness6 (enc := enc) (C := Try.checked) false ⟨#[], #[.slice none 0 0, .slice none 0 0], []⟩ 8 (by kernel_rfl) (by kernel_rfl) (by kernel_rfl) (by kernel_rfl)) ?_
  intro W base args ds gs before hval0 hW hcnd hsz0 _
  have hval : ∀ (j : Nat) t v, Try.f7.params[j]? = some t → args[j]? = some v → Value.okWide Try.prog W .any base t v := hval0
  have hW' := hW
  obtain ⟨p, q, hA0, hV, rfl, hfz, hnd⟩ := hW
  have hA : DataW.TrodAll enc Try.prog W 0 (fun _ => true) true Try.f7.params.toList args.toList ds p := hA0
  rw [Try.params7] at hA hval
  obtain ⟨v0, vs0, d0, ds0, p0, q0, hargs, rfl, rfl, h0, r0⟩ := trodAll_cons hA
  obtain ⟨v1, vs1, d1, ds1, p1, q1, rfl, rfl, rfl, h1, r1⟩ := trodAll_cons r0
  obtain ⟨rfl, rfl, rfl⟩ := trodAll_nil r1
  obtain rfl : args = #[v0, v1] := by cases args; simp_all
  obtain ⟨rfl, rfl⟩ := trodVars_none hV
  have k0_ := h0
  have lt0 : ∀ x ∈ p0, x.block < W.heap.size := by obtain ⟨m, hm⟩ := k0_; exact DataW.trod_lt m _ _ _ hm
  obtain ⟨b0, len0, cap0, rfl⟩ := okWide_slice Try.underlying22 (hval 0 22 v0 rfl rfl)
  obtain ⟨fuel0, hf0⟩ := h0
  obtain ⟨l0, ⟨A0, c0, hcs0, hc0, hr0⟩, g0⟩ := (O.opens_slice Try.underlying22 (by kernel_rfl) (O.opens_string Try.underlying9 (by kernel_rfl))).2 hf0
  simp [Value.cells] at hcs0
  obtain ⟨rfl, rfl, rfl⟩ := hcs0
  have k1_ := h1
  have lt1 : ∀ x ∈ p1, x.block < W.heap.size := by obtain ⟨m, hm⟩ := k1_; exact DataW.trod_lt m _ _ _ hm
  obtain ⟨b1, len1, cap1, rfl⟩ := okWide_slice Try.underlying22 (hval 1 22 v1 rfl rfl)
  obtain ⟨fuel1, hf1⟩ := h1
  obtain ⟨l1, ⟨A1, c1, hcs1, hc1, hr1⟩, g1⟩ := (O.opens_slice Try.underlying22 (by kernel_rfl) (O.opens_string Try.underlying9 (by kernel_rfl))).2 hf1
  simp [Value.cells] at hcs1
  obtain ⟨rfl, rfl, rfl⟩ := hcs1
  clear hA0 hval0 hsz0
  obtain ⟨k, h⟩ := VFnExactMatchLines.proof l0 l1 g0 g1
  refine (laws_FnExactMatchLines.calls k _ _ l0 _ _ l1 true W hr0 hc0 hr1 hc1 h rfl).mono fun e W' hend => ?_
  obtain ⟨rfl, hbel⟩ := hend
  have bel : Below W.heap.size W W' := hbel
  exact ⟨_, rfl, _, _, _, [], _, [], hW', trodAll_mk1 (shut_bool Try.underlying4 _), (trodAll_cons_mk (Below.trod laidOut (by kernel_rfl) (of_decide_eq_true (by kernel_rfl)) k0_ bel lt0) (trodAll_cons_mk (Below.trod laidOut (by kernel_rfl) (of_decide_eq_true (by kernel_rfl)) k1_ bel lt1) trodAll_mk0)), rfl, bel.frame _, fun h => by cases h⟩
theorem over : Rows.fnExactMatchLinesRow.holds Try.pinned (OpenSpec.ofChange Rows.fnExactMatchLinesSpec) :=
  OpenClaim.holds_of_wide 7 Try.f7 rfl rfl rfl rfl rfl rfl rfl ⟨rfl, rfl, rfl, rfl, rfl⟩ rfl rfl rfl rfl rfl (by kernel_rfl) Try.func7 (by kernel_rfl)
    (of_decide_eq_true (by kernel_rfl)) (by unfold Func.isWrapper; first | (rw [if_pos (by decide +kernel)]; kernel_rfl) | (rw [if_neg (by decide +kernel)]; exact ⟨rfl, rfl⟩))
    (fun os started H enc _ => lifted os started H enc)
theorem proved : Rows.FnExactMatchLinesSaid := over
#print axioms proved
end Go.Proofs.Ytihbalbcocfnfaa.fnExactMatchLines
namespace Go.Proofs.Ytihbalbcocfnfaa
theorem fnExactMatchLines_holds : Rows.FnExactMatchLinesSaid := fnExactMatchLines.proved
end Go.Proofs.Ytihbalbcocfnfaa
