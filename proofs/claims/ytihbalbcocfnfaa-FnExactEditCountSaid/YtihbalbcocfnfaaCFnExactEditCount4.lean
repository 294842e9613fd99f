/- FnExactEditCount: the law of the program holds at every input: the Go function returns true, and its arguments read afterwards as before.
Conditions: none beyond the given statement's own (what can be read as data, of a size that memory bears). -/
import Derived.Test.YtihbalbcocfnfaaCFnExactEditCount1
import Derived.Test.YtihbalbcocfnfaaCFnExactEditCount2
import Derived.Test.YtihbalbcocfnfaaCFnExactEditCount3
import Derived.Test.YtihbalbcocfnfaaWWords
import Derived.SliceStrings
import Derived.DataReads
import Derived.DataElems
import Derived.Test.YtihbalbcocfnfaaRows
import Derived.WalkKit
import Derived.ProofKit
import Derived.OpenShut
import Derived.ShutString
import Derived.ChangeOld
import Derived.Below
import Derived.SizedLaws
import Derived.Carry
namespace Go.Proofs.Ytihbalbcocfnfaa.P
open Go.RowKit Go.Proofs.YtihbalbcocfnfaaW.PrintWords Go.Proofs.YtihbalbcocfnfaaW.PrintLast Go.Proofs.YtihbalbcocfnfaaW.PrintMore
attribute [local go_sem] max2_int min2_int max_two min_two max_three min_three max_four min_four   -- for this text's walks alone
set_option linter.unusedVariables false
set_option linter.unusedSimpArgs false

/-! ### spec_CommonOf: function 19 -/
def spec_CommonOf.f (k : Nat) (l0 : List ByteArray) (l1 : List ByteArray) : Option (Int × Int) := (spec_l2Asked.f k l0 l1).bind fun t180 => (if t180 = 0 then ((spec_l2Table.f k l0 l1).bind fun t181 => (if 0 < (t181.length : Int) then (if 0 < ((rd_L4 t181 0).length : Int) then (some (0, rd (rd_L4 t181 0) 0)) else (none)) else (none))) else (some (t180, 0)))
theorem spec_CommonOf.mono : ∀ a0 a1 k, LeO (spec_CommonOf.f k a0 a1) (spec_CommonOf.f (k + 1) a0 a1) := by
  intro a0 a1 k
  unfold spec_CommonOf.f
  repeat' first
      | (with_reducible exact spec_l2Asked.mono _ _ _)
      | (with_reducible exact spec_l2Table.mono _ _ _)
      | (with_reducible exact LeO.refl _)
      | (with_reducible exact LeO.none _)
      | (with_reducible refine LeO.ite ?_ ?_)
      | (with_reducible refine LeO.bind ?_ (fun _ => ?_))
      | exact spec_l2Asked.mono _ _ _
      | exact spec_l2Table.mono _ _ _
      | exact LeO.none _
      | refine LeO.ite ?_ ?_
      | refine LeO.bind ?_ (fun _ => ?_)
set_option maxHeartbeats 8000000 in
set_option maxRecDepth 100000 in
theorem spec_CommonOf.calls (k : Nat) (A0 : Option Addr) (c0 : Nat) (l0 : List ByteArray) (A1 : Option Addr) (c1 : Nat) (l1 : List ByteArray) (r1 : Int) (r2 : Int) (w : World) (hr0 : Kd.C Kd.string w A0 l0.length l0) (hc0 : l0.length ≤ c0) (hr1 : Kd.C Kd.string w A1 l1.length l1) (hc1 : l1.length ≤ c1) (h : spec_CommonOf.f k l0 l1 = some (r1, r2)) :
    Calls Try.prog 19 #[.slice A0 l0.length c0, .slice A1 l1.length c1] w fun e w' => e = .returned (.agg #[.int .i64 r1, .int .i64 r2]) ∧ Below w.heap.size w w' := by
  have hu32 := Try.underlying32
  have HR0 := Aside0.mk hr0
  have HC0 := Aside0.mk hc0
  clear hr0 hc0
  have HR1 := Aside0.mk hr1
  have HC1 := Aside0.mk hc1
  clear hr1 hc1
  have HB := Aside0.mk (Below.refl w.heap.size w)
  have H : ((spec_l2Asked.f k l0 l1).bind fun t180 => (if t180 = 0 then ((spec_l2Table.f k l0 l1).bind fun t181 => (if 0 < (t181.length : Int) then (if 0 < ((rd_L4 t181 0).length : Int) then (some (0, rd (rd_L4 t181 0) 0)) else (none)) else (none))) else (some (t180, 0)))) = some (r1, r2) := h
  clear h
  replace H := Option.bind_eq_some_iff.mp H
  obtain ⟨t180, A30, H⟩ := H
  replace H : (if t180 = 0 then ((spec_l2Table.f k l0 l1).bind fun t181 => (if 0 < (t181.length : Int) then (if 0 < ((rd_L4 t181 0).length : Int) then (some (0, rd (rd_L4 t181 0) 0)) else (none)) else (none))) else (some (t180, 0))) = some (r1, r2) := H
  have A3 := Aside0.mk A30
  clear A30
  by_cases c4 : t180 = 0
  · rw [if_pos c4] at H
    have c4b0 : (t180 == 0) = true := beq_iff_eq.mpr c4
    have c4b1 : (t180 != 0) = false := bne_eq_false_iff_eq.mpr c4
    clear c4
    replace H := Option.bind_eq_some_iff.mp H
    obtain ⟨t181, A50, H⟩ := H
    replace H : (if 0 < (t181.length : Int) then (if 0 < ((rd_L4 t181 0).length : Int) then (some (0, rd (rd_L4 t181 0) 0)) else (none)) else (none)) = some (r1, r2) := H
    have A5 := Aside0.mk A50
    clear A50
    by_cases c6 : 0 < (t181.length : Int)
    · rw [if_pos c6] at H
      have c6b0 : decide (0 < (t181.length : Int)) = true := decide_eq_true c6
      have c6b1 : decide (0 < t181.length) = true := decide_eq_true (by omega)
      clear c6
      by_cases c7 : 0 < ((rd_L4 t181 0).length : Int)
      · rw [if_pos c7] at H
        have c7b0 : decide (0 < ((rd_L4 t181 0).length : Int)) = true := decide_eq_true c7
        have c7b1 : decide (0 < (rd_L4 t181 0).length) = true := decide_eq_true (by omega)
        clear c7
        simp only [Option.some.injEq, Prod.mk.injEq] at H
        obtain ⟨rfl, rfl⟩ := H
        go_enter Try.func19, Try.ntmps19
        go_wp2_with (first | ((with_reducible refine gate_dst (N := 4) rfl ?_); refine box_event ?hg (N := 4) ?hd (cs := #[.int .i64 0, .int .i64 0]) (t := 32) ?hr ?_; (case hd => rfl); (case hg => rfl); (case hr => first | (go_simp; done) | (go_simp; rfl)); intro gb179 hg w8 hbox hb; have n0_ := Aside0.mk (below_step (by repeat (first | (with_reducible first | exact HB.out | apply below_alloc | apply pw_below_drewN | apply below_drew1) | exact HB.out)) hb); have n1_ := Aside0.mk (hbox); have n2_ := Aside0.mk ((by rw [hg]; exact (below_size (by repeat (first | (with_reducible first | exact HB.out | apply below_alloc | apply pw_below_drewN | apply below_drew1) | exact HB.out))) : w.heap.size ≤ gb179)); have n3_ := Aside0.mk ((by rw [hg]; exact (below_size (by repeat (first | (with_reducible first | exact HB.out | apply below_alloc | apply pw_below_drewN | apply below_drew1) | exact HB.out))) : w.heap.size ≤ gb179)); clear HB; have HB := n0_; have BK179 := n1_; have GW179 := n2_; have GE179 := n3_; clear n0_ n1_ n2_ n3_; clear hb hbox hg) | ((with_reducible refine gate_callee (f := 55) rfl ?_); refine goesL_ (some 8) rfl rfl Try.func55 (by kernel_rfl) rfl #[.slice A0 l0.length c0, .slice A1 l1.length c1] rfl (by (try simp only [List.map_toArray, List.map_cons, List.map_nil]); first | done | rfl | (simp only [List.length_drop, List.length_take]; rfl)) ?_; (with_reducible refine (spec_l2Asked.calls k _ _ l0 _ _ l1 t180 _ ?side1 ?side2 ?side3 ?side4 A3.out).mono ?_); (case side1 => repeat (first | exact (Kd.C_below HR0.out HB.out) | (with_reducible refine Kd.C_alloc ?_ _) | (with_reducible refine Kd.C_drewN ?_ _) | (with_reducible refine Kd.C_drew ?_))); (case side2 => exact HC0.out); (case side3 => repeat (first | exact (Kd.C_below HR1.out HB.out) | (with_reducible refine Kd.C_alloc ?_ _) | (with_reducible refine Kd.C_drewN ?_ _) | (with_reducible refine Kd.C_drew ?_))); (case side4 => exact HC1.out); rintro e w' ⟨rfl, ⟨nd, rfl⟩⟩; refine ⟨_, rfl, ?_⟩; (try (rw [drewN_self w8]; generalize hq_ : World.drewN w8 _ = w8; have n0_ : Aside0 (w8.heap[gb179]? = some (.cells #[.int .i64 0, .int .i64 0] 32 (0, 0))) := ⟨by rw [← hq_]; exact (by (with_reducible repeat (first | refine blk_drewN ?_ _ | refine blk_drew ?_ | refine blk_alloc ?_ _)); exact BK179.out)⟩; have n1_ : Aside0 (Below w.heap.size w w8) := ⟨by rw [← hq_]; exact (by repeat (first | (with_reducible first | exact HB.out | apply below_alloc | apply pw_below_drewN | apply below_drew1 | refine below_set ?_ GE179.out) | exact HB.out))⟩; clear BK179 HB hq_; have BK179 := n0_; have HB := n1_; clear n0_ n1_))) | ((with_reducible refine gate_callee (f := 56) rfl ?_); refine goesL_ (some 15) rfl rfl Try.func56 (by kernel_rfl) rfl #[.slice A0 l0.length c0, .slice A1 l1.length c1] rfl (by (try simp only [List.map_toArray, List.map_cons, List.map_nil]); first | done | rfl | (simp only [List.length_drop, List.length_take]; rfl)) ?_; (with_reducible refine (spec_l2Table.calls k _ _ l0 _ _ l1 t181 _ ?side1 ?side2 ?side3 ?side4 A5.out).mono ?_); (case side1 => repeat (first | exact (Kd.C_below HR0.out HB.out) | (with_reducible refine Kd.C_alloc ?_ _) | (with_reducible refine Kd.C_drewN ?_ _) | (with_reducible refine Kd.C_drew ?_))); (case side2 => exact HC0.out); (case side3 => repeat (first | exact (Kd.C_below HR1.out HB.out) | (with_reducible refine Kd.C_alloc ?_ _) | (with_reducible refine Kd.C_drewN ?_ _) | (with_reducible refine Kd.C_drew ?_))); (case side4 => exact HC1.out); rintro e w9 ⟨v182, rfl, ho0, hb⟩; refine ⟨_, rfl, ?_⟩; have n0_ := Aside0.mk (Kd.S_lower ho0 (below_size (by repeat (first | (with_reducible first | exact HB.out | apply below_alloc | apply pw_below_drewN | apply below_drew1 | refine below_set ?_ GE179.out) | exact HB.out)))); have n1_ := Aside0.mk (blk_below (g := gb179) (o := .cells #[.int .i64 0, .int .i64 0] 32 (0, 0)) (by (with_reducible repeat (first | refine blk_drewN ?_ _ | refine blk_drew ?_ | refine blk_alloc ?_ _)); exact BK179.out) hb); have n2_ := Aside0.mk (below_step (by repeat (first | (with_reducible first | exact HB.out | apply below_alloc | apply pw_below_drewN | apply below_drew1 | refine below_set ?_ GE179.out) | exact HB.out)) hb); clear BK179; clear HB; have HO183 := n0_; have BK179 := n1_; have HB := n2_; clear n0_ n1_ n2_; (try clear hb); (try clear hb2); (try clear hk); (try clear hi); (try clear ho0); obtain ⟨Ao10, co10, eo10⟩ := Kd.S_slice HO183.out; subst eo10; have p184 : 0 ≤ (0 : Int) := (by omega); have q184 : 0 < (t181.length : Int) := of_decide_eq_true (by first | (with_reducible assumption) | assumption); obtain ⟨ad184, A184_0, c184_0, e184, hx184_0, hl184_0, hi184_0⟩ := at_L4 (Kd.S_reads' HO183.out).2.2 0 p184 q184; cases e184; obtain ⟨ce184, hce184, hMe184, hcc184⟩ := Kd.S_get HO183.out [] 0 p184 (by first | exact q184 | exact of_decide_eq_true (by first | (with_reducible assumption) | assumption) | (have e_ := (Kd.S_reads' HO183.out).1; omega)); obtain ⟨ve184_0, rfl, ge184_0⟩ := hMe184; have hv184_0 := hcc184 0 _ rfl; rw [Nat.add_zero, show ((Kd.slice 2 (Kd.int .i64))).sz = 1 from rfl, Nat.mul_one] at hv184_0; replace hv184_0 := Option.some.inj (hv184_0.symm.trans hx184_0); rw [hv184_0] at ge184_0; have HL184_0 := Aside0.mk (show Kd.R (Kd.int .i64) 2 _ _ _ _ (rd_L4 t181 0) from ge184_0); clear hv184_0 ge184_0; clear hcc184 hce184; have qi184 : (0 < t181.length) = True := eq_true (by omega); (try rw [show ((0 : Int)).toNat = 0 from rfl] at hx184_0); (try rw [Addr.add_zero'] at hx184_0); have HR184_0 := Aside0.mk hi184_0; have HC184_0 := Aside0.mk hl184_0; clear hi184_0 hl184_0; replace p184 := eq_true p184; replace q184 := eq_true q184; have p185 : 0 ≤ (0 : Int) := (by omega); have q185 : 0 < ((rd_L4 t181 0).length : Int) := of_decide_eq_true (by first | (with_reducible assumption) | assumption); obtain ⟨ad185, e185, hx185_0⟩ := Kd.at_int (by repeat (first | (with_reducible exact HR184_0.out) | (with_reducible refine Kd.C_alloc ?_ _) | (with_reducible refine Kd.C_drewN ?_ _) | (with_reducible refine Kd.C_drew ?_) | exact HR184_0.out)) 0 p185 q185; cases e185; have qi185 : (0 < (rd_L4 t181 0).length) = True := eq_true (by omega); (try rw [show ((0 : Int)).toNat = 0 from rfl] at hx185_0); (try rw [Addr.add_zero'] at hx185_0); replace p185 := eq_true p185; replace q185 := eq_true q185; have hcz11_0 : w9.cell? ⟨gb179, 0, none⟩ = some (.int .i64 0) := (blk_cell BK179.out 0).trans rfl; have hcz11_1 : w9.cell? ⟨gb179, 1, none⟩ = some (.int .i64 0) := (blk_cell BK179.out 1).trans rfl; have hfz11_0 := blk_frozen BK179.out 0; have hfz11_1 := blk_frozen BK179.out 1))
        refine bodyPost_ret (results_cell_row rfl _ _ gb179 32 #[.int .i64 0, .int .i64 (rd (rd_L4 t181 0) 0)] (0, 0) _ rfl (by (with_reducible repeat (first | refine blk_drewN ?_ _ | refine blk_drew ?_ | refine blk_alloc ?_ _)); refine blk_put (cs := #[.int .i64 0, .int .i64 0]) ?_ 1 _ rfl; (with_reducible repeat (first | refine blk_drewN ?_ _ | refine blk_drew ?_ | refine blk_alloc ?_ _)); refine blk_put (cs := #[.int .i64 0, .int .i64 0]) ?_ 0 _ rfl; (with_reducible repeat (first | refine blk_drewN ?_ _ | refine blk_drew ?_ | refine blk_alloc ?_ _)); exact BK179.out) Try.underlying32 rfl (by kernel_rfl)) rfl ?_
        exact ⟨by first | rfl | (simp [errW_none, errW_some] <;> rfl) | (simp [*, errW_none, errW_some] <;> rfl), by repeat (first | (with_reducible first | exact HB.out | apply below_alloc | apply pw_below_drewN | apply below_drew1 | refine below_set ?_ GE179.out) | exact HB.out)⟩
      · rw [if_neg c7] at H
        exact absurd H (by simp)
    · rw [if_neg c6] at H
      exact absurd H (by simp)
  · rw [if_neg c4] at H
    have c4b0 : (t180 == 0) = false := beq_eq_false_iff_ne.mpr c4
    have c4b1 : (t180 != 0) = true := bne_iff_ne.mpr c4
    simp only [Option.some.injEq, Prod.mk.injEq] at H
    obtain ⟨rfl, rfl⟩ := H
    go_enter Try.func19, Try.ntmps19
    go_wp2_with (first | ((with_reducible refine gate_dst (N := 4) rfl ?_); refine box_event ?hg (N := 4) ?hd (cs := #[.int .i64 0, .int .i64 0]) (t := 32) ?hr ?_; (case hd => rfl); (case hg => rfl); (case hr => first | (go_simp; done) | (go_simp; rfl)); intro gb179 hg w12 hbox hb; have n0_ := Aside0.mk (below_step (by repeat (first | (with_reducible first | exact HB.out | apply below_alloc | apply pw_below_drewN | apply below_drew1) | exact HB.out)) hb); have n1_ := Aside0.mk (hbox); have n2_ := Aside0.mk ((by rw [hg]; exact (below_size (by repeat (first | (with_reducible first | exact HB.out | apply below_alloc | apply pw_below_drewN | apply below_drew1) | exact HB.out))) : w.heap.size ≤ gb179)); have n3_ := Aside0.mk ((by rw [hg]; exact (below_size (by repeat (first | (with_reducible first | exact HB.out | apply below_alloc | apply pw_below_drewN | apply below_drew1) | exact HB.out))) : w.heap.size ≤ gb179)); clear HB; have HB := n0_; have BK179 := n1_; have GW179 := n2_; have GE179 := n3_; clear n0_ n1_ n2_ n3_; clear hb hbox hg) | ((with_reducible refine gate_callee (f := 55) rfl ?_); refine goesL_ (some 8) rfl rfl Try.func55 (by kernel_rfl) rfl #[.slice A0 l0.length c0, .slice A1 l1.length c1] rfl (by (try simp only [List.map_toArray, List.map_cons, List.map_nil]); first | done | rfl | (simp only [List.length_drop, List.length_take]; rfl)) ?_; (with_reducible refine (spec_l2Asked.calls k _ _ l0 _ _ l1 t180 _ ?side1 ?side2 ?side3 ?side4 A3.out).mono ?_); (case side1 => repeat (first | exact (Kd.C_below HR0.out HB.out) | (with_reducible refine Kd.C_alloc ?_ _) | (with_reducible refine Kd.C_drewN ?_ _) | (with_reducible refine Kd.C_drew ?_))); (case side2 => exact HC0.out); (case side3 => repeat (first | exact (Kd.C_below HR1.out HB.out) | (with_reducible refine Kd.C_alloc ?_ _) | (with_reducible refine Kd.C_drewN ?_ _) | (with_reducible refine Kd.C_drew ?_))); (case side4 => exact HC1.out); rintro e w' ⟨rfl, ⟨nd, rfl⟩⟩; refine ⟨_, rfl, ?_⟩; (try (rw [drewN_self w12]; generalize hq_ : World.drewN w12 _ = w12; have n0_ : Aside0 (w12.heap[gb179]? = some (.cells #[.int .i64 0, .int .i64 0] 32 (0, 0))) := ⟨by rw [← hq_]; exact (by (with_reducible repeat (first | refine blk_drewN ?_ _ | refine blk_drew ?_ | refine blk_alloc ?_ _)); exact BK179.out)⟩; have n1_ : Aside0 (Below w.heap.size w w12) := ⟨by rw [← hq_]; exact (by repeat (first | (with_reducible first | exact HB.out | apply below_alloc | apply pw_below_drewN | apply below_drew1 | refine below_set ?_ GE179.out) | exact HB.out))⟩; clear BK179 HB hq_; have BK179 := n0_; have HB := n1_; clear n0_ n1_)); have hcz13_0 : w12.cell? ⟨gb179, 0, none⟩ = some (.int .i64 0) := (blk_cell BK179.out 0).trans rfl; have hcz13_1 : w12.cell? ⟨gb179, 1, none⟩ = some (.int .i64 0) := (blk_cell BK179.out 1).trans rfl; have hfz13_0 := blk_frozen BK179.out 0; have hfz13_1 := blk_frozen BK179.out 1))
    refine bodyPost_ret (results_cell_row rfl _ _ gb179 32 #[.int .i64 t180, .int .i64 0] (0, 0) _ rfl (by (with_reducible repeat (first | refine blk_drewN ?_ _ | refine blk_drew ?_ | refine blk_alloc ?_ _)); refine blk_put (cs := #[.int .i64 t180, .int .i64 0]) ?_ 1 _ rfl; (with_reducible repeat (first | refine blk_drewN ?_ _ | refine blk_drew ?_ | refine blk_alloc ?_ _)); refine blk_put (cs := #[.int .i64 0, .int .i64 0]) ?_ 0 _ rfl; (with_reducible repeat (first | refine blk_drewN ?_ _ | refine blk_drew ?_ | refine blk_alloc ?_ _)); exact BK179.out) Try.underlying32 rfl (by kernel_rfl)) rfl ?_
    exact ⟨by first | rfl | (simp [errW_none, errW_some] <;> rfl) | (simp [*, errW_none, errW_some] <;> rfl), by repeat (first | (with_reducible first | exact HB.out | apply below_alloc | apply pw_below_drewN | apply below_drew1 | refine below_set ?_ GE179.out) | exact HB.out)⟩

end Go.Proofs.Ytihbalbcocfnfaa.P

namespace Go.Proofs.Ytihbalbcocfnfaa.P
open Go.RowKit Go.Proofs.YtihbalbcocfnfaaW.PrintWords Go.Proofs.YtihbalbcocfnfaaW.PrintLast Go.Proofs.YtihbalbcocfnfaaW.PrintMore
attribute [local go_sem] max2_int min2_int max_two min_two max_three min_three max_four min_four   -- for this text's walks alone
set_option linter.unusedVariables false
set_option linter.unusedSimpArgs false

/-! ### impl_CommonOf: function 20 -/
def impl_CommonOf.f (k : Nat) (l0 : List ByteArray) (l1 : List ByteArray) : Option (Int × Int) := (impl_bothLines.f k l0 l1).bind fun t217 => (if t217 = 0 then ((impl_commons.f k l0 l1).bind fun t218 => (if 0 < (t218.length : Int) then (if 0 < ((rd_L4 t218 0).length : Int) then (some (0, rd (rd_L4 t218 0) 0)) else (none)) else (none))) else (some (t217, 0)))
theorem impl_CommonOf.mono : ∀ a0 a1 k, LeO (impl_CommonOf.f k a0 a1) (impl_CommonOf.f (k + 1) a0 a1) := by
  intro a0 a1 k
  unfold impl_CommonOf.f
  repeat' first
      | (with_reducible exact impl_bothLines.mono _ _ _)
      | (with_reducible exact impl_commons.mono _ _ _)
      | (with_reducible exact LeO.refl _)
      | (with_reducible exact LeO.none _)
      | (with_reducible refine LeO.ite ?_ ?_)
      | (with_reducible refine LeO.bind ?_ (fun _ => ?_))
      | exact impl_bothLines.mono _ _ _
      | exact impl_commons.mono _ _ _
      | exact LeO.none _
      | refine LeO.ite ?_ ?_
      | refine LeO.bind ?_ (fun _ => ?_)
set_option maxHeartbeats 8000000 in
set_option maxRecDepth 100000 in
theorem impl_CommonOf.calls (k : Nat) (A0 : Option Addr) (c0 : Nat) (l0 : List ByteArray) (A1 : Option Addr) (c1 : Nat) (l1 : List ByteArray) (r1 : Int) (r2 : Int) (w : World) (hr0 : Kd.C Kd.string w A0 l0.length l0) (hc0 : l0.length ≤ c0) (hr1 : Kd.C Kd.string w A1 l1.length l1) (hc1 : l1.length ≤ c1) (h : impl_CommonOf.f k l0 l1 = some (r1, r2)) :
    Calls Try.prog 20 #[.slice A0 l0.length c0, .slice A1 l1.length c1] w fun e w' => e = .returned (.agg #[.int .i64 r1, .int .i64 r2]) ∧ Below w.heap.size w w' := by
  have hu32 := Try.underlying32
  have HR0 := Aside0.mk hr0
  have HC0 := Aside0.mk hc0
  clear hr0 hc0
  have HR1 := Aside0.mk hr1
  have HC1 := Aside0.mk hc1
  clear hr1 hc1
  have HB := Aside0.mk (Below.refl w.heap.size w)
  have H : ((impl_bothLines.f k l0 l1).bind fun t217 => (if t217 = 0 then ((impl_commons.f k l0 l1).bind fun t218 => (if 0 < (t218.length : Int) then (if 0 < ((rd_L4 t218 0).length : Int) then (some (0, rd (rd_L4 t218 0) 0)) else (none)) else (none))) else (some (t217, 0)))) = some (r1, r2) := h
  clear h
  replace H := Option.bind_eq_some_iff.mp H
  obtain ⟨t217, A30, H⟩ := H
  replace H : (if t217 = 0 then ((impl_commons.f k l0 l1).bind fun t218 => (if 0 < (t218.length : Int) then (if 0 < ((rd_L4 t218 0).length : Int) then (some (0, rd (rd_L4 t218 0) 0)) else (none)) else (none))) else (some (t217, 0))) = some (r1, r2) := H
  have A3 := Aside0.mk A30
  clear A30
  by_cases c4 : t217 = 0
  · rw [if_pos c4] at H
    have c4b0 : (t217 == 0) = true := beq_iff_eq.mpr c4
    have c4b1 : (t217 != 0) = false := bne_eq_false_iff_eq.mpr c4
    clear c4
    replace H := Option.bind_eq_some_iff.mp H
    obtain ⟨t218, A50, H⟩ := H
    replace H : (if 0 < (t218.length : Int) then (if 0 < ((rd_L4 t218 0).length : Int) then (some (0, rd (rd_L4 t218 0) 0)) else (none)) else (none)) = some (r1, r2) := H
    have A5 := Aside0.mk A50
    clear A50
    by_cases c6 : 0 < (t218.length : Int)
    · rw [if_pos c6] at H
      have c6b0 : decide (0 < (t218.length : Int)) = true := decide_eq_true c6
      have c6b1 : decide (0 < t218.length) = true := decide_eq_true (by omega)
      clear c6
      by_cases c7 : 0 < ((rd_L4 t218 0).length : Int)
      · rw [if_pos c7] at H
        have c7b0 : decide (0 < ((rd_L4 t218 0).length : Int)) = true := decide_eq_true c7
        have c7b1 : decide (0 < (rd_L4 t218 0).length) = true := decide_eq_true (by omega)
        clear c7
        simp only [Option.some.injEq, Prod.mk.injEq] at H
        obtain ⟨rfl, rfl⟩ := H
        go_enter Try.func20, Try.ntmps20
        go_wp2_with (first | ((with_reducible refine gate_dst (N := 4) rfl ?_); refine box_event ?hg (N := 4) ?hd (cs := #[.int .i64 0, .int .i64 0]) (t := 32) ?hr ?_; (case hd => rfl); (case hg => rfl); (case hr => first | (go_simp; done) | (go_simp; rfl)); intro gb216 hg w8 hbox hb; have n0_ := Aside0.mk (below_step (by repeat (first | (with_reducible first | exact HB.out | apply below_alloc | apply pw_below_drewN | apply below_drew1) | exact HB.out)) hb); have n1_ := Aside0.mk (hbox); have n2_ := Aside0.mk ((by rw [hg]; exact (below_size (by repeat (first | (with_reducible first | exact HB.out | apply below_alloc | apply pw_below_drewN | apply below_drew1) | exact HB.out))) : w.heap.size ≤ gb216)); have n3_ := Aside0.mk ((by rw [hg]; exact (below_size (by repeat (first | (with_reducible first | exact HB.out | apply below_alloc | apply pw_below_drewN | apply below_drew1) | exact HB.out))) : w.heap.size ≤ gb216)); clear HB; have HB := n0_; have BK216 := n1_; have GW216 := n2_; have GE216 := n3_; clear n0_ n1_ n2_ n3_; clear hb hbox hg) | ((with_reducible refine gate_callee (f := 57) rfl ?_); refine goesL_ (some 8) rfl rfl Try.func57 (by kernel_rfl) rfl #[.slice A0 l0.length c0, .slice A1 l1.length c1] rfl (by (try simp only [List.map_toArray, List.map_cons, List.map_nil]); first | done | rfl | (simp only [List.length_drop, List.length_take]; rfl)) ?_; (with_reducible refine (impl_bothLines.calls k _ _ l0 _ _ l1 t217 _ ?side1 ?side2 ?side3 ?side4 A3.out).mono ?_); (case side1 => repeat (first | exact (Kd.C_below HR0.out HB.out) | (with_reducible refine Kd.C_alloc ?_ _) | (with_reducible refine Kd.C_drewN ?_ _) | (with_reducible refine Kd.C_drew ?_))); (case side2 => exact HC0.out); (case side3 => repeat (first | exact (Kd.C_below HR1.out HB.out) | (with_reducible refine Kd.C_alloc ?_ _) | (with_reducible refine Kd.C_drewN ?_ _) | (with_reducible refine Kd.C_drew ?_))); (case side4 => exact HC1.out); rintro e w9 ⟨rfl, hb⟩; refine ⟨_, rfl, ?_⟩; have n0_ := Aside0.mk (blk_below (g := gb216) (o := .cells #[.int .i64 0, .int .i64 0] 32 (0, 0)) (by (with_reducible repeat (first | refine blk_drewN ?_ _ | refine blk_drew ?_ | refine blk_alloc ?_ _)); exact BK216.out) hb); have n1_ := Aside0.mk (below_step (by repeat (first | (with_reducible first | exact HB.out | apply below_alloc | apply pw_below_drewN | apply below_drew1 | refine below_set ?_ GE216.out) | exact HB.out)) hb); clear BK216; clear HB; have BK216 := n0_; have HB := n1_; clear n0_ n1_; (try clear hb); (try clear hb2); (try clear hk); (try clear hi)) | ((with_reducible refine gate_callee (f := 58) rfl ?_); refine goesL_ (some 15) rfl rfl Try.func58 (by kernel_rfl) rfl #[.slice A0 l0.length c0, .slice A1 l1.length c1] rfl (by (try simp only [List.map_toArray, List.map_cons, List.map_nil]); first | done | rfl | (simp only [List.length_drop, List.length_take]; rfl)) ?_; (with_reducible refine (impl_commons.calls k _ _ l0 _ _ l1 t218 _ ?side1 ?side2 ?side3 ?side4 A5.out).mono ?_); (case side1 => repeat (first | exact (Kd.C_below HR0.out HB.out) | (with_reducible refine Kd.C_alloc ?_ _) | (with_reducible refine Kd.C_drewN ?_ _) | (with_reducible refine Kd.C_drew ?_))); (case side2 => exact HC0.out); (case side3 => repeat (first | exact (Kd.C_below HR1.out HB.out) | (with_reducible refine Kd.C_alloc ?_ _) | (with_reducible refine Kd.C_drewN ?_ _) | (with_reducible refine Kd.C_drew ?_))); (case side4 => exact HC1.out); rintro e w10 ⟨v219, rfl, ho0, hb⟩; refine ⟨_, rfl, ?_⟩; have n0_ := Aside0.mk (Kd.S_lower ho0 (below_size (by repeat (first | (with_reducible first | exact HB.out | apply below_alloc | apply pw_below_drewN | apply below_drew1 | refine below_set ?_ GE216.out) | exact HB.out)))); have n1_ := Aside0.mk (blk_below (g := gb216) (o := .cells #[.int .i64 0, .int .i64 0] 32 (0, 0)) (by (with_reducible repeat (first | refine blk_drewN ?_ _ | refine blk_drew ?_ | refine blk_alloc ?_ _)); exact BK216.out) hb); have n2_ := Aside0.mk (below_step (by repeat (first | (with_reducible first | exact HB.out | apply below_alloc | apply pw_below_drewN | apply below_drew1 | refine below_set ?_ GE216.out) | exact HB.out)) hb); clear BK216; clear HB; have HO220 := n0_; have BK216 := n1_; have HB := n2_; clear n0_ n1_ n2_; (try clear hb); (try clear hb2); (try clear hk); (try clear hi); (try clear ho0); obtain ⟨Ao11, co11, eo11⟩ := Kd.S_slice HO220.out; subst eo11; have p221 : 0 ≤ (0 : Int) := (by omega); have q221 : 0 < (t218.length : Int) := of_decide_eq_true (by first | (with_reducible assumption) | assumption); obtain ⟨ad221, A221_0, c221_0, e221, hx221_0, hl221_0, hi221_0⟩ := at_L4 (Kd.S_reads' HO220.out).2.2 0 p221 q221; cases e221; obtain ⟨ce221, hce221, hMe221, hcc221⟩ := Kd.S_get HO220.out [] 0 p221 (by first | exact q221 | exact of_decide_eq_true (by first | (with_reducible assumption) | assumption) | (have e_ := (Kd.S_reads' HO220.out).1; omega)); obtain ⟨ve221_0, rfl, ge221_0⟩ := hMe221; have hv221_0 := hcc221 0 _ rfl; rw [Nat.add_zero, show ((Kd.slice 2 (Kd.int .i64))).sz = 1 from rfl, Nat.mul_one] at hv221_0; replace hv221_0 := Option.some.inj (hv221_0.symm.trans hx221_0); rw [hv221_0] at ge221_0; have HL221_0 := Aside0.mk (show Kd.R (Kd.int .i64) 2 _ _ _ _ (rd_L4 t218 0) from ge221_0); clear hv221_0 ge221_0; clear hcc221 hce221; have qi221 : (0 < t218.length) = True := eq_true (by omega); (try rw [show ((0 : Int)).toNat = 0 from rfl] at hx221_0); (try rw [Addr.add_zero'] at hx221_0); have HR221_0 := Aside0.mk hi221_0; have HC221_0 := Aside0.mk hl221_0; clear hi221_0 hl221_0; replace p221 := eq_true p221; replace q221 := eq_true q221; have p222 : 0 ≤ (0 : Int) := (by omega); have q222 : 0 < ((rd_L4 t218 0).length : Int) := of_decide_eq_true (by first | (with_reducible assumption) | assumption); obtain ⟨ad222, e222, hx222_0⟩ := Kd.at_int (by repeat (first | (with_reducible exact HR221_0.out) | (with_reducible refine Kd.C_alloc ?_ _) | (with_reducible refine Kd.C_drewN ?_ _) | (with_reducible refine Kd.C_drew ?_) | exact HR221_0.out)) 0 p222 q222; cases e222; have qi222 : (0 < (rd_L4 t218 0).length) = True := eq_true (by omega); (try rw [show ((0 : Int)).toNat = 0 from rfl] at hx222_0); (try rw [Addr.add_zero'] at hx222_0); replace p222 := eq_true p222; replace q222 := eq_true q222; have hcz12_0 : w10.cell? ⟨gb216, 0, none⟩ = some (.int .i64 0) := (blk_cell BK216.out 0).trans rfl; have hcz12_1 : w10.cell? ⟨gb216, 1, none⟩ = some (.int .i64 0) := (blk_cell BK216.out 1).trans rfl; have hfz12_0 := blk_frozen BK216.out 0; have hfz12_1 := blk_frozen BK216.out 1))
        refine bodyPost_ret (results_cell_row rfl _ _ gb216 32 #[.int .i64 0, .int .i64 (rd (rd_L4 t218 0) 0)] (0, 0) _ rfl (by (with_reducible repeat (first | refine blk_drewN ?_ _ | refine blk_drew ?_ | refine blk_alloc ?_ _)); refine blk_put (cs := #[.int .i64 0, .int .i64 0]) ?_ 1 _ rfl; (with_reducible repeat (first | refine blk_drewN ?_ _ | refine blk_drew ?_ | refine blk_alloc ?_ _)); refine blk_put (cs := #[.int .i64 0, .int .i64 0]) ?_ 0 _ rfl; (with_reducible repeat (first | refine blk_drewN ?_ _ | refine blk_drew ?_ | refine blk_alloc ?_ _)); exact BK216.out) Try.underlying32 rfl (by kernel_rfl)) rfl ?_
        exact ⟨by first | rfl | (simp [errW_none, errW_some] <;> rfl) | (simp [*, errW_none, errW_some] <;> rfl), by repeat (first | (with_reducible first | exact HB.out | apply below_alloc | apply pw_below_drewN | apply below_drew1 | refine below_set ?_ GE216.out) | exact HB.out)⟩
      · rw [if_neg c7] at H
        exact absurd H (by simp)
    · rw [if_neg c6] at H
      exact absurd H (by simp)
  · rw [if_neg c4] at H
    have c4b0 : (t217 == 0) = false := beq_eq_false_iff_ne.mpr c4
    have c4b1 : (t217 != 0) = true := bne_iff_ne.mpr c4
    simp only [Option.some.injEq, Prod.mk.injEq] at H
    obtain ⟨rfl, rfl⟩ := H
    go_enter Try.func20, Try.ntmps20
    go_wp2_with (first | ((with_reducible refine gate_dst (N := 4) rfl ?_); refine box_event ?hg (N := 4) ?hd (cs := #[.int .i64 0, .int .i64 0]) (t := 32) ?hr ?_; (case hd => rfl); (case hg => rfl); (case hr => first | (go_simp; done) | (go_simp; rfl)); intro gb216 hg w13 hbox hb; have n0_ := Aside0.mk (below_step (by repeat (first | (with_reducible first | exact HB.out | apply below_alloc | apply pw_below_drewN | apply below_drew1) | exact HB.out)) hb); have n1_ := Aside0.mk (hbox); have n2_ := Aside0.mk ((by rw [hg]; exact (below_size (by repeat (first | (with_reducible first | exact HB.out | apply below_alloc | apply pw_below_drewN | apply below_drew1) | exact HB.out))) : w.heap.size ≤ gb216)); have n3_ := Aside0.mk ((by rw [hg]; exact (below_size (by repeat (first | (with_reducible first | exact HB.out | apply below_alloc | apply pw_below_drewN | apply below_drew1) | exact HB.out))) : w.heap.size ≤ gb216)); clear HB; have HB := n0_; have BK216 := n1_; have GW216 := n2_; have GE216 := n3_; clear n0_ n1_ n2_ n3_; clear hb hbox hg) | ((with_reducible refine gate_callee (f := 57) rfl ?_); refine goesL_ (some 8) rfl rfl Try.func57 (by kernel_rfl) rfl #[.slice A0 l0.length c0, .slice A1 l1.length c1] rfl (by (try simp only [List.map_toArray, List.map_cons, List.map_nil]); first | done | rfl | (simp only [List.length_drop, List.length_take]; rfl)) ?_; (with_reducible refine (impl_bothLines.calls k _ _ l0 _ _ l1 t217 _ ?side1 ?side2 ?side3 ?side4 A3.out).mono ?_); (case side1 => repeat (first | exact (Kd.C_below HR0.out HB.out) | (with_reducible refine Kd.C_alloc ?_ _) | (with_reducible refine Kd.C_drewN ?_ _) | (with_reducible refine Kd.C_drew ?_))); (case side2 => exact HC0.out); (case side3 => repeat (first | exact (Kd.C_below HR1.out HB.out) | (with_reducible refine Kd.C_alloc ?_ _) | (with_reducible refine Kd.C_drewN ?_ _) | (with_reducible refine Kd.C_drew ?_))); (case side4 => exact HC1.out); rintro e w14 ⟨rfl, hb⟩; refine ⟨_, rfl, ?_⟩; have n0_ := Aside0.mk (blk_below (g := gb216) (o := .cells #[.int .i64 0, .int .i64 0] 32 (0, 0)) (by (with_reducible repeat (first | refine blk_drewN ?_ _ | refine blk_drew ?_ | refine blk_alloc ?_ _)); exact BK216.out) hb); have n1_ := Aside0.mk (below_step (by repeat (first | (with_reducible first | exact HB.out | apply below_alloc | apply pw_below_drewN | apply below_drew1 | refine below_set ?_ GE216.out) | exact HB.out)) hb); clear BK216; clear HB; have BK216 := n0_; have HB := n1_; clear n0_ n1_; (try clear hb); (try clear hb2); (try clear hk); (try clear hi); have hcz15_0 : w14.cell? ⟨gb216, 0, none⟩ = some (.int .i64 0) := (blk_cell BK216.out 0).trans rfl; have hcz15_1 : w14.cell? ⟨gb216, 1, none⟩ = some (.int .i64 0) := (blk_cell BK216.out 1).trans rfl; have hfz15_0 := blk_frozen BK216.out 0; have hfz15_1 := blk_frozen BK216.out 1))
    refine bodyPost_ret (results_cell_row rfl _ _ gb216 32 #[.int .i64 t217, .int .i64 0] (0, 0) _ rfl (by (with_reducible repeat (first | refine blk_drewN ?_ _ | refine blk_drew ?_ | refine blk_alloc ?_ _)); refine blk_put (cs := #[.int .i64 t217, .int .i64 0]) ?_ 1 _ rfl; (with_reducible repeat (first | refine blk_drewN ?_ _ | refine blk_drew ?_ | refine blk_alloc ?_ _)); refine blk_put (cs := #[.int .i64 0, .int .i64 0]) ?_ 0 _ rfl; (with_reducible repeat (first | refine blk_drewN ?_ _ | refine blk_drew ?_ | refine blk_alloc ?_ _)); exact BK216.out) Try.underlying32 rfl (by kernel_rfl)) rfl ?_
    exact ⟨by first | rfl | (simp [errW_none, errW_some] <;> rfl) | (simp [*, errW_none, errW_some] <;> rfl), by repeat (first | (with_reducible first | exact HB.out | apply below_alloc | apply pw_below_drewN | apply below_drew1 | refine below_set ?_ GE216.out) | exact HB.out)⟩

end Go.Proofs.Ytihbalbcocfnfaa.P

/- CommonOf's two forms. -/
set_option linter.unusedVariables false
set_option linter.unusedSimpArgs false
namespace Go.Proofs.Ytihbalbcocfnfaa.P
open Go.RowKit Go.Proofs.YtihbalbcocfnfaaW.PrintWords Go.Proofs.YtihbalbcocfnfaaW.PrintLast
/-- How many lines both have in common, or a code. -/
def CO (a b : List ByteArray) : Int × Int := if LF2 a b = 0 then (0, (lcs a b : Int)) else (LF2 a b, 0)
theorem tab_head {a b : List ByteArray} {t : List (List Int)} (h : TabInv a b t 0 b.length) : rd (rd_L4 t 0) 0 = (lcs a b : Int) ∧ (0 : Int) < (t.length : Int) ∧ (0 : Int) < ((rd_L4 t 0).length : Int) := by
  have h0 := h.all (r := 0) (c := 0) (by omega) (by omega)
  have hr := h.rows 0 (by omega)
  have hl := h.len
  rw [List.drop_zero, List.drop_zero] at h0
  have e : rd_L4 t 0 = t.getD 0 [] := rdl_nat t 0
  have e2 : rd (t.getD 0 []) 0 = (t.getD 0 []).getD 0 0 := rd_getD (t.getD 0 []) 0
  rw [e, e2]
  exact ⟨h0, by omega, by omega⟩
theorem scommon_tells {a b : List ByteArray} (ha : Small a) (hb : Small b) : Ev (fun k => spec_CommonOf.f k a b) (CO a b) := by
  unfold spec_CommonOf.f CO
  refine Ev_call (asked_tells ha hb) (Ev_if (fun h => ?_) (fun h => ?_))
  · rw [if_pos h]
    have h1 := LF_zero (LF2_zero h).1
    have h2 := LF_zero (LF2_zero h).2
    obtain ⟨t, ht, e⟩ := stab_tells a b (by omega) (by omega)
    obtain ⟨e1, e2, e3⟩ := tab_head ht
    refine Ev_call e (Ev_pos e2 (Ev_pos e3 (Ev_val ?_)))
    rw [e1]
  · rw [if_neg h]
    exact Ev.now _
theorem icommon_tells {a b : List ByteArray} (ha : Small a) (hb : Small b) : Ev (fun k => impl_CommonOf.f k a b) (CO a b) := by
  unfold impl_CommonOf.f CO
  refine Ev_call (both_tells ha hb) (Ev_if (fun h => ?_) (fun h => ?_))
  · rw [if_pos h]
    have h1 := LF_zero (LF2_zero h).1
    have h2 := LF_zero (LF2_zero h).2
    obtain ⟨t, ht, e⟩ := itab_tells a b (by omega) (by omega)
    obtain ⟨e1, e2, e3⟩ := tab_head ht
    refine Ev_call e (Ev_pos e2 (Ev_pos e3 (Ev_val ?_)))
    rw [e1]
  · rw [if_neg h]
    exact Ev.now _
end Go.Proofs.Ytihbalbcocfnfaa.P

/- Changes, out of the lines that are chosen; and how many lines go and come. -/
set_option linter.unusedVariables false
set_option linter.unusedSimpArgs false
namespace Go.Proofs.Ytihbalbcocfnfaa.P
open Go.RowKit Go.Proofs.YtihbalbcocfnfaaW.PrintWords Go.Proofs.YtihbalbcocfnfaaW.PrintLast

/-- Places that rise, from i and j on, up to A and B. -/
def Inc (A B : Int) : List Int → List Int → Int → Int → Prop
  | [], [], i, j => i ≤ A ∧ j ≤ B
  | u :: us, v :: vs, i, j => i ≤ u ∧ j ≤ v ∧ Inc A B us vs (u + 1) (v + 1)
  | [], _ :: _, _, _ => False
  | _ :: _, [], _, _ => False
theorem mt_inc : ∀ (n : Nat) (a b : List ByteArray) (i j : Nat) (i' j' : Int), a.length + b.length = n → i' ≤ i → j' ≤ j → Inc ((i + a.length : Nat) : Int) ((j + b.length : Nat) : Int) (mt a b i j).1 (mt a b i j).2 i' j' := by
  intro n
  induction n using Nat.strongRecOn with
  | _ n ih =>
    intro a b i j i' j' hn hi hj
    cases a with
    | nil =>
      rw [mt_nil]
      exact ⟨by simp only [List.length_nil]; omega, by omega⟩
    | cons x a =>
      cases b with
      | nil =>
        rw [mt_nil']
        exact ⟨by omega, by simp only [List.length_nil]; omega⟩
      | cons y b =>
        simp only [List.length_cons] at hn ⊢
        rw [mt]
        split
        · have := ih _ (by omega) a b (i + 1) (j + 1) ((i : Int) + 1) ((j : Int) + 1) rfl (by omega) (by omega)
          rw [show i + (a.length + 1) = i + 1 + a.length by omega, show j + (b.length + 1) = j + 1 + b.length by omega]
          exact ⟨hi, hj, this⟩
        · split
          · have := ih _ (by simp only [List.length_cons]; omega) a (y :: b) (i + 1) j i' j' rfl (by omega) (by omega)
            rw [show i + (a.length + 1) = i + 1 + a.length by omega]
            exact this
          · have := ih _ (by simp only [List.length_cons]; omega) (x :: a) b i (j + 1) i' j' rfl (by omega) (by omega)
            rw [show j + (b.length + 1) = j + 1 + b.length by omega]
            exact this
theorem mt_len : ∀ (n : Nat) (a b : List ByteArray) (i j : Nat), a.length + b.length = n → (mt a b i j).1.length = lcs a b ∧ (mt a b i j).2.length = lcs a b := by
  intro n
  induction n using Nat.strongRecOn with
  | _ n ih =>
    intro a b i j hn
    cases a with
    | nil => rw [mt_nil, lcs_nil]; exact ⟨rfl, rfl⟩
    | cons x a =>
      cases b with
      | nil => rw [mt_nil', lcs_nil']; exact ⟨rfl, rfl⟩
      | cons y b =>
        simp only [List.length_cons] at hn
        rw [mt, lcs_cons]
        split
        · have := ih _ (by omega) a b (i + 1) (j + 1) rfl
          exact ⟨by rw [List.length_cons, this.1], by rw [List.length_cons, this.2]⟩
        · split
          · rename_i h1 h2
            have := ih _ (by simp only [List.length_cons]; omega) a (y :: b) (i + 1) j rfl
            rw [Nat.max_eq_left h2]
            exact this
          · rename_i h1 h2
            have := ih _ (by simp only [List.length_cons]; omega) (x :: a) b i (j + 1) rfl
            rw [Nat.max_eq_right (by omega)]
            exact this
/-- The same of lists with their ends, in bounds. -/
def Inc2 (M : Int) : List Int → List Int → Int → Int → Prop
  | [], [], _, _ => True
  | u :: us, v :: vs, i, j => i ≤ u ∧ j ≤ v ∧ u ≤ M ∧ v ≤ M ∧ Inc2 M us vs (u + 1) (v + 1)
  | [], _ :: _, _, _ => False
  | _ :: _, [], _, _ => False
theorem Inc.two {A B M : Int} (hA : A ≤ M) (hB : B ≤ M) : ∀ (p q : List Int) (i j : Int), Inc A B p q i j → i ≤ A ∧ j ≤ B ∧ Inc2 M (p ++ [A]) (q ++ [B]) i j
  | [], [], i, j, h => ⟨h.1, h.2, h.1, h.2, hA, hB, trivial⟩
  | u :: us, v :: vs, i, j, h => by
    obtain ⟨h1, h2, h3⟩ := h
    obtain ⟨h4, h5, h6⟩ := Inc.two hA hB us vs _ _ h3
    exact ⟨by omega, by omega, h1, h2, by omega, by omega, h6⟩
  | [], _ :: _, _, _, h => h.elim
  | _ :: _, [], _, _, h => h.elim
theorem Inc2.len {M : Int} : ∀ (p q : List Int) (i j : Int), Inc2 M p q i j → p.length = q.length
  | [], [], _, _, _ => rfl
  | _ :: us, _ :: vs, _, _, h => by rw [List.length_cons, List.length_cons, Inc2.len us vs _ _ h.2.2.2.2]
  | [], _ :: _, _, _, h => h.elim
  | _ :: _, [], _, _, h => h.elim
/-- Changes from places on. -/
def chs : List Int → List Int → Int → Int → List S64
  | u :: us, v :: vs, i, j => if u > i ∨ v > j then ⟨i, u - i, j, v - j⟩ :: chs us vs (u + 1) (v + 1) else chs us vs (u + 1) (v + 1)
  | _, _, _, _ => []
theorem chs_cons (u v : Int) (us vs : List Int) (i j : Int) : chs (u :: us) (v :: vs) i j = if u > i ∨ v > j then ⟨i, u - i, j, v - j⟩ :: chs us vs (u + 1) (v + 1) else chs us vs (u + 1) (v + 1) := rfl
theorem sch_loop (us vs : List Int) (hl : us.length ≤ 2000000) (he : us.length = vs.length) : ∀ (d n : Nat) (o : List S64) (i j : Int), us.length - n = d → n ≤ us.length → o.length ≤ n → 0 ≤ i → 0 ≤ j → Inc2 1000000 (us.drop n) (vs.drop n) i j →
    Ev (fun k => spec_l2Changes.l0 k us vs o i j (n : Int)) (o ++ chs (us.drop n) (vs.drop n) i j) := by
  intro d
  induction d with
  | zero =>
    intro n o i j hd hn ho hi hj h
    refine Ev.step (fun k => by rw [spec_l2Changes.l0]) (Ev_neg (by omega) (Ev_val ?_))
    rw [List.drop_eq_nil_of_le (show us.length ≤ n by omega), List.drop_eq_nil_of_le (show vs.length ≤ n by omega)]
    exact (List.append_nil _).symm
  | succ d ih =>
    intro n o i j hd hn ho hi hj h
    have h1 : n < us.length := by omega
    have h2 : n < vs.length := by omega
    rw [drop_at h1, drop_at h2] at h ⊢
    obtain ⟨g1, g2, g3, g4, g5⟩ := h
    rw [chs_cons]
    refine Ev.step (fun k => by rw [spec_l2Changes.l0]) (Ev_pos (by omega) (Ev_pos (by omega) ?_))
    rw [rdi_nat h1, rdi_nat h2, wid (x := us[n] - i) (by omega) (by omega), wid (x := vs[n] - j) (by omega) (by omega), wid (x := us[n] + 1) (by omega) (by omega), wid (x := vs[n] + 1) (by omega) (by omega), wsucc' (by omega)]
    have go1 : Ev (fun k => spec_l2Changes.l0 k us vs (o ++ [⟨i, us[n] - i, j, vs[n] - j⟩]) (us[n] + 1) (vs[n] + 1) ((n + 1 : Nat) : Int)) (o ++ ⟨i, us[n] - i, j, vs[n] - j⟩ :: chs (us.drop (n + 1)) (vs.drop (n + 1)) (us[n] + 1) (vs[n] + 1)) := by
      have := ih (n + 1) (o ++ [⟨i, us[n] - i, j, vs[n] - j⟩]) (us[n] + 1) (vs[n] + 1) (by omega) (by omega) (by simp; omega) (by omega) (by omega) g5
      rw [List.append_assoc] at this
      exact this
    refine Ev_if (fun h => ?_) (fun h => ?_)
    · rw [if_pos (.inl h)]
      exact Ev_pos (by omega) (Ev_pos (by omega) go1)
    · refine Ev_pos (by omega) (Ev_if (fun h3 => ?_) (fun h3 => ?_))
      · rw [if_pos (.inr h3)]
        exact Ev_pos (by omega) go1
      · rw [if_neg (by omega)]
        exact ih (n + 1) o (us[n] + 1) (vs[n] + 1) (by omega) (by omega) (by omega) (by omega) (by omega) g5
theorem ich_loop (us vs : List Int) (hl : us.length ≤ 2000000) (he : us.length = vs.length) : ∀ (d n : Nat) (o : List S64) (i j : Int), us.length - n = d → n ≤ us.length → o.length ≤ n → 0 ≤ i → 0 ≤ j → Inc2 1000000 (us.drop n) (vs.drop n) i j →
    Ev (fun k => impl_changesOf.l0 k vs o i j us (us.length : Int) (n : Int)) (o ++ chs (us.drop n) (vs.drop n) i j) := by
  intro d
  induction d with
  | zero =>
    intro n o i j hd hn ho hi hj h
    refine Ev.step (fun k => by rw [impl_changesOf.l0]) (Ev_neg (by omega) (Ev_val ?_))
    rw [List.drop_eq_nil_of_le (show us.length ≤ n by omega), List.drop_eq_nil_of_le (show vs.length ≤ n by omega)]
    exact (List.append_nil _).symm
  | succ d ih =>
    intro n o i j hd hn ho hi hj h
    have h1 : n < us.length := by omega
    have h2 : n < vs.length := by omega
    rw [drop_at h1, drop_at h2] at h ⊢
    obtain ⟨g1, g2, g3, g4, g5⟩ := h
    rw [chs_cons]
    refine Ev.step (fun k => by rw [impl_changesOf.l0]) (Ev_pos (by omega) (Ev_pos (by omega) (Ev_pos (by omega) (Ev_pos (by omega) ?_))))
    rw [rdi_nat h1, rdi_nat h2, wid (x := us[n] - i) (by omega) (by omega), wid (x := vs[n] - j) (by omega) (by omega), wid (x := us[n] + 1) (by omega) (by omega), wid (x := vs[n] + 1) (by omega) (by omega), wsucc' (by omega)]
    have go1 : Ev (fun k => impl_changesOf.l0 k vs (o ++ [⟨i, us[n] - i, j, vs[n] - j⟩]) (us[n] + 1) (vs[n] + 1) us (us.length : Int) ((n + 1 : Nat) : Int)) (o ++ ⟨i, us[n] - i, j, vs[n] - j⟩ :: chs (us.drop (n + 1)) (vs.drop (n + 1)) (us[n] + 1) (vs[n] + 1)) := by
      have := ih (n + 1) (o ++ [⟨i, us[n] - i, j, vs[n] - j⟩]) (us[n] + 1) (vs[n] + 1) (by omega) (by omega) (by simp; omega) (by omega) (by omega) g5
      rw [List.append_assoc] at this
      exact this
    refine Ev_if (fun h => ?_) (fun h => ?_)
    · rw [if_pos (.inl h)]
      exact Ev_pos (by omega) go1
    · refine Ev_if (fun h3 => ?_) (fun h3 => ?_)
      · rw [if_pos (.inr h3)]
        exact Ev_pos (by omega) go1
      · rw [if_neg (by omega)]
        exact ih (n + 1) o (us[n] + 1) (vs[n] + 1) (by omega) (by omega) (by omega) (by omega) (by omega) g5
/-- The changes of lines to others. -/
def CHS (a b : List ByteArray) : List S64 := chs ((mt a b 0 0).1 ++ [(a.length : Int)]) ((mt a b 0 0).2 ++ [(b.length : Int)]) 0 0
theorem chs_ready (a b : List ByteArray) (ha : a.length ≤ 1000000) (hb : b.length ≤ 1000000) : Inc2 1000000 ((mt a b 0 0).1 ++ [(a.length : Int)]) ((mt a b 0 0).2 ++ [(b.length : Int)]) 0 0 ∧ ((mt a b 0 0).1 ++ [(a.length : Int)]).length ≤ 1000001 ∧ ((mt a b 0 0).2 ++ [(b.length : Int)]).length ≤ 1000001 := by
  have h := mt_inc _ a b 0 0 0 0 rfl (by omega) (by omega)
  rw [Nat.zero_add, Nat.zero_add] at h
  have h2 := (Inc.two (M := 1000000) (by omega) (by omega) _ _ _ _ h).2.2
  have hl := mt_len _ a b 0 0 rfl
  have hle := lcs_le a b
  refine ⟨h2, ?_, ?_⟩
  · rw [List.length_append, hl.1]
    simp
    omega
  · rw [List.length_append, hl.2]
    simp
    omega
theorem sch_tells (a b : List ByteArray) (ha : a.length ≤ 1000000) (hb : b.length ≤ 1000000) : Ev (fun k => spec_l2Changes.f k a b) (CHS a b) := by
  obtain ⟨h1, h2, h3⟩ := chs_ready a b ha hb
  have he := Inc2.len _ _ _ _ h1
  unfold spec_l2Changes.f
  refine Ev_call (spec_l2Match_tells a b ha hb) (Ev_pos (by rw [List.length_append] at h2; simp at h2; omega) (Ev_pos (by rw [List.length_append] at h3; simp at h3; omega) ?_))
  have := sch_loop _ _ (by omega) he _ 0 [] 0 0 rfl (by omega) (by simp) (by omega) (by omega) (by rw [List.drop_zero, List.drop_zero]; exact h1)
  rw [List.drop_zero, List.drop_zero, List.nil_append] at this
  exact this
theorem ich_tells (a b : List ByteArray) (ha : a.length ≤ 1000000) (hb : b.length ≤ 1000000) : Ev (fun k => impl_changesOf.f k a b) (CHS a b) := by
  obtain ⟨h1, h2, h3⟩ := chs_ready a b ha hb
  have he := Inc2.len _ _ _ _ h1
  unfold impl_changesOf.f
  refine Ev_call (impl_match_tells a b ha hb) (Ev_pos (by rw [List.length_append] at h2; simp at h2; omega) ?_)
  refine Ev_const rfl ?_
  refine Ev_pos (by rw [List.length_append] at h3; simp at h3; omega) ?_
  have := ich_loop _ _ (by omega) he _ 0 [] 0 0 rfl (by omega) (by simp) (by omega) (by omega) (by rw [List.drop_zero, List.drop_zero]; exact h1)
  rw [List.drop_zero, List.drop_zero, List.nil_append] at this
  exact this
/-- How many lines changes tell. -/
def sumc : List S64 → Int
  | [] => 0
  | c :: l => (c.f1 + c.f3) + sumc l
theorem sumc_chs {A B : Int} : ∀ (p q : List Int) (i j : Int), Inc A B p q i j → sumc (chs (p ++ [A]) (q ++ [B]) i j) = (A - i) + (B - j) - 2 * (p.length : Int)
  | [], [], i, j, h => by
    obtain ⟨h1, h2⟩ := h
    rw [List.nil_append, List.nil_append, chs_cons]
    split
    · simp [sumc, chs]
    · simp [sumc, chs]
      omega
  | u :: us, v :: vs, i, j, h => by
    obtain ⟨h1, h2, h3⟩ := h
    have ih := sumc_chs us vs _ _ h3
    rw [List.cons_append, List.cons_append, chs_cons, List.length_cons]
    split
    · simp only [sumc]
      rw [ih]
      omega
    · rw [ih]
      omega
  | [], _ :: _, _, _, h => h.elim
  | _ :: _, [], _, _, h => h.elim
/-- Changes in bounds. -/
def ChOk (l : List S64) : Prop := ∀ c ∈ l, 0 ≤ c.f0 ∧ c.f0 ≤ 1000001 ∧ 0 ≤ c.f1 ∧ c.f1 ≤ 1000001 ∧ 0 ≤ c.f2 ∧ c.f2 ≤ 1000001 ∧ 0 ≤ c.f3 ∧ c.f3 ≤ 1000001
theorem chs_ok : ∀ (p q : List Int) (i j : Int), 0 ≤ i → 0 ≤ j → Inc2 1000000 p q i j → ChOk (chs p q i j) ∧ (chs p q i j).length ≤ p.length
  | [], [], _, _, _, _, _ => ⟨fun c hc => by simp [chs] at hc, by simp [chs]⟩
  | u :: us, v :: vs, i, j, hi, hj, h => by
    obtain ⟨h1, h2, h3, h4, h5⟩ := h
    have ih := chs_ok us vs _ _ (by omega) (by omega) h5
    rw [chs_cons]
    split
    · refine ⟨fun c hc => ?_, by simp only [List.length_cons]; omega⟩
      rcases List.mem_cons.1 hc with rfl | hc
      · exact ⟨hi, by show i ≤ _; omega, by show 0 ≤ u - i; omega, by show u - i ≤ _; omega, hj, by show j ≤ _; omega, by show 0 ≤ v - j; omega, by show v - j ≤ _; omega⟩
      · exact ih.1 c hc
    · exact ⟨ih.1, by simp only [List.length_cons]; omega⟩
  | [], _ :: _, _, _, _, _, h => h.elim
  | _ :: _, [], _, _, _, _, h => h.elim
theorem CHS_ok (a b : List ByteArray) (ha : a.length ≤ 1000000) (hb : b.length ≤ 1000000) : ChOk (CHS a b) ∧ (CHS a b).length ≤ 1000001 := by
  obtain ⟨h1, h2, h3⟩ := chs_ready a b ha hb
  have := chs_ok _ _ _ _ (by omega) (by omega) h1
  exact ⟨this.1, by unfold CHS; omega⟩
theorem CHS_sum (a b : List ByteArray) : sumc (CHS a b) = (a.length : Int) + (b.length : Int) - 2 * (lcs a b : Int) := by
  have h := mt_inc _ a b 0 0 0 0 rfl (by omega) (by omega)
  rw [Nat.zero_add, Nat.zero_add] at h
  unfold CHS
  rw [sumc_chs _ _ _ _ h, (mt_len _ a b 0 0 rfl).1]
  omega
theorem rdc_nat {l : List S64} {i : Nat} (h : i < l.length) : rd_T64 l (i : Int) = l[i] := by
  unfold rd_T64
  rw [Int.toNat_natCast, List.getD_eq_getElem?_getD, List.getElem?_eq_getElem h]
  rfl
theorem sumc_bound : ∀ (l : List S64), ChOk l → 0 ≤ sumc l ∧ sumc l ≤ 2000002 * (l.length : Int)
  | [], _ => ⟨by simp [sumc], by simp [sumc]⟩
  | c :: l, h => by
    have ih := sumc_bound l (fun x hx => h x (List.mem_cons_of_mem _ hx))
    have hc := h c List.mem_cons_self
    simp only [sumc, List.length_cons]
    omega
theorem edit_loop (l : List S64) (hl : l.length ≤ 1000001) (ho : ChOk l) : ∀ (d n : Nat) (s : Int), l.length - n = d → n ≤ l.length → 0 ≤ s → s ≤ 2000002 * (n : Int) →
    Ev (fun k => impl_EditCount.l0 k s l (l.length : Int) (n : Int)) (0, s + sumc (l.drop n)) := by
  intro d
  induction d with
  | zero =>
    intro n s hd hn hs hs2
    refine Ev.step (fun k => by rw [impl_EditCount.l0]) (Ev_neg (by omega) (Ev_val ?_))
    rw [List.drop_eq_nil_of_le (show l.length ≤ n by omega)]
    simp [sumc]
  | succ d ih =>
    intro n s hd hn hs hs2
    have h1 : n < l.length := by omega
    obtain ⟨a1, a2, a3, a4, a5, a6, a7, a8⟩ := ho l[n] (List.getElem_mem h1)
    refine Ev.step (fun k => by rw [impl_EditCount.l0]) (Ev_pos (by omega) (Ev_pos (by omega) (Ev_pos (by omega) ?_)))
    rw [rdc_nat h1, wid (x := l[n].f1 + l[n].f3) (by omega) (by omega), wid (x := s + (l[n].f1 + l[n].f3)) (by omega) (by omega), wsucc' (by omega)]
    refine Ev_eq (ih (n + 1) (s + (l[n].f1 + l[n].f3)) (by omega) (by omega) (by omega) (by omega)) ?_
    rw [drop_at h1, sumc]
    congr 1
    omega
/-- How many lines go and come, or a code. -/
def EC (a b : List ByteArray) : Int × Int := if LF2 a b = 0 then (0, (a.length : Int) + (b.length : Int) - 2 * (lcs a b : Int)) else (LF2 a b, 0)
theorem iedit_tells {a b : List ByteArray} (ha : Small a) (hb : Small b) : Ev (fun k => impl_EditCount.f k a b) (EC a b) := by
  unfold impl_EditCount.f EC
  refine Ev_call (both_tells ha hb) (Ev_if (fun h => ?_) (fun h => ?_))
  · rw [if_pos h]
    have h1 := LF_zero (LF2_zero h).1
    have h2 := LF_zero (LF2_zero h).2
    have ok := CHS_ok a b (by omega) (by omega)
    refine Ev_call (ich_tells a b (by omega) (by omega)) ?_
    have e := edit_loop (CHS a b) ok.2 ok.1 _ 0 0 rfl (by omega) (by omega) (by omega)
    rw [List.drop_zero, CHS_sum, Int.zero_add] at e
    exact e
  · rw [if_neg h]
    exact Ev.now _
theorem sedit_tells {a b : List ByteArray} (ha : Small a) (hb : Small b) : Ev (fun k => spec_EditCount.f k a b) (EC a b) := by
  unfold spec_EditCount.f EC
  refine Ev_call (asked_tells ha hb) (Ev_if (fun h => ?_) (fun h => ?_))
  · rw [if_pos h]
    have h1 := LF_zero (LF2_zero h).1
    have h2 := LF_zero (LF2_zero h).2
    have hle := lcs_le a b
    obtain ⟨t, ht, e⟩ := stab_tells a b (by omega) (by omega)
    obtain ⟨e1, e2, e3⟩ := tab_head ht
    refine Ev_call e (Ev_pos e2 (Ev_pos e3 (Ev_val ?_)))
    rw [e1, wid (x := (a.length : Int) + (b.length : Int)) (by omega) (by omega), wid (x := 2 * (lcs a b : Int)) (by omega) (by omega), wid (by omega) (by omega)]
  · rw [if_neg h]
    exact Ev.now _
theorem sco_tells {a b : List ByteArray} (ha : Small a) (hb : Small b) : Ev (fun k => spec_ChangesOf.f k a b) (if LF2 a b = 0 then (0, CHS a b) else (LF2 a b, [])) := by
  unfold spec_ChangesOf.f
  refine Ev_call (asked_tells ha hb) (Ev_if (fun h => ?_) (fun h => ?_))
  · rw [if_pos h]
    have h1 := LF_zero (LF2_zero h).1
    have h2 := LF_zero (LF2_zero h).2
    exact Ev_call (sch_tells a b (by omega) (by omega)) (Ev.now _)
  · rw [if_neg h]
    exact Ev.now _
theorem ico_tells {a b : List ByteArray} (ha : Small a) (hb : Small b) : Ev (fun k => impl_ChangesOf.f k a b) (if LF2 a b = 0 then (0, CHS a b) else (LF2 a b, [])) := by
  unfold impl_ChangesOf.f
  refine Ev_call (both_tells ha hb) (Ev_if (fun h => ?_) (fun h => ?_))
  · rw [if_pos h]
    have h1 := LF_zero (LF2_zero h).1
    have h2 := LF_zero (LF2_zero h).2
    exact Ev_call (ich_tells a b (by omega) (by omega)) (Ev.now _)
  · rw [if_neg h]
    exact Ev.now _
end Go.Proofs.Ytihbalbcocfnfaa.P

/- The law on EditCount, as a statement on plain values. -/
set_option linter.unusedVariables false
namespace Go.Proofs.Ytihbalbcocfnfaa.P.VFnExactEditCount
open Go.RowKit Go.Proofs.YtihbalbcocfnfaaW.PrintWords Go.Proofs.YtihbalbcocfnfaaW.PrintLast
theorem proof : UFnExactEditCount.Pure := by
  intro l0 l1 g0 g1
  apply Ev.rounds
  unfold laws_FnExactEditCount.f
  refine guard_lines l0 g0 1048576 (by omega) (by omega) (fun r h0 h1 hs => guard_lines l1 g1 r (by omega) (by omega) (fun r2 h2 h3 ht => ?_))
  refine Ev_call hs.to (Ev_call ht.to (Ev_call (sedit_tells hs ht) (Ev_call hs.to (Ev_call ht.to (Ev_call (iedit_tells hs ht) ?_)))))
  refine Ev_const (a := true) (by unfold laws_eqIntResult.f; rw [if_pos rfl, if_pos rfl]) (Ev_pos rfl (Ev_call hs.to (Ev_call hs.eq (Ev_pos rfl (Ev_call ht.to (Ev_call ht.eq (Ev_pos rfl (Ev.now _))))))))
end Go.Proofs.Ytihbalbcocfnfaa.P.VFnExactEditCount

/- How an argument of any kind of data (numbers, bools, strings, slices and structs of these) is read out of the row's own reading. -/
set_option linter.unusedVariables false
set_option linter.unusedSimpArgs false
namespace Go.Proofs.Ytihbalbcocfnfaa.O
open Go.RowKit Go.ChangeShapes Go.WideShapes Go.Proofs.YtihbalbcocfnfaaW.PrintWords

/-- What a reading of a value of type t says, by the kind d; G: what is known of the value's size. -/
def Opens {α : Type} (P : Program) (t : TypeId) (d : Kd α) (G : α → Prop) : Prop :=
  P.cellsOf t = d.sz ∧ ∀ {H : Type} {enc : TypeId × Value → H} {w : World} {base : Nat} {spare : Nat → Bool} {held : Bool} {fuel : Nat} {cs : List Value} {x : DataW H × List MemPlace},
    DataW.trod enc P w base spare held fuel t cs = some x → ∃ a, d.K w a cs ∧ G a

theorem list_of {α : Type} {Q : Nat → α → Prop} : ∀ n : Nat, (∀ j, j < n → ∃ p, Q j p) → ∃ xs : List α, xs.length = n ∧ ∀ j p, xs[j]? = some p → Q j p
  | 0, _ => ⟨[], rfl, fun j p h => by simp at h⟩
  | n + 1, h => by
    obtain ⟨xs, hl, hx⟩ := list_of n (fun j hj => h j (Nat.lt_succ_of_lt hj))
    obtain ⟨p, hp⟩ := h n (Nat.lt_succ_self n)
    refine ⟨xs ++ [p], by simp [hl], fun j q hq => ?_⟩
    rcases Nat.lt_or_ge j xs.length with hj | hj
    · rw [List.getElem?_append_left hj] at hq
      exact hx j q hq
    · have hj' : j = xs.length := by
        have := (List.getElem?_eq_some_iff.1 hq).1
        rw [List.length_append, List.length_singleton] at this
        omega
      subst hj'
      have e : p = q := by simpa using hq
      subst e
      rw [hl]
      exact hp

theorem cells_get {w : World} {base : Nat} {a : Addr} {n : Nat} {cs : List Value} (h : w.cells? base a n = some cs) : cs.length = n ∧ ∀ i u, cs[i]? = some u → w.cell? (a.add i) = some u := by
  unfold World.cells? at h
  split at h
  · have hl := mapM_some_length h
    rw [List.length_range] at hl
    refine ⟨hl, fun i u hu => ?_⟩
    have hi : i < n := by
      have := (List.getElem?_eq_some_iff.1 hu).1
      omega
    have := mapM_some_get h i i (by simp [hi])
    rw [this, hu]
  · simp at h

theorem opens_int {P : Program} {t : TypeId} {k : IntKind} (ht : P.underlying t = some (.int k)) (hc : P.cellsOf t = 1) : Opens P t (Kd.int k) (fun x => (Lit.int k x).wf = true) :=
  ⟨hc, fun h => by
    obtain ⟨n, rfl, _, hw⟩ := DataW.trod_int ht h
    exact ⟨n, rfl, hw⟩⟩
theorem opens_bool {P : Program} {t : TypeId} (ht : P.underlying t = some .bool) (hc : P.cellsOf t = 1) : Opens P t Kd.bool (fun _ => True) :=
  ⟨hc, fun h => by
    obtain ⟨b, rfl, _⟩ := DataW.trod_bool ht h
    exact ⟨b, rfl, trivial⟩⟩
theorem opens_string {P : Program} {t : TypeId} (ht : P.underlying t = some .string) (hc : P.cellsOf t = 1) : Opens P t Kd.string (fun s => s.size ≤ 9223372036854775807) :=
  ⟨hc, fun h => by
    obtain ⟨s, rfl, _, hw⟩ := DataW.trod_string ht h
    exact ⟨s, rfl, hw⟩⟩
theorem opens_slice {α : Type} {P : Program} {t e : TypeId} {d : Kd α} {G : α → Prop} (ht : P.underlying t = some (.slice e)) (hc : P.cellsOf t = 1) (he : Opens P e d G) :
    Opens P t (Kd.slice e d) (fun l => l.length ≤ 9223372036854775807 ∧ ∀ x ∈ l, G x) := by
  refine ⟨hc, fun {H enc w base spare held fuel cs x} h => ?_⟩
  rcases DataW.trod_slice ht h with ⟨rfl, _⟩ | ⟨a, len, cap, elems, rest, n, _, rfl, _, hb, hl, hm, hlen, hel, _, _⟩
  · exact ⟨[], ⟨none, 0, rfl, Nat.le_refl _, rfl, by simp, fun hp => absurd hp (by simp)⟩, by simp, by simp⟩
  · have hcap : cap ≤ 9223372036854775807 := hm
    obtain ⟨xs, hxl, hx⟩ := list_of (Q := fun j p => (∃ c : List Value, c.length = d.sz ∧ d.K w p c ∧ ∀ i u, c[i]? = some u → w.cell? (a.add (j * d.sz + i)) = some u) ∧ G p) len (fun j hj => by
      have h1 := hel j hj
      rw [List.getElem?_eq_getElem (by omega), Option.bind_eq_some_iff] at h1
      obtain ⟨cs', hcs, hy⟩ := h1
      obtain ⟨p, hK, hG⟩ := he.2 hy
      obtain ⟨hcl, hcell⟩ := cells_get hcs
      refine ⟨p, ⟨cs', by rw [hcl, he.1], hK, fun i u hu => ?_⟩, hG⟩
      have := hcell i u hu
      rw [he.1] at this
      rw [← Addr.add_add]
      exact this)
    have hlen2 : xs.length ≤ cap := by omega
    refine ⟨xs, ⟨some a, cap, ?_, hlen2, rfl, by omega, fun _ => ⟨a, rfl, fun j p hj => (hx j p hj).1⟩⟩, by omega, fun y hy => ?_⟩
    · rw [hxl]
    · obtain ⟨j, hj⟩ := List.getElem?_of_mem hy
      exact (hx j y hj).2

/-- A struct's fields from an offset on. -/
def OpensTail {α : Type} (P : Program) (fs : List Field) (off : Nat) (d : Kd α) (G : α → Prop) : Prop :=
  ∀ {H : Type} {enc : TypeId × Value → H} {w : World} {base : Nat} {spare : Nat → Bool} {held : Bool} {fuel : Nat} {cs : List Value},
    (∀ f ∈ fs, ∃ y, DataW.trod enc P w base spare held fuel f.type ((cs.drop f.offset).take (P.cellsOf f.type)) = some y) → cs.length = off + d.sz → ∃ a, d.K w a (cs.drop off) ∧ G a
theorem tail_one {α : Type} {P : Program} {f : Field} {off : Nat} {d : Kd α} {G : α → Prop} (ho : f.offset = off) (h : Opens P f.type d G) : OpensTail P [f] off d G := by
  intro H enc w base spare held fuel cs hy hl
  obtain ⟨y, hy⟩ := hy f (List.mem_singleton.2 rfl)
  obtain ⟨a, hK, hG⟩ := h.2 hy
  refine ⟨a, ?_, hG⟩
  rw [ho, h.1, List.take_of_length_le (by rw [List.length_drop]; omega)] at hK
  exact hK
theorem tail_cons {α β : Type} {P : Program} {f : Field} {fs : List Field} {off off2 : Nat} {d : Kd α} {d2 : Kd β} {G : α → Prop} {G2 : β → Prop} (ho : f.offset = off) (h : Opens P f.type d G) (ho2 : off2 = off + d.sz) (h2 : OpensTail P fs off2 d2 G2) :
    OpensTail P (f :: fs) off (Kd.pair d d2) (fun x => G x.1 ∧ G2 x.2) := by
  intro H enc w base spare held fuel cs hy hl
  obtain ⟨y, hy1⟩ := hy f List.mem_cons_self
  obtain ⟨a, hK, hG⟩ := h.2 hy1
  have hl' : cs.length = off2 + d2.sz := by rw [hl, ho2]; exact (Nat.add_assoc _ _ _).symm
  obtain ⟨b, hK2, hG2⟩ := h2 (fun f' hf' => hy f' (List.mem_cons_of_mem _ hf')) hl'
  refine ⟨(a, b), ⟨(cs.drop off).take d.sz, (cs.drop off).drop d.sz, (List.take_append_drop _ _).symm, ?_, ?_⟩, hG, hG2⟩
  · rw [ho, h.1] at hK
    exact hK
  · rw [List.drop_drop, ← ho2]
    exact hK2
theorem opens_struct {α β : Type} {P : Program} {t : TypeId} {fs : Array Field} {d : Kd α} {f : β → α} {g : α → β} {G : α → Prop} (ht : P.underlying t = some (.struct fs)) (hc : P.cellsOf t = d.sz) (hfg : ∀ a, f (g a) = a) (h : OpensTail P fs.toList 0 d G) :
    Opens P t (Kd.iso d f) (fun b => G (f b)) := by
  refine ⟨hc, fun {H enc w base spare held fuel cs x} hx => ?_⟩
  obtain ⟨xs, n, rfl, _, hl, hxl, hf⟩ := DataW.trod_struct ht hx
  obtain ⟨a, hK, hG⟩ := h (enc := enc) (w := w) (base := base) (spare := spare) (held := held) (fuel := n) (cs := cs) (fun f' hf' => by
    obtain ⟨i, hi⟩ := List.getElem?_of_mem hf'
    have hi' : fs[i]? = some f' := by simpa using hi
    have hlt : i < fs.size := (Array.getElem?_eq_some_iff.1 hi').1
    exact ⟨xs[i]'(by omega), by rw [hf i f' hi', List.getElem?_eq_getElem]⟩) (by rw [hl, hc, Nat.zero_add])
  refine ⟨g a, ?_, ?_⟩
  · show d.K w (f (g a)) cs
    rw [hfg]
    simpa using hK
  · show G (f (g a))
    rw [hfg]
    exact hG
end Go.Proofs.Ytihbalbcocfnfaa.O

/- FnExactEditCount: the law of the program holds at every input: the Go function returns true, and its arguments read afterwards as before.
Conditions: none beyond the given statement's own (what can be read as data, of a size that memory bears). -/
namespace Go.Proofs.Ytihbalbcocfnfaa.fnExactEditCount
open Go.ChangeShapes Go.WideShapes Go.ChangeAt Go.RowKit
open Go.ChangeMaps (open_string shut_string)
open Go.Proofs.Ytihbalbcocfnfaa.P Go.Proofs.Ytihbalbcocfnfaa.P.UFnExactEditCount Go.Proofs.YtihbalbcocfnfaaW.PrintWords
set_option linter.unusedVariables false
theorem own : ownKnob Try.prog.godebug = none := by kernel_rfl
theorem laidOut : laidOutB Try.prog = true := by kernel_rfl
set_option maxRecDepth 100000 in
theorem lifted (os : Os) (started : os.Started) (H : Type) (enc : TypeId × Value → H) :
    ReturnsInHanded {} Try.checked os 5 .any (Rows.fnExactEditCountSpec.pre6 enc Try.prog Try.f5 Rows.fnExactEditCountRow.domain false) (Rows.fnExactEditCountSpec.post enc Try.prog Try.f5 false true false false) := by
  refine returnsInHanded_of_change_sized (C := Try.checked) own started (by kernel_rfl) Try.func5
    (ChangeSpec.witness6 (enc := enc) (C := Try.checked) false ⟨#[], #[.slice none 0 0, .slice none 0 0], []⟩ 8 (by kernel_rfl) (by kernel_rfl) (by kernel_rfl) (by kernel_rfl)) ?_
  intro W base args ds gs before hval0 hW hcnd hsz0 _
  have hval : ∀ (j : Nat) t v, Try.f5.params[j]? = some t → args[j]? = some v → Value.okWide Try.prog W .any base t v := hval0
  have hW' := hW
  obtain ⟨p, q, hA0, hV, rfl, hfz, hnd⟩ := hW
  have hA : DataW.TrodAll enc Try.prog W 0 (fun _ => true) true Try.f5.params.toList args.toList ds p := hA0
  rw [Try.params5] at hA hval
  obtain ⟨v0, vs0, d0, ds0, p0, q0, hargs, rfl, rfl, h0, r0⟩ := trodAll_cons hA
  obtain ⟨v1, vs1, d1, ds1, p1, q1, rfl, rfl, rfl, h1, r1⟩ := trodAll_cons r0
  obtain ⟨rfl, rfl, rfl⟩ := trodAll_nil r1
  obtain rfl : args = #[v0, v1] := by cases args; simp_all
  obtain ⟨rfl, rfl⟩ := trodVars_none hV
  have k0_ := h0
  have lt0 : ∀ x ∈ p0, x.block < W.heap.size := by obtain ⟨m, hm⟩ := k0_; exact DataW.trod_lt m _ _ _ hm
  obtain ⟨b0, len0, cap0, rfl⟩ := okWide_slice Try.underlying22 (hval 0 22 v0 rfl rfl)
  obtain ⟨fuel0, hf0⟩ := h0
  obtain ⟨l0, ⟨A0, c0, hcs0, hc0, hr0⟩, g0⟩ := (O.opens_slice Try.underlying22 (by kernel_rfl) (O.opens_string Try.underlying9 (by kernel_rfl))).2 hf0
  simp [Value.cells] at hcs0
  obtain ⟨rfl, rfl, rfl⟩ := hcs0
  have k1_ := h1
  have lt1 : ∀ x ∈ p1, x.block < W.heap.size := by obtain ⟨m, hm⟩ := k1_; exact DataW.trod_lt m _ _ _ hm
  obtain ⟨b1, len1, cap1, rfl⟩ := okWide_slice Try.underlying22 (hval 1 22 v1 rfl rfl)
  obtain ⟨fuel1, hf1⟩ := h1
  obtain ⟨l1, ⟨A1, c1, hcs1, hc1, hr1⟩, g1⟩ := (O.opens_slice Try.underlying22 (by kernel_rfl) (O.opens_string Try.underlying9 (by kernel_rfl))).2 hf1
  simp [Value.cells] at hcs1
  obtain ⟨rfl, rfl, rfl⟩ := hcs1
  clear hA0 hval0 hsz0
  obtain ⟨k, h⟩ := VFnExactEditCount.proof l0 l1 g0 g1
  refine (laws_FnExactEditCount.calls k _ _ l0 _ _ l1 true W hr0 hc0 hr1 hc1 h rfl).mono fun e W' hend => ?_
  obtain ⟨rfl, hbel⟩ := hend
  have bel : Below W.heap.size W W' := hbel
  exact ⟨_, rfl, _, _, _, [], _, [], hW', trodAll_mk1 (shut_bool Try.underlying4 _), (trodAll_cons_mk (Below.trod laidOut (by kernel_rfl) (of_decide_eq_true (by kernel_rfl)) k0_ bel lt0) (trodAll_cons_mk (Below.trod laidOut (by kernel_rfl) (of_decide_eq_true (by kernel_rfl)) k1_ bel lt1) trodAll_mk0)), rfl, bel.frame _, fun h => by cases h⟩
theorem over : Rows.fnExactEditCountRow.holds Try.pinned (OpenSpec.ofChange Rows.fnExactEditCountSpec) :=
  OpenClaim.holds_of_wide 5 Try.f5 rfl rfl rfl rfl rfl rfl rfl ⟨rfl, rfl, rfl, rfl, rfl⟩ rfl rfl rfl rfl rfl (by kernel_rfl) Try.func5 (by kernel_rfl)
    (of_decide_eq_true (by kernel_rfl)) (by unfold Func.isWrapper; first | (rw [if_pos (by decide +kernel)]; kernel_rfl) | (rw [if_neg (by decide +kernel)]; exact ⟨rfl, rfl⟩))
    (fun os started H enc _ => lifted os started H enc)
theorem proved : Rows.FnExactEditCountSaid := over
#print axioms proved
end Go.Proofs.Ytihbalbcocfnfaa.fnExactEditCount
namespace Go.Proofs.Ytihbalbcocfnfaa
/-- The row, under a short name, for the claim. -/
theorem fnExactEditCount_holds : Rows.FnExactEditCountSaid := fnExactEditCount.proved
end Go.Proofs.Ytihbalbcocfnfaa
