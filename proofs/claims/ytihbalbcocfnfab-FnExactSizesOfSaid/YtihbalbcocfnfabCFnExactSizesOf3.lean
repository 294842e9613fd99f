/- FnExactSizesOf: the law of the program holds at every input: the Go function returns true, and its arguments read afterwards as before.
Conditions: none beyond the given statement's own (what can be read as data, of a size that memory bears). -/
import Derived.Lib.Strings
import Derived.Lib.Bytealg
import Derived.Laws.BytesArg
import Derived.SliceStrings
import Derived.DataReads
import Derived.DataElems
import Derived.Test.YtihbalbcocfnfabRows
import Derived.WalkKit
import Derived.ProofKit
import Derived.OpenShut
import Derived.ShutString
import Derived.ChangeOld
import Derived.Below
import Derived.SizedLaws
import Derived.Carry
import Derived.Test.YtihbalbcocfnfabCFnExactSizesOf1
import Derived.Test.YtihbalbcocfnfabCFnExactSizesOf2
section
namespace Go.Proofs.Ytihbalbcocfnfab.P
open Go.RowKit Go.Proofs.YtihbalbcocfnfabW.PrintWords Go.Proofs.YtihbalbcocfnfabW.PrintLast Go.Proofs.YtihbalbcocfnfabW.PrintMore
attribute [local go_sem] max2_int min2_int max_two min_two max_three min_three max_four min_four
set_option linter.unusedVariables false
set_option linter.unusedSimpArgs false
def laws_FnExactSizesOf.j0 : Nat → Bool → Int → Int → List ByteArray → Int → List Int → Int → List Int → Option (Bool)
 | 0, _, _, _, _, _, _, _, _ => none
 | k + 1, x42, x169000, x169001, x169002, x180000, x180001, x191000, x191001 => if x42 = true then (some false) else ((laws_markIntsResult.f k x191000 x191001 1).bind fun bt201 => ((laws_heldIntsResult.f k x191000 bt201.2 1).bind fun t203 => (if t203 < 0 then (some false) else (if t203 = bt201.1 then ((laws_toHunk.f k x169000 x169001 x169002).bind fun bt204 => ((impl_SizesOf.f k bt204.1 bt204.2.1 bt204.2.2).bind fun bt209 => ((laws_eqIntsResult.f k bt209.1 bt209.2 x180000 x180001).bind fun t214 => (if t214 = true then ((laws_heldIntsResult.f k x191000 bt201.2 1).bind fun t215 => (if t215 < 0 then (some false) else (if t215 = bt201.1 then (some true) else (some false)))) else (some false))))) else (some false)))))
def laws_FnExactSizesOf.f (k : Nat) (a0_0 : Int) (a0_1 : Int) (l0_2 : List ByteArray) : Option (Bool) := (laws_szHunk.f k a0_0 a0_1 l0_2 1048576).bind fun t169 => (if t169 < 0 then (some true) else ((laws_toHunk.f k a0_0 a0_1 l0_2).bind fun bt170 => ((spec_SizesOf.f k bt170.1 bt170.2.1 bt170.2.2).bind fun bt175 => ((laws_toHunk.f k a0_0 a0_1 l0_2).bind fun bt180 => ((impl_SizesOf.f k bt180.1 bt180.2.1 bt180.2.2).bind fun bt186 => ((laws_eqIntsResult.f k bt186.1 bt186.2 bt175.1 bt175.2).bind fun t191 => (if t191 = true then ((laws_toHunk.f k a0_0 a0_1 l0_2).bind fun bt192 => ((laws_eqHunk.f k bt180.1 bt180.2.1 bt180.2.2 bt192.1 bt192.2.1 bt192.2.2).bind fun t197 => (if t197 = true then ((laws_markHunk.f k bt180.1 bt180.2.1 bt180.2.2 1).bind fun bt198 => (if bt198.1 < 0 then (laws_FnExactSizesOf.j0 k true a0_0 a0_1 l0_2 bt175.1 bt175.2 bt186.1 bt186.2) else ((laws_eqIntsResult.f k bt186.1 bt186.2 bt175.1 bt175.2).bind fun t200 => (laws_FnExactSizesOf.j0 k (!t200) a0_0 a0_1 l0_2 bt175.1 bt175.2 bt186.1 bt186.2)))) else (some false)))) else (some false))))))))
set_option maxHeartbeats 8000000 in
set_option maxRecDepth 100000 in
theorem laws_FnExactSizesOf.calls (k : Nat) (a0_0 : Int) (a0_1 : Int) (A0_2 : Option Addr) (c0_2 : Nat) (l0_2 : List ByteArray) (r : Bool) (w : World) (hr0_2 : Kd.C Kd.string w A0_2 l0_2.length l0_2) (hc0_2 : l0_2.length ≤ c0_2) (h : laws_FnExactSizesOf.f k a0_0 a0_1 l0_2 = some r) (hlaw : r = true) :
  Calls Try.prog 3 #[.agg #[.int .i64 a0_0, .int .i64 a0_1, .slice A0_2 l0_2.length c0_2]] w fun e w' => e = .returned (.bool r) ∧ Below w.heap.size w w' := by
 have hu24 := Try.underlying24
 have hu28 := Try.underlying28
 have hu30 := Try.underlying30
 have HR0_2 := Aside0.mk hr0_2
 have HC0_2 := Aside0.mk hc0_2
 clear hr0_2 hc0_2
 have HB := Aside0.mk (Below.refl w.heap.size w)
 have HLAW := Aside0.mk hlaw
 clear hlaw
 have H : ((laws_szHunk.f k a0_0 a0_1 l0_2 1048576).bind fun t169 => (if t169 < 0 then (some true) else ((laws_toHunk.f k a0_0 a0_1 l0_2).bind fun bt170 => ((spec_SizesOf.f k bt170.1 bt170.2.1 bt170.2.2).bind fun bt175 => ((laws_toHunk.f k a0_0 a0_1 l0_2).bind fun bt180 => ((impl_SizesOf.f k bt180.1 bt180.2.1 bt180.2.2).bind fun bt186 => ((laws_eqIntsResult.f k bt186.1 bt186.2 bt175.1 bt175.2).bind fun t191 => (if t191 = true then ((laws_toHunk.f k a0_0 a0_1 l0_2).bind fun bt192 => ((laws_eqHunk.f k bt180.1 bt180.2.1 bt180.2.2 bt192.1 bt192.2.1 bt192.2.2).bind fun t197 => (if t197 = true then ((laws_markHunk.f k bt180.1 bt180.2.1 bt180.2.2 1).bind fun bt198 => (if bt198.1 < 0 then (laws_FnExactSizesOf.j0 k true a0_0 a0_1 l0_2 bt175.1 bt175.2 bt186.1 bt186.2) else ((laws_eqIntsResult.f k bt186.1 bt186.2 bt175.1 bt175.2).bind fun t200 => (laws_FnExactSizesOf.j0 k (!t200) a0_0 a0_1 l0_2 bt175.1 bt175.2 bt186.1 bt186.2)))) else (some false)))) else (some false))))))))) = some r := h
 clear h
 replace H := Option.bind_eq_some_iff.mp H
 obtain ⟨t169, A20, H⟩ := H
 replace H : (if t169 < 0 then (some true) else ((laws_toHunk.f k a0_0 a0_1 l0_2).bind fun bt170 => ((spec_SizesOf.f k bt170.1 bt170.2.1 bt170.2.2).bind fun bt175 => ((laws_toHunk.f k a0_0 a0_1 l0_2).bind fun bt180 => ((impl_SizesOf.f k bt180.1 bt180.2.1 bt180.2.2).bind fun bt186 => ((laws_eqIntsResult.f k bt186.1 bt186.2 bt175.1 bt175.2).bind fun t191 => (if t191 = true then ((laws_toHunk.f k a0_0 a0_1 l0_2).bind fun bt192 => ((laws_eqHunk.f k bt180.1 bt180.2.1 bt180.2.2 bt192.1 bt192.2.1 bt192.2.2).bind fun t197 => (if t197 = true then ((laws_markHunk.f k bt180.1 bt180.2.1 bt180.2.2 1).bind fun bt198 => (if bt198.1 < 0 then (laws_FnExactSizesOf.j0 k true a0_0 a0_1 l0_2 bt175.1 bt175.2 bt186.1 bt186.2) else ((laws_eqIntsResult.f k bt186.1 bt186.2 bt175.1 bt175.2).bind fun t200 => (laws_FnExactSizesOf.j0 k (!t200) a0_0 a0_1 l0_2 bt175.1 bt175.2 bt186.1 bt186.2)))) else (some false)))) else (some false)))))))) = some r := H
 have A2 := Aside0.mk A20
 clear A20
 by_cases c3 : t169 < 0
 ·rw [if_pos c3] at H
  have c3b0 : decide (t169 < 0) = true := decide_eq_true c3
  clear c3
  obtain rfl := Option.some.inj H
  go_enter Try.func3, Try.ntmps3
  go_wp2_with (first | ((with_reducible refine gate_dst (N := 1) rfl ?_); refine box_event ?hg (N := 1) ?hd (cs := #[.int .i64 a0_0, .int .i64 a0_1, .slice A0_2 l0_2.length c0_2]) (t := 24) ?hr ?_; (case hd => rfl); (case hg => rfl); (case hr => first | (go_simp; done) | (go_simp; rfl)); intro gb168 hg w4 hbox hb; have n0_ := Aside0.mk (below_step (by repeat (first | (with_reducible first | exact HB.out | apply below_alloc | apply pw_below_drewN | apply below_drew1) | exact HB.out)) hb); have n1_ := Aside0.mk (hbox); have n2_ := Aside0.mk ((by rw [hg]; exact (below_size (by repeat (first | (with_reducible first | exact HB.out | apply below_alloc | apply pw_below_drewN | apply below_drew1) | exact HB.out))) : w.heap.size ≤ gb168)); have n3_ := Aside0.mk ((by rw [hg]; exact (below_size (by repeat (first | (with_reducible first | exact HB.out | apply below_alloc | apply pw_below_drewN | apply below_drew1) | exact HB.out))) : w.heap.size ≤ gb168)); clear HB; have HB := n0_; have BK168 := n1_; have GW168 := n2_; have GE168 := n3_; clear n0_ n1_ n2_ n3_; clear hb hbox hg; have hcz5_0 : w4.cell? ⟨gb168, 0, none⟩ = some (.int .i64 a0_0) := (blk_cell BK168.out 0).trans rfl; have hcz5_1 : w4.cell? ⟨gb168, 1, none⟩ = some (.int .i64 a0_1) := (blk_cell BK168.out 1).trans rfl; have hcz5_2 : w4.cell? ⟨gb168, 2, none⟩ = some (.slice A0_2 l0_2.length c0_2) := (blk_cell BK168.out 2).trans rfl; have hfz5_0 := blk_frozen BK168.out 0; have hfz5_1 := blk_frozen BK168.out 1; have hfz5_2 := blk_frozen BK168.out 2) | ((with_reducible refine gate_callee (f := 10) rfl ?_); refine goesL_ (some 13) rfl rfl Try.func10 (by kernel_rfl) rfl #[.agg #[.int .i64 a0_0, .int .i64 a0_1, .slice A0_2 l0_2.length c0_2], .int .i64 1048576] rfl (by (try simp only [List.map_toArray, List.map_cons, List.map_nil]); first | done | rfl | (simp only [List.length_drop, List.length_take]; rfl)) ?_; (with_reducible refine (laws_szHunk.calls k a0_0 a0_1 _ _ l0_2 1048576 t169 _ ?side1 ?side2 A2.out).mono ?_); (case side1 => repeat (first | exact (Kd.C_below HR0_2.out HB.out) | (with_reducible refine Kd.C_alloc ?_ _) | (with_reducible refine Kd.C_drewN ?_ _) | (with_reducible refine Kd.C_drew ?_))); (case side2 => exact HC0_2.out); rintro e w6 ⟨rfl, hb⟩; refine ⟨_, rfl, ?_⟩; have n0_ := Aside0.mk (blk_below (g := gb168) (o := .cells #[.int .i64 a0_0, .int .i64 a0_1, .slice A0_2 l0_2.length c0_2] 24 (0, 0)) (by (with_reducible repeat (first | refine blk_drewN ?_ _ | refine blk_drew ?_ | refine blk_alloc ?_ _)); exact BK168.out) hb); have n1_ := Aside0.mk (below_step (by repeat (first | (with_reducible first | exact HB.out | apply below_alloc | apply pw_below_drewN | apply below_drew1 | refine below_set ?_ GE168.out) | exact HB.out)) hb); clear BK168; clear HB; have BK168 := n0_; have HB := n1_; clear n0_ n1_; (try clear hb); (try clear hb2); (try clear hk); (try clear hi)))
  go_ret
  exact ⟨by first | rfl | (simp [errW_none, errW_some] <;> rfl) | (simp [*, errW_none, errW_some] <;> rfl), by repeat (first | (with_reducible first | exact HB.out | apply below_alloc | apply pw_below_drewN | apply below_drew1 | refine below_set ?_ GE168.out) | exact HB.out)⟩
 ·rw [if_neg c3] at H
  have c3b0 : decide (t169 < 0) = false := decide_eq_false c3
  clear c3
  replace H := Option.bind_eq_some_iff.mp H
  obtain ⟨⟨t170, t171, t172⟩, A70, H⟩ := H
  replace H : ((spec_SizesOf.f k t170 t171 t172).bind fun bt175 => ((laws_toHunk.f k a0_0 a0_1 l0_2).bind fun bt180 => ((impl_SizesOf.f k bt180.1 bt180.2.1 bt180.2.2).bind fun bt186 => ((laws_eqIntsResult.f k bt186.1 bt186.2 bt175.1 bt175.2).bind fun t191 => (if t191 = true then ((laws_toHunk.f k a0_0 a0_1 l0_2).bind fun bt192 => ((laws_eqHunk.f k bt180.1 bt180.2.1 bt180.2.2 bt192.1 bt192.2.1 bt192.2.2).bind fun t197 => (if t197 = true then ((laws_markHunk.f k bt180.1 bt180.2.1 bt180.2.2 1).bind fun bt198 => (if bt198.1 < 0 then (laws_FnExactSizesOf.j0 k true a0_0 a0_1 l0_2 bt175.1 bt175.2 bt186.1 bt186.2) else ((laws_eqIntsResult.f k bt186.1 bt186.2 bt175.1 bt175.2).bind fun t200 => (laws_FnExactSizesOf.j0 k (!t200) a0_0 a0_1 l0_2 bt175.1 bt175.2 bt186.1 bt186.2)))) else (some false)))) else (some false)))))) = some r := H
  have A7 := Aside0.mk A70
  clear A70
  replace H := Option.bind_eq_some_iff.mp H
  obtain ⟨⟨t175, t176⟩, A80, H⟩ := H
  replace H : ((laws_toHunk.f k a0_0 a0_1 l0_2).bind fun bt180 => ((impl_SizesOf.f k bt180.1 bt180.2.1 bt180.2.2).bind fun bt186 => ((laws_eqIntsResult.f k bt186.1 bt186.2 t175 t176).bind fun t191 => (if t191 = true then ((laws_toHunk.f k a0_0 a0_1 l0_2).bind fun bt192 => ((laws_eqHunk.f k bt180.1 bt180.2.1 bt180.2.2 bt192.1 bt192.2.1 bt192.2.2).bind fun t197 => (if t197 = true then ((laws_markHunk.f k bt180.1 bt180.2.1 bt180.2.2 1).bind fun bt198 => (if bt198.1 < 0 then (laws_FnExactSizesOf.j0 k true a0_0 a0_1 l0_2 t175 t176 bt186.1 bt186.2) else ((laws_eqIntsResult.f k bt186.1 bt186.2 t175 t176).bind fun t200 => (laws_FnExactSizesOf.j0 k (!t200) a0_0 a0_1 l0_2 t175 t176 bt186.1 bt186.2)))) else (some false)))) else (some false))))) = some r := H
  have A8 := Aside0.mk A80
  clear A80
  replace H := Option.bind_eq_some_iff.mp H
  obtain ⟨⟨t180, t181, t182⟩, A90, H⟩ := H
  replace H : ((impl_SizesOf.f k t180 t181 t182).bind fun bt186 => ((laws_eqIntsResult.f k bt186.1 bt186.2 t175 t176).bind fun t191 => (if t191 = true then ((laws_toHunk.f k a0_0 a0_1 l0_2).bind fun bt192 => ((laws_eqHunk.f k t180 t181 t182 bt192.1 bt192.2.1 bt192.2.2).bind fun t197 => (if t197 = true then ((laws_markHunk.f k t180 t181 t182 1).bind fun bt198 => (if bt198.1 < 0 then (laws_FnExactSizesOf.j0 k true a0_0 a0_1 l0_2 t175 t176 bt186.1 bt186.2) else ((laws_eqIntsResult.f k bt186.1 bt186.2 t175 t176).bind fun t200 => (laws_FnExactSizesOf.j0 k (!t200) a0_0 a0_1 l0_2 t175 t176 bt186.1 bt186.2)))) else (some false)))) else (some false)))) = some r := H
  have A9 := Aside0.mk A90
  clear A90
  replace H := Option.bind_eq_some_iff.mp H
  obtain ⟨⟨t186, t187⟩, A100, H⟩ := H
  replace H : ((laws_eqIntsResult.f k t186 t187 t175 t176).bind fun t191 => (if t191 = true then ((laws_toHunk.f k a0_0 a0_1 l0_2).bind fun bt192 => ((laws_eqHunk.f k t180 t181 t182 bt192.1 bt192.2.1 bt192.2.2).bind fun t197 => (if t197 = true then ((laws_markHunk.f k t180 t181 t182 1).bind fun bt198 => (if bt198.1 < 0 then (laws_FnExactSizesOf.j0 k true a0_0 a0_1 l0_2 t175 t176 t186 t187) else ((laws_eqIntsResult.f k t186 t187 t175 t176).bind fun t200 => (laws_FnExactSizesOf.j0 k (!t200) a0_0 a0_1 l0_2 t175 t176 t186 t187)))) else (some false)))) else (some false))) = some r := H
  have A10 := Aside0.mk A100
  clear A100
  replace H := Option.bind_eq_some_iff.mp H
  obtain ⟨t191, A110, H⟩ := H
  replace H : (if t191 = true then ((laws_toHunk.f k a0_0 a0_1 l0_2).bind fun bt192 => ((laws_eqHunk.f k t180 t181 t182 bt192.1 bt192.2.1 bt192.2.2).bind fun t197 => (if t197 = true then ((laws_markHunk.f k t180 t181 t182 1).bind fun bt198 => (if bt198.1 < 0 then (laws_FnExactSizesOf.j0 k true a0_0 a0_1 l0_2 t175 t176 t186 t187) else ((laws_eqIntsResult.f k t186 t187 t175 t176).bind fun t200 => (laws_FnExactSizesOf.j0 k (!t200) a0_0 a0_1 l0_2 t175 t176 t186 t187)))) else (some false)))) else (some false)) = some r := H
  have A11 := Aside0.mk A110
  clear A110
  by_cases c12 : t191 = true
  ·subst c12
   have H1 : ((laws_toHunk.f k a0_0 a0_1 l0_2).bind fun bt192 => ((laws_eqHunk.f k t180 t181 t182 bt192.1 bt192.2.1 bt192.2.2).bind fun t197 => (if t197 = true then ((laws_markHunk.f k t180 t181 t182 1).bind fun bt198 => (if bt198.1 < 0 then (laws_FnExactSizesOf.j0 k true a0_0 a0_1 l0_2 t175 t176 t186 t187) else ((laws_eqIntsResult.f k t186 t187 t175 t176).bind fun t200 => (laws_FnExactSizesOf.j0 k (!t200) a0_0 a0_1 l0_2 t175 t176 t186 t187)))) else (some false)))) = some r := by rw [if_pos rfl] at H; exact H
   clear H
   have H := H1
   clear H1
   replace H := Option.bind_eq_some_iff.mp H
   obtain ⟨⟨t192, t193, t194⟩, A130, H⟩ := H
   replace H : ((laws_eqHunk.f k t180 t181 t182 t192 t193 t194).bind fun t197 => (if t197 = true then ((laws_markHunk.f k t180 t181 t182 1).bind fun bt198 => (if bt198.1 < 0 then (laws_FnExactSizesOf.j0 k true a0_0 a0_1 l0_2 t175 t176 t186 t187) else ((laws_eqIntsResult.f k t186 t187 t175 t176).bind fun t200 => (laws_FnExactSizesOf.j0 k (!t200) a0_0 a0_1 l0_2 t175 t176 t186 t187)))) else (some false))) = some r := H
   have A13 := Aside0.mk A130
   clear A130
   replace H := Option.bind_eq_some_iff.mp H
   obtain ⟨t197, A140, H⟩ := H
   replace H : (if t197 = true then ((laws_markHunk.f k t180 t181 t182 1).bind fun bt198 => (if bt198.1 < 0 then (laws_FnExactSizesOf.j0 k true a0_0 a0_1 l0_2 t175 t176 t186 t187) else ((laws_eqIntsResult.f k t186 t187 t175 t176).bind fun t200 => (laws_FnExactSizesOf.j0 k (!t200) a0_0 a0_1 l0_2 t175 t176 t186 t187)))) else (some false)) = some r := H
   have A14 := Aside0.mk A140
   clear A140
   by_cases c15 : t197 = true
   ·subst c15
    have H1 : ((laws_markHunk.f k t180 t181 t182 1).bind fun bt198 => (if bt198.1 < 0 then (laws_FnExactSizesOf.j0 k true a0_0 a0_1 l0_2 t175 t176 t186 t187) else ((laws_eqIntsResult.f k t186 t187 t175 t176).bind fun t200 => (laws_FnExactSizesOf.j0 k (!t200) a0_0 a0_1 l0_2 t175 t176 t186 t187)))) = some r := by rw [if_pos rfl] at H; exact H
    clear H
    have H := H1
    clear H1
    replace H := Option.bind_eq_some_iff.mp H
    obtain ⟨⟨t198, t199⟩, A160, H⟩ := H
    replace H : (if t198 < 0 then (laws_FnExactSizesOf.j0 k true a0_0 a0_1 l0_2 t175 t176 t186 t187) else ((laws_eqIntsResult.f k t186 t187 t175 t176).bind fun t200 => (laws_FnExactSizesOf.j0 k (!t200) a0_0 a0_1 l0_2 t175 t176 t186 t187))) = some r := H
    have A16 := Aside0.mk A160
    clear A160
    have HC17 := Aside0.mk H
    clear H
    go_enter Try.func3, Try.ntmps3
    try go_wp2_with (first | ((with_reducible refine gate_dst (N := 1) rfl ?_); refine box_event ?hg (N := 1) ?hd (cs := #[.int .i64 a0_0, .int .i64 a0_1, .slice A0_2 l0_2.length c0_2]) (t := 24) ?hr ?_; (case hd => rfl); (case hg => rfl); (case hr => first | (go_simp; done) | (go_simp; rfl)); intro gb168 hg w18 hbox hb; have n0_ := Aside0.mk (below_step (by repeat (first | (with_reducible first | exact HB.out | apply below_alloc | apply pw_below_drewN | apply below_drew1) | exact HB.out)) hb); have n1_ := Aside0.mk (hbox); have n2_ := Aside0.mk ((by rw [hg]; exact (below_size (by repeat (first | (with_reducible first | exact HB.out | apply below_alloc | apply pw_below_drewN | apply below_drew1) | exact HB.out))) : w.heap.size ≤ gb168)); have n3_ := Aside0.mk ((by rw [hg]; exact (below_size (by repeat (first | (with_reducible first | exact HB.out | apply below_alloc | apply pw_below_drewN | apply below_drew1) | exact HB.out))) : w.heap.size ≤ gb168)); clear HB; have HB := n0_; have BK168 := n1_; have GW168 := n2_; have GE168 := n3_; clear n0_ n1_ n2_ n3_; clear hb hbox hg; have hcz19_0 : w18.cell? ⟨gb168, 0, none⟩ = some (.int .i64 a0_0) := (blk_cell BK168.out 0).trans rfl; have hcz19_1 : w18.cell? ⟨gb168, 1, none⟩ = some (.int .i64 a0_1) := (blk_cell BK168.out 1).trans rfl; have hcz19_2 : w18.cell? ⟨gb168, 2, none⟩ = some (.slice A0_2 l0_2.length c0_2) := (blk_cell BK168.out 2).trans rfl; have hfz19_0 := blk_frozen BK168.out 0; have hfz19_1 := blk_frozen BK168.out 1; have hfz19_2 := blk_frozen BK168.out 2) | ((with_reducible refine gate_callee (f := 10) rfl ?_); refine goesL_ (some 13) rfl rfl Try.func10 (by kernel_rfl) rfl #[.agg #[.int .i64 a0_0, .int .i64 a0_1, .slice A0_2 l0_2.length c0_2], .int .i64 1048576] rfl (by (try simp only [List.map_toArray, List.map_cons, List.map_nil]); first | done | rfl | (simp only [List.length_drop, List.length_take]; rfl)) ?_; (with_reducible refine (laws_szHunk.calls k a0_0 a0_1 _ _ l0_2 1048576 t169 _ ?side1 ?side2 A2.out).mono ?_); (case side1 => repeat (first | exact (Kd.C_below HR0_2.out HB.out) | (with_reducible refine Kd.C_alloc ?_ _) | (with_reducible refine Kd.C_drewN ?_ _) | (with_reducible refine Kd.C_drew ?_))); (case side2 => exact HC0_2.out); rintro e w20 ⟨rfl, hb⟩; refine ⟨_, rfl, ?_⟩; have n0_ := Aside0.mk (blk_below (g := gb168) (o := .cells #[.int .i64 a0_0, .int .i64 a0_1, .slice A0_2 l0_2.length c0_2] 24 (0, 0)) (by (with_reducible repeat (first | refine blk_drewN ?_ _ | refine blk_drew ?_ | refine blk_alloc ?_ _)); exact BK168.out) hb); have n1_ := Aside0.mk (below_step (by repeat (first | (with_reducible first | exact HB.out | apply below_alloc | apply pw_below_drewN | apply below_drew1 | refine below_set ?_ GE168.out) | exact HB.out)) hb); clear BK168; clear HB; have BK168 := n0_; have HB := n1_; clear n0_ n1_; (try clear hb); (try clear hb2); (try clear hk); (try clear hi); have hcz21_0 : w20.cell? ⟨gb168, 0, none⟩ = some (.int .i64 a0_0) := (blk_cell BK168.out 0).trans rfl; have hcz21_1 : w20.cell? ⟨gb168, 1, none⟩ = some (.int .i64 a0_1) := (blk_cell BK168.out 1).trans rfl; have hcz21_2 : w20.cell? ⟨gb168, 2, none⟩ = some (.slice A0_2 l0_2.length c0_2) := (blk_cell BK168.out 2).trans rfl; have hfz21_0 := blk_frozen BK168.out 0; have hfz21_1 := blk_frozen BK168.out 1; have hfz21_2 := blk_frozen BK168.out 2) | ((with_reducible refine gate_callee (f := 12) rfl ?_); refine goesL_ (some 17) rfl rfl Try.func12 (by kernel_rfl) rfl #[.agg #[.int .i64 a0_0, .int .i64 a0_1, .slice A0_2 l0_2.length c0_2]] rfl (by (try simp only [List.map_toArray, List.map_cons, List.map_nil]); first | done | rfl | (simp only [List.length_drop, List.length_take]; rfl)) ?_; (with_reducible refine (laws_toHunk.calls k a0_0 a0_1 _ _ l0_2 t170 t171 t172 _ ?side1 ?side2 A7.out).mono ?_); (case side1 => repeat (first | exact (Kd.C_below HR0_2.out HB.out) | (with_reducible refine Kd.C_alloc ?_ _) | (with_reducible refine Kd.C_drewN ?_ _) | (with_reducible refine Kd.C_drew ?_))); (case side2 => exact HC0_2.out); rintro e w22 ⟨v173, rfl, ho0, hb⟩; refine ⟨_, rfl, ?_⟩; have n0_ := Aside0.mk (Kd.R_lower ho0 (below_size (by repeat (first | (with_reducible first | exact HB.out | apply below_alloc | apply pw_below_drewN | apply below_drew1 | refine below_set ?_ GE168.out) | exact HB.out)))); have n1_ := Aside0.mk (blk_below (g := gb168) (o := .cells #[.int .i64 a0_0, .int .i64 a0_1, .slice A0_2 l0_2.length c0_2] 24 (0, 0)) (by (with_reducible repeat (first | refine blk_drewN ?_ _ | refine blk_drew ?_ | refine blk_alloc ?_ _)); exact BK168.out) hb); have n2_ := Aside0.mk (below_step (by repeat (first | (with_reducible first | exact HB.out | apply below_alloc | apply pw_below_drewN | apply below_drew1 | refine below_set ?_ GE168.out) | exact HB.out)) hb); clear BK168; clear HB; have HO174 := n0_; have BK168 := n1_; have HB := n2_; clear n0_ n1_ n2_; (try clear hb); (try clear hb2); (try clear hk); (try clear hi); (try clear ho0); obtain ⟨Ao23, co23, eo23⟩ := Kd.R_slice HO174.out; subst eo23) | ((with_reducible refine gate_callee (f := 11) rfl ?_); refine goesL_ (some 18) rfl rfl Try.func11 (by kernel_rfl) rfl #[.agg #[.int .i64 t170, .int .i64 t171, .slice Ao23 t172.length co23]] rfl (by (try simp only [List.map_toArray, List.map_cons, List.map_nil]); first | done | rfl | (simp only [List.length_drop, List.length_take]; rfl)) ?_; (with_reducible refine (spec_SizesOf.calls k t170 t171 _ _ t172 t175 t176 _ ?side1 ?side2 A8.out).mono ?_); (case side1 => repeat (first | exact (Kd.R_reads' HO174.out).2.2 | (with_reducible refine Kd.C_alloc ?_ _) | (with_reducible refine Kd.C_drewN ?_ _) | (with_reducible refine Kd.C_drew ?_))); (case side2 => exact (Kd.R_reads' HO174.out).2.1); rintro e w24 ⟨v177, rfl, ho0, hb⟩; refine ⟨_, rfl, ?_⟩; have n0_ := Aside0.mk (Kd.R_below (by (with_reducible repeat (first | apply Kd.R_alloc | apply Kd.R_drewN | apply Kd.R_drew)); exact HO174.out) hb); have n1_ := Aside0.mk (Kd.R_lower ho0 (below_size (by repeat (first | (with_reducible first | exact HB.out | apply below_alloc | apply pw_below_drewN | apply below_drew1 | refine below_set ?_ GE168.out) | exact HB.out)))); have n2_ := Aside0.mk (blk_below (g := gb168) (o := .cells #[.int .i64 a0_0, .int .i64 a0_1, .slice A0_2 l0_2.length c0_2] 24 (0, 0)) (by (with_reducible repeat (first | refine blk_drewN ?_ _ | refine blk_drew ?_ | refine blk_alloc ?_ _)); exact BK168.out) hb); have n3_ := Aside0.mk (below_step (by repeat (first | (with_reducible first | exact HB.out | apply below_alloc | apply pw_below_drewN | apply below_drew1 | refine below_set ?_ GE168.out) | exact HB.out)) hb); clear HO174; clear BK168; clear HB; have HO174 := n0_; have HO178 := n1_; have BK168 := n2_; have HB := n3_; clear n0_ n1_ n2_ n3_; (try clear hb); (try clear hb2); (try clear hk); (try clear hi); (try clear ho0)) | ((with_reducible refine gate_dst (N := 4) rfl ?_); refine box_event ?hg (N := 4) ?hd (cs := #[.int .i64 0, .slice none 0 0]) (t := 28) ?hr ?_; (case hd => rfl); (case hg => rfl); (case hr => first | (go_simp; done) | (go_simp; rfl)); intro gb179 hg w25 hbox hb; have n0_ := Aside0.mk (Kd.R_below (by (with_reducible repeat (first | apply Kd.R_alloc | apply Kd.R_drewN | apply Kd.R_drew)); exact HO174.out) hb); have n1_ := Aside0.mk (Kd.R_below (by (with_reducible repeat (first | apply Kd.R_alloc | apply Kd.R_drewN | apply Kd.R_drew)); exact HO178.out) hb); have n2_ := Aside0.mk (blk_below (g := gb168) (o := .cells #[.int .i64 a0_0, .int .i64 a0_1, .slice A0_2 l0_2.length c0_2] 24 (0, 0)) (by (with_reducible repeat (first | refine blk_drewN ?_ _ | refine blk_drew ?_ | refine blk_alloc ?_ _)); exact BK168.out) hb); have n3_ := Aside0.mk (below_step (by repeat (first | (with_reducible first | exact HB.out | apply below_alloc | apply pw_below_drewN | apply below_drew1 | refine below_set ?_ GE168.out) | exact HB.out)) hb); have n4_ := Aside0.mk (hbox); have n5_ := Aside0.mk ((by rw [hg]; exact (below_size (by repeat (first | (with_reducible first | exact HB.out | apply below_alloc | apply pw_below_drewN | apply below_drew1 | refine below_set ?_ GE168.out) | exact HB.out))) : w.heap.size ≤ gb179)); have n6_ := Aside0.mk ((by rw [hg]; exact (below_size (by repeat (first | (with_reducible first | exact HB.out | apply below_alloc | apply pw_below_drewN | apply below_drew1 | refine below_set ?_ GE168.out) | exact HB.out))) : w.heap.size ≤ gb179)); have n7_ := Aside0.mk ((by rw [hg]; exact Nat.ne_of_lt (blk_lt (g := gb168) (o := .cells #[.int .i64 a0_0, .int .i64 a0_1, .slice A0_2 l0_2.length c0_2] 24 (0, 0)) (by (with_reducible repeat (first | refine blk_drewN ?_ _ | refine blk_drew ?_ | refine blk_alloc ?_ _)); exact BK168.out)) : gb168 ≠ gb179)); have n8_ := Aside0.mk ((by rw [hg]; exact Nat.ne_of_gt (blk_lt (g := gb168) (o := .cells #[.int .i64 a0_0, .int .i64 a0_1, .slice A0_2 l0_2.length c0_2] 24 (0, 0)) (by (with_reducible repeat (first | refine blk_drewN ?_ _ | refine blk_drew ?_ | refine blk_alloc ?_ _)); exact BK168.out)) : gb179 ≠ gb168)); clear HO174; clear HO178; clear BK168; clear HB; have HO174 := n0_; have HO178 := n1_; have BK168 := n2_; have HB := n3_; have BK179 := n4_; have GW179 := n5_; have GE179 := n6_; have NB168_179 := n7_; have NB179_168 := n8_; clear n0_ n1_ n2_ n3_ n4_ n5_ n6_ n7_ n8_; clear hb hbox hg; have hnb26 := NB179_168.out; have hnc26 := NB168_179.out; have hcz27_0 : w25.cell? ⟨gb179, 0, none⟩ = some (.int .i64 0) := (blk_cell BK179.out 0).trans rfl; have hcz27_1 : w25.cell? ⟨gb179, 1, none⟩ = some (.slice none 0 0) := (blk_cell BK179.out 1).trans rfl; have hfz27_0 := blk_frozen BK179.out 0; have hfz27_1 := blk_frozen BK179.out 1; obtain ⟨Ao28, co28, eo28⟩ := Kd.R_slice HO178.out; subst eo28; have hcz29_0 : w25.cell? ⟨gb168, 0, none⟩ = some (.int .i64 a0_0) := (blk_cell BK168.out 0).trans rfl; have hcz29_1 : w25.cell? ⟨gb168, 1, none⟩ = some (.int .i64 a0_1) := (blk_cell BK168.out 1).trans rfl; have hcz29_2 : w25.cell? ⟨gb168, 2, none⟩ = some (.slice A0_2 l0_2.length c0_2) := (blk_cell BK168.out 2).trans rfl; have hfz29_0 := blk_frozen BK168.out 0; have hfz29_1 := blk_frozen BK168.out 1; have hfz29_2 := blk_frozen BK168.out 2) | ((with_reducible refine gate_callee (f := 12) rfl ?_); refine goesL_ (some 20) rfl rfl Try.func12 (by kernel_rfl) rfl #[.agg #[.int .i64 a0_0, .int .i64 a0_1, .slice A0_2 l0_2.length c0_2]] rfl (by (try simp only [List.map_toArray, List.map_cons, List.map_nil]); first | done | rfl | (simp only [List.length_drop, List.length_take]; rfl)) ?_; (with_reducible refine (laws_toHunk.calls k a0_0 a0_1 _ _ l0_2 t180 t181 t182 _ ?side1 ?side2 A9.out).mono ?_); (case side1 => exact Kd.C_below HR0_2.out (by repeat (first | (with_reducible first | exact HB.out | apply below_alloc | apply pw_below_drewN | apply below_drew1 | refine below_set ?_ GE168.out | refine below_set ?_ GE179.out) | exact HB.out))); (case side2 => exact HC0_2.out); rintro e w30 ⟨v183, rfl, ho0, hb⟩; refine ⟨_, rfl, ?_⟩; have n0_ := Aside0.mk (Kd.R_elder' (by (with_reducible repeat (first | apply Kd.R_alloc | apply Kd.R_drewN | apply Kd.R_drew)); exact (Kd.R_mono (Kd.R_far (p := ⟨gb179, 1, none⟩) (Kd.R_far (p := ⟨gb179, 0, none⟩) (Kd.R_types HO174.out BK179.out (by decide)) (fun _ hk => hk.2) (.int .i64 t175)) (fun _ hk => hk.2) (.slice Ao28 t176.length co28)) (fun _ h_ => h_.1))) (Kd.R_base ho0) hb); have n1_ := Aside0.mk (Kd.R_below (by (with_reducible repeat (first | apply Kd.R_alloc | apply Kd.R_drewN | apply Kd.R_drew)); exact (Kd.R_mono (Kd.R_far (p := ⟨gb179, 1, none⟩) (Kd.R_far (p := ⟨gb179, 0, none⟩) (Kd.R_types HO178.out BK179.out (by decide)) (fun _ hk => hk.2) (.int .i64 t175)) (fun _ hk => hk.2) (.slice Ao28 t176.length co28)) (fun _ h_ => h_.1))) hb); have n2_ := Aside0.mk (Kd.R_lower (Kd.R_new' ho0 (Kd.R_lt (by (with_reducible repeat (first | apply Kd.R_alloc | apply Kd.R_drewN | apply Kd.R_drew)); exact (Kd.R_mono (Kd.R_far (p := ⟨gb179, 1, none⟩) (Kd.R_far (p := ⟨gb179, 0, none⟩) (Kd.R_types HO174.out BK179.out (by decide)) (fun _ hk => hk.2) (.int .i64 t175)) (fun _ hk => hk.2) (.slice Ao28 t176.length co28)) (fun _ h_ => h_.1))))) (below_size (by repeat (first | (with_reducible first | exact HB.out | apply below_alloc | apply pw_below_drewN | apply below_drew1 | refine below_set ?_ GE168.out | refine below_set ?_ GE179.out) | exact HB.out)))); have n3_ := Aside0.mk (blk_below (g := gb168) (o := .cells #[.int .i64 a0_0, .int .i64 a0_1, .slice A0_2 l0_2.length c0_2] 24 (0, 0)) (by (with_reducible repeat (first | refine blk_drewN ?_ _ | refine blk_drew ?_ | refine blk_alloc ?_ _)); refine blk_far ?_ NB168_179.out _; (with_reducible repeat (first | refine blk_drewN ?_ _ | refine blk_drew ?_ | refine blk_alloc ?_ _)); refine blk_far ?_ NB168_179.out _; (with_reducible repeat (first | refine blk_drewN ?_ _ | refine blk_drew ?_ | refine blk_alloc ?_ _)); exact BK168.out) hb); have n4_ := Aside0.mk (blk_below (g := gb179) (o := .cells #[.int .i64 t175, .slice Ao28 t176.length co28] 28 (0, 0)) (by (with_reducible repeat (first | refine blk_drewN ?_ _ | refine blk_drew ?_ | refine blk_alloc ?_ _)); refine blk_put (cs := #[.int .i64 t175, .slice none 0 0]) ?_ 1 _ rfl; (with_reducible repeat (first | refine blk_drewN ?_ _ | refine blk_drew ?_ | refine blk_alloc ?_ _)); refine blk_put (cs := #[.int .i64 0, .slice none 0 0]) ?_ 0 _ rfl; (with_reducible repeat (first | refine blk_drewN ?_ _ | refine blk_drew ?_ | refine blk_alloc ?_ _)); exact BK179.out) hb); have n5_ := Aside0.mk (below_step (by repeat (first | (with_reducible first | exact HB.out | apply below_alloc | apply pw_below_drewN | apply below_drew1 | refine below_set ?_ GE168.out | refine below_set ?_ GE179.out) | exact HB.out)) hb); clear HO174; clear HO178; clear BK168; clear BK179; clear HB; have HO174 := n0_; have HO178 := n1_; have HO184 := n2_; have BK168 := n3_; have BK179 := n4_; have HB := n5_; clear n0_ n1_ n2_ n3_ n4_ n5_; (try clear hb); (try clear hb2); (try clear hk); (try clear hi); (try clear ho0)) | ((with_reducible refine gate_dst (N := 5) rfl ?_); refine box_event ?hg (N := 5) ?hd (cs := #[.int .i64 0, .int .i64 0, .slice none 0 0]) (t := 30) ?hr ?_; (case hd => rfl); (case hg => rfl); (case hr => first | (go_simp; done) | (go_simp; rfl)); intro gb185 hg w31 hbox hb; have n0_ := Aside0.mk (Kd.R_below (by (with_reducible repeat (first | apply Kd.R_alloc | apply Kd.R_drewN | apply Kd.R_drew)); exact HO174.out) hb); have n1_ := Aside0.mk (Kd.R_below (by (with_reducible repeat (first | apply Kd.R_alloc | apply Kd.R_drewN | apply Kd.R_drew)); exact HO178.out) hb); have n2_ := Aside0.mk (Kd.R_below (by (with_reducible repeat (first | apply Kd.R_alloc | apply Kd.R_drewN | apply Kd.R_drew)); exact HO184.out) hb); have n3_ := Aside0.mk (blk_below (g := gb168) (o := .cells #[.int .i64 a0_0, .int .i64 a0_1, .slice A0_2 l0_2.length c0_2] 24 (0, 0)) (by (with_reducible repeat (first | refine blk_drewN ?_ _ | refine blk_drew ?_ | refine blk_alloc ?_ _)); exact BK168.out) hb); have n4_ := Aside0.mk (blk_below (g := gb179) (o := .cells #[.int .i64 t175, .slice Ao28 t176.length co28] 28 (0, 0)) (by (with_reducible repeat (first | refine blk_drewN ?_ _ | refine blk_drew ?_ | refine blk_alloc ?_ _)); exact BK179.out) hb); have n5_ := Aside0.mk (below_step (by repeat (first | (with_reducible first | exact HB.out | apply below_alloc | apply pw_below_drewN | apply below_drew1 | refine below_set ?_ GE168.out | refine below_set ?_ GE179.out) | exact HB.out)) hb); have n6_ := Aside0.mk (hbox); have n7_ := Aside0.mk ((by rw [hg]; exact (below_size (by repeat (first | (with_reducible first | exact HB.out | apply below_alloc | apply pw_below_drewN | apply below_drew1 | refine below_set ?_ GE168.out | refine below_set ?_ GE179.out) | exact HB.out))) : w.heap.size ≤ gb185)); have n8_ := Aside0.mk ((by rw [hg]; exact (below_size (by repeat (first | (with_reducible first | exact HB.out | apply below_alloc | apply pw_below_drewN | apply below_drew1 | refine below_set ?_ GE168.out | refine below_set ?_ GE179.out) | exact HB.out))) : w.heap.size ≤ gb185)); have n9_ := Aside0.mk ((by rw [hg]; exact Nat.ne_of_lt (blk_lt (g := gb168) (o := .cells #[.int .i64 a0_0, .int .i64 a0_1, .slice A0_2 l0_2.length c0_2] 24 (0, 0)) (by (with_reducible repeat (first | refine blk_drewN ?_ _ | refine blk_drew ?_ | refine blk_alloc ?_ _)); exact BK168.out)) : gb168 ≠ gb185)); have n10_ := Aside0.mk ((by rw [hg]; exact Nat.ne_of_gt (blk_lt (g := gb168) (o := .cells #[.int .i64 a0_0, .int .i64 a0_1, .slice A0_2 l0_2.length c0_2] 24 (0, 0)) (by (with_reducible repeat (first | refine blk_drewN ?_ _ | refine blk_drew ?_ | refine blk_alloc ?_ _)); exact BK168.out)) : gb185 ≠ gb168)); have n11_ := Aside0.mk ((by rw [hg]; exact Nat.ne_of_lt (blk_lt (g := gb179) (o := .cells #[.int .i64 t175, .slice Ao28 t176.length co28] 28 (0, 0)) (by (with_reducible repeat (first | refine blk_drewN ?_ _ | refine blk_drew ?_ | refine blk_alloc ?_ _)); exact BK179.out)) : gb179 ≠ gb185)); have n12_ := Aside0.mk ((by rw [hg]; exact Nat.ne_of_gt (blk_lt (g := gb179) (o := .cells #[.int .i64 t175, .slice Ao28 t176.length co28] 28 (0, 0)) (by (with_reducible repeat (first | refine blk_drewN ?_ _ | refine blk_drew ?_ | refine blk_alloc ?_ _)); exact BK179.out)) : gb185 ≠ gb179)); clear HO174; clear HO178; clear HO184; clear BK168; clear BK179; clear HB; have HO174 := n0_; have HO178 := n1_; have HO184 := n2_; have BK168 := n3_; have BK179 := n4_; have HB := n5_; have BK185 := n6_; have GW185 := n7_; have GE185 := n8_; have NB168_185 := n9_; have NB185_168 := n10_; have NB179_185 := n11_; have NB185_179 := n12_; clear n0_ n1_ n2_ n3_ n4_ n5_ n6_ n7_ n8_ n9_ n10_ n11_ n12_; clear hb hbox hg; have hnb32 := NB185_168.out; have hnc32 := NB168_185.out; have hnb33 := NB185_179.out; have hnc33 := NB179_185.out; have hcz34_0 : w31.cell? ⟨gb185, 0, none⟩ = some (.int .i64 0) := (blk_cell BK185.out 0).trans rfl; have hcz34_1 : w31.cell? ⟨gb185, 1, none⟩ = some (.int .i64 0) := (blk_cell BK185.out 1).trans rfl; have hcz34_2 : w31.cell? ⟨gb185, 2, none⟩ = some (.slice none 0 0) := (blk_cell BK185.out 2).trans rfl; have hfz34_0 := blk_frozen BK185.out 0; have hfz34_1 := blk_frozen BK185.out 1; have hfz34_2 := blk_frozen BK185.out 2; obtain ⟨Ao35, co35, eo35⟩ := Kd.R_slice HO184.out; subst eo35) | ((with_reducible refine gate_callee (f := 13) rfl ?_); refine goesL_ (some 22) rfl rfl Try.func13 (by kernel_rfl) rfl #[.agg #[.int .i64 t180, .int .i64 t181, .slice Ao35 t182.length co35]] rfl (by (try simp only [List.map_toArray, List.map_cons, List.map_nil]); first | done | rfl | (simp only [List.length_drop, List.length_take]; rfl)) ?_; (with_reducible refine (impl_SizesOf.calls k t180 t181 _ _ t182 t186 t187 _ ?side1 ?side2 A10.out).mono ?_); (case side1 => refine (Kd.R_reads' (e := 9) (base := w.heap.size) (ok := fun k_ => (True ∧ some k_ ≠ (.slice Ao23 t172.length co23 : Value).ownBlock)) (n := t182.length) (c := co35) ?_).2.2; exact (by (with_reducible repeat (first | apply Kd.R_alloc | apply Kd.R_drewN | apply Kd.R_drew)); exact (Kd.R_mono (Kd.R_far (p := ⟨gb185, 2, none⟩) (Kd.R_far (p := ⟨gb185, 1, none⟩) (Kd.R_far (p := ⟨gb185, 0, none⟩) (Kd.R_types HO184.out BK185.out (by decide)) (fun _ hk => hk.2) (.int .i64 t180)) (fun _ hk => hk.2) (.int .i64 t181)) (fun _ hk => hk.2) (.slice Ao35 t182.length co35)) (fun _ h_ => h_.1)))); (case side2 => exact (Kd.R_reads' HO184.out).2.1); rintro e w36 ⟨v188, rfl, ho0, hb⟩; refine ⟨_, rfl, ?_⟩; have n0_ := Aside0.mk (Kd.R_below (by (with_reducible repeat (first | apply Kd.R_alloc | apply Kd.R_drewN | apply Kd.R_drew)); exact (Kd.R_mono (Kd.R_far (p := ⟨gb185, 2, none⟩) (Kd.R_far (p := ⟨gb185, 1, none⟩) (Kd.R_far (p := ⟨gb185, 0, none⟩) (Kd.R_types HO174.out BK185.out (by decide)) (fun _ hk => hk.2) (.int .i64 t180)) (fun _ hk => hk.2) (.int .i64 t181)) (fun _ hk => hk.2) (.slice Ao35 t182.length co35)) (fun _ h_ => h_.1))) hb); have n1_ := Aside0.mk (Kd.R_elder' (by (with_reducible repeat (first | apply Kd.R_alloc | apply Kd.R_drewN | apply Kd.R_drew)); exact (Kd.R_mono (Kd.R_far (p := ⟨gb185, 2, none⟩) (Kd.R_far (p := ⟨gb185, 1, none⟩) (Kd.R_far (p := ⟨gb185, 0, none⟩) (Kd.R_types HO178.out BK185.out (by decide)) (fun _ hk => hk.2) (.int .i64 t180)) (fun _ hk => hk.2) (.int .i64 t181)) (fun _ hk => hk.2) (.slice Ao35 t182.length co35)) (fun _ h_ => h_.1))) (Kd.R_base ho0) hb); have n2_ := Aside0.mk (Kd.R_below (by (with_reducible repeat (first | apply Kd.R_alloc | apply Kd.R_drewN | apply Kd.R_drew)); exact (Kd.R_mono (Kd.R_far (p := ⟨gb185, 2, none⟩) (Kd.R_far (p := ⟨gb185, 1, none⟩) (Kd.R_far (p := ⟨gb185, 0, none⟩) (Kd.R_types HO184.out BK185.out (by decide)) (fun _ hk => hk.2) (.int .i64 t180)) (fun _ hk => hk.2) (.int .i64 t181)) (fun _ hk => hk.2) (.slice Ao35 t182.length co35)) (fun _ h_ => h_.1))) hb); have n3_ := Aside0.mk (Kd.R_lower (Kd.R_new' ho0 (Kd.R_lt (by (with_reducible repeat (first | apply Kd.R_alloc | apply Kd.R_drewN | apply Kd.R_drew)); exact (Kd.R_mono (Kd.R_far (p := ⟨gb185, 2, none⟩) (Kd.R_far (p := ⟨gb185, 1, none⟩) (Kd.R_far (p := ⟨gb185, 0, none⟩) (Kd.R_types HO178.out BK185.out (by decide)) (fun _ hk => hk.2) (.int .i64 t180)) (fun _ hk => hk.2) (.int .i64 t181)) (fun _ hk => hk.2) (.slice Ao35 t182.length co35)) (fun _ h_ => h_.1))))) (below_size (by repeat (first | (with_reducible first | exact HB.out | apply below_alloc | apply pw_below_drewN | apply below_drew1 | refine below_set ?_ GE168.out | refine below_set ?_ GE179.out | refine below_set ?_ GE185.out) | exact HB.out)))); have n4_ := Aside0.mk (blk_below (g := gb168) (o := .cells #[.int .i64 a0_0, .int .i64 a0_1, .slice A0_2 l0_2.length c0_2] 24 (0, 0)) (by (with_reducible repeat (first | refine blk_drewN ?_ _ | refine blk_drew ?_ | refine blk_alloc ?_ _)); refine blk_far ?_ NB168_185.out _; (with_reducible repeat (first | refine blk_drewN ?_ _ | refine blk_drew ?_ | refine blk_alloc ?_ _)); refine blk_far ?_ NB168_185.out _; (with_reducible repeat (first | refine blk_drewN ?_ _ | refine blk_drew ?_ | refine blk_alloc ?_ _)); refine blk_far ?_ NB168_185.out _; (with_reducible repeat (first | refine blk_drewN ?_ _ | refine blk_drew ?_ | refine blk_alloc ?_ _)); exact BK168.out) hb); have n5_ := Aside0.mk (blk_below (g := gb179) (o := .cells #[.int .i64 t175, .slice Ao28 t176.length co28] 28 (0, 0)) (by (with_reducible repeat (first | refine blk_drewN ?_ _ | refine blk_drew ?_ | refine blk_alloc ?_ _)); refine blk_far ?_ NB179_185.out _; (with_reducible repeat (first | refine blk_drewN ?_ _ | refine blk_drew ?_ | refine blk_alloc ?_ _)); refine blk_far ?_ NB179_185.out _; (with_reducible repeat (first | refine blk_drewN ?_ _ | refine blk_drew ?_ | refine blk_alloc ?_ _)); refine blk_far ?_ NB179_185.out _; (with_reducible repeat (first | refine blk_drewN ?_ _ | refine blk_drew ?_ | refine blk_alloc ?_ _)); exact BK179.out) hb); have n6_ := Aside0.mk (blk_below (g := gb185) (o := .cells #[.int .i64 t180, .int .i64 t181, .slice Ao35 t182.length co35] 30 (0, 0)) (by (with_reducible repeat (first | refine blk_drewN ?_ _ | refine blk_drew ?_ | refine blk_alloc ?_ _)); refine blk_put (cs := #[.int .i64 t180, .int .i64 t181, .slice none 0 0]) ?_ 2 _ rfl; (with_reducible repeat (first | refine blk_drewN ?_ _ | refine blk_drew ?_ | refine blk_alloc ?_ _)); refine blk_put (cs := #[.int .i64 t180, .int .i64 0, .slice none 0 0]) ?_ 1 _ rfl; (with_reducible repeat (first | refine blk_drewN ?_ _ | refine blk_drew ?_ | refine blk_alloc ?_ _)); refine blk_put (cs := #[.int .i64 0, .int .i64 0, .slice none 0 0]) ?_ 0 _ rfl; (with_reducible repeat (first | refine blk_drewN ?_ _ | refine blk_drew ?_ | refine blk_alloc ?_ _)); exact BK185.out) hb); have n7_ := Aside0.mk (below_step (by repeat (first | (with_reducible first | exact HB.out | apply below_alloc | apply pw_below_drewN | apply below_drew1 | refine below_set ?_ GE168.out | refine below_set ?_ GE179.out | refine below_set ?_ GE185.out) | exact HB.out)) hb); clear HO174; clear HO178; clear HO184; clear BK168; clear BK179; clear BK185; clear HB; have HO174 := n0_; have HO178 := n1_; have HO184 := n2_; have HO189 := n3_; have BK168 := n4_; have BK179 := n5_; have BK185 := n6_; have HB := n7_; clear n0_ n1_ n2_ n3_ n4_ n5_ n6_ n7_; (try clear hb); (try clear hb2); (try clear hk); (try clear hi); (try clear ho0)) | ((with_reducible refine gate_dst (N := 6) rfl ?_); refine box_event ?hg (N := 6) ?hd (cs := #[.int .i64 0, .slice none 0 0]) (t := 28) ?hr ?_; (case hd => rfl); (case hg => rfl); (case hr => first | (go_simp; done) | (go_simp; rfl)); intro gb190 hg w37 hbox hb; have n0_ := Aside0.mk (Kd.R_below (by (with_reducible repeat (first | apply Kd.R_alloc | apply Kd.R_drewN | apply Kd.R_drew)); exact HO174.out) hb); have n1_ := Aside0.mk (Kd.R_below (by (with_reducible repeat (first | apply Kd.R_alloc | apply Kd.R_drewN | apply Kd.R_drew)); exact HO178.out) hb); have n2_ := Aside0.mk (Kd.R_below (by (with_reducible repeat (first | apply Kd.R_alloc | apply Kd.R_drewN | apply Kd.R_drew)); exact HO184.out) hb); have n3_ := Aside0.mk (Kd.R_below (by (with_reducible repeat (first | apply Kd.R_alloc | apply Kd.R_drewN | apply Kd.R_drew)); exact HO189.out) hb); have n4_ := Aside0.mk (blk_below (g := gb168) (o := .cells #[.int .i64 a0_0, .int .i64 a0_1, .slice A0_2 l0_2.length c0_2] 24 (0, 0)) (by (with_reducible repeat (first | refine blk_drewN ?_ _ | refine blk_drew ?_ | refine blk_alloc ?_ _)); exact BK168.out) hb); have n5_ := Aside0.mk (blk_below (g := gb179) (o := .cells #[.int .i64 t175, .slice Ao28 t176.length co28] 28 (0, 0)) (by (with_reducible repeat (first | refine blk_drewN ?_ _ | refine blk_drew ?_ | refine blk_alloc ?_ _)); exact BK179.out) hb); have n6_ := Aside0.mk (blk_below (g := gb185) (o := .cells #[.int .i64 t180, .int .i64 t181, .slice Ao35 t182.length co35] 30 (0, 0)) (by (with_reducible repeat (first | refine blk_drewN ?_ _ | refine blk_drew ?_ | refine blk_alloc ?_ _)); exact BK185.out) hb); have n7_ := Aside0.mk (below_step (by repeat (first | (with_reducible first | exact HB.out | apply below_alloc | apply pw_below_drewN | apply below_drew1 | refine below_set ?_ GE168.out | refine below_set ?_ GE179.out | refine below_set ?_ GE185.out) | exact HB.out)) hb); have n8_ := Aside0.mk (hbox); have n9_ := Aside0.mk ((by rw [hg]; exact (below_size (by repeat (first | (with_reducible first | exact HB.out | apply below_alloc | apply pw_below_drewN | apply below_drew1 | refine below_set ?_ GE168.out | refine below_set ?_ GE179.out | refine below_set ?_ GE185.out) | exact HB.out))) : w.heap.size ≤ gb190)); have n10_ := Aside0.mk ((by rw [hg]; exact (below_size (by repeat (first | (with_reducible first | exact HB.out | apply below_alloc | apply pw_below_drewN | apply below_drew1 | refine below_set ?_ GE168.out | refine below_set ?_ GE179.out | refine below_set ?_ GE185.out) | exact HB.out))) : w.heap.size ≤ gb190)); have n11_ := Aside0.mk ((by rw [hg]; exact Nat.ne_of_lt (blk_lt (g := gb168) (o := .cells #[.int .i64 a0_0, .int .i64 a0_1, .slice A0_2 l0_2.length c0_2] 24 (0, 0)) (by (with_reducible repeat (first | refine blk_drewN ?_ _ | refine blk_drew ?_ | refine blk_alloc ?_ _)); exact BK168.out)) : gb168 ≠ gb190)); have n12_ := Aside0.mk ((by rw [hg]; exact Nat.ne_of_gt (blk_lt (g := gb168) (o := .cells #[.int .i64 a0_0, .int .i64 a0_1, .slice A0_2 l0_2.length c0_2] 24 (0, 0)) (by (with_reducible repeat (first | refine blk_drewN ?_ _ | refine blk_drew ?_ | refine blk_alloc ?_ _)); exact BK168.out)) : gb190 ≠ gb168)); have n13_ := Aside0.mk ((by rw [hg]; exact Nat.ne_of_lt (blk_lt (g := gb179) (o := .cells #[.int .i64 t175, .slice Ao28 t176.length co28] 28 (0, 0)) (by (with_reducible repeat (first | refine blk_drewN ?_ _ | refine blk_drew ?_ | refine blk_alloc ?_ _)); exact BK179.out)) : gb179 ≠ gb190)); have n14_ := Aside0.mk ((by rw [hg]; exact Nat.ne_of_gt (blk_lt (g := gb179) (o := .cells #[.int .i64 t175, .slice Ao28 t176.length co28] 28 (0, 0)) (by (with_reducible repeat (first | refine blk_drewN ?_ _ | refine blk_drew ?_ | refine blk_alloc ?_ _)); exact BK179.out)) : gb190 ≠ gb179)); have n15_ := Aside0.mk ((by rw [hg]; exact Nat.ne_of_lt (blk_lt (g := gb185) (o := .cells #[.int .i64 t180, .int .i64 t181, .slice Ao35 t182.length co35] 30 (0, 0)) (by (with_reducible repeat (first | refine blk_drewN ?_ _ | refine blk_drew ?_ | refine blk_alloc ?_ _)); exact BK185.out)) : gb185 ≠ gb190)); have n16_ := Aside0.mk ((by rw [hg]; exact Nat.ne_of_gt (blk_lt (g := gb185) (o := .cells #[.int .i64 t180, .int .i64 t181, .slice Ao35 t182.length co35] 30 (0, 0)) (by (with_reducible repeat (first | refine blk_drewN ?_ _ | refine blk_drew ?_ | refine blk_alloc ?_ _)); exact BK185.out)) : gb190 ≠ gb185)); clear HO174; clear HO178; clear HO184; clear HO189; clear BK168; clear BK179; clear BK185; clear HB; have HO174 := n0_; have HO178 := n1_; have HO184 := n2_; have HO189 := n3_; have BK168 := n4_; have BK179 := n5_; have BK185 := n6_; have HB := n7_; have BK190 := n8_; have GW190 := n9_; have GE190 := n10_; have NB168_190 := n11_; have NB190_168 := n12_; have NB179_190 := n13_; have NB190_179 := n14_; have NB185_190 := n15_; have NB190_185 := n16_; clear n0_ n1_ n2_ n3_ n4_ n5_ n6_ n7_ n8_ n9_ n10_ n11_ n12_ n13_ n14_ n15_ n16_; clear hb hbox hg; have hnb38 := NB190_168.out; have hnc38 := NB168_190.out; have hnb39 := NB190_179.out; have hnc39 := NB179_190.out; have hnb40 := NB190_185.out; have hnc40 := NB185_190.out; have hcz41_0 : w37.cell? ⟨gb190, 0, none⟩ = some (.int .i64 0) := (blk_cell BK190.out 0).trans rfl; have hcz41_1 : w37.cell? ⟨gb190, 1, none⟩ = some (.slice none 0 0) := (blk_cell BK190.out 1).trans rfl; have hfz41_0 := blk_frozen BK190.out 0; have hfz41_1 := blk_frozen BK190.out 1; obtain ⟨Ao42, co42, eo42⟩ := Kd.R_slice HO189.out; subst eo42; have hcz43_0 : w37.cell? ⟨gb179, 0, none⟩ = some (.int .i64 t175) := (blk_cell BK179.out 0).trans rfl; have hcz43_1 : w37.cell? ⟨gb179, 1, none⟩ = some (.slice Ao28 t176.length co28) := (blk_cell BK179.out 1).trans rfl; have hfz43_0 := blk_frozen BK179.out 0; have hfz43_1 := blk_frozen BK179.out 1) | ((with_reducible refine gate_callee (f := 14) rfl ?_); refine goesL_ (some 25) rfl rfl Try.func14 (by kernel_rfl) rfl #[.agg #[.int .i64 t186, .slice Ao42 t187.length co42], .agg #[.int .i64 t175, .slice Ao28 t176.length co28]] rfl (by (try simp only [List.map_toArray, List.map_cons, List.map_nil]); first | done | rfl | (simp only [List.length_drop, List.length_take]; rfl)) ?_; (with_reducible refine (laws_eqIntsResult.calls k t186 _ _ t187 t175 _ _ t176 true _ ?side1 ?side2 ?side3 ?side4 A11.out).mono ?_); (case side1 => refine (Kd.R_reads' (e := 2) (base := w.heap.size) (ok := fun k_ => (True ∧ some k_ ≠ (.slice Ao28 t176.length co28 : Value).ownBlock)) (n := t187.length) (c := co42) ?_).2.2; exact (by (with_reducible repeat (first | apply Kd.R_alloc | apply Kd.R_drewN | apply Kd.R_drew)); exact (Kd.R_mono (Kd.R_far (p := ⟨gb190, 1, none⟩) (Kd.R_far (p := ⟨gb190, 0, none⟩) (Kd.R_types HO189.out BK190.out (by decide)) (fun _ hk => hk.2) (.int .i64 t186)) (fun _ hk => hk.2) (.slice Ao42 t187.length co42)) (fun _ h_ => h_.1)))); (case side2 => exact (Kd.R_reads' HO189.out).2.1); (case side3 => refine (Kd.R_reads' (e := 2) (base := w.heap.size) (ok := fun k_ => (True ∧ some k_ ≠ (.slice Ao42 t187.length co42 : Value).ownBlock)) (n := t176.length) (c := co28) ?_).2.2; exact (by (with_reducible repeat (first | apply Kd.R_alloc | apply Kd.R_drewN | apply Kd.R_drew)); exact (Kd.R_mono (Kd.R_far (p := ⟨gb190, 1, none⟩) (Kd.R_far (p := ⟨gb190, 0, none⟩) (Kd.R_types HO178.out BK190.out (by decide)) (fun _ hk => hk.2) (.int .i64 t186)) (fun _ hk => hk.2) (.slice Ao42 t187.length co42)) (fun _ h_ => h_.1)))); (case side4 => exact (Kd.R_reads' HO178.out).2.1); rintro e w44 ⟨rfl, hb⟩; refine ⟨_, rfl, ?_⟩; have n0_ := Aside0.mk (Kd.R_below (by (with_reducible repeat (first | apply Kd.R_alloc | apply Kd.R_drewN | apply Kd.R_drew)); exact (Kd.R_mono (Kd.R_far (p := ⟨gb190, 1, none⟩) (Kd.R_far (p := ⟨gb190, 0, none⟩) (Kd.R_types HO174.out BK190.out (by decide)) (fun _ hk => hk.2) (.int .i64 t186)) (fun _ hk => hk.2) (.slice Ao42 t187.length co42)) (fun _ h_ => h_.1))) hb); have n1_ := Aside0.mk (Kd.R_below (by (with_reducible repeat (first | apply Kd.R_alloc | apply Kd.R_drewN | apply Kd.R_drew)); exact (Kd.R_mono (Kd.R_far (p := ⟨gb190, 1, none⟩) (Kd.R_far (p := ⟨gb190, 0, none⟩) (Kd.R_types HO178.out BK190.out (by decide)) (fun _ hk => hk.2) (.int .i64 t186)) (fun _ hk => hk.2) (.slice Ao42 t187.length co42)) (fun _ h_ => h_.1))) hb); have n2_ := Aside0.mk (Kd.R_below (by (with_reducible repeat (first | apply Kd.R_alloc | apply Kd.R_drewN | apply Kd.R_drew)); exact (Kd.R_mono (Kd.R_far (p := ⟨gb190, 1, none⟩) (Kd.R_far (p := ⟨gb190, 0, none⟩) (Kd.R_types HO184.out BK190.out (by decide)) (fun _ hk => hk.2) (.int .i64 t186)) (fun _ hk => hk.2) (.slice Ao42 t187.length co42)) (fun _ h_ => h_.1))) hb); have n3_ := Aside0.mk (Kd.R_below (by (with_reducible repeat (first | apply Kd.R_alloc | apply Kd.R_drewN | apply Kd.R_drew)); exact (Kd.R_mono (Kd.R_far (p := ⟨gb190, 1, none⟩) (Kd.R_far (p := ⟨gb190, 0, none⟩) (Kd.R_types HO189.out BK190.out (by decide)) (fun _ hk => hk.2) (.int .i64 t186)) (fun _ hk => hk.2) (.slice Ao42 t187.length co42)) (fun _ h_ => h_.1))) hb); have n4_ := Aside0.mk (blk_below (g := gb168) (o := .cells #[.int .i64 a0_0, .int .i64 a0_1, .slice A0_2 l0_2.length c0_2] 24 (0, 0)) (by (with_reducible repeat (first | refine blk_drewN ?_ _ | refine blk_drew ?_ | refine blk_alloc ?_ _)); refine blk_far ?_ NB168_190.out _; (with_reducible repeat (first | refine blk_drewN ?_ _ | refine blk_drew ?_ | refine blk_alloc ?_ _)); refine blk_far ?_ NB168_190.out _; (with_reducible repeat (first | refine blk_drewN ?_ _ | refine blk_drew ?_ | refine blk_alloc ?_ _)); exact BK168.out) hb); have n5_ := Aside0.mk (blk_below (g := gb179) (o := .cells #[.int .i64 t175, .slice Ao28 t176.length co28] 28 (0, 0)) (by (with_reducible repeat (first | refine blk_drewN ?_ _ | refine blk_drew ?_ | refine blk_alloc ?_ _)); refine blk_far ?_ NB179_190.out _; (with_reducible repeat (first | refine blk_drewN ?_ _ | refine blk_drew ?_ | refine blk_alloc ?_ _)); refine blk_far ?_ NB179_190.out _; (with_reducible repeat (first | refine blk_drewN ?_ _ | refine blk_drew ?_ | refine blk_alloc ?_ _)); exact BK179.out) hb); have n6_ := Aside0.mk (blk_below (g := gb185) (o := .cells #[.int .i64 t180, .int .i64 t181, .slice Ao35 t182.length co35] 30 (0, 0)) (by (with_reducible repeat (first | refine blk_drewN ?_ _ | refine blk_drew ?_ | refine blk_alloc ?_ _)); refine blk_far ?_ NB185_190.out _; (with_reducible repeat (first | refine blk_drewN ?_ _ | refine blk_drew ?_ | refine blk_alloc ?_ _)); refine blk_far ?_ NB185_190.out _; (with_reducible repeat (first | refine blk_drewN ?_ _ | refine blk_drew ?_ | refine blk_alloc ?_ _)); exact BK185.out) hb); have n7_ := Aside0.mk (blk_below (g := gb190) (o := .cells #[.int .i64 t186, .slice Ao42 t187.length co42] 28 (0, 0)) (by (with_reducible repeat (first | refine blk_drewN ?_ _ | refine blk_drew ?_ | refine blk_alloc ?_ _)); refine blk_put (cs := #[.int .i64 t186, .slice none 0 0]) ?_ 1 _ rfl; (with_reducible repeat (first | refine blk_drewN ?_ _ | refine blk_drew ?_ | refine blk_alloc ?_ _)); refine blk_put (cs := #[.int .i64 0, .slice none 0 0]) ?_ 0 _ rfl; (with_reducible repeat (first | refine blk_drewN ?_ _ | refine blk_drew ?_ | refine blk_alloc ?_ _)); exact BK190.out) hb); have n8_ := Aside0.mk (below_step (by repeat (first | (with_reducible first | exact HB.out | apply below_alloc | apply pw_below_drewN | apply below_drew1 | refine below_set ?_ GE168.out | refine below_set ?_ GE179.out | refine below_set ?_ GE185.out | refine below_set ?_ GE190.out) | exact HB.out)) hb); clear HO174; clear HO178; clear HO184; clear HO189; clear BK168; clear BK179; clear BK185; clear BK190; clear HB; have HO174 := n0_; have HO178 := n1_; have HO184 := n2_; have HO189 := n3_; have BK168 := n4_; have BK179 := n5_; have BK185 := n6_; have BK190 := n7_; have HB := n8_; clear n0_ n1_ n2_ n3_ n4_ n5_ n6_ n7_ n8_; (try clear hb); (try clear hb2); (try clear hk); (try clear hi)))
    have n0_ := Aside0.mk (Kd.R_drew HO174.out)
    have n1_ := Aside0.mk (Kd.R_drew HO178.out)
    have n2_ := Aside0.mk (Kd.R_drew HO184.out)
    have n3_ := Aside0.mk (Kd.R_drew HO189.out)
    have n4_ := Aside0.mk (blk_drew BK168.out)
    have n5_ := Aside0.mk (blk_drew BK179.out)
    have n6_ := Aside0.mk (blk_drew BK185.out)
    have n7_ := Aside0.mk (blk_drew BK190.out)
    have n8_ := Aside0.mk (below_drew1 HB.out)
    clear HO174
    clear HO178
    clear HO184
    clear HO189
    clear BK168
    clear BK179
    clear BK185
    clear BK190
    clear HB
    have HO174 := n0_
    have HO178 := n1_
    have HO184 := n2_
    have HO189 := n3_
    have BK168 := n4_
    have BK179 := n5_
    have BK185 := n6_
    have BK190 := n7_
    have HB := n8_
    clear n0_ n1_ n2_ n3_ n4_ n5_ n6_ n7_ n8_
    refine start_ (n := 5) (S := fun w' => w'.cell? ⟨gb185, 0, none⟩ = some (.int .i64 t180) ∧ w'.cell? ⟨gb185, 1, none⟩ = some (.int .i64 t181) ∧ w'.cell? ⟨gb185, 2, none⟩ = some (.slice Ao35 t182.length co35) ∧ w'.cell? ⟨gb168, 0, none⟩ = some (.int .i64 a0_0) ∧ w'.cell? ⟨gb168, 1, none⟩ = some (.int .i64 a0_1) ∧ w'.cell? ⟨gb168, 2, none⟩ = some (.slice A0_2 l0_2.length c0_2)) (ds := []) #[false, false, false, false, false] (by kernel_rfl) rfl rfl ⟨(blk_cell BK185.out 0).trans rfl, (blk_cell BK185.out 1).trans rfl, (blk_cell BK185.out 2).trans rfl, (blk_cell BK168.out 0).trans rfl, (blk_cell BK168.out 1).trans rfl, (blk_cell BK168.out 2).trans rfl⟩ (fun hHeld => ?_)
    generalize w44.drew = w45 at HO174 HO178 HO184 HO189 BK168 BK179 BK185 BK190 HB hHeld ⊢
    refine take_ (i := 0) (N := some 27) (v := ?_) (a' := ?_) #[true, false, false, false, false] rfl rfl (by kernel_rfl) (fun _ _ _ h => h) (Or.inl ⟨by rfl, ?_⟩) hHeld ?_ ?_
    rotate_left
    ·rintro w' ⟨s0, s1, s2, s3, s4, s5⟩
     go_simp
     with_reducible rfl
    rotate_left
    ·simp only [Act.put, List.setIfInBounds_toArray, List.set_cons_zero, List.set_cons_succ, i64_w, i32_w]
     rfl
    refine take_ (i := 1) (N := some 28) (v := ?_) (a' := ?_) #[true, true, false, false, false] rfl rfl (by kernel_rfl) (fun _ _ _ h => h) (Or.inl ⟨by rfl, ?_⟩) hHeld ?_ ?_
    rotate_left
    ·rintro w' ⟨s0, s1, s2, s3, s4, s5⟩
     go_simp
     with_reducible rfl
    rotate_left
    ·simp only [Act.put, List.setIfInBounds_toArray, List.set_cons_zero, List.set_cons_succ, i64_w, i32_w]
     rfl
    refine one_ (i := 2) (N := some 29) #[true, true, true, false, false] rfl rfl (by kernel_rfl) (by decide) (fun K hK => ?_)
    refine goes_ Try.func12 (by kernel_rfl) rfl #[.agg #[.int .i64 a0_0, .int .i64 a0_1, .slice A0_2 l0_2.length c0_2]] (by rfl) rfl rfl (by (try simp only [List.map_toArray, List.map_cons, List.map_nil]); first | done | rfl | (simp only [List.length_drop, List.length_take]; rfl)) ?_
    with_reducible refine (laws_toHunk.calls k a0_0 a0_1 _ _ l0_2 t192 t193 t194 _ ?side1 ?side2 A13.out).mono ?_
    (case side1 => repeat (first | exact (Kd.C_below HR0_2.out HB.out) | (with_reducible refine Kd.C_alloc ?_ _) | (with_reducible refine Kd.C_drewN ?_ _) | (with_reducible refine Kd.C_drew ?_)))
    (case side2 => exact HC0_2.out)
    rintro e w46 ⟨v195, rfl, ho0, hb⟩
    refine ⟨_, rfl, ?_⟩
    have n0_ := Aside0.mk (Kd.R_elder' (by (with_reducible repeat (first | apply Kd.R_alloc | apply Kd.R_drewN | apply Kd.R_drew)); exact HO174.out) (Kd.R_base ho0) hb)
    have n1_ := Aside0.mk (Kd.R_below (by (with_reducible repeat (first | apply Kd.R_alloc | apply Kd.R_drewN | apply Kd.R_drew)); exact HO178.out) hb)
    have n2_ := Aside0.mk (Kd.R_elder' (by (with_reducible repeat (first | apply Kd.R_alloc | apply Kd.R_drewN | apply Kd.R_drew)); exact HO184.out) (Kd.R_base ho0) hb)
    have n3_ := Aside0.mk (Kd.R_below (by (with_reducible repeat (first | apply Kd.R_alloc | apply Kd.R_drewN | apply Kd.R_drew)); exact HO189.out) hb)
    have n4_ := Aside0.mk (Kd.R_lower (Kd.R_new' (Kd.R_new' ho0 (Kd.R_lt (by (with_reducible repeat (first | apply Kd.R_alloc | apply Kd.R_drewN | apply Kd.R_drew)); exact HO174.out))) (Kd.R_lt (by (with_reducible repeat (first | apply Kd.R_alloc | apply Kd.R_drewN | apply Kd.R_drew)); exact HO184.out))) (below_size (by repeat (first | (with_reducible first | exact HB.out | apply below_alloc | apply pw_below_drewN | apply below_drew1 | refine below_set ?_ GE168.out | refine below_set ?_ GE179.out | refine below_set ?_ GE185.out | refine below_set ?_ GE190.out) | exact HB.out))))
    have n5_ := Aside0.mk (blk_below (g := gb168) (o := .cells #[.int .i64 a0_0, .int .i64 a0_1, .slice A0_2 l0_2.length c0_2] 24 (0, 0)) (by (with_reducible repeat (first | refine blk_drewN ?_ _ | refine blk_drew ?_ | refine blk_alloc ?_ _)); exact BK168.out) hb)
    have n6_ := Aside0.mk (blk_below (g := gb179) (o := .cells #[.int .i64 t175, .slice Ao28 t176.length co28] 28 (0, 0)) (by (with_reducible repeat (first | refine blk_drewN ?_ _ | refine blk_drew ?_ | refine blk_alloc ?_ _)); exact BK179.out) hb)
    have n7_ := Aside0.mk (blk_below (g := gb185) (o := .cells #[.int .i64 t180, .int .i64 t181, .slice Ao35 t182.length co35] 30 (0, 0)) (by (with_reducible repeat (first | refine blk_drewN ?_ _ | refine blk_drew ?_ | refine blk_alloc ?_ _)); exact BK185.out) hb)
    have n8_ := Aside0.mk (blk_below (g := gb190) (o := .cells #[.int .i64 t186, .slice Ao42 t187.length co42] 28 (0, 0)) (by (with_reducible repeat (first | refine blk_drewN ?_ _ | refine blk_drew ?_ | refine blk_alloc ?_ _)); exact BK190.out) hb)
    have n9_ := Aside0.mk (below_step (by repeat (first | (with_reducible first | exact HB.out | apply below_alloc | apply pw_below_drewN | apply below_drew1 | refine below_set ?_ GE168.out | refine below_set ?_ GE179.out | refine below_set ?_ GE185.out | refine below_set ?_ GE190.out) | exact HB.out)) hb)
    clear HO174
    clear HO178
    clear HO184
    clear HO189
    clear BK168
    clear BK179
    clear BK185
    clear BK190
    clear HB
    have HO174 := n0_
    have HO178 := n1_
    have HO184 := n2_
    have HO189 := n3_
    have HO196 := n4_
    have BK168 := n5_
    have BK179 := n6_
    have BK185 := n7_
    have BK190 := n8_
    have HB := n9_
    clear n0_ n1_ n2_ n3_ n4_ n5_ n6_ n7_ n8_ n9_
    (try clear hb)
    (try clear hb2)
    (try clear hk)
    (try clear hi)
    (try clear ho0)
    obtain ⟨Ao47, co47, eo47⟩ := Kd.R_slice HO196.out
    (first | subst eo47 | (injection eo47 with f1_ f2_ f3_; have f4_ := f1_.symm; have f5_ := f3_.symm; clear f1_ f2_ f3_; subst f4_; subst f5_))
    refine hK.out _ _ ⟨(blk_cell BK185.out 0).trans rfl, (blk_cell BK185.out 1).trans rfl, (blk_cell BK185.out 2).trans rfl, (blk_cell BK168.out 0).trans rfl, (blk_cell BK168.out 1).trans rfl, (blk_cell BK168.out 2).trans rfl⟩ (fun hHeld => ?_)
    clear hK K
    refine norm_ (a' := ?_) ?_ ?_
    rotate_left
    ·show Act.put _ (some 29) _ = _
     simp only [Act.put, List.setIfInBounds_toArray, List.set_cons_zero, List.set_cons_succ, i64_w, i32_w]
     rfl
    refine one_ (i := 3) (N := some 30) #[true, true, true, true, false] rfl rfl (by kernel_rfl) (by decide) (fun K hK => ?_)
    refine goes_ Try.func15 (by kernel_rfl) rfl #[.agg #[.int .i64 t180, .int .i64 t181, .slice Ao35 t182.length co35], .agg #[.int .i64 t192, .int .i64 t193, .slice Ao47 t194.length co47]] (by rfl) rfl rfl (by (try simp only [List.map_toArray, List.map_cons, List.map_nil]); first | done | rfl | (simp only [List.length_drop, List.length_take]; rfl)) ?_
    with_reducible refine (laws_eqHunk.calls k t180 t181 _ _ t182 t192 t193 _ _ t194 true _ ?side1 ?side2 ?side3 ?side4 A14.out).mono ?_
    (case side1 => repeat (first | exact (Kd.R_reads' HO184.out).2.2 | (with_reducible refine Kd.C_alloc ?_ _) | (with_reducible refine Kd.C_drewN ?_ _) | (with_reducible refine Kd.C_drew ?_)))
    (case side2 => exact (Kd.R_reads' HO184.out).2.1)
    (case side3 => repeat (first | exact (Kd.R_reads' HO196.out).2.2 | (with_reducible refine Kd.C_alloc ?_ _) | (with_reducible refine Kd.C_drewN ?_ _) | (with_reducible refine Kd.C_drew ?_)))
    (case side4 => exact (Kd.R_reads' HO196.out).2.1)
    rintro e w48 ⟨rfl, hb⟩
    refine ⟨_, rfl, ?_⟩
    have n0_ := Aside0.mk (Kd.R_below (by (with_reducible repeat (first | apply Kd.R_alloc | apply Kd.R_drewN | apply Kd.R_drew)); exact HO174.out) hb)
    have n1_ := Aside0.mk (Kd.R_below (by (with_reducible repeat (first | apply Kd.R_alloc | apply Kd.R_drewN | apply Kd.R_drew)); exact HO178.out) hb)
    have n2_ := Aside0.mk (Kd.R_below (by (with_reducible repeat (first | apply Kd.R_alloc | apply Kd.R_drewN | apply Kd.R_drew)); exact HO184.out) hb)
    have n3_ := Aside0.mk (Kd.R_below (by (with_reducible repeat (first | apply Kd.R_alloc | apply Kd.R_drewN | apply Kd.R_drew)); exact HO189.out) hb)
    have n4_ := Aside0.mk (Kd.R_below (by (with_reducible repeat (first | apply Kd.R_alloc | apply Kd.R_drewN | apply Kd.R_drew)); exact HO196.out) hb)
    have n5_ := Aside0.mk (blk_below (g := gb168) (o := .cells #[.int .i64 a0_0, .int .i64 a0_1, .slice A0_2 l0_2.length c0_2] 24 (0, 0)) (by (with_reducible repeat (first | refine blk_drewN ?_ _ | refine blk_drew ?_ | refine blk_alloc ?_ _)); exact BK168.out) hb)
    have n6_ := Aside0.mk (blk_below (g := gb179) (o := .cells #[.int .i64 t175, .slice Ao28 t176.length co28] 28 (0, 0)) (by (with_reducible repeat (first | refine blk_drewN ?_ _ | refine blk_drew ?_ | refine blk_alloc ?_ _)); exact BK179.out) hb)
    have n7_ := Aside0.mk (blk_below (g := gb185) (o := .cells #[.int .i64 t180, .int .i64 t181, .slice Ao35 t182.length co35] 30 (0, 0)) (by (with_reducible repeat (first | refine blk_drewN ?_ _ | refine blk_drew ?_ | refine blk_alloc ?_ _)); exact BK185.out) hb)
    have n8_ := Aside0.mk (blk_below (g := gb190) (o := .cells #[.int .i64 t186, .slice Ao42 t187.length co42] 28 (0, 0)) (by (with_reducible repeat (first | refine blk_drewN ?_ _ | refine blk_drew ?_ | refine blk_alloc ?_ _)); exact BK190.out) hb)
    have n9_ := Aside0.mk (below_step (by repeat (first | (with_reducible first | exact HB.out | apply below_alloc | apply pw_below_drewN | apply below_drew1 | refine below_set ?_ GE168.out | refine below_set ?_ GE179.out | refine below_set ?_ GE185.out | refine below_set ?_ GE190.out) | exact HB.out)) hb)
    clear HO174
    clear HO178
    clear HO184
    clear HO189
    clear HO196
    clear BK168
    clear BK179
    clear BK185
    clear BK190
    clear HB
    have HO174 := n0_
    have HO178 := n1_
    have HO184 := n2_
    have HO189 := n3_
    have HO196 := n4_
    have BK168 := n5_
    have BK179 := n6_
    have BK185 := n7_
    have BK190 := n8_
    have HB := n9_
    clear n0_ n1_ n2_ n3_ n4_ n5_ n6_ n7_ n8_ n9_
    (try clear hb)
    (try clear hb2)
    (try clear hk)
    (try clear hi)
    refine hK.out _ _ ⟨(blk_cell BK185.out 0).trans rfl, (blk_cell BK185.out 1).trans rfl, (blk_cell BK185.out 2).trans rfl, (blk_cell BK168.out 0).trans rfl, (blk_cell BK168.out 1).trans rfl, (blk_cell BK168.out 2).trans rfl⟩ (fun hHeld => ?_)
    clear hK K
    refine norm_ (a' := ?_) ?_ ?_
    rotate_left
    ·show Act.put _ (some 30) _ = _
     simp only [Act.put, List.setIfInBounds_toArray, List.set_cons_zero, List.set_cons_succ, i64_w, i32_w]
     rfl
    refine pure_ (i := 4) (N := some 31) (v := ?_) (a' := ?_) #[true, true, true, true, true] rfl rfl (by kernel_rfl) (fun _ _ _ h => h) (Or.inl ⟨by rfl, ?_⟩) ?_ ?_
    rotate_left
    ·intro w'
     go_simp
     with_reducible rfl
    rotate_left
    ·simp only [Act.put, List.setIfInBounds_toArray, List.set_cons_zero, List.set_cons_succ, i64_w, i32_w]
     rfl
    refine done_ (by kernel_rfl) ?_
    have hcz49_0 : w48.cell? ⟨gb185, 0, none⟩ = some (.int .i64 t180) := (blk_cell BK185.out 0).trans rfl
    have hcz49_1 : w48.cell? ⟨gb185, 1, none⟩ = some (.int .i64 t181) := (blk_cell BK185.out 1).trans rfl
    have hcz49_2 : w48.cell? ⟨gb185, 2, none⟩ = some (.slice Ao35 t182.length co35) := (blk_cell BK185.out 2).trans rfl
    have hfz49_0 := blk_frozen BK185.out 0
    have hfz49_1 := blk_frozen BK185.out 1
    have hfz49_2 := blk_frozen BK185.out 2
    go_upto_region 14 with (first | ((with_reducible refine gate_callee (f := 16) rfl ?_); refine goesL_ (some 34) rfl rfl Try.func16 (by kernel_rfl) rfl #[.agg #[.int .i64 t180, .int .i64 t181, .slice Ao35 t182.length co35], .int .i64 1] rfl (by (try simp only [List.map_toArray, List.map_cons, List.map_nil]); first | done | rfl | (simp only [List.length_drop, List.length_take]; rfl)) ?_; (with_reducible refine (laws_markHunk.calls k t180 t181 (fun k_ => some k_ = (.slice Ao35 t182.length co35 : Value).ownBlock) (.slice Ao35 t182.length co35) t182 1 t198 t199 w _ ?side1 ?side2 A16.out).mono ?_); (case side1 => repeat (first | (with_reducible first | exact HB.out | apply below_alloc | apply pw_below_drewN | apply below_drew1 | refine below_set ?_ GE168.out | refine below_set ?_ GE179.out | refine below_set ?_ GE185.out | refine below_set ?_ GE190.out) | exact HB.out)); (case side2 => exact Kd.R_tight rfl HO184.out); rintro e w50 ⟨rfl, hy0, hb, hkp⟩; refine ⟨_, rfl, ?_⟩; have n0_ := Aside0.mk (blk_kept (by (with_reducible repeat (first | refine blk_drewN ?_ _ | refine blk_drew ?_ | refine blk_alloc ?_ _)); exact BK168.out) hkp (fun hs_ => (fun e_ => (Kd.R_ne HO184.out BK168.out (by decide)) e_) hs_)); have n1_ := Aside0.mk (Kd.R_mono (ok' := fun k_ => some k_ ≠ (.slice Ao35 t182.length co35 : Value).ownBlock ∧ some k_ ≠ (.slice Ao47 t194.length co47 : Value).ownBlock) (Kd.R_keptB (HO174.out) hkp (fun k_ hk_ hs_ => (hk_.1.2) hs_)) (fun k_ hk_ => ⟨hk_.1.1.2, hk_.1.2⟩)); have n2_ := Aside0.mk (Kd.R_mono (ok' := fun k_ => some k_ ≠ (.slice Ao42 t187.length co42 : Value).ownBlock) (Kd.R_keptB ((Kd.R_apart' HO178.out (Kd.R_typed HO184.out) (by decide))) hkp (fun k_ hk_ hs_ => (hk_.2) hs_)) (fun k_ hk_ => hk_.1.1.2)); have n3_ := Aside0.mk (blk_kept (by (with_reducible repeat (first | refine blk_drewN ?_ _ | refine blk_drew ?_ | refine blk_alloc ?_ _)); exact BK179.out) hkp (fun hs_ => (fun e_ => (Kd.R_ne HO184.out BK179.out (by decide)) e_) hs_)); have n4_ := Aside0.mk (Kd.R_reok rfl hy0 (fun k_ e_ => HO184.out.1 k_ e_)); have n5_ := Aside0.mk (blk_kept (by (with_reducible repeat (first | refine blk_drewN ?_ _ | refine blk_drew ?_ | refine blk_alloc ?_ _)); exact BK185.out) hkp (fun hs_ => (fun e_ => (Kd.R_ne HO184.out BK185.out (by decide)) e_) hs_)); have n6_ := Aside0.mk (Kd.R_mono (ok' := fun k_ => some k_ ≠ (.slice Ao28 t176.length co28 : Value).ownBlock) (Kd.R_keptB ((Kd.R_apart' HO189.out (Kd.R_typed HO184.out) (by decide))) hkp (fun k_ hk_ hs_ => (hk_.2) hs_)) (fun k_ hk_ => hk_.1.1.2)); have n7_ := Aside0.mk (blk_kept (by (with_reducible repeat (first | refine blk_drewN ?_ _ | refine blk_drew ?_ | refine blk_alloc ?_ _)); exact BK190.out) hkp (fun hs_ => (fun e_ => (Kd.R_ne HO184.out BK190.out (by decide)) e_) hs_)); have n8_ := Aside0.mk (Kd.R_mono (ok' := fun k_ => some k_ ≠ (.slice Ao23 t172.length co23 : Value).ownBlock ∧ some k_ ≠ (.slice Ao35 t182.length co35 : Value).ownBlock) (Kd.R_keptB (HO196.out) hkp (fun k_ hk_ hs_ => (hk_.2) hs_)) (fun k_ hk_ => ⟨hk_.1.1.2, hk_.1.2⟩)); have n9_ := Aside0.mk (hb); clear BK168; clear HO174; clear HO178; clear BK179; clear HO184; clear BK185; clear HO189; clear BK190; clear HO196; clear HB; have BK168 := n0_; have HO174 := n1_; have HO178 := n2_; have BK179 := n3_; have HO184 := n4_; have BK185 := n5_; have HO189 := n6_; have BK190 := n7_; have HO196 := n8_; have HB := n9_; clear n0_ n1_ n2_ n3_ n4_ n5_ n6_ n7_ n8_ n9_; (try clear hb); (try clear hkp); (try clear hy0)))
    (try simp only [Act.put, List.setIfInBounds_toArray, List.set_cons_zero, List.set_cons_succ])
    go_cut [42] (fun v42 wc => ∃ (kq : Nat) (x42_16 : Bool), v42 = .bool x42_16 ∧ Aside0 (laws_FnExactSizesOf.j0 kq x42_16 a0_0 a0_1 l0_2 t175 t176 t186 t187 = some r) ∧ Aside0 (kq ≤ k) ∧ Aside0 (Kd.R (Kd.int .i64) 2 wc w.heap.size (fun k_ => some k_ ≠ ((.slice Ao42 t187.length co42) : Value).ownBlock) (.slice Ao28 t176.length co28) t176) ∧ Aside0 (Kd.R Kd.string 9 wc w.heap.size (fun _ => True) (.slice Ao35 t182.length co35) t199) ∧ Aside0 (Kd.R (Kd.int .i64) 2 wc w.heap.size (fun k_ => some k_ ≠ ((.slice Ao28 t176.length co28) : Value).ownBlock) (.slice Ao42 t187.length co42) t187) ∧ Aside0 (wc.heap[gb168]? = some (.cells #[.int .i64 a0_0, .int .i64 a0_1, (.slice A0_2 l0_2.length c0_2)] 24 (0, 0))) ∧ Aside0 (wc.heap[gb179]? = some (.cells #[.int .i64 t175, (.slice Ao28 t176.length co28)] 28 (0, 0))) ∧ Aside0 (wc.heap[gb185]? = some (.cells #[.int .i64 t180, .int .i64 t181, (.slice Ao35 t182.length co35)] 30 (0, 0))) ∧ Aside0 (wc.heap[gb190]? = some (.cells #[.int .i64 t186, (.slice Ao42 t187.length co42)] 28 (0, 0))) ∧ Aside0 (Below w.heap.size w wc))
    case first =>
     have H := HC17.out
     clear HC17
     by_cases c51 : t198 < 0
     ·rw [if_pos c51] at H
      have c51b0 : decide (t198 < 0) = true := decide_eq_true c51
      clear c51
      (first | rw [c51b0] | (simp only [i64_w, i32_w]; rw [c51b0]) | skip)
      have H' := Aside0.mk H
      clear H
      go_wp2
      go_meet
      case rel => exact ⟨_, (true), (by first | rfl | (simp; done) | (simp [*]; done)), H', ⟨by first | omega | exact Nat.le_refl _⟩, ⟨by (with_reducible repeat (first | apply Kd.R_alloc | apply Kd.R_drewN | apply Kd.R_drew)); exact HO178.out⟩, ⟨by (with_reducible repeat (first | apply Kd.R_alloc | apply Kd.R_drewN | apply Kd.R_drew)); exact Kd.R_mono HO184.out (fun _ hk => trivial)⟩, ⟨by (with_reducible repeat (first | apply Kd.R_alloc | apply Kd.R_drewN | apply Kd.R_drew)); exact HO189.out⟩, ⟨by (with_reducible repeat (first | refine blk_drewN ?_ _ | refine blk_drew ?_ | refine blk_alloc ?_ _)); exact BK168.out⟩, ⟨by (with_reducible repeat (first | refine blk_drewN ?_ _ | refine blk_drew ?_ | refine blk_alloc ?_ _)); exact BK179.out⟩, ⟨by (with_reducible repeat (first | refine blk_drewN ?_ _ | refine blk_drew ?_ | refine blk_alloc ?_ _)); exact BK185.out⟩, ⟨by (with_reducible repeat (first | refine blk_drewN ?_ _ | refine blk_drew ?_ | refine blk_alloc ?_ _)); exact BK190.out⟩, ⟨by repeat (first | (with_reducible first | exact HB.out | apply below_alloc | apply pw_below_drewN | apply below_drew1 | refine below_set ?_ GE168.out | refine below_set ?_ GE179.out | refine below_set ?_ GE185.out | refine below_set ?_ GE190.out) | exact HB.out)⟩⟩
     ·rw [if_neg c51] at H
      have c51b0 : decide (t198 < 0) = false := decide_eq_false c51
      clear c51
      (first | rw [c51b0] | (simp only [i64_w, i32_w]; rw [c51b0]) | skip)
      replace H := Option.bind_eq_some_iff.mp H
      obtain ⟨t200, A520, H⟩ := H
      replace H : (laws_FnExactSizesOf.j0 k (!t200) a0_0 a0_1 l0_2 t175 t176 t186 t187) = some r := H
      have A52 := Aside0.mk A520
      clear A520
      have H' := Aside0.mk H
      clear H
      have hnb53 := NB190_168.out
      have hnc53 := NB168_190.out
      have hnb54 := NB190_179.out
      have hnc54 := NB179_190.out
      have hnb55 := NB190_185.out
      have hnc55 := NB185_190.out
      have hcz56_0 : w50.cell? ⟨gb190, 0, none⟩ = some (.int .i64 t186) := (blk_cell BK190.out 0).trans rfl
      have hcz56_1 : w50.cell? ⟨gb190, 1, none⟩ = some (.slice Ao42 t187.length co42) := (blk_cell BK190.out 1).trans rfl
      have hfz56_0 := blk_frozen BK190.out 0
      have hfz56_1 := blk_frozen BK190.out 1
      have hnb57 := NB179_168.out
      have hnc57 := NB168_179.out
      have hnb58 := NB179_185.out
      have hnc58 := NB185_179.out
      have hcz59_0 : w50.cell? ⟨gb179, 0, none⟩ = some (.int .i64 t175) := (blk_cell BK179.out 0).trans rfl
      have hcz59_1 : w50.cell? ⟨gb179, 1, none⟩ = some (.slice Ao28 t176.length co28) := (blk_cell BK179.out 1).trans rfl
      have hfz59_0 := blk_frozen BK179.out 0
      have hfz59_1 := blk_frozen BK179.out 1
      go_wp2_with (first | (go_at_call 14; (with_reducible refine (laws_eqIntsResult.calls k t186 _ _ t187 t175 _ _ t176 t200 _ ?side1 ?side2 ?side3 ?side4 A52.out).mono ?_); (case side1 => repeat (first | exact (Kd.R_reads' HO189.out).2.2 | (with_reducible refine Kd.C_alloc ?_ _) | (with_reducible refine Kd.C_drewN ?_ _) | (with_reducible refine Kd.C_drew ?_))); (case side2 => exact (Kd.R_reads' HO189.out).2.1); (case side3 => repeat (first | exact (Kd.R_reads' HO178.out).2.2 | (with_reducible refine Kd.C_alloc ?_ _) | (with_reducible refine Kd.C_drewN ?_ _) | (with_reducible refine Kd.C_drew ?_))); (case side4 => exact (Kd.R_reads' HO178.out).2.1); rintro e w60 ⟨rfl, hb⟩; have n0_ := Aside0.mk (Kd.R_below (by (with_reducible repeat (first | apply Kd.R_alloc | apply Kd.R_drewN | apply Kd.R_drew)); exact HO174.out) hb); have n1_ := Aside0.mk (Kd.R_below (by (with_reducible repeat (first | apply Kd.R_alloc | apply Kd.R_drewN | apply Kd.R_drew)); exact HO178.out) hb); have n2_ := Aside0.mk (Kd.R_below (by (with_reducible repeat (first | apply Kd.R_alloc | apply Kd.R_drewN | apply Kd.R_drew)); exact HO184.out) hb); have n3_ := Aside0.mk (Kd.R_below (by (with_reducible repeat (first | apply Kd.R_alloc | apply Kd.R_drewN | apply Kd.R_drew)); exact HO189.out) hb); have n4_ := Aside0.mk (Kd.R_below (by (with_reducible repeat (first | apply Kd.R_alloc | apply Kd.R_drewN | apply Kd.R_drew)); exact HO196.out) hb); have n5_ := Aside0.mk (blk_below (g := gb168) (o := .cells #[.int .i64 a0_0, .int .i64 a0_1, .slice A0_2 l0_2.length c0_2] 24 (0, 0)) (by (with_reducible repeat (first | refine blk_drewN ?_ _ | refine blk_drew ?_ | refine blk_alloc ?_ _)); exact BK168.out) hb); have n6_ := Aside0.mk (blk_below (g := gb179) (o := .cells #[.int .i64 t175, .slice Ao28 t176.length co28] 28 (0, 0)) (by (with_reducible repeat (first | refine blk_drewN ?_ _ | refine blk_drew ?_ | refine blk_alloc ?_ _)); exact BK179.out) hb); have n7_ := Aside0.mk (blk_below (g := gb185) (o := .cells #[.int .i64 t180, .int .i64 t181, .slice Ao35 t182.length co35] 30 (0, 0)) (by (with_reducible repeat (first | refine blk_drewN ?_ _ | refine blk_drew ?_ | refine blk_alloc ?_ _)); exact BK185.out) hb); have n8_ := Aside0.mk (blk_below (g := gb190) (o := .cells #[.int .i64 t186, .slice Ao42 t187.length co42] 28 (0, 0)) (by (with_reducible repeat (first | refine blk_drewN ?_ _ | refine blk_drew ?_ | refine blk_alloc ?_ _)); exact BK190.out) hb); have n9_ := Aside0.mk (below_step (by repeat (first | (with_reducible first | exact HB.out | apply below_alloc | apply pw_below_drewN | apply below_drew1 | refine below_set ?_ GE168.out | refine below_set ?_ GE179.out | refine below_set ?_ GE185.out | refine below_set ?_ GE190.out) | exact HB.out)) hb); clear HO174; clear HO178; clear HO184; clear HO189; clear HO196; clear BK168; clear BK179; clear BK185; clear BK190; clear HB; have HO174 := n0_; have HO178 := n1_; have HO184 := n2_; have HO189 := n3_; have HO196 := n4_; have BK168 := n5_; have BK179 := n6_; have BK185 := n7_; have BK190 := n8_; have HB := n9_; clear n0_ n1_ n2_ n3_ n4_ n5_ n6_ n7_ n8_ n9_; (try clear hb); (try clear hb2); (try clear hk); (try clear hi)))
      go_meet
      case rel => exact ⟨_, (!t200), (by first | rfl | (simp; done) | (simp [*]; done)), H', ⟨by first | omega | exact Nat.le_refl _⟩, ⟨by (with_reducible repeat (first | apply Kd.R_alloc | apply Kd.R_drewN | apply Kd.R_drew)); exact HO178.out⟩, ⟨by (with_reducible repeat (first | apply Kd.R_alloc | apply Kd.R_drewN | apply Kd.R_drew)); exact Kd.R_mono HO184.out (fun _ hk => trivial)⟩, ⟨by (with_reducible repeat (first | apply Kd.R_alloc | apply Kd.R_drewN | apply Kd.R_drew)); exact HO189.out⟩, ⟨by (with_reducible repeat (first | refine blk_drewN ?_ _ | refine blk_drew ?_ | refine blk_alloc ?_ _)); exact BK168.out⟩, ⟨by (with_reducible repeat (first | refine blk_drewN ?_ _ | refine blk_drew ?_ | refine blk_alloc ?_ _)); exact BK179.out⟩, ⟨by (with_reducible repeat (first | refine blk_drewN ?_ _ | refine blk_drew ?_ | refine blk_alloc ?_ _)); exact BK185.out⟩, ⟨by (with_reducible repeat (first | refine blk_drewN ?_ _ | refine blk_drew ?_ | refine blk_alloc ?_ _)); exact BK190.out⟩, ⟨by repeat (first | (with_reducible first | exact HB.out | apply below_alloc | apply pw_below_drewN | apply below_drew1 | refine below_set ?_ GE168.out | refine below_set ?_ GE179.out | refine below_set ?_ GE185.out | refine below_set ?_ GE190.out) | exact HB.out)⟩⟩
    case rest =>
     clear HC17
     try clear c1
     try clear c2
     try clear p2
     try clear c3
     try clear c3b0
     try clear c4
     try clear c5
     try clear c10
     try clear c11
     try clear c12
     try clear c13
     try clear c14
     try clear c15
     try clear c16
     try clear c26
     try clear c32
     try clear c33
     try clear c38
     try clear c39
     try clear c40
     try clear c51
     try clear c51b0
     try clear c53
     try clear c54
     try clear c55
     try clear c57
     try clear c58
     try clear hcz19_0
     try clear hcz19_1
     try clear hcz19_2
     try clear hcz21_0
     try clear hcz21_1
     try clear hcz21_2
     try clear hcz27_0
     try clear hcz27_1
     try clear hcz29_0
     try clear hcz29_1
     try clear hcz29_2
     try clear hcz34_0
     try clear hcz34_1
     try clear hcz34_2
     try clear hcz41_0
     try clear hcz41_1
     try clear hcz43_0
     try clear hcz43_1
     try clear hcz49_0
     try clear hcz49_1
     try clear hcz49_2
     try clear hcz56_0
     try clear hcz56_1
     try clear hcz59_0
     try clear hcz59_1
     try clear hcz5_0
     try clear hcz5_1
     try clear hcz5_2
     try clear hfz19_0
     try clear hfz19_1
     try clear hfz19_2
     try clear hfz21_0
     try clear hfz21_1
     try clear hfz21_2
     try clear hfz27_0
     try clear hfz27_1
     try clear hfz29_0
     try clear hfz29_1
     try clear hfz29_2
     try clear hfz34_0
     try clear hfz34_1
     try clear hfz34_2
     try clear hfz41_0
     try clear hfz41_1
     try clear hfz43_0
     try clear hfz43_1
     try clear hfz49_0
     try clear hfz49_1
     try clear hfz49_2
     try clear hfz56_0
     try clear hfz56_1
     try clear hfz59_0
     try clear hfz59_1
     try clear hfz5_0
     try clear hfz5_1
     try clear hfz5_2
     obtain ⟨kq, x42_16, rfl, HA, HJ16, HO_180001, HO_186002, HO_191001, BK168, BK179, BK185, BK190, HB⟩ := hcut
     have hl186002_16 := (Kd.R_reads' HO_186002.out).1
     rw [hl186002_16] at HO_186002
     (try simp only [hl186002_16])
     (try simp only [hl186002_16] at BK168)
     (try simp only [hl186002_16] at BK179)
     (try simp only [hl186002_16] at BK185)
     (try simp only [hl186002_16] at BK190)
     (try simp only [hl186002_16] at HO_180001)
     (try simp only [hl186002_16] at HO_191001)
     cases kq with
     | zero => exact absurd HA.out (by simp [laws_FnExactSizesOf.j0])
     | succ kj16 =>
      have H := HA.out
      clear HA
      simp only [laws_FnExactSizesOf.j0] at H
      by_cases c61 : x42_16 = true
      ·subst c61
       have H1 : (some false) = some r := by rw [if_pos rfl] at H; exact H
       clear H
       have H := H1
       clear H1
       exact absurd ((Option.some.inj H).trans HLAW.out) (by decide)
      ·replace c61 := Bool.eq_false_iff.mpr c61
       subst c61
       have H1 : ((laws_markIntsResult.f kj16 t186 t187 1).bind fun bt201 => ((laws_heldIntsResult.f kj16 t186 bt201.2 1).bind fun t203 => (if t203 < 0 then (some false) else (if t203 = bt201.1 then ((laws_toHunk.f kj16 a0_0 a0_1 l0_2).bind fun bt204 => ((impl_SizesOf.f kj16 bt204.1 bt204.2.1 bt204.2.2).bind fun bt209 => ((laws_eqIntsResult.f kj16 bt209.1 bt209.2 t175 t176).bind fun t214 => (if t214 = true then ((laws_heldIntsResult.f kj16 t186 bt201.2 1).bind fun t215 => (if t215 < 0 then (some false) else (if t215 = bt201.1 then (some true) else (some false)))) else (some false))))) else (some false))))) = some r := by rw [if_neg (show ¬ (false = true) by decide)] at H; exact H
       clear H
       have H := H1
       clear H1
       replace H := Option.bind_eq_some_iff.mp H
       obtain ⟨⟨t201, t202⟩, A620, H⟩ := H
       replace H : ((laws_heldIntsResult.f kj16 t186 t202 1).bind fun t203 => (if t203 < 0 then (some false) else (if t203 = t201 then ((laws_toHunk.f kj16 a0_0 a0_1 l0_2).bind fun bt204 => ((impl_SizesOf.f kj16 bt204.1 bt204.2.1 bt204.2.2).bind fun bt209 => ((laws_eqIntsResult.f kj16 bt209.1 bt209.2 t175 t176).bind fun t214 => (if t214 = true then ((laws_heldIntsResult.f kj16 t186 t202 1).bind fun t215 => (if t215 < 0 then (some false) else (if t215 = t201 then (some true) else (some false)))) else (some false))))) else (some false)))) = some r := H
       have A62 := Aside0.mk A620
       clear A620
       replace H := Option.bind_eq_some_iff.mp H
       obtain ⟨t203, A630, H⟩ := H
       replace H : (if t203 < 0 then (some false) else (if t203 = t201 then ((laws_toHunk.f kj16 a0_0 a0_1 l0_2).bind fun bt204 => ((impl_SizesOf.f kj16 bt204.1 bt204.2.1 bt204.2.2).bind fun bt209 => ((laws_eqIntsResult.f kj16 bt209.1 bt209.2 t175 t176).bind fun t214 => (if t214 = true then ((laws_heldIntsResult.f kj16 t186 t202 1).bind fun t215 => (if t215 < 0 then (some false) else (if t215 = t201 then (some true) else (some false)))) else (some false))))) else (some false))) = some r := H
       have A63 := Aside0.mk A630
       clear A630
       by_cases c64 : t203 < 0
       ·rw [if_pos c64] at H
        have c64b0 : decide (t203 < 0) = true := decide_eq_true c64
        clear c64
        exact absurd ((Option.some.inj H).trans HLAW.out) (by decide)
       ·rw [if_neg c64] at H
        have c64b0 : decide (t203 < 0) = false := decide_eq_false c64
        clear c64
        by_cases c65 : t203 = t201
        ·rw [if_pos c65] at H
         have c65b0 : (t203 == t201) = true := beq_iff_eq.mpr c65
         have c65b1 : (t203 != t201) = false := bne_eq_false_iff_eq.mpr c65
         clear c65
         replace H := Option.bind_eq_some_iff.mp H
         obtain ⟨⟨t204, t205, t206⟩, A660, H⟩ := H
         replace H : ((impl_SizesOf.f kj16 t204 t205 t206).bind fun bt209 => ((laws_eqIntsResult.f kj16 bt209.1 bt209.2 t175 t176).bind fun t214 => (if t214 = true then ((laws_heldIntsResult.f kj16 t186 t202 1).bind fun t215 => (if t215 < 0 then (some false) else (if t215 = t201 then (some true) else (some false)))) else (some false)))) = some r := H
         have A66 := Aside0.mk A660
         clear A660
         replace H := Option.bind_eq_some_iff.mp H
         obtain ⟨⟨t209, t210⟩, A670, H⟩ := H
         replace H : ((laws_eqIntsResult.f kj16 t209 t210 t175 t176).bind fun t214 => (if t214 = true then ((laws_heldIntsResult.f kj16 t186 t202 1).bind fun t215 => (if t215 < 0 then (some false) else (if t215 = t201 then (some true) else (some false)))) else (some false))) = some r := H
         have A67 := Aside0.mk A670
         clear A670
         replace H := Option.bind_eq_some_iff.mp H
         obtain ⟨t214, A680, H⟩ := H
         replace H : (if t214 = true then ((laws_heldIntsResult.f kj16 t186 t202 1).bind fun t215 => (if t215 < 0 then (some false) else (if t215 = t201 then (some true) else (some false)))) else (some false)) = some r := H
         have A68 := Aside0.mk A680
         clear A680
         by_cases c69 : t214 = true
         ·subst c69
          have H1 : ((laws_heldIntsResult.f kj16 t186 t202 1).bind fun t215 => (if t215 < 0 then (some false) else (if t215 = t201 then (some true) else (some false)))) = some r := by rw [if_pos rfl] at H; exact H
          clear H
          have H := H1
          clear H1
          replace H := Option.bind_eq_some_iff.mp H
          obtain ⟨t215, A700, H⟩ := H
          replace H : (if t215 < 0 then (some false) else (if t215 = t201 then (some true) else (some false))) = some r := H
          have A70 := Aside0.mk A700
          clear A700
          by_cases c71 : t215 < 0
          ·rw [if_pos c71] at H
           have c71b0 : decide (t215 < 0) = true := decide_eq_true c71
           clear c71
           exact absurd ((Option.some.inj H).trans HLAW.out) (by decide)
          ·rw [if_neg c71] at H
           have c71b0 : decide (t215 < 0) = false := decide_eq_false c71
           clear c71
           by_cases c72 : t215 = t201
           ·rw [if_pos c72] at H
            have c72b0 : (t215 == t201) = true := beq_iff_eq.mpr c72
            have c72b1 : (t215 != t201) = false := bne_eq_false_iff_eq.mpr c72
            clear c72
            obtain rfl := Option.some.inj H
            have hnb73 := NB190_168.out
            have hnc73 := NB168_190.out
            have hnb74 := NB190_179.out
            have hnc74 := NB179_190.out
            have hnb75 := NB190_185.out
            have hnc75 := NB185_190.out
            have hcz76_0 : wc.cell? ⟨gb190, 0, none⟩ = some (.int .i64 t186) := (blk_cell BK190.out 0).trans rfl
            have hcz76_1 : wc.cell? ⟨gb190, 1, none⟩ = some (.slice Ao42 t187.length co42) := (blk_cell BK190.out 1).trans rfl
            have hfz76_0 := blk_frozen BK190.out 0
            have hfz76_1 := blk_frozen BK190.out 1
            go_wp2_with (first | ((with_reducible refine gate_callee (f := 17) rfl ?_); refine goesL_ (some 45) rfl rfl Try.func17 (by kernel_rfl) rfl #[.agg #[.int .i64 t186, .slice Ao42 t187.length co42], .int .i64 1] rfl (by (try simp only [List.map_toArray, List.map_cons, List.map_nil]); first | done | rfl | (simp only [List.length_drop, List.length_take]; rfl)) ?_; (with_reducible refine (laws_markIntsResult.calls kj16 t186 (fun k_ => some k_ = (.slice Ao42 t187.length co42 : Value).ownBlock) (.slice Ao42 t187.length co42) t187 1 t201 t202 w _ ?side1 ?side2 A62.out).mono ?_); (case side1 => repeat (first | (with_reducible first | exact HB.out | apply below_alloc | apply pw_below_drewN | apply below_drew1 | refine below_set ?_ GE168.out | refine below_set ?_ GE179.out | refine below_set ?_ GE185.out | refine below_set ?_ GE190.out) | exact HB.out)); (case side2 => exact Kd.R_tight rfl HO_191001.out); rintro e w77 ⟨rfl, hy0, hb, hkp⟩; refine ⟨_, rfl, ?_⟩; have n0_ := Aside0.mk (Kd.R_mono (ok' := fun k_ => some k_ ≠ (.slice Ao42 t187.length co42 : Value).ownBlock) (Kd.R_keptB (HO_180001.out) hkp (fun k_ hk_ hs_ => (hk_) hs_)) (fun k_ hk_ => hk_.1)); have n1_ := Aside0.mk (Kd.R_mono (ok' := fun k_ => True) (Kd.R_keptB ((Kd.R_apart' HO_186002.out (Kd.R_typed HO_191001.out) (by decide))) hkp (fun k_ hk_ hs_ => (hk_.2) hs_)) (fun k_ hk_ => trivial)); have n2_ := Aside0.mk (Kd.R_reok rfl hy0 (fun k_ e_ => HO_191001.out.1 k_ e_)); have n3_ := Aside0.mk (blk_kept (by (with_reducible repeat (first | refine blk_drewN ?_ _ | refine blk_drew ?_ | refine blk_alloc ?_ _)); exact BK168.out) hkp (fun hs_ => (fun e_ => (Kd.R_ne HO_191001.out BK168.out (by decide)) e_) hs_)); have n4_ := Aside0.mk (blk_kept (by (with_reducible repeat (first | refine blk_drewN ?_ _ | refine blk_drew ?_ | refine blk_alloc ?_ _)); exact BK179.out) hkp (fun hs_ => (fun e_ => (Kd.R_ne HO_191001.out BK179.out (by decide)) e_) hs_)); have n5_ := Aside0.mk (blk_kept (by (with_reducible repeat (first | refine blk_drewN ?_ _ | refine blk_drew ?_ | refine blk_alloc ?_ _)); exact BK185.out) hkp (fun hs_ => (fun e_ => (Kd.R_ne HO_191001.out BK185.out (by decide)) e_) hs_)); have n6_ := Aside0.mk (blk_kept (by (with_reducible repeat (first | refine blk_drewN ?_ _ | refine blk_drew ?_ | refine blk_alloc ?_ _)); exact BK190.out) hkp (fun hs_ => (fun e_ => (Kd.R_ne HO_191001.out BK190.out (by decide)) e_) hs_)); have n7_ := Aside0.mk (hb); clear HO_180001; clear HO_186002; clear HO_191001; clear BK168; clear BK179; clear BK185; clear BK190; clear HB; have HO_180001 := n0_; have HO_186002 := n1_; have HO_191001 := n2_; have BK168 := n3_; have BK179 := n4_; have BK185 := n5_; have BK190 := n6_; have HB := n7_; clear n0_ n1_ n2_ n3_ n4_ n5_ n6_ n7_; (try clear hb); (try clear hkp); (try clear hy0); have hcz78_0 : w77.cell? ⟨gb190, 0, none⟩ = some (.int .i64 t186) := (blk_cell BK190.out 0).trans rfl; have hcz78_1 : w77.cell? ⟨gb190, 1, none⟩ = some (.slice Ao42 t187.length co42) := (blk_cell BK190.out 1).trans rfl; have hfz78_0 := blk_frozen BK190.out 0; have hfz78_1 := blk_frozen BK190.out 1) | ((with_reducible refine gate_callee (f := 18) rfl ?_); refine goesL_ (some 48) rfl rfl Try.func18 (by kernel_rfl) rfl #[.agg #[.int .i64 t186, .slice Ao42 t202.length co42], .int .i64 1] rfl (by (try simp only [List.map_toArray, List.map_cons, List.map_nil]); first | done | (rw [show t202.length = t187.length from (Kd.R_reads' HO_191001.out).1.symm] <;> rfl) | rfl | (simp only [List.length_drop, List.length_take]; rfl)) ?_; (with_reducible refine (laws_heldIntsResult.calls kj16 t186 _ _ t202 1 t203 _ ?side1 ?side2 A63.out).mono ?_); (case side1 => repeat (first | exact (Kd.R_reads' HO_191001.out).2.2 | (with_reducible refine Kd.C_alloc ?_ _) | (with_reducible refine Kd.C_drewN ?_ _) | (with_reducible refine Kd.C_drew ?_))); (case side2 => rw [show t202.length = t187.length from (Kd.R_reads' HO_191001.out).1.symm]; exact (Kd.R_reads' HO_191001.out).2.1); rintro e w79 ⟨rfl, hb⟩; refine ⟨_, rfl, ?_⟩; have n0_ := Aside0.mk (Kd.R_below (by (with_reducible repeat (first | apply Kd.R_alloc | apply Kd.R_drewN | apply Kd.R_drew)); exact HO_180001.out) hb); have n1_ := Aside0.mk (Kd.R_below (by (with_reducible repeat (first | apply Kd.R_alloc | apply Kd.R_drewN | apply Kd.R_drew)); exact HO_186002.out) hb); have n2_ := Aside0.mk (Kd.R_below (by (with_reducible repeat (first | apply Kd.R_alloc | apply Kd.R_drewN | apply Kd.R_drew)); exact HO_191001.out) hb); have n3_ := Aside0.mk (blk_below (g := gb168) (o := .cells #[.int .i64 a0_0, .int .i64 a0_1, .slice A0_2 l0_2.length c0_2] 24 (0, 0)) (by (with_reducible repeat (first | refine blk_drewN ?_ _ | refine blk_drew ?_ | refine blk_alloc ?_ _)); exact BK168.out) hb); have n4_ := Aside0.mk (blk_below (g := gb179) (o := .cells #[.int .i64 t175, .slice Ao28 t176.length co28] 28 (0, 0)) (by (with_reducible repeat (first | refine blk_drewN ?_ _ | refine blk_drew ?_ | refine blk_alloc ?_ _)); exact BK179.out) hb); have n5_ := Aside0.mk (blk_below (g := gb185) (o := .cells #[.int .i64 t180, .int .i64 t181, .slice Ao35 t199.length co35] 30 (0, 0)) (by (with_reducible repeat (first | refine blk_drewN ?_ _ | refine blk_drew ?_ | refine blk_alloc ?_ _)); exact BK185.out) hb); have n6_ := Aside0.mk (blk_below (g := gb190) (o := .cells #[.int .i64 t186, .slice Ao42 t187.length co42] 28 (0, 0)) (by (with_reducible repeat (first | refine blk_drewN ?_ _ | refine blk_drew ?_ | refine blk_alloc ?_ _)); exact BK190.out) hb); have n7_ := Aside0.mk (below_step (by repeat (first | (with_reducible first | exact HB.out | apply below_alloc | apply pw_below_drewN | apply below_drew1 | refine below_set ?_ GE168.out | refine below_set ?_ GE179.out | refine below_set ?_ GE185.out | refine below_set ?_ GE190.out) | exact HB.out)) hb); clear HO_180001; clear HO_186002; clear HO_191001; clear BK168; clear BK179; clear BK185; clear BK190; clear HB; have HO_180001 := n0_; have HO_186002 := n1_; have HO_191001 := n2_; have BK168 := n3_; have BK179 := n4_; have BK185 := n5_; have BK190 := n6_; have HB := n7_; clear n0_ n1_ n2_ n3_ n4_ n5_ n6_ n7_; (try clear hb); (try clear hb2); (try clear hk); (try clear hi); have hnb80 := NB168_179.out; have hnc80 := NB179_168.out; have hnb81 := NB168_185.out; have hnc81 := NB185_168.out; have hcz82_0 : w79.cell? ⟨gb168, 0, none⟩ = some (.int .i64 a0_0) := (blk_cell BK168.out 0).trans rfl; have hcz82_1 : w79.cell? ⟨gb168, 1, none⟩ = some (.int .i64 a0_1) := (blk_cell BK168.out 1).trans rfl; have hcz82_2 : w79.cell? ⟨gb168, 2, none⟩ = some (.slice A0_2 l0_2.length c0_2) := (blk_cell BK168.out 2).trans rfl; have hfz82_0 := blk_frozen BK168.out 0; have hfz82_1 := blk_frozen BK168.out 1; have hfz82_2 := blk_frozen BK168.out 2) | ((with_reducible refine gate_callee (f := 12) rfl ?_); refine goesL_ (some 55) rfl rfl Try.func12 (by kernel_rfl) rfl #[.agg #[.int .i64 a0_0, .int .i64 a0_1, .slice A0_2 l0_2.length c0_2]] rfl (by (try simp only [List.map_toArray, List.map_cons, List.map_nil]); first | done | rfl | (simp only [List.length_drop, List.length_take]; rfl)) ?_; (with_reducible refine (laws_toHunk.calls kj16 a0_0 a0_1 _ _ l0_2 t204 t205 t206 _ ?side1 ?side2 A66.out).mono ?_); (case side1 => repeat (first | exact (Kd.C_below HR0_2.out HB.out) | (with_reducible refine Kd.C_alloc ?_ _) | (with_reducible refine Kd.C_drewN ?_ _) | (with_reducible refine Kd.C_drew ?_))); (case side2 => exact HC0_2.out); rintro e w83 ⟨v207, rfl, ho0, hb⟩; refine ⟨_, rfl, ?_⟩; have n0_ := Aside0.mk (Kd.R_below (by (with_reducible repeat (first | apply Kd.R_alloc | apply Kd.R_drewN | apply Kd.R_drew)); exact HO_180001.out) hb); have n1_ := Aside0.mk (Kd.R_elder' (by (with_reducible repeat (first | apply Kd.R_alloc | apply Kd.R_drewN | apply Kd.R_drew)); exact HO_186002.out) (Kd.R_base ho0) hb); have n2_ := Aside0.mk (Kd.R_below (by (with_reducible repeat (first | apply Kd.R_alloc | apply Kd.R_drewN | apply Kd.R_drew)); exact HO_191001.out) hb); have n3_ := Aside0.mk (Kd.R_lower (Kd.R_new' ho0 (Kd.R_lt (by (with_reducible repeat (first | apply Kd.R_alloc | apply Kd.R_drewN | apply Kd.R_drew)); exact HO_186002.out))) (below_size (by repeat (first | (with_reducible first | exact HB.out | apply below_alloc | apply pw_below_drewN | apply below_drew1 | refine below_set ?_ GE168.out | refine below_set ?_ GE179.out | refine below_set ?_ GE185.out | refine below_set ?_ GE190.out) | exact HB.out)))); have n4_ := Aside0.mk (blk_below (g := gb168) (o := .cells #[.int .i64 a0_0, .int .i64 a0_1, .slice A0_2 l0_2.length c0_2] 24 (0, 0)) (by (with_reducible repeat (first | refine blk_drewN ?_ _ | refine blk_drew ?_ | refine blk_alloc ?_ _)); exact BK168.out) hb); have n5_ := Aside0.mk (blk_below (g := gb179) (o := .cells #[.int .i64 t175, .slice Ao28 t176.length co28] 28 (0, 0)) (by (with_reducible repeat (first | refine blk_drewN ?_ _ | refine blk_drew ?_ | refine blk_alloc ?_ _)); exact BK179.out) hb); have n6_ := Aside0.mk (blk_below (g := gb185) (o := .cells #[.int .i64 t180, .int .i64 t181, .slice Ao35 t199.length co35] 30 (0, 0)) (by (with_reducible repeat (first | refine blk_drewN ?_ _ | refine blk_drew ?_ | refine blk_alloc ?_ _)); exact BK185.out) hb); have n7_ := Aside0.mk (blk_below (g := gb190) (o := .cells #[.int .i64 t186, .slice Ao42 t187.length co42] 28 (0, 0)) (by (with_reducible repeat (first | refine blk_drewN ?_ _ | refine blk_drew ?_ | refine blk_alloc ?_ _)); exact BK190.out) hb); have n8_ := Aside0.mk (below_step (by repeat (first | (with_reducible first | exact HB.out | apply below_alloc | apply pw_below_drewN | apply below_drew1 | refine below_set ?_ GE168.out | refine below_set ?_ GE179.out | refine below_set ?_ GE185.out | refine below_set ?_ GE190.out) | exact HB.out)) hb); clear HO_180001; clear HO_186002; clear HO_191001; clear BK168; clear BK179; clear BK185; clear BK190; clear HB; have HO_180001 := n0_; have HO_186002 := n1_; have HO_191001 := n2_; have HO208 := n3_; have BK168 := n4_; have BK179 := n5_; have BK185 := n6_; have BK190 := n7_; have HB := n8_; clear n0_ n1_ n2_ n3_ n4_ n5_ n6_ n7_ n8_; (try clear hb); (try clear hb2); (try clear hk); (try clear hi); (try clear ho0); obtain ⟨Ao84, co84, eo84⟩ := Kd.R_slice HO208.out; subst eo84) | ((with_reducible refine gate_callee (f := 13) rfl ?_); refine goesL_ (some 56) rfl rfl Try.func13 (by kernel_rfl) rfl #[.agg #[.int .i64 t204, .int .i64 t205, .slice Ao84 t206.length co84]] rfl (by (try simp only [List.map_toArray, List.map_cons, List.map_nil]); first | done | rfl | (simp only [List.length_drop, List.length_take]; rfl)) ?_; (with_reducible refine (impl_SizesOf.calls kj16 t204 t205 _ _ t206 t209 t210 _ ?side1 ?side2 A67.out).mono ?_); (case side1 => repeat (first | exact (Kd.R_reads' HO208.out).2.2 | (with_reducible refine Kd.C_alloc ?_ _) | (with_reducible refine Kd.C_drewN ?_ _) | (with_reducible refine Kd.C_drew ?_))); (case side2 => exact (Kd.R_reads' HO208.out).2.1); rintro e w85 ⟨v211, rfl, ho0, hb⟩; refine ⟨_, rfl, ?_⟩; have n0_ := Aside0.mk (Kd.R_elder' (by (with_reducible repeat (first | apply Kd.R_alloc | apply Kd.R_drewN | apply Kd.R_drew)); exact HO_180001.out) (Kd.R_base ho0) hb); have n1_ := Aside0.mk (Kd.R_below (by (with_reducible repeat (first | apply Kd.R_alloc | apply Kd.R_drewN | apply Kd.R_drew)); exact HO_186002.out) hb); have n2_ := Aside0.mk (Kd.R_elder' (by (with_reducible repeat (first | apply Kd.R_alloc | apply Kd.R_drewN | apply Kd.R_drew)); exact HO_191001.out) (Kd.R_base ho0) hb); have n3_ := Aside0.mk (Kd.R_below (by (with_reducible repeat (first | apply Kd.R_alloc | apply Kd.R_drewN | apply Kd.R_drew)); exact HO208.out) hb); have n4_ := Aside0.mk (Kd.R_lower (Kd.R_new' (Kd.R_new' ho0 (Kd.R_lt (by (with_reducible repeat (first | apply Kd.R_alloc | apply Kd.R_drewN | apply Kd.R_drew)); exact HO_180001.out))) (Kd.R_lt (by (with_reducible repeat (first | apply Kd.R_alloc | apply Kd.R_drewN | apply Kd.R_drew)); exact HO_191001.out))) (below_size (by repeat (first | (with_reducible first | exact HB.out | apply below_alloc | apply pw_below_drewN | apply below_drew1 | refine below_set ?_ GE168.out | refine below_set ?_ GE179.out | refine below_set ?_ GE185.out | refine below_set ?_ GE190.out) | exact HB.out)))); have n5_ := Aside0.mk (blk_below (g := gb168) (o := .cells #[.int .i64 a0_0, .int .i64 a0_1, .slice A0_2 l0_2.length c0_2] 24 (0, 0)) (by (with_reducible repeat (first | refine blk_drewN ?_ _ | refine blk_drew ?_ | refine blk_alloc ?_ _)); exact BK168.out) hb); have n6_ := Aside0.mk (blk_below (g := gb179) (o := .cells #[.int .i64 t175, .slice Ao28 t176.length co28] 28 (0, 0)) (by (with_reducible repeat (first | refine blk_drewN ?_ _ | refine blk_drew ?_ | refine blk_alloc ?_ _)); exact BK179.out) hb); have n7_ := Aside0.mk (blk_below (g := gb185) (o := .cells #[.int .i64 t180, .int .i64 t181, .slice Ao35 t199.length co35] 30 (0, 0)) (by (with_reducible repeat (first | refine blk_drewN ?_ _ | refine blk_drew ?_ | refine blk_alloc ?_ _)); exact BK185.out) hb); have n8_ := Aside0.mk (blk_below (g := gb190) (o := .cells #[.int .i64 t186, .slice Ao42 t187.length co42] 28 (0, 0)) (by (with_reducible repeat (first | refine blk_drewN ?_ _ | refine blk_drew ?_ | refine blk_alloc ?_ _)); exact BK190.out) hb); have n9_ := Aside0.mk (below_step (by repeat (first | (with_reducible first | exact HB.out | apply below_alloc | apply pw_below_drewN | apply below_drew1 | refine below_set ?_ GE168.out | refine below_set ?_ GE179.out | refine below_set ?_ GE185.out | refine below_set ?_ GE190.out) | exact HB.out)) hb); clear HO_180001; clear HO_186002; clear HO_191001; clear HO208; clear BK168; clear BK179; clear BK185; clear BK190; clear HB; have HO_180001 := n0_; have HO_186002 := n1_; have HO_191001 := n2_; have HO208 := n3_; have HO212 := n4_; have BK168 := n5_; have BK179 := n6_; have BK185 := n7_; have BK190 := n8_; have HB := n9_; clear n0_ n1_ n2_ n3_ n4_ n5_ n6_ n7_ n8_ n9_; (try clear hb); (try clear hb2); (try clear hk); (try clear hi); (try clear ho0)) | ((with_reducible refine gate_dst (N := 10) rfl ?_); refine box_event ?hg (N := 10) ?hd (cs := #[.int .i64 0, .slice none 0 0]) (t := 28) ?hr ?_; (case hd => rfl); (case hg => rfl); (case hr => first | (go_simp; done) | (go_simp; rfl)); intro gb213 hg w86 hbox hb; have n0_ := Aside0.mk (Kd.R_below (by (with_reducible repeat (first | apply Kd.R_alloc | apply Kd.R_drewN | apply Kd.R_drew)); exact HO_180001.out) hb); have n1_ := Aside0.mk (Kd.R_below (by (with_reducible repeat (first | apply Kd.R_alloc | apply Kd.R_drewN | apply Kd.R_drew)); exact HO_186002.out) hb); have n2_ := Aside0.mk (Kd.R_below (by (with_reducible repeat (first | apply Kd.R_alloc | apply Kd.R_drewN | apply Kd.R_drew)); exact HO_191001.out) hb); have n3_ := Aside0.mk (Kd.R_below (by (with_reducible repeat (first | apply Kd.R_alloc | apply Kd.R_drewN | apply Kd.R_drew)); exact HO208.out) hb); have n4_ := Aside0.mk (Kd.R_below (by (with_reducible repeat (first | apply Kd.R_alloc | apply Kd.R_drewN | apply Kd.R_drew)); exact HO212.out) hb); have n5_ := Aside0.mk (blk_below (g := gb168) (o := .cells #[.int .i64 a0_0, .int .i64 a0_1, .slice A0_2 l0_2.length c0_2] 24 (0, 0)) (by (with_reducible repeat (first | refine blk_drewN ?_ _ | refine blk_drew ?_ | refine blk_alloc ?_ _)); exact BK168.out) hb); have n6_ := Aside0.mk (blk_below (g := gb179) (o := .cells #[.int .i64 t175, .slice Ao28 t176.length co28] 28 (0, 0)) (by (with_reducible repeat (first | refine blk_drewN ?_ _ | refine blk_drew ?_ | refine blk_alloc ?_ _)); exact BK179.out) hb); have n7_ := Aside0.mk (blk_below (g := gb185) (o := .cells #[.int .i64 t180, .int .i64 t181, .slice Ao35 t199.length co35] 30 (0, 0)) (by (with_reducible repeat (first | refine blk_drewN ?_ _ | refine blk_drew ?_ | refine blk_alloc ?_ _)); exact BK185.out) hb); have n8_ := Aside0.mk (blk_below (g := gb190) (o := .cells #[.int .i64 t186, .slice Ao42 t187.length co42] 28 (0, 0)) (by (with_reducible repeat (first | refine blk_drewN ?_ _ | refine blk_drew ?_ | refine blk_alloc ?_ _)); exact BK190.out) hb); have n9_ := Aside0.mk (below_step (by repeat (first | (with_reducible first | exact HB.out | apply below_alloc | apply pw_below_drewN | apply below_drew1 | refine below_set ?_ GE168.out | refine below_set ?_ GE179.out | refine below_set ?_ GE185.out | refine below_set ?_ GE190.out) | exact HB.out)) hb); have n10_ := Aside0.mk (hbox); have n11_ := Aside0.mk ((by rw [hg]; exact (below_size (by repeat (first | (with_reducible first | exact HB.out | apply below_alloc | apply pw_below_drewN | apply below_drew1 | refine below_set ?_ GE168.out | refine below_set ?_ GE179.out | refine below_set ?_ GE185.out | refine below_set ?_ GE190.out) | exact HB.out))) : w.heap.size ≤ gb213)); have n12_ := Aside0.mk ((by rw [hg]; exact (below_size (by repeat (first | (with_reducible first | exact HB.out | apply below_alloc | apply pw_below_drewN | apply below_drew1 | refine below_set ?_ GE168.out | refine below_set ?_ GE179.out | refine below_set ?_ GE185.out | refine below_set ?_ GE190.out) | exact HB.out))) : w.heap.size ≤ gb213)); have n13_ := Aside0.mk ((by rw [hg]; exact Nat.ne_of_lt (blk_lt (g := gb168) (o := .cells #[.int .i64 a0_0, .int .i64 a0_1, .slice A0_2 l0_2.length c0_2] 24 (0, 0)) (by (with_reducible repeat (first | refine blk_drewN ?_ _ | refine blk_drew ?_ | refine blk_alloc ?_ _)); exact BK168.out)) : gb168 ≠ gb213)); have n14_ := Aside0.mk ((by rw [hg]; exact Nat.ne_of_gt (blk_lt (g := gb168) (o := .cells #[.int .i64 a0_0, .int .i64 a0_1, .slice A0_2 l0_2.length c0_2] 24 (0, 0)) (by (with_reducible repeat (first | refine blk_drewN ?_ _ | refine blk_drew ?_ | refine blk_alloc ?_ _)); exact BK168.out)) : gb213 ≠ gb168)); have n15_ := Aside0.mk ((by rw [hg]; exact Nat.ne_of_lt (blk_lt (g := gb179) (o := .cells #[.int .i64 t175, .slice Ao28 t176.length co28] 28 (0, 0)) (by (with_reducible repeat (first | refine blk_drewN ?_ _ | refine blk_drew ?_ | refine blk_alloc ?_ _)); exact BK179.out)) : gb179 ≠ gb213)); have n16_ := Aside0.mk ((by rw [hg]; exact Nat.ne_of_gt (blk_lt (g := gb179) (o := .cells #[.int .i64 t175, .slice Ao28 t176.length co28] 28 (0, 0)) (by (with_reducible repeat (first | refine blk_drewN ?_ _ | refine blk_drew ?_ | refine blk_alloc ?_ _)); exact BK179.out)) : gb213 ≠ gb179)); have n17_ := Aside0.mk ((by rw [hg]; exact Nat.ne_of_lt (blk_lt (g := gb185) (o := .cells #[.int .i64 t180, .int .i64 t181, .slice Ao35 t199.length co35] 30 (0, 0)) (by (with_reducible repeat (first | refine blk_drewN ?_ _ | refine blk_drew ?_ | refine blk_alloc ?_ _)); exact BK185.out)) : gb185 ≠ gb213)); have n18_ := Aside0.mk ((by rw [hg]; exact Nat.ne_of_gt (blk_lt (g := gb185) (o := .cells #[.int .i64 t180, .int .i64 t181, .slice Ao35 t199.length co35] 30 (0, 0)) (by (with_reducible repeat (first | refine blk_drewN ?_ _ | refine blk_drew ?_ | refine blk_alloc ?_ _)); exact BK185.out)) : gb213 ≠ gb185)); have n19_ := Aside0.mk ((by rw [hg]; exact Nat.ne_of_lt (blk_lt (g := gb190) (o := .cells #[.int .i64 t186, .slice Ao42 t187.length co42] 28 (0, 0)) (by (with_reducible repeat (first | refine blk_drewN ?_ _ | refine blk_drew ?_ | refine blk_alloc ?_ _)); exact BK190.out)) : gb190 ≠ gb213)); have n20_ := Aside0.mk ((by rw [hg]; exact Nat.ne_of_gt (blk_lt (g := gb190) (o := .cells #[.int .i64 t186, .slice Ao42 t187.length co42] 28 (0, 0)) (by (with_reducible repeat (first | refine blk_drewN ?_ _ | refine blk_drew ?_ | refine blk_alloc ?_ _)); exact BK190.out)) : gb213 ≠ gb190)); clear HO_180001; clear HO_186002; clear HO_191001; clear HO208; clear HO212; clear BK168; clear BK179; clear BK185; clear BK190; clear HB; have HO_180001 := n0_; have HO_186002 := n1_; have HO_191001 := n2_; have HO208 := n3_; have HO212 := n4_; have BK168 := n5_; have BK179 := n6_; have BK185 := n7_; have BK190 := n8_; have HB := n9_; have BK213 := n10_; have GW213 := n11_; have GE213 := n12_; have NB168_213 := n13_; have NB213_168 := n14_; have NB179_213 := n15_; have NB213_179 := n16_; have NB185_213 := n17_; have NB213_185 := n18_; have NB190_213 := n19_; have NB213_190 := n20_; clear n0_ n1_ n2_ n3_ n4_ n5_ n6_ n7_ n8_ n9_ n10_ n11_ n12_ n13_ n14_ n15_ n16_ n17_ n18_ n19_ n20_; clear hb hbox hg; have hnb87 := NB213_168.out; have hnc87 := NB168_213.out; have hnb88 := NB213_179.out; have hnc88 := NB179_213.out; have hnb89 := NB213_185.out; have hnc89 := NB185_213.out; have hnb90 := NB213_190.out; have hnc90 := NB190_213.out; have hcz91_0 : w86.cell? ⟨gb213, 0, none⟩ = some (.int .i64 0) := (blk_cell BK213.out 0).trans rfl; have hcz91_1 : w86.cell? ⟨gb213, 1, none⟩ = some (.slice none 0 0) := (blk_cell BK213.out 1).trans rfl; have hfz91_0 := blk_frozen BK213.out 0; have hfz91_1 := blk_frozen BK213.out 1; obtain ⟨Ao92, co92, eo92⟩ := Kd.R_slice HO212.out; subst eo92; have hnb93 := NB179_185.out; have hnc93 := NB185_179.out; have hcz94_0 : w86.cell? ⟨gb179, 0, none⟩ = some (.int .i64 t175) := (blk_cell BK179.out 0).trans rfl; have hcz94_1 : w86.cell? ⟨gb179, 1, none⟩ = some (.slice Ao28 t176.length co28) := (blk_cell BK179.out 1).trans rfl; have hfz94_0 := blk_frozen BK179.out 0; have hfz94_1 := blk_frozen BK179.out 1) | ((with_reducible refine gate_callee (f := 14) rfl ?_); refine goesL_ (some 59) rfl rfl Try.func14 (by kernel_rfl) rfl #[.agg #[.int .i64 t209, .slice Ao92 t210.length co92], .agg #[.int .i64 t175, .slice Ao28 t176.length co28]] rfl (by (try simp only [List.map_toArray, List.map_cons, List.map_nil]); first | done | rfl | (simp only [List.length_drop, List.length_take]; rfl)) ?_; (with_reducible refine (laws_eqIntsResult.calls kj16 t209 _ _ t210 t175 _ _ t176 true _ ?side1 ?side2 ?side3 ?side4 A68.out).mono ?_); (case side1 => refine (Kd.R_reads' (e := 2) (base := w.heap.size) (ok := fun k_ => ((True ∧ some k_ ≠ (.slice Ao28 t176.length co28 : Value).ownBlock) ∧ some k_ ≠ (.slice Ao42 t187.length co42 : Value).ownBlock)) (n := t210.length) (c := co92) ?_).2.2; exact (by (with_reducible repeat (first | apply Kd.R_alloc | apply Kd.R_drewN | apply Kd.R_drew)); exact (Kd.R_mono (Kd.R_far (p := ⟨gb213, 1, none⟩) (Kd.R_far (p := ⟨gb213, 0, none⟩) (Kd.R_types HO212.out BK213.out (by decide)) (fun _ hk => hk.2) (.int .i64 t209)) (fun _ hk => hk.2) (.slice Ao92 t210.length co92)) (fun _ h_ => h_.1)))); (case side2 => exact (Kd.R_reads' HO212.out).2.1); (case side3 => refine (Kd.R_reads' (e := 2) (base := w.heap.size) (ok := fun k_ => (some k_ ≠ (.slice Ao42 t187.length co42 : Value).ownBlock ∧ some k_ ≠ (.slice Ao92 t210.length co92 : Value).ownBlock)) (n := t176.length) (c := co28) ?_).2.2; exact (by (with_reducible repeat (first | apply Kd.R_alloc | apply Kd.R_drewN | apply Kd.R_drew)); exact (Kd.R_mono (Kd.R_far (p := ⟨gb213, 1, none⟩) (Kd.R_far (p := ⟨gb213, 0, none⟩) (Kd.R_types HO_180001.out BK213.out (by decide)) (fun _ hk => hk.2) (.int .i64 t209)) (fun _ hk => hk.2) (.slice Ao92 t210.length co92)) (fun _ h_ => h_.1)))); (case side4 => exact (Kd.R_reads' HO_180001.out).2.1); rintro e w95 ⟨rfl, hb⟩; refine ⟨_, rfl, ?_⟩; have n0_ := Aside0.mk (Kd.R_below (by (with_reducible repeat (first | apply Kd.R_alloc | apply Kd.R_drewN | apply Kd.R_drew)); exact (Kd.R_mono (Kd.R_far (p := ⟨gb213, 1, none⟩) (Kd.R_far (p := ⟨gb213, 0, none⟩) (Kd.R_types HO_180001.out BK213.out (by decide)) (fun _ hk => hk.2) (.int .i64 t209)) (fun _ hk => hk.2) (.slice Ao92 t210.length co92)) (fun _ h_ => h_.1))) hb); have n1_ := Aside0.mk (Kd.R_below (by (with_reducible repeat (first | apply Kd.R_alloc | apply Kd.R_drewN | apply Kd.R_drew)); exact (Kd.R_mono (Kd.R_far (p := ⟨gb213, 1, none⟩) (Kd.R_far (p := ⟨gb213, 0, none⟩) (Kd.R_types HO_186002.out BK213.out (by decide)) (fun _ hk => hk.2) (.int .i64 t209)) (fun _ hk => hk.2) (.slice Ao92 t210.length co92)) (fun _ h_ => h_.1))) hb); have n2_ := Aside0.mk (Kd.R_below (by (with_reducible repeat (first | apply Kd.R_alloc | apply Kd.R_drewN | apply Kd.R_drew)); exact (Kd.R_mono (Kd.R_far (p := ⟨gb213, 1, none⟩) (Kd.R_far (p := ⟨gb213, 0, none⟩) (Kd.R_types HO_191001.out BK213.out (by decide)) (fun _ hk => hk.2) (.int .i64 t209)) (fun _ hk => hk.2) (.slice Ao92 t210.length co92)) (fun _ h_ => h_.1))) hb); have n3_ := Aside0.mk (Kd.R_below (by (with_reducible repeat (first | apply Kd.R_alloc | apply Kd.R_drewN | apply Kd.R_drew)); exact (Kd.R_mono (Kd.R_far (p := ⟨gb213, 1, none⟩) (Kd.R_far (p := ⟨gb213, 0, none⟩) (Kd.R_types HO208.out BK213.out (by decide)) (fun _ hk => hk.2) (.int .i64 t209)) (fun _ hk => hk.2) (.slice Ao92 t210.length co92)) (fun _ h_ => h_.1))) hb); have n4_ := Aside0.mk (Kd.R_below (by (with_reducible repeat (first | apply Kd.R_alloc | apply Kd.R_drewN | apply Kd.R_drew)); exact (Kd.R_mono (Kd.R_far (p := ⟨gb213, 1, none⟩) (Kd.R_far (p := ⟨gb213, 0, none⟩) (Kd.R_types HO212.out BK213.out (by decide)) (fun _ hk => hk.2) (.int .i64 t209)) (fun _ hk => hk.2) (.slice Ao92 t210.length co92)) (fun _ h_ => h_.1))) hb); have n5_ := Aside0.mk (blk_below (g := gb168) (o := .cells #[.int .i64 a0_0, .int .i64 a0_1, .slice A0_2 l0_2.length c0_2] 24 (0, 0)) (by (with_reducible repeat (first | refine blk_drewN ?_ _ | refine blk_drew ?_ | refine blk_alloc ?_ _)); refine blk_far ?_ NB168_213.out _; (with_reducible repeat (first | refine blk_drewN ?_ _ | refine blk_drew ?_ | refine blk_alloc ?_ _)); refine blk_far ?_ NB168_213.out _; (with_reducible repeat (first | refine blk_drewN ?_ _ | refine blk_drew ?_ | refine blk_alloc ?_ _)); exact BK168.out) hb); have n6_ := Aside0.mk (blk_below (g := gb179) (o := .cells #[.int .i64 t175, .slice Ao28 t176.length co28] 28 (0, 0)) (by (with_reducible repeat (first | refine blk_drewN ?_ _ | refine blk_drew ?_ | refine blk_alloc ?_ _)); refine blk_far ?_ NB179_213.out _; (with_reducible repeat (first | refine blk_drewN ?_ _ | refine blk_drew ?_ | refine blk_alloc ?_ _)); refine blk_far ?_ NB179_213.out _; (with_reducible repeat (first | refine blk_drewN ?_ _ | refine blk_drew ?_ | refine blk_alloc ?_ _)); exact BK179.out) hb); have n7_ := Aside0.mk (blk_below (g := gb185) (o := .cells #[.int .i64 t180, .int .i64 t181, .slice Ao35 t199.length co35] 30 (0, 0)) (by (with_reducible repeat (first | refine blk_drewN ?_ _ | refine blk_drew ?_ | refine blk_alloc ?_ _)); refine blk_far ?_ NB185_213.out _; (with_reducible repeat (first | refine blk_drewN ?_ _ | refine blk_drew ?_ | refine blk_alloc ?_ _)); refine blk_far ?_ NB185_213.out _; (with_reducible repeat (first | refine blk_drewN ?_ _ | refine blk_drew ?_ | refine blk_alloc ?_ _)); exact BK185.out) hb); have n8_ := Aside0.mk (blk_below (g := gb190) (o := .cells #[.int .i64 t186, .slice Ao42 t187.length co42] 28 (0, 0)) (by (with_reducible repeat (first | refine blk_drewN ?_ _ | refine blk_drew ?_ | refine blk_alloc ?_ _)); refine blk_far ?_ NB190_213.out _; (with_reducible repeat (first | refine blk_drewN ?_ _ | refine blk_drew ?_ | refine blk_alloc ?_ _)); refine blk_far ?_ NB190_213.out _; (with_reducible repeat (first | refine blk_drewN ?_ _ | refine blk_drew ?_ | refine blk_alloc ?_ _)); exact BK190.out) hb); have n9_ := Aside0.mk (blk_below (g := gb213) (o := .cells #[.int .i64 t209, .slice Ao92 t210.length co92] 28 (0, 0)) (by (with_reducible repeat (first | refine blk_drewN ?_ _ | refine blk_drew ?_ | refine blk_alloc ?_ _)); refine blk_put (cs := #[.int .i64 t209, .slice none 0 0]) ?_ 1 _ rfl; (with_reducible repeat (first | refine blk_drewN ?_ _ | refine blk_drew ?_ | refine blk_alloc ?_ _)); refine blk_put (cs := #[.int .i64 0, .slice none 0 0]) ?_ 0 _ rfl; (with_reducible repeat (first | refine blk_drewN ?_ _ | refine blk_drew ?_ | refine blk_alloc ?_ _)); exact BK213.out) hb); have n10_ := Aside0.mk (below_step (by repeat (first | (with_reducible first | exact HB.out | apply below_alloc | apply pw_below_drewN | apply below_drew1 | refine below_set ?_ GE168.out | refine below_set ?_ GE179.out | refine below_set ?_ GE185.out | refine below_set ?_ GE190.out | refine below_set ?_ GE213.out) | exact HB.out)) hb); clear HO_180001; clear HO_186002; clear HO_191001; clear HO208; clear HO212; clear BK168; clear BK179; clear BK185; clear BK190; clear BK213; clear HB; have HO_180001 := n0_; have HO_186002 := n1_; have HO_191001 := n2_; have HO208 := n3_; have HO212 := n4_; have BK168 := n5_; have BK179 := n6_; have BK185 := n7_; have BK190 := n8_; have BK213 := n9_; have HB := n10_; clear n0_ n1_ n2_ n3_ n4_ n5_ n6_ n7_ n8_ n9_ n10_; (try clear hb); (try clear hb2); (try clear hk); (try clear hi); have hcz96_0 : w95.cell? ⟨gb190, 0, none⟩ = some (.int .i64 t186) := (blk_cell BK190.out 0).trans rfl; have hcz96_1 : w95.cell? ⟨gb190, 1, none⟩ = some (.slice Ao42 t187.length co42) := (blk_cell BK190.out 1).trans rfl; have hfz96_0 := blk_frozen BK190.out 0; have hfz96_1 := blk_frozen BK190.out 1) | ((with_reducible refine gate_callee (f := 18) rfl ?_); refine goesL_ (some 63) rfl rfl Try.func18 (by kernel_rfl) rfl #[.agg #[.int .i64 t186, .slice Ao42 t202.length co42], .int .i64 1] rfl (by (try simp only [List.map_toArray, List.map_cons, List.map_nil]); first | done | (rw [show t202.length = t187.length from (Kd.R_reads' HO_191001.out).1.symm] <;> rfl) | rfl | (simp only [List.length_drop, List.length_take]; rfl)) ?_; (with_reducible refine (laws_heldIntsResult.calls kj16 t186 _ _ t202 1 t215 _ ?side1 ?side2 A70.out).mono ?_); (case side1 => repeat (first | exact (Kd.R_reads' HO_191001.out).2.2 | (with_reducible refine Kd.C_alloc ?_ _) | (with_reducible refine Kd.C_drewN ?_ _) | (with_reducible refine Kd.C_drew ?_))); (case side2 => rw [show t202.length = t187.length from (Kd.R_reads' HO_191001.out).1.symm]; exact (Kd.R_reads' HO_191001.out).2.1); rintro e w97 ⟨rfl, hb⟩; refine ⟨_, rfl, ?_⟩; have n0_ := Aside0.mk (Kd.R_below (by (with_reducible repeat (first | apply Kd.R_alloc | apply Kd.R_drewN | apply Kd.R_drew)); exact HO_180001.out) hb); have n1_ := Aside0.mk (Kd.R_below (by (with_reducible repeat (first | apply Kd.R_alloc | apply Kd.R_drewN | apply Kd.R_drew)); exact HO_186002.out) hb); have n2_ := Aside0.mk (Kd.R_below (by (with_reducible repeat (first | apply Kd.R_alloc | apply Kd.R_drewN | apply Kd.R_drew)); exact HO_191001.out) hb); have n3_ := Aside0.mk (Kd.R_below (by (with_reducible repeat (first | apply Kd.R_alloc | apply Kd.R_drewN | apply Kd.R_drew)); exact HO208.out) hb); have n4_ := Aside0.mk (Kd.R_below (by (with_reducible repeat (first | apply Kd.R_alloc | apply Kd.R_drewN | apply Kd.R_drew)); exact HO212.out) hb); have n5_ := Aside0.mk (blk_below (g := gb168) (o := .cells #[.int .i64 a0_0, .int .i64 a0_1, .slice A0_2 l0_2.length c0_2] 24 (0, 0)) (by (with_reducible repeat (first | refine blk_drewN ?_ _ | refine blk_drew ?_ | refine blk_alloc ?_ _)); exact BK168.out) hb); have n6_ := Aside0.mk (blk_below (g := gb179) (o := .cells #[.int .i64 t175, .slice Ao28 t176.length co28] 28 (0, 0)) (by (with_reducible repeat (first | refine blk_drewN ?_ _ | refine blk_drew ?_ | refine blk_alloc ?_ _)); exact BK179.out) hb); have n7_ := Aside0.mk (blk_below (g := gb185) (o := .cells #[.int .i64 t180, .int .i64 t181, .slice Ao35 t199.length co35] 30 (0, 0)) (by (with_reducible repeat (first | refine blk_drewN ?_ _ | refine blk_drew ?_ | refine blk_alloc ?_ _)); exact BK185.out) hb); have n8_ := Aside0.mk (blk_below (g := gb190) (o := .cells #[.int .i64 t186, .slice Ao42 t187.length co42] 28 (0, 0)) (by (with_reducible repeat (first | refine blk_drewN ?_ _ | refine blk_drew ?_ | refine blk_alloc ?_ _)); exact BK190.out) hb); have n9_ := Aside0.mk (blk_below (g := gb213) (o := .cells #[.int .i64 t209, .slice Ao92 t210.length co92] 28 (0, 0)) (by (with_reducible repeat (first | refine blk_drewN ?_ _ | refine blk_drew ?_ | refine blk_alloc ?_ _)); exact BK213.out) hb); have n10_ := Aside0.mk (below_step (by repeat (first | (with_reducible first | exact HB.out | apply below_alloc | apply pw_below_drewN | apply below_drew1 | refine below_set ?_ GE168.out | refine below_set ?_ GE179.out | refine below_set ?_ GE185.out | refine below_set ?_ GE190.out | refine below_set ?_ GE213.out) | exact HB.out)) hb); clear HO_180001; clear HO_186002; clear HO_191001; clear HO208; clear HO212; clear BK168; clear BK179; clear BK185; clear BK190; clear BK213; clear HB; have HO_180001 := n0_; have HO_186002 := n1_; have HO_191001 := n2_; have HO208 := n3_; have HO212 := n4_; have BK168 := n5_; have BK179 := n6_; have BK185 := n7_; have BK190 := n8_; have BK213 := n9_; have HB := n10_; clear n0_ n1_ n2_ n3_ n4_ n5_ n6_ n7_ n8_ n9_ n10_; (try clear hb); (try clear hb2); (try clear hk); (try clear hi)))
            go_ret
            exact ⟨by first | rfl | (simp [errW_none, errW_some] <;> rfl) | (simp [*, errW_none, errW_some] <;> rfl), by repeat (first | (with_reducible first | exact HB.out | apply below_alloc | apply pw_below_drewN | apply below_drew1 | refine below_set ?_ GE168.out | refine below_set ?_ GE179.out | refine below_set ?_ GE185.out | refine below_set ?_ GE190.out | refine below_set ?_ GE213.out) | exact HB.out)⟩
           ·rw [if_neg c72] at H
            have c72b0 : (t215 == t201) = false := beq_eq_false_iff_ne.mpr c72
            have c72b1 : (t215 != t201) = true := bne_iff_ne.mpr c72
            exact absurd ((Option.some.inj H).trans HLAW.out) (by decide)
         ·replace c69 := Bool.eq_false_iff.mpr c69
          subst c69
          have H1 : (some false) = some r := by rw [if_neg (show ¬ (false = true) by decide)] at H; exact H
          clear H
          have H := H1
          clear H1
          exact absurd ((Option.some.inj H).trans HLAW.out) (by decide)
        ·rw [if_neg c65] at H
         have c65b0 : (t203 == t201) = false := beq_eq_false_iff_ne.mpr c65
         have c65b1 : (t203 != t201) = true := bne_iff_ne.mpr c65
         exact absurd ((Option.some.inj H).trans HLAW.out) (by decide)
   ·replace c15 := Bool.eq_false_iff.mpr c15
    subst c15
    have H1 : (some false) = some r := by rw [if_neg (show ¬ (false = true) by decide)] at H; exact H
    clear H
    have H := H1
    clear H1
    exact absurd ((Option.some.inj H).trans HLAW.out) (by decide)
  ·replace c12 := Bool.eq_false_iff.mpr c12
   subst c12
   have H1 : (some false) = some r := by rw [if_neg (show ¬ (false = true) by decide)] at H; exact H
   clear H
   have H := H1
   clear H1
   exact absurd ((Option.some.inj H).trans HLAW.out) (by decide)
end Go.Proofs.Ytihbalbcocfnfab.P
end
section
set_option linter.unusedVariables false
namespace Go.Proofs.Ytihbalbcocfnfab.P
open Go.RowKit Go.Proofs.YtihbalbcocfnfabW.PrintWords Go.Proofs.YtihbalbcocfnfabW.PrintLast
namespace UFnExactSizesOf
def G24 (x : S24) : Prop := (((Lit.int .i64 (x.f0)).wf = true) ∧ (((Lit.int .i64 (x.f1)).wf = true) ∧ ((x.f2).length ≤ 9223372036854775807 ∧ ∀ y ∈ (x.f2), y.size ≤ 9223372036854775807)))
def Pure : Prop := ∀ (a0_0 : Int) (a0_1 : Int) (l0_2 : List ByteArray), ((Lit.int .i64 a0_0).wf = true) → ((Lit.int .i64 a0_1).wf = true) → (l0_2.length ≤ 9223372036854775807 ∧ ∀ x ∈ l0_2, x.size ≤ 9223372036854775807) → ∃ k, laws_FnExactSizesOf.f k a0_0 a0_1 l0_2 = some true
end UFnExactSizesOf
end Go.Proofs.Ytihbalbcocfnfab.P
end
section
set_option linter.unusedVariables false
set_option linter.unusedSimpArgs false
namespace Go.Proofs.Ytihbalbcocfnfab.P
open Go.RowKit Go.Proofs.YtihbalbcocfnfabW.PrintWords Go.Proofs.YtihbalbcocfnfabW.PrintLast
theorem wid {x : Int} (h0 : -9223372036854775808 ≤ x) (h1 : x ≤ 9223372036854775807) : wrap64 x = x := by
  unfold wrap64
  omega
theorem wsucc {i n : Nat} (h : i < n) (hn : n ≤ 9223372036854775807) : wrap64 ((i : Int) + 1) = ((i + 1 : Nat) : Int) := by
  rw [wid (by omega) (by omega)]
  rfl
theorem Ev_if {α : Type} {c : Prop} [Decidable c] {a b : Nat → Option α} {r : α} (hp : c → Ev a r) (hn : ¬ c → Ev b r) : Ev (fun k => if c then a k else b k) r := by
  by_cases h : c
  · exact (hp h).congr (fun k => if_pos h)
  · exact (hn h).congr (fun k => if_neg h)
theorem Ev_pos {α : Type} {c : Prop} [Decidable c] {a b : Nat → Option α} {r : α} (hc : c) (h : Ev a r) : Ev (fun k => if c then a k else b k) r := h.congr (fun k => if_pos hc)
theorem Ev_neg {α : Type} {c : Prop} [Decidable c] {a b : Nat → Option α} {r : α} (hc : ¬ c) (h : Ev b r) : Ev (fun k => if c then a k else b k) r := h.congr (fun k => if_neg hc)
theorem Ev_call {α β : Type} {g : Nat → Option α} {f : Nat → α → Option β} {a : α} {r : β} (h : Ev g a) (k : Ev (fun n => f n a) r) : Ev (fun n => (g n).bind (f n)) r := Ev.bind h k
theorem Ev_const {α β : Type} {g : Option α} {f : Nat → α → Option β} {a : α} {r : β} (h : g = some a) (k : Ev (fun n => f n a) r) : Ev (fun n => g.bind (f n)) r :=
  Ev.bind (g := fun _ => g) ⟨0, fun _ _ => h⟩ k
theorem Ev_eq {α : Type} {g : Nat → Option α} {r r' : α} (h : Ev g r) (e : r = r') : Ev g r' := e ▸ h
theorem Ev_val {α : Type} {r r' : α} (h : r = r') : Ev (fun _ => some r) r' := ⟨0, fun _ _ => by rw [h]⟩
theorem rd_nat {α : Type} (d : α) {xs : List α} {i : Nat} (h : i < xs.length) : rdOf d xs (i : Int) = xs[i] := by
  unfold rdOf
  rw [Int.toNat_natCast, List.getD_eq_getElem?_getD, List.getElem?_eq_getElem h]
  rfl
theorem rdi_nat {xs : List Int} {i : Nat} (h : i < xs.length) : rd xs (i : Int) = xs[i] := by
  unfold rd
  rw [Int.toNat_natCast, List.getD_eq_getElem?_getD, List.getElem?_eq_getElem h]
  rfl
theorem bt_nat {s : ByteArray} {i : Nat} (h : i < s.data.toList.length) : bt s (i : Int) = ((s.data.toList[i]).toNat : Int) := by
  have h' : i < s.size := by simpa using h
  unfold bt
  rw [dif_pos (by rw [Int.toNat_natCast]; exact h')]
  simp [ByteArray.getElem_eq_getElem_data]
theorem toList_nil {a : ByteArray} : a.toList = ([] : List UInt8) ↔ a.data.toList = [] := by rw [ByteArray.toList_eq]
theorem size_data (a : ByteArray) : a.data.toList.length = a.size := by simp
theorem drop_at {α : Type} {xs : List α} {i : Nat} (h : i < xs.length) : xs.drop i = xs[i] :: xs.drop (i + 1) := List.drop_eq_getElem_cons h
def total : List ByteArray → Nat
  | [] => 0
  | x :: l => x.size + total l
end Go.Proofs.Ytihbalbcocfnfab.P
end
section
set_option linter.unusedVariables false
set_option linter.unusedSimpArgs false
namespace Go.Proofs.Ytihbalbcocfnfab.P
open Go.RowKit
theorem index_low (l : List UInt8) (c : UInt8) : -1 ≤ Lib.indexByte l c := by
  induction l with
  | nil => simp [Lib.indexByte]
  | cons b l ih =>
    unfold Lib.indexByte
    split
    · omega
    · split
      · omega
      · omega
theorem index_mem (l : List UInt8) (c : UInt8) : Lib.indexByte l c ≥ 0 ↔ c ∈ l := by
  induction l with
  | nil => simp [Lib.indexByte]
  | cons b l ih =>
    have hl := index_low l c
    unfold Lib.indexByte
    by_cases h : b = c
    · subst h
      simp
    · have h2 : (b == c) = false := by simpa using h
      rw [h2, List.mem_cons]
      have h3 : ¬ c = b := fun e => h e.symm
      by_cases h4 : Lib.indexByte l c = -1
      · have h5 : (Lib.indexByte l c == -1) = true := by simpa using h4
        rw [h5]
        have : ¬ c ∈ l := fun hm => by have := ih.2 hm; omega
        simp [h3, this]
      · have h5 : (Lib.indexByte l c == -1) = false := by simpa using h4
        rw [h5]
        have : c ∈ l := ih.1 (by omega)
        simp [this]
        omega
def lineEnd : List UInt8 → Nat
  | [] => 0
  | c :: l => if c = 10 then 0 else lineEnd l + 1
theorem lineEnd_early (l : List UInt8) : lineEnd l < l.length - 1 ↔ 10 ∈ l.dropLast := by
  induction l with
  | nil => simp [lineEnd]
  | cons c l ih =>
    cases l with
    | nil =>
      simp [lineEnd]
    | cons d l =>
      unfold lineEnd
      by_cases h : c = 10
      · subst h
        simp
      · rw [if_neg h, List.dropLast_cons_cons, List.mem_cons]
        have h2 : ¬ (10 : UInt8) = c := fun e => h e.symm
        simp only [h2, false_or]
        rw [← ih]
        simp only [List.length_cons]
        omega
end Go.Proofs.Ytihbalbcocfnfab.P
end
section
namespace Go.Proofs.Ytihbalbcocfnfab.P
open Go.RowKit Go.Proofs.YtihbalbcocfnfabW.PrintWords Go.Proofs.YtihbalbcocfnfabW.PrintLast Go.Proofs.YtihbalbcocfnfabW.PrintMore
attribute [local go_sem] max2_int min2_int max_two min_two max_three min_three max_four min_four
end Go.Proofs.Ytihbalbcocfnfab.P
end
section
namespace Go.Proofs.Ytihbalbcocfnfab.P
open Go.RowKit Go.Proofs.YtihbalbcocfnfabW.PrintWords Go.Proofs.YtihbalbcocfnfabW.PrintLast Go.Proofs.YtihbalbcocfnfabW.PrintMore
attribute [local go_sem] max2_int min2_int max_two min_two max_three min_three max_four min_four
end Go.Proofs.Ytihbalbcocfnfab.P
end
section
namespace Go.Proofs.Ytihbalbcocfnfab.P
open Go.RowKit Go.Proofs.YtihbalbcocfnfabW.PrintWords Go.Proofs.YtihbalbcocfnfabW.PrintLast Go.Proofs.YtihbalbcocfnfabW.PrintMore
attribute [local go_sem] max2_int min2_int max_two min_two max_three min_three max_four min_four
end Go.Proofs.Ytihbalbcocfnfab.P
end
section
set_option linter.unusedVariables false
set_option linter.unusedSimpArgs false
namespace Go.Proofs.Ytihbalbcocfnfab.P
open Go.RowKit Go.Proofs.YtihbalbcocfnfabW.PrintWords Go.Proofs.YtihbalbcocfnfabW.PrintLast
theorem ended_loop (s : ByteArray) (hs : s.size ≤ 9223372036854775807) : ∀ (d i : Nat), s.size - i = d → i ≤ s.size → Ev (fun k => spec_l1Ended.l0 k s (i : Int)) (((i + lineEnd (s.data.toList.drop i) : Nat)) : Int) := by
  intro d
  induction d with
  | zero =>
    intro i hd hi
    refine Ev.step (fun k => by rw [spec_l1Ended.l0]) (Ev_neg (by omega) (Ev_val ?_))
    rw [List.drop_eq_nil_of_le (by rw [size_data]; omega)]
    simp only [lineEnd]
    omega
  | succ d ih =>
    intro i hd hi
    have hlt : i < s.data.toList.length := by rw [size_data]; omega
    refine Ev.step (fun k => by rw [spec_l1Ended.l0]) (Ev_pos (by omega) (Ev_pos (by omega) ?_))
    rw [bt_nat hlt, drop_at hlt, wsucc (n := s.size) (by omega) hs]
    refine Ev_if (fun h => Ev_val ?_) (fun h => Ev_eq (ih (i + 1) (by omega) (by omega)) ?_)
    · have : s.data.toList[i] = 10 := by
        apply UInt8.toNat_inj.1
        have h2 : s.data.toList[i].toNat = 10 := by omega
        exact h2
      rw [lineEnd, if_pos this]
      rfl
    · have : ¬ s.data.toList[i] = 10 := fun e => h (by rw [e]; rfl)
      rw [lineEnd, if_neg this]
      omega
theorem ended_tells (s : ByteArray) (hs : s.size ≤ 9223372036854775807) : Ev (fun k => spec_l1Ended.f k s) ((lineEnd s.data.toList : Nat) : Int) := by
  unfold spec_l1Ended.f
  have h := ended_loop s hs _ 0 rfl (by omega)
  rw [List.drop_zero, Nat.zero_add] at h
  exact h
theorem isLine_tells (s : ByteArray) (hs : s.size ≤ 9223372036854775807) : impl_isLine.f s = some (decide (¬ (s.data.toList = [] ∨ 10 ∈ s.data.toList.dropLast))) := by
  unfold impl_isLine.f
  by_cases h : s.data.toList = []
  · rw [if_pos (toList_nil.2 h)]
    simp [h]
  · have h0 : s.data.toList.length ≠ 0 := fun e => h (List.length_eq_zero_iff.1 e)
    rw [size_data] at h0
    rw [if_neg (fun e => h (toList_nil.1 e)), wid (by omega) (by omega), if_pos (by omega), if_pos (by omega)]
    have he : (s.extract 0 ((s.size : Int) - 1).toNat).data.toList = s.data.toList.dropLast := by
      rw [← ByteArray.toList_eq, Lib.extract_toList, List.drop_zero, List.dropLast_eq_take, size_data]
      congr 1
      omega
    unfold strings_Contains.f
    simp only [Option.bind_some]
    rw [he]
    congr 1
    have hi := index_mem s.data.toList.dropLast 10
    by_cases hm : 10 ∈ s.data.toList.dropLast
    · have : (0 : Int) ≤ Lib.indexByte s.data.toList.dropLast 10 := hi.2 hm
      simp [hm, this]
    · have : ¬ (0 : Int) ≤ Lib.indexByte s.data.toList.dropLast 10 := fun e => hm (hi.1 e)
      simp only [this, hm, h]
      simp
end Go.Proofs.Ytihbalbcocfnfab.P
end
section
namespace Go.Proofs.Ytihbalbcocfnfab.P
open Go.RowKit
theorem wsucc' {i : Nat} (hn : i < 9223372036854775807) : wrap64 ((i : Int) + 1) = ((i + 1 : Nat) : Int) := by
  rw [wid (by omega) (by omega)]
  omega
end Go.Proofs.Ytihbalbcocfnfab.P
end
section
namespace Go.Proofs.Ytihbalbcocfnfab.P
open Go.RowKit Go.Proofs.YtihbalbcocfnfabW.PrintWords Go.Proofs.YtihbalbcocfnfabW.PrintLast Go.Proofs.YtihbalbcocfnfabW.PrintMore
attribute [local go_sem] max2_int min2_int max_two min_two max_three min_three max_four min_four
end Go.Proofs.Ytihbalbcocfnfab.P
end
section
namespace Go.Proofs.Ytihbalbcocfnfab.P
open Go.RowKit Go.Proofs.YtihbalbcocfnfabW.PrintWords Go.Proofs.YtihbalbcocfnfabW.PrintLast Go.Proofs.YtihbalbcocfnfabW.PrintMore
attribute [local go_sem] max2_int min2_int max_two min_two max_three min_three max_four min_four
end Go.Proofs.Ytihbalbcocfnfab.P
end
section
set_option linter.unusedVariables false
namespace Go.Proofs.Ytihbalbcocfnfab.P
end Go.Proofs.Ytihbalbcocfnfab.P
end
section
namespace Go.Proofs.Ytihbalbcocfnfab.P
open Go.RowKit Go.Proofs.YtihbalbcocfnfabW.PrintWords Go.Proofs.YtihbalbcocfnfabW.PrintLast Go.Proofs.YtihbalbcocfnfabW.PrintMore
attribute [local go_sem] max2_int min2_int max_two min_two max_three min_three max_four min_four
end Go.Proofs.Ytihbalbcocfnfab.P
end
section
namespace Go.Proofs.Ytihbalbcocfnfab.P
open Go.RowKit Go.Proofs.YtihbalbcocfnfabW.PrintWords Go.Proofs.YtihbalbcocfnfabW.PrintLast Go.Proofs.YtihbalbcocfnfabW.PrintMore
attribute [local go_sem] max2_int min2_int max_two min_two max_three min_three max_four min_four
end Go.Proofs.Ytihbalbcocfnfab.P
end
section
set_option linter.unusedVariables false
set_option linter.unusedSimpArgs false
namespace Go.Proofs.Ytihbalbcocfnfab.P
open Go.RowKit Go.Proofs.YtihbalbcocfnfabW.PrintWords Go.Proofs.YtihbalbcocfnfabW.PrintLast
theorem sz_loop (xs : List ByteArray) (hx : ∀ x ∈ xs, x.size ≤ 9223372036854775807) (hl : xs.length ≤ 9223372036854775807) : ∀ (d i : Nat) (n : Int), xs.length - i = d → i ≤ xs.length → 0 ≤ n → n ≤ 1048576 →
    ∃ r, Ev (fun k => laws_szStringS.l0 k xs n (i : Int)) r ∧ (r < 0 ∨ (0 ≤ r ∧ r ≤ n ∧ (total (xs.drop i) : Int) = n - r)) := by
  intro d
  induction d with
  | zero =>
    intro i n hd hi h0 h1
    have : i = xs.length := by omega
    subst this
    refine ⟨n, Ev.step (fun k => by rw [laws_szStringS.l0]) (Ev_neg (by omega) (Ev.now _)), .inr ⟨h0, Int.le_refl _, ?_⟩⟩
    rw [List.drop_length]
    simp [total]
  | succ d ih =>
    intro i n hd hi h0 h1
    have hlt : i < xs.length := by omega
    have hs := hx xs[i] (List.getElem_mem hlt)
    by_cases hc : n - (xs[i].size : Int) < 0
    · refine ⟨-1, Ev.step (fun k => by rw [laws_szStringS.l0]) (Ev_pos (by omega) (Ev_pos (by omega) ?_)), .inl (by omega)⟩
      rw [rd_nat _ hlt, wid (by omega) (by omega)]
      exact Ev_pos hc (Ev.now _)
    · obtain ⟨r, hr, hp⟩ := ih (i + 1) (n - (xs[i].size : Int)) (by omega) (by omega) (by omega) (by omega)
      refine ⟨r, Ev.step (fun k => by rw [laws_szStringS.l0]) (Ev_pos (by omega) (Ev_pos (by omega) ?_)), ?_⟩
      · rw [rd_nat _ hlt, wid (by omega) (by omega), wsucc hlt hl]
        exact Ev_neg hc hr
      · rcases hp with hp | ⟨h2, h3, h4⟩
        · exact .inl hp
        · refine .inr ⟨h2, by omega, ?_⟩
          rw [drop_at hlt]
          simp only [total]
          omega
theorem sz_tells (xs : List ByteArray) (hg : xs.length ≤ 9223372036854775807 ∧ ∀ x ∈ xs, x.size ≤ 9223372036854775807) (n : Int) (h0 : 0 ≤ n) (h1 : n ≤ 1048576) :
    ∃ r, Ev (fun k => laws_szStringS.f k xs n) r ∧ (r < 0 ∨ (0 ≤ r ∧ r ≤ n ∧ (xs.length : Int) + (total xs : Int) = n - r)) := by
  by_cases hc : n - (xs.length : Int) < 0
  · refine ⟨-1, ?_, .inl (by omega)⟩
    unfold laws_szStringS.f
    rw [wid (by omega) (by omega)]
    exact Ev_pos hc (Ev.now _)
  · obtain ⟨r, hr, hp⟩ := sz_loop xs hg.2 hg.1 _ 0 (n - (xs.length : Int)) rfl (by omega) (by omega) (by omega)
    refine ⟨r, ?_, ?_⟩
    · unfold laws_szStringS.f
      rw [wid (by omega) (by omega)]
      exact Ev_neg hc hr
    · rcases hp with hp | ⟨h2, h3, h4⟩
      · exact .inl hp
      · rw [List.drop_zero] at h4
        exact .inr ⟨h2, by omega, by omega⟩
theorem to_loop (xs : List ByteArray) (hl : xs.length ≤ 9223372036854775807) : ∀ (d i : Nat) (ys : List ByteArray), xs.length - i = d → i ≤ xs.length → ys.length = xs.length →
    Ev (fun k => laws_toStringS.l0 k xs ys (i : Int)) (ys.take i ++ xs.drop i) := by
  intro d
  induction d with
  | zero =>
    intro i ys hd hi hy
    have : i = xs.length := by omega
    subst this
    refine Ev.step (fun k => by rw [laws_toStringS.l0]) (Ev_neg (by omega) (Ev_val ?_))
    rw [List.drop_length, List.append_nil, ← hy, List.take_length]
  | succ d ih =>
    intro i ys hd hi hy
    have hlt : i < xs.length := by omega
    refine Ev.step (fun k => by rw [laws_toStringS.l0]) (Ev_pos (by omega) (Ev_pos (by omega) (Ev_pos (by omega) ?_)))
    rw [rd_nat _ hlt, wsucc hlt hl, Int.toNat_natCast]
    have h := ih (i + 1) (ys.set i xs[i]) (by omega) (by omega) (by rw [List.length_set]; exact hy)
    refine Ev_eq h ?_
    rw [drop_at hlt, List.take_succ_eq_append_getElem (by rw [List.length_set]; omega), List.getElem_set_self, List.take_set_of_le (by omega), List.append_assoc]
    rfl
theorem to_tells (xs : List ByteArray) (hl : xs.length ≤ 17592186044416) : Ev (fun k => laws_toStringS.f k xs) xs := by
  unfold laws_toStringS.f
  refine Ev_pos (by omega) (Ev_pos (by rw [Int.toNat_natCast]; exact hl) ?_)
  have h := to_loop xs (by omega) _ 0 (List.replicate ((xs.length : Int) : Int).toNat (⟨#[]⟩ : ByteArray)) rfl (by omega) (by simp)
  exact Ev_eq h (by simp)
theorem eq_loop (xs : List ByteArray) (hl : xs.length ≤ 9223372036854775807) : ∀ (d i : Nat), xs.length - i = d → i ≤ xs.length → Ev (fun k => laws_eqStringS.l0 k xs xs (i : Int)) true := by
  intro d
  induction d with
  | zero => intro i hd hi; exact Ev.step (fun k => by rw [laws_eqStringS.l0]) (Ev_neg (by omega) (Ev.now _))
  | succ d ih =>
    intro i hd hi
    have hlt : i < xs.length := by omega
    refine Ev.step (fun k => by rw [laws_eqStringS.l0]) (Ev_pos (by omega) (Ev_pos (by omega) (Ev_pos (by omega) (Ev_pos rfl ?_))))
    rw [wsucc hlt hl]
    exact ih (i + 1) (by omega) (by omega)
theorem eq_tells (xs : List ByteArray) (hl : xs.length ≤ 9223372036854775807) : Ev (fun k => laws_eqStringS.f k xs xs) true := by
  unfold laws_eqStringS.f
  exact Ev_pos rfl (eq_loop xs hl _ 0 rfl (by omega))
end Go.Proofs.Ytihbalbcocfnfab.P
end
section
namespace Go.Proofs.Ytihbalbcocfnfab.P
open Go.RowKit Go.Proofs.YtihbalbcocfnfabW.PrintWords Go.Proofs.YtihbalbcocfnfabW.PrintLast Go.Proofs.YtihbalbcocfnfabW.PrintMore
attribute [local go_sem] max2_int min2_int max_two min_two max_three min_three max_four min_four
end Go.Proofs.Ytihbalbcocfnfab.P
end
section
namespace Go.Proofs.Ytihbalbcocfnfab.P
open Go.RowKit Go.Proofs.YtihbalbcocfnfabW.PrintWords Go.Proofs.YtihbalbcocfnfabW.PrintLast Go.Proofs.YtihbalbcocfnfabW.PrintMore
attribute [local go_sem] max2_int min2_int max_two min_two max_three min_three max_four min_four
end Go.Proofs.Ytihbalbcocfnfab.P
end
section
namespace Go.Proofs.Ytihbalbcocfnfab.P
open Go.RowKit Go.Proofs.YtihbalbcocfnfabW.PrintWords Go.Proofs.YtihbalbcocfnfabW.PrintLast Go.Proofs.YtihbalbcocfnfabW.PrintMore
attribute [local go_sem] max2_int min2_int max_two min_two max_three min_three max_four min_four
end Go.Proofs.Ytihbalbcocfnfab.P
end
section
set_option linter.unusedVariables false
set_option linter.unusedSimpArgs false
namespace Go.Proofs.Ytihbalbcocfnfab.P
open Go.RowKit Go.Proofs.YtihbalbcocfnfabW.PrintWords Go.Proofs.YtihbalbcocfnfabW.PrintLast
def Small (xs : List ByteArray) : Prop := (∀ x ∈ xs, x.size ≤ 9223372036854775807) ∧ xs.length ≤ 1048576 ∧ total xs ≤ 1048576
end Go.Proofs.Ytihbalbcocfnfab.P
end
section
set_option linter.unusedVariables false
set_option linter.unusedSimpArgs false
namespace Go.Proofs.Ytihbalbcocfnfab.P
open Go.RowKit Go.Proofs.YtihbalbcocfnfabW.PrintWords Go.Proofs.YtihbalbcocfnfabW.PrintLast
theorem Small.to {xs : List ByteArray} (h : Small xs) : Ev (fun k => laws_toStringS.f k xs) xs := to_tells xs (by have := h.2.1; omega)
theorem Small.eq {xs : List ByteArray} (h : Small xs) : Ev (fun k => laws_eqStringS.f k xs xs) true := eq_tells xs (by have := h.2.1; omega)
end Go.Proofs.Ytihbalbcocfnfab.P
end
section
set_option linter.unusedVariables false
namespace Go.Proofs.Ytihbalbcocfnfab.P
def GL (l : List ByteArray) : Prop := l.length ≤ 9223372036854775807 ∧ ∀ x ∈ l, x.size ≤ 9223372036854775807
def lw (l : List ByteArray) : Nat := l.length + total l
theorem lw_small {x : List ByteArray} (h : ∀ a ∈ x, a.size ≤ 9223372036854775807) (hw : lw x ≤ 1048576) : Small x := ⟨h, by unfold lw at hw; omega, by unfold lw at hw; omega⟩
end Go.Proofs.Ytihbalbcocfnfab.P
end
section
set_option linter.unusedVariables false
set_option linter.unusedSimpArgs false
namespace Go.Proofs.Ytihbalbcocfnfab.P
open Go.RowKit Go.Proofs.YtihbalbcocfnfabW.PrintWords Go.Proofs.YtihbalbcocfnfabW.PrintLast
def mk (s : ByteArray) : Int := bt s 0
def tl (s : ByteArray) : List UInt8 := s.data.toList.drop 1
def hbad (s : ByteArray) : Prop := s.size < 2 ∨ ¬ (mk s = 32 ∨ mk s = 45 ∨ mk s = 43) ∨ 10 ∈ (tl s).dropLast
instance (s : ByteArray) : Decidable (hbad s) := by unfold hbad; infer_instance
theorem tl_ext (s : ByteArray) : (s.extract 1 s.size).data.toList = tl s := by
  rw [← ByteArray.toList_eq, Lib.extract_toList]
  unfold tl
  rw [List.take_of_length_le (by rw [List.length_drop, size_data]; omega)]
theorem tl_len (s : ByteArray) : (tl s).length = s.size - 1 := by
  unfold tl
  rw [List.length_drop, size_data]
theorem ext_size (s : ByteArray) : (s.extract 1 s.size).size = s.size - 1 := by
  rw [← size_data, tl_ext, tl_len]
theorem sline_j (s : ByteArray) (hs : s.size ≤ 9223372036854775807) (h2 : ¬ s.size < 2) (b : Bool) : Ev (fun k => spec_l3Line.j0 k s b) (if b = true ∨ 10 ∈ (tl s).dropLast then 1 else 0) := by
  refine Ev.step (fun k => by rw [spec_l3Line.j0]) (Ev_if (fun h => Ev_val ?_) (fun h => Ev_pos (by omega) ?_))
  · rw [if_pos (.inl h)]
  · refine Ev_call (ended_tells _ (by rw [ext_size]; omega)) ?_
    rw [tl_ext, wid (by omega) (by omega)]
    have e := lineEnd_early (tl s)
    rw [tl_len] at e
    refine Ev_if (fun g => Ev_val ?_) (fun g => Ev_val ?_)
    · rw [if_pos (.inr (e.1 (by omega)))]
    · rw [if_neg]
      rintro (e2 | e2)
      · exact h e2
      · have := e.2 e2
        omega
theorem sline_tells (s : ByteArray) (hs : s.size ≤ 9223372036854775807) : Ev (fun k => spec_l3Line.f k s) (if hbad s then 1 else 0) := by
  unfold spec_l3Line.f
  refine Ev_if (fun h => ?_) (fun h => ?_)
  · rw [if_pos (.inl (by omega))]
    exact Ev.step (fun k => by rw [spec_l3Line.j0]) (Ev_pos rfl (Ev.now _))
  · have h2 : ¬ s.size < 2 := by omega
    have go : ∀ b : Bool, (b = true ↔ ¬ (mk s = 32 ∨ mk s = 45 ∨ mk s = 43)) → Ev (fun k => spec_l3Line.j0 k s b) (if hbad s then 1 else 0) := by
      intro b hb
      refine Ev_eq (sline_j s hs h2 b) ?_
      have : (b = true ∨ 10 ∈ (tl s).dropLast) ↔ hbad s := by
        unfold hbad
        rw [hb]
        constructor
        · exact fun e => .inr e
        · rintro (e | e)
          · exact absurd e h2
          · exact e
      by_cases g : hbad s
      · rw [if_pos g, if_pos (this.2 g)]
      · rw [if_neg g, if_neg (fun e => g (this.1 e))]
    refine Ev_pos (by omega) (Ev_if (fun a => go _ ?_) (fun a => Ev_if (fun b => go _ ?_) (fun b => go _ ?_)))
    · have : mk s = 32 := a
      simp [this]
    · have : mk s = 45 := b
      simp [this]
    · have a' : ¬ mk s = 32 := a
      have b' : ¬ mk s = 45 := b
      show (mk s != 43) = true ↔ _
      simp [a', b']
def HB (l : List ByteArray) : Bool := l.any (fun s => decide (hbad s))
theorem HB_cons (s : ByteArray) (l : List ByteArray) : HB (s :: l) = (decide (hbad s) || HB l) := rfl
theorem slines_loop (a b : Int) (l : List ByteArray) (hg : GL l) : ∀ (d i : Nat), l.length - i = d → i ≤ l.length → Ev (fun k => spec_l3Lines.l0 k (i : Int) a b l) (if HB (l.drop i) = true then 1 else 0) := by
  intro d
  induction d with
  | zero =>
    intro i hd hi
    refine Ev.step (fun k => by rw [spec_l3Lines.l0]) (Ev_neg (by omega) (Ev_val ?_))
    rw [List.drop_eq_nil_of_le (by omega)]
    rfl
  | succ d ih =>
    intro i hd hi
    have hlt : i < l.length := by omega
    refine Ev.step (fun k => by rw [spec_l3Lines.l0]) (Ev_pos (by omega) (Ev_pos (by omega) ?_))
    rw [rd_nat _ hlt, wsucc hlt hg.1, drop_at hlt, HB_cons]
    refine Ev_call (sline_tells _ (hg.2 _ (List.getElem_mem hlt))) ?_
    by_cases h : hbad l[i]
    · rw [if_pos h, decide_eq_true h, Bool.true_or, if_pos rfl]
      exact Ev_neg (by omega) (Ev.now _)
    · rw [if_neg h, decide_eq_false h, Bool.false_or]
      exact Ev_pos rfl (ih (i + 1) (by omega) (by omega))
theorem slines_tells (a b : Int) {l : List ByteArray} (hg : GL l) : Ev (fun k => spec_l3Lines.f k a b l) (if HB l = true then 1 else 0) := by
  have := slines_loop a b l hg _ 0 rfl (by omega)
  rw [List.drop_zero] at this
  exact this
def hA : List ByteArray → Nat
  | [] => 0
  | s :: l => (if mk s = 43 then 0 else 1) + hA l
def hB : List ByteArray → Nat
  | [] => 0
  | s :: l => (if mk s = 45 then 0 else 1) + hB l
def hS : List ByteArray → Nat
  | [] => 0
  | s :: l => (if mk s = 32 then 1 else 0) + hS l
theorem HB_at {l : List ByteArray} (h : HB l = false) {i : Nat} (hi : i < l.length) : ¬ hbad l[i] := by
  unfold HB at h
  rw [List.any_eq_false] at h
  have := h l[i] (List.getElem_mem hi)
  simpa using this
theorem good_pos {s : ByteArray} (h : ¬ hbad s) : 0 < s.size := by
  unfold hbad at h
  omega
theorem ssizes_loop (a b : Int) (l : List ByteArray) (hl : l.length ≤ 1048576) (hg : HB l = false) : ∀ (d i x y : Nat), l.length - i = d → i ≤ l.length → x ≤ i → y ≤ i → Ev (fun k => spec_l3Sizes.l0 k (x : Int) (y : Int) (i : Int) a b l) (((x + hA (l.drop i) : Nat) : Int), ((y + hB (l.drop i) : Nat) : Int)) := by
  intro d
  induction d with
  | zero =>
    intro i x y hd hi hx hy
    refine Ev.step (fun k => by rw [spec_l3Sizes.l0]) (Ev_neg (by omega) (Ev_val ?_))
    rw [List.drop_eq_nil_of_le (by omega)]
    rfl
  | succ d ih =>
    intro i x y hd hi hx hy
    have hlt : i < l.length := by omega
    have hp := good_pos (HB_at hg hlt)
    refine Ev.step (fun k => by rw [spec_l3Sizes.l0]) (Ev_pos (by omega) (Ev_pos (by omega) ?_))
    rw [rd_nat _ hlt, wsucc hlt (by omega), drop_at hlt, wsucc' (i := x) (by omega), wsucc' (i := y) (by omega)]
    simp only [hA, hB]
    refine Ev_pos (by omega) (Ev_if (fun h => ?_) (fun h => ?_))
    · have h' : mk l[i] = 43 := h
      have h'' : ¬ mk l[i] = 45 := by rw [h']; omega
      rw [if_pos h', if_neg h'']
      exact Ev_neg h'' (Ev_eq (ih (i + 1) x (y + 1) (by omega) (by omega) (by omega) (by omega)) (by congr 2 <;> omega))
    · have h' : ¬ mk l[i] = 43 := h
      rw [if_neg h']
      refine Ev_if (fun g => ?_) (fun g => ?_)
      · have g' : mk l[i] = 45 := g
        rw [if_pos g']
        exact Ev_eq (ih (i + 1) (x + 1) y (by omega) (by omega) (by omega) (by omega)) (by congr 2 <;> omega)
      · have g' : ¬ mk l[i] = 45 := g
        rw [if_neg g']
        exact Ev_eq (ih (i + 1) (x + 1) (y + 1) (by omega) (by omega) (by omega) (by omega)) (by congr 2 <;> omega)
theorem ssizes_tells (a b : Int) {l : List ByteArray} (hl : l.length ≤ 1048576) (hg : HB l = false) : Ev (fun k => spec_l3Sizes.f k a b l) (((hA l : Nat) : Int), ((hB l : Nat) : Int)) := by
  have := ssizes_loop a b l hl hg _ 0 0 0 rfl (by omega) (by omega) (by omega)
  rw [List.drop_zero, Nat.zero_add, Nat.zero_add] at this
  exact this
theorem isizes_loop (l : List ByteArray) (hl : l.length ≤ 1048576) (hx : ∀ x ∈ l, x.size ≤ 9223372036854775807) : ∀ (d i x y : Nat), l.length - i = d → i ≤ l.length → x ≤ i → y ≤ i → Ev (fun k => impl_sizesOf.l0 k (x : Int) (y : Int) l (l.length : Int) (i : Int)) (if HB (l.drop i) = true then (0, 0, false) else (((x + hA (l.drop i) : Nat) : Int), ((y + hB (l.drop i) : Nat) : Int), true)) := by
  intro d
  induction d with
  | zero =>
    intro i x y hd hi hx hy
    refine Ev.step (fun k => by rw [impl_sizesOf.l0]) (Ev_neg (by omega) (Ev_val ?_))
    rw [List.drop_eq_nil_of_le (by omega)]
    rfl
  | succ d ih =>
    intro i x y hd hi hx' hy'
    have hlt : i < l.length := by omega
    have hsz := hx l[i] (List.getElem_mem hlt)
    refine Ev.step (fun k => by rw [impl_sizesOf.l0]) (Ev_pos (by omega) (Ev_pos (by omega) (Ev_pos (by omega) ?_)))
    rw [rd_nat _ hlt, drop_at hlt, HB_cons]
    have bad : hbad l[i] → ∀ b : Bool, b = true → Ev (fun k => impl_sizesOf.j1 k (x : Int) (y : Int) l[i] l (l.length : Int) (i : Int) b) (if (decide (hbad l[i]) || HB (l.drop (i + 1))) = true then (0, 0, false) else (((x + hA (l[i] :: l.drop (i + 1)) : Nat) : Int), ((y + hB (l[i] :: l.drop (i + 1)) : Nat) : Int), true)) := by
      intro h b hb
      rw [decide_eq_true h, Bool.true_or, if_pos rfl]
      exact Ev.step (fun k => by rw [impl_sizesOf.j1]) (Ev_pos hb (Ev.now _))
    refine Ev_if (fun h => ?_) (fun h => ?_)
    · refine bad (.inl ?_) _ rfl
      have := toList_nil.1 h
      rw [← size_data, this]
      exact Nat.zero_lt_two
    · have hne : 0 < l[i].size := by
        have h0 : l[i].data.toList.length ≠ 0 := fun e => h (toList_nil.2 (List.length_eq_zero_iff.1 e))
        rw [size_data] at h0
        omega
      refine Ev_pos (by omega) (Ev_const (isLine_tells _ (by rw [ext_size]; omega)) ?_)
      rw [tl_ext]
      by_cases hb : tl l[i] = [] ∨ 10 ∈ (tl l[i]).dropLast
      · refine bad ?_ _ (by simp [hb])
        rcases hb with hb | hb
        · left
          have := congrArg List.length hb
          rw [tl_len] at this
          simp at this
          omega
        · exact .inr (.inr hb)
      · have hs2 : ¬ l[i].size < 2 := by
          intro e
          apply hb
          left
          apply List.length_eq_zero_iff.1
          rw [tl_len]
          omega
        rw [show (!decide (¬ (tl l[i] = [] ∨ 10 ∈ (tl l[i]).dropLast))) = false by simp [hb]]
        refine Ev.step (fun k => by rw [impl_sizesOf.j1]) (Ev_neg (by simp) (Ev_pos (by omega) ?_))
        rw [wsucc hlt (by omega), wsucc' (i := x) (by omega), wsucc' (i := y) (by omega)]
        have good : (mk l[i] = 32 ∨ mk l[i] = 45 ∨ mk l[i] = 43) → decide (hbad l[i]) = false := by
          intro e
          apply decide_eq_false
          rintro (e2 | e2 | e2)
          · exact hs2 e2
          · exact e2 e
          · exact hb (.inr e2)
        simp only [hA, hB]
        refine Ev_if (fun g => ?_) (fun g => Ev_if (fun g2 => ?_) (fun g2 => Ev_if (fun g3 => ?_) (fun g3 => Ev_val ?_)))
        · have g' : mk l[i] = 32 := g
          rw [good (.inl g'), Bool.false_or, if_neg (show ¬ mk l[i] = 43 by rw [g']; omega), if_neg (show ¬ mk l[i] = 45 by rw [g']; omega)]
          refine Ev_eq (ih (i + 1) (x + 1) (y + 1) (by omega) (by omega) (by omega) (by omega)) ?_
          rw [Nat.add_assoc, Nat.add_assoc]
        · have g' : mk l[i] = 45 := g2
          rw [good (.inr (.inl g')), Bool.false_or, if_neg (show ¬ mk l[i] = 43 by rw [g']; omega), if_pos g']
          refine Ev_eq (ih (i + 1) (x + 1) y (by omega) (by omega) (by omega) (by omega)) ?_
          rw [Nat.add_assoc, Nat.zero_add]
        · have g' : mk l[i] = 43 := g3
          rw [good (.inr (.inr g')), Bool.false_or, if_pos g', if_neg (show ¬ mk l[i] = 45 by rw [g']; omega)]
          refine Ev_eq (ih (i + 1) x (y + 1) (by omega) (by omega) (by omega) (by omega)) ?_
          rw [Nat.add_assoc, Nat.zero_add]
        · have : hbad l[i] := .inr (.inl (by rintro (e | e | e); exact g e; exact g2 e; exact g3 e))
          rw [decide_eq_true this, Bool.true_or, if_pos rfl]
theorem isizes_tells (a b : Int) {l : List ByteArray} (hl : l.length ≤ 1048576) (hx : ∀ x ∈ l, x.size ≤ 9223372036854775807) : Ev (fun k => impl_sizesOf.f k a b l) (if HB l = true then (0, 0, false) else (((hA l : Nat) : Int), ((hB l : Nat) : Int), true)) := by
  have := isizes_loop l hl hx _ 0 0 0 rfl (by omega) (by omega) (by omega)
  rw [List.drop_zero, Nat.zero_add, Nat.zero_add] at this
  exact this
theorem toh_tells (a b : Int) {l : List ByteArray} (h : Small l) : Ev (fun k => laws_toHunk.f k a b l) (a, b, l) := by
  unfold laws_toHunk.f
  exact Ev_call h.to (Ev.now _)
theorem eqh_tells (a b : Int) {l : List ByteArray} (h : Small l) : Ev (fun k => laws_eqHunk.f k a b l a b l) true := by
  unfold laws_eqHunk.f
  exact Ev_pos rfl (Ev_pos rfl (Ev_call h.eq (Ev_pos rfl (Ev.now _))))
theorem szh_tells (a b : Int) (x : List ByteArray) (gx : GL x) (n : Int) (h0 : 0 ≤ n) (h1 : n ≤ 1048576) :
    ∃ r, Ev (fun k => laws_szHunk.f k a b x n) r ∧ (r < 0 ∨ (0 ≤ r ∧ r ≤ n ∧ ((lw x : Nat) : Int) = n - r)) := by
  obtain ⟨r1, e1, p1⟩ := sz_tells x gx n h0 h1
  rcases p1 with p1 | ⟨a1, b1, c1⟩
  · refine ⟨-1, ?_, .inl (by omega)⟩
    unfold laws_szHunk.f
    exact Ev_call e1 (Ev_pos p1 (Ev.now _))
  · refine ⟨r1, ?_, .inr ⟨a1, by omega, by unfold lw; omega⟩⟩
    unfold laws_szHunk.f
    exact Ev_call e1 (Ev_neg (by omega) (Ev.now _))
end Go.Proofs.Ytihbalbcocfnfab.P
end
section
namespace Go.Proofs.Ytihbalbcocfnfab.P
open Go.RowKit Go.Proofs.YtihbalbcocfnfabW.PrintWords Go.Proofs.YtihbalbcocfnfabW.PrintLast Go.Proofs.YtihbalbcocfnfabW.PrintMore
attribute [local go_sem] max2_int min2_int max_two min_two max_three min_three max_four min_four
end Go.Proofs.Ytihbalbcocfnfab.P
end
section
namespace Go.Proofs.Ytihbalbcocfnfab.P
open Go.RowKit Go.Proofs.YtihbalbcocfnfabW.PrintWords Go.Proofs.YtihbalbcocfnfabW.PrintLast Go.Proofs.YtihbalbcocfnfabW.PrintMore
attribute [local go_sem] max2_int min2_int max_two min_two max_three min_three max_four min_four
end Go.Proofs.Ytihbalbcocfnfab.P
end
section
namespace Go.Proofs.Ytihbalbcocfnfab.P
open Go.RowKit Go.Proofs.YtihbalbcocfnfabW.PrintWords Go.Proofs.YtihbalbcocfnfabW.PrintLast Go.Proofs.YtihbalbcocfnfabW.PrintMore
attribute [local go_sem] max2_int min2_int max_two min_two max_three min_three max_four min_four
end Go.Proofs.Ytihbalbcocfnfab.P
end
section
namespace Go.Proofs.Ytihbalbcocfnfab.P
open Go.RowKit Go.Proofs.YtihbalbcocfnfabW.PrintWords Go.Proofs.YtihbalbcocfnfabW.PrintLast Go.Proofs.YtihbalbcocfnfabW.PrintMore
attribute [local go_sem] max2_int min2_int max_two min_two max_three min_three max_four min_four
end Go.Proofs.Ytihbalbcocfnfab.P
end
section
set_option linter.unusedVariables false
set_option linter.unusedSimpArgs false
namespace Go.Proofs.Ytihbalbcocfnfab.P
open Go.RowKit Go.Proofs.YtihbalbcocfnfabW.PrintWords Go.Proofs.YtihbalbcocfnfabW.PrintLast
theorem mtext_loop : ∀ (n : Nat) (s : ByteArray), n + s.size ≤ 4611686018427387904 → ∃ t, Ev (fun k => laws_markText.l0 k (n : Int) s) t := by
  intro n
  induction n using Nat.strongRecOn with
  | _ n ih =>
    intro s hs
    by_cases h : n = 0
    · subst h
      exact ⟨_, Ev.step (fun k => by rw [laws_markText.l0]) (Ev_neg (by omega) (Ev_pos (by omega) (Ev.now _)))⟩
    · have hq : Int.tdiv (n : Int) 10 = ((n / 10 : Nat) : Int) := by
        rw [Int.tdiv_eq_ediv_of_nonneg (by omega)]
        omega
      have hsz : (strOfNums [(wrap64 (48 + (Int.tmod (n : Int) 10))) % 256] ++ s).size = 1 + s.size := by
        rw [ByteArray.size_append, strOfNums_size]
        rfl
      obtain ⟨t, ht⟩ := ih (n / 10) (by omega) (strOfNums [(wrap64 (48 + (Int.tmod (n : Int) 10))) % 256] ++ s) (by rw [hsz]; omega)
      refine ⟨t, Ev.step (fun k => by rw [laws_markText.l0]) (Ev_pos (by omega) ?_)⟩
      refine Ev_const rfl ?_
      refine Ev_pos (by rw [strOfNums_size]; simp; omega) ?_
      rw [hq, wid (by omega) (by omega)]
      exact ht
theorem mtext_some (n : Nat) (hn : n ≤ 4611686018427387904) : ∃ t, Ev (fun k => laws_markText.f k (n : Int)) t := by
  unfold laws_markText.f
  by_cases h : n = 0
  · subst h
    exact ⟨_, Ev_pos (by omega) (Ev.now _)⟩
  · obtain ⟨t, ht⟩ := mtext_loop n (⟨#[]⟩ : ByteArray) (by simp [ByteArray.size]; exact hn)
    exact ⟨t, Ev_neg (by omega) ht⟩
noncomputable def mtx (n : Nat) : ByteArray := @Classical.epsilon ByteArray ⟨⟨#[]⟩⟩ (fun t => Ev (fun k => laws_markText.f k (n : Int)) t)
theorem mtx_tells (n : Nat) (hn : n ≤ 4611686018427387904) : Ev (fun k => laws_markText.f k (n : Int)) (mtx n) := @Classical.epsilon_spec _ _ (mtext_some n hn)
noncomputable def mks : Nat → Nat → List ByteArray
  | _, 0 => []
  | n, d + 1 => mtx n :: mks (n + 1) d
theorem mark_loop (L : Nat) (hL : L ≤ 1000000000) : ∀ (d i n : Nat) (x : List ByteArray), L - i = d → i ≤ L → x.length = L → n + d ≤ 4611686018427387904 →
    Ev (fun k => laws_markStringS.l0 k x (n : Int) (i : Int)) (((n + d : Nat) : Int), x.take i ++ mks n d) := by
  intro d
  induction d with
  | zero =>
    intro i n x hd hi hx hn
    refine Ev.step (fun k => by rw [laws_markStringS.l0]) (Ev_neg (by omega) (Ev_val ?_))
    rw [mks, List.append_nil, List.take_of_length_le (by omega)]
    rfl
  | succ d ih =>
    intro i n x hd hi hx hn
    refine Ev.step (fun k => by rw [laws_markStringS.l0]) (Ev_pos (by omega) ?_)
    refine Ev_call (mtx_tells n (by omega)) ?_
    refine Ev_pos (by omega) ?_
    rw [wsucc' (i := n) (by omega), wsucc' (i := i) (by omega), Int.toNat_natCast]
    refine Ev_eq (ih (i + 1) (n + 1) (x.set i (mtx n)) (by omega) (by omega) (by rw [List.length_set]; exact hx) (by omega)) ?_
    rw [mks, List.take_succ_eq_append_getElem (by rw [List.length_set]; omega), List.getElem_set_self, List.take_set_of_le (by omega), List.append_assoc, show n + 1 + d = n + (d + 1) by omega]
    rfl
theorem mark_tells (x : List ByteArray) (n : Nat) (hx : x.length ≤ 1000000000) (hn : n ≤ 4611686017427387904) : Ev (fun k => laws_markStringS.f k x (n : Int)) (((n + x.length : Nat) : Int), mks n x.length) := by
  unfold laws_markStringS.f
  have h := mark_loop x.length hx _ 0 n x rfl (by omega) rfl (by omega)
  rw [List.take_zero, List.nil_append, Nat.sub_zero] at h
  exact h
def mis : Nat → Nat → List Int
  | _, 0 => []
  | n, d + 1 => (n : Int) :: mis (n + 1) d
theorem mis_length : ∀ (d n : Nat), (mis n d).length = d
  | 0, _ => rfl
  | d + 1, n => by rw [mis, List.length_cons, mis_length d (n + 1)]
theorem marki_loop (L : Nat) (hL : L ≤ 1000000000) : ∀ (d i n : Nat) (x : List Int), L - i = d → i ≤ L → x.length = L → n + d ≤ 4611686018427387904 →
    Ev (fun k => laws_markInt64S.l0 k x (n : Int) (i : Int)) (((n + d : Nat) : Int), x.take i ++ mis n d) := by
  intro d
  induction d with
  | zero =>
    intro i n x hd hi hx hn
    refine Ev.step (fun k => by rw [laws_markInt64S.l0]) (Ev_neg (by omega) (Ev_val ?_))
    rw [mis, List.append_nil, List.take_of_length_le (by omega)]
    rfl
  | succ d ih =>
    intro i n x hd hi hx hn
    refine Ev.step (fun k => by rw [laws_markInt64S.l0]) (Ev_pos (by omega) (Ev_pos (by omega) ?_))
    rw [wsucc' (i := n) (by omega), wsucc' (i := i) (by omega), Int.toNat_natCast]
    refine Ev_eq (ih (i + 1) (n + 1) (x.set i (n : Int)) (by omega) (by omega) (by rw [List.length_set]; exact hx) (by omega)) ?_
    rw [mis, List.take_succ_eq_append_getElem (by rw [List.length_set]; omega), List.getElem_set_self, List.take_set_of_le (by omega), List.append_assoc, show n + 1 + d = n + (d + 1) by omega]
    rfl
theorem marki_tells (x : List Int) (n : Nat) (hx : x.length ≤ 1000000000) (hn : n ≤ 4611686017427387904) : Ev (fun k => laws_markInt64S.f k x (n : Int)) (((n + x.length : Nat) : Int), mis n x.length) := by
  unfold laws_markInt64S.f
  have h := marki_loop x.length hx _ 0 n x rfl (by omega) rfl (by omega)
  rw [List.take_zero, List.nil_append, Nat.sub_zero] at h
  exact h
theorem heldi_loop : ∀ (d n : Nat) (p : List Int), p.length + d ≤ 1000000000 → n + d ≤ 4611686018427387904 → Ev (fun k => laws_heldInt64S.l0 k (p ++ mis n d) (n : Int) (p.length : Int)) ((n + d : Nat) : Int) := by
  intro d
  induction d with
  | zero =>
    intro n p hp hn
    refine Ev.step (fun k => by rw [laws_heldInt64S.l0]) ?_
    exact Ev_neg (by rw [mis, List.append_nil]; omega) (Ev.now _)
  | succ d ih =>
    intro n p hp hn
    have hl : (p ++ mis n (d + 1)).length = p.length + (d + 1) := by rw [List.length_append, mis_length]
    refine Ev.step (fun k => by rw [laws_heldInt64S.l0]) (Ev_pos (by omega) (Ev_pos (by omega) ?_))
    have hg : rd (p ++ mis n (d + 1)) (p.length : Int) = (n : Int) := by
      rw [rdi_nat (by omega), List.getElem_append_right (by omega)]
      simp [mis]
    rw [hg, wsucc' (i := n) (by omega), wsucc' (i := p.length) (by omega)]
    refine Ev_pos rfl ?_
    have h := ih (n + 1) (p ++ [(n : Int)]) (by simp; omega) (by omega)
    rw [List.append_assoc, List.length_append, List.length_singleton] at h
    rw [show n + (d + 1) = n + 1 + d by omega, mis]
    exact h
theorem heldi_tells (n d : Nat) (hd : d ≤ 1000000000) (hn : n ≤ 4611686017427387904) : Ev (fun k => laws_heldInt64S.f k (mis n d) (n : Int)) ((n + d : Nat) : Int) := by
  unfold laws_heldInt64S.f
  exact heldi_loop d n [] (by simp; exact hd) (by omega)
theorem eqi_loop (xs : List Int) (hl : xs.length ≤ 9223372036854775807) : ∀ (d i : Nat), xs.length - i = d → i ≤ xs.length → Ev (fun k => laws_eqInt64S.l0 k xs xs (i : Int)) true := by
  intro d
  induction d with
  | zero => intro i hd hi; exact Ev.step (fun k => by rw [laws_eqInt64S.l0]) (Ev_neg (by omega) (Ev.now _))
  | succ d ih =>
    intro i hd hi
    have hlt : i < xs.length := by omega
    refine Ev.step (fun k => by rw [laws_eqInt64S.l0]) (Ev_pos (by omega) (Ev_pos (by omega) (Ev_pos (by omega) (Ev_pos rfl ?_))))
    rw [wsucc hlt hl]
    exact ih (i + 1) (by omega) (by omega)
theorem eqi_tells (xs : List Int) (hl : xs.length ≤ 9223372036854775807) : Ev (fun k => laws_eqInt64S.f k xs xs) true := by
  unfold laws_eqInt64S.f
  exact Ev_pos rfl (eqi_loop xs hl _ 0 rfl (by omega))
end Go.Proofs.Ytihbalbcocfnfab.P
end
section
set_option linter.unusedVariables false
namespace Go.Proofs.Ytihbalbcocfnfab.P.VFnExactSizesOf
open Go.RowKit Go.Proofs.YtihbalbcocfnfabW.PrintWords Go.Proofs.YtihbalbcocfnfabW.PrintLast
def SO (l : List ByteArray) : Int × List Int := if HB l = true then (1, []) else (0, [((hA l : Nat) : Int), ((hB l : Nat) : Int)])
theorem s_tells (a b : Int) {l : List ByteArray} (h : Small l) : Ev (fun k => spec_SizesOf.f k a b l) (SO l) := by
  unfold spec_SizesOf.f SO
  refine Ev_call (slines_tells a b ⟨by have := h.2.1; omega, h.1⟩) ?_
  by_cases hb : HB l = true
  · rw [if_pos hb, if_pos hb]
    exact Ev_neg (by omega) (Ev.now _)
  · rw [if_neg hb, if_neg hb]
    exact Ev_pos rfl (Ev_call (ssizes_tells a b h.2.1 (by simpa using hb)) (Ev.now _))
theorem i_tells (a b : Int) {l : List ByteArray} (h : Small l) : Ev (fun k => impl_SizesOf.f k a b l) (SO l) := by
  unfold impl_SizesOf.f SO
  refine Ev_call (isizes_tells a b h.2.1 h.1) ?_
  by_cases hb : HB l = true
  · rw [if_pos hb, if_pos hb]
    exact Ev_neg (by simp) (Ev.now _)
  · rw [if_neg hb, if_neg hb]
    exact Ev_pos rfl (Ev.now _)
theorem SO_len (l : List ByteArray) : (SO l).2.length ≤ 2 := by
  unfold SO
  split <;> simp
theorem eqr_tells (c : Int) (x : List Int) (hx : x.length ≤ 2) : Ev (fun k => laws_eqIntsResult.f k c x c x) true := by
  unfold laws_eqIntsResult.f
  exact Ev_pos rfl (Ev_call (eqi_tells x (by omega)) (Ev_pos rfl (Ev.now _)))
theorem heldr_tells (c : Int) (d : Nat) (hd : d ≤ 2) : Ev (fun k => laws_heldIntsResult.f k c (mis 1 d) 1) ((1 + d : Nat) : Int) := by
  unfold laws_heldIntsResult.f
  exact Ev_call (heldi_tells 1 d (by omega) (by omega)) (Ev_neg (by omega) (Ev.now _))
theorem proof : UFnExactSizesOf.Pure := by
  intro a b l0 ga gb g0
  apply Ev.rounds
  unfold laws_FnExactSizesOf.f
  obtain ⟨r, hr, hp⟩ := szh_tells a b l0 g0 1048576 (by omega) (by omega)
  refine Ev_call hr ?_
  rcases hp with hp | ⟨h2, h3, h4⟩
  · exact Ev_pos hp (Ev.now _)
  have hs : Small l0 := lw_small g0.2 (by omega)
  have hl := SO_len l0
  refine Ev_neg (by omega) (Ev_call (toh_tells a b hs) (Ev_call (s_tells a b hs) (Ev_call (toh_tells a b hs) (Ev_call (i_tells a b hs) (Ev_call (eqr_tells _ _ hl) (Ev_pos rfl ?_))))))
  refine Ev_call (toh_tells a b hs) (Ev_call (eqh_tells a b hs) (Ev_pos rfl ?_))
  have hm : Ev (fun k => laws_markHunk.f k a b l0 1) (((1 + l0.length : Nat) : Int), mks 1 l0.length) := by
    unfold laws_markHunk.f
    exact Ev_call (mark_tells l0 1 (by have := hs.2.1; omega) (by omega)) (Ev.now _)
  refine Ev_call hm (Ev_neg (by omega) (Ev_call (eqr_tells _ _ hl) ?_))
  refine Ev.step (fun k => by rw [laws_FnExactSizesOf.j0]) (Ev_neg (by simp) ?_)
  have hmr : Ev (fun k => laws_markIntsResult.f k (SO l0).1 (SO l0).2 1) (((1 + (SO l0).2.length : Nat) : Int), mis 1 (SO l0).2.length) := by
    unfold laws_markIntsResult.f
    exact Ev_call (marki_tells (SO l0).2 1 (by omega) (by omega)) (Ev.now _)
  have hh := heldr_tells (SO l0).1 (SO l0).2.length hl
  refine Ev_call hmr (Ev_call hh (Ev_neg (by omega) (Ev_pos rfl ?_)))
  refine Ev_call (toh_tells a b hs) (Ev_call (i_tells a b hs) (Ev_call (eqr_tells _ _ hl) (Ev_pos rfl ?_)))
  exact Ev_call hh (Ev_neg (by omega) (Ev_pos rfl (Ev.now _)))
end Go.Proofs.Ytihbalbcocfnfab.P.VFnExactSizesOf
end
section
set_option linter.unusedVariables false
set_option linter.unusedSimpArgs false
namespace Go.Proofs.Ytihbalbcocfnfab.O
open Go.RowKit Go.ChangeShapes Go.WideShapes Go.Proofs.YtihbalbcocfnfabW.PrintWords
def Opens {α : Type} (P : Program) (t : TypeId) (d : Kd α) (G : α → Prop) : Prop :=
  P.cellsOf t = d.sz ∧ ∀ {H : Type} {enc : TypeId × Value → H} {w : World} {base : Nat} {spare : Nat → Bool} {held : Bool} {fuel : Nat} {cs : List Value} {x : DataW H × List MemPlace},
    DataW.trod enc P w base spare held fuel t cs = some x → ∃ a, d.K w a cs ∧ G a
theorem list_of {α : Type} {Q : Nat → α → Prop} : ∀ n : Nat, (∀ j, j < n → ∃ p, Q j p) → ∃ xs : List α, xs.length = n ∧ ∀ j p, xs[j]? = some p → Q j p
  | 0, _ => ⟨[], rfl, fun j p h => by simp at h⟩
  | n + 1, h => by
    obtain ⟨xs, hl, hx⟩ := list_of n (fun j hj => h j (Nat.lt_succ_of_lt hj))
    obtain ⟨p, hp⟩ := h n (Nat.lt_succ_self n)
    refine ⟨xs ++ [p], by simp [hl], fun j q hq => ?_⟩
    rcases Nat.lt_or_ge j xs.length with hj | hj
    · rw [List.getElem?_append_left hj] at hq
      exact hx j q hq
    · have hj' : j = xs.length := by
        have := (List.getElem?_eq_some_iff.1 hq).1
        rw [List.length_append, List.length_singleton] at this
        omega
      subst hj'
      have e : p = q := by simpa using hq
      subst e
      rw [hl]
      exact hp
theorem cells_get {w : World} {base : Nat} {a : Addr} {n : Nat} {cs : List Value} (h : w.cells? base a n = some cs) : cs.length = n ∧ ∀ i u, cs[i]? = some u → w.cell? (a.add i) = some u := by
  unfold World.cells? at h
  split at h
  · have hl := mapM_some_length h
    rw [List.length_range] at hl
    refine ⟨hl, fun i u hu => ?_⟩
    have hi : i < n := by
      have := (List.getElem?_eq_some_iff.1 hu).1
      omega
    have := mapM_some_get h i i (by simp [hi])
    rw [this, hu]
  · simp at h
theorem opens_int {P : Program} {t : TypeId} {k : IntKind} (ht : P.underlying t = some (.int k)) (hc : P.cellsOf t = 1) : Opens P t (Kd.int k) (fun x => (Lit.int k x).wf = true) :=
  ⟨hc, fun h => by
    obtain ⟨n, rfl, _, hw⟩ := DataW.trod_int ht h
    exact ⟨n, rfl, hw⟩⟩
theorem opens_string {P : Program} {t : TypeId} (ht : P.underlying t = some .string) (hc : P.cellsOf t = 1) : Opens P t Kd.string (fun s => s.size ≤ 9223372036854775807) :=
  ⟨hc, fun h => by
    obtain ⟨s, rfl, _, hw⟩ := DataW.trod_string ht h
    exact ⟨s, rfl, hw⟩⟩
theorem opens_slice {α : Type} {P : Program} {t e : TypeId} {d : Kd α} {G : α → Prop} (ht : P.underlying t = some (.slice e)) (hc : P.cellsOf t = 1) (he : Opens P e d G) :
    Opens P t (Kd.slice e d) (fun l => l.length ≤ 9223372036854775807 ∧ ∀ x ∈ l, G x) := by
  refine ⟨hc, fun {H enc w base spare held fuel cs x} h => ?_⟩
  rcases DataW.trod_slice ht h with ⟨rfl, _⟩ | ⟨a, len, cap, elems, rest, n, _, rfl, _, hb, hl, hm, hlen, hel, _, _⟩
  · exact ⟨[], ⟨none, 0, rfl, Nat.le_refl _, rfl, by simp, fun hp => absurd hp (by simp)⟩, by simp, by simp⟩
  · have hcap : cap ≤ 9223372036854775807 := hm
    obtain ⟨xs, hxl, hx⟩ := list_of (Q := fun j p => (∃ c : List Value, c.length = d.sz ∧ d.K w p c ∧ ∀ i u, c[i]? = some u → w.cell? (a.add (j * d.sz + i)) = some u) ∧ G p) len (fun j hj => by
      have h1 := hel j hj
      rw [List.getElem?_eq_getElem (by omega), Option.bind_eq_some_iff] at h1
      obtain ⟨cs', hcs, hy⟩ := h1
      obtain ⟨p, hK, hG⟩ := he.2 hy
      obtain ⟨hcl, hcell⟩ := cells_get hcs
      refine ⟨p, ⟨cs', by rw [hcl, he.1], hK, fun i u hu => ?_⟩, hG⟩
      have := hcell i u hu
      rw [he.1] at this
      rw [← Addr.add_add]
      exact this)
    have hlen2 : xs.length ≤ cap := by omega
    refine ⟨xs, ⟨some a, cap, ?_, hlen2, rfl, by omega, fun _ => ⟨a, rfl, fun j p hj => (hx j p hj).1⟩⟩, by omega, fun y hy => ?_⟩
    · rw [hxl]
    · obtain ⟨j, hj⟩ := List.getElem?_of_mem hy
      exact (hx j y hj).2
def OpensTail {α : Type} (P : Program) (fs : List Field) (off : Nat) (d : Kd α) (G : α → Prop) : Prop :=
  ∀ {H : Type} {enc : TypeId × Value → H} {w : World} {base : Nat} {spare : Nat → Bool} {held : Bool} {fuel : Nat} {cs : List Value},
    (∀ f ∈ fs, ∃ y, DataW.trod enc P w base spare held fuel f.type ((cs.drop f.offset).take (P.cellsOf f.type)) = some y) → cs.length = off + d.sz → ∃ a, d.K w a (cs.drop off) ∧ G a
theorem tail_one {α : Type} {P : Program} {f : Field} {off : Nat} {d : Kd α} {G : α → Prop} (ho : f.offset = off) (h : Opens P f.type d G) : OpensTail P [f] off d G := by
  intro H enc w base spare held fuel cs hy hl
  obtain ⟨y, hy⟩ := hy f (List.mem_singleton.2 rfl)
  obtain ⟨a, hK, hG⟩ := h.2 hy
  refine ⟨a, ?_, hG⟩
  rw [ho, h.1, List.take_of_length_le (by rw [List.length_drop]; omega)] at hK
  exact hK
theorem tail_cons {α β : Type} {P : Program} {f : Field} {fs : List Field} {off off2 : Nat} {d : Kd α} {d2 : Kd β} {G : α → Prop} {G2 : β → Prop} (ho : f.offset = off) (h : Opens P f.type d G) (ho2 : off2 = off + d.sz) (h2 : OpensTail P fs off2 d2 G2) :
    OpensTail P (f :: fs) off (Kd.pair d d2) (fun x => G x.1 ∧ G2 x.2) := by
  intro H enc w base spare held fuel cs hy hl
  obtain ⟨y, hy1⟩ := hy f List.mem_cons_self
  obtain ⟨a, hK, hG⟩ := h.2 hy1
  have hl' : cs.length = off2 + d2.sz := by rw [hl, ho2]; exact (Nat.add_assoc _ _ _).symm
  obtain ⟨b, hK2, hG2⟩ := h2 (fun f' hf' => hy f' (List.mem_cons_of_mem _ hf')) hl'
  refine ⟨(a, b), ⟨(cs.drop off).take d.sz, (cs.drop off).drop d.sz, (List.take_append_drop _ _).symm, ?_, ?_⟩, hG, hG2⟩
  · rw [ho, h.1] at hK
    exact hK
  · rw [List.drop_drop, ← ho2]
    exact hK2
theorem opens_struct {α β : Type} {P : Program} {t : TypeId} {fs : Array Field} {d : Kd α} {f : β → α} {g : α → β} {G : α → Prop} (ht : P.underlying t = some (.struct fs)) (hc : P.cellsOf t = d.sz) (hfg : ∀ a, f (g a) = a) (h : OpensTail P fs.toList 0 d G) :
    Opens P t (Kd.iso d f) (fun b => G (f b)) := by
  refine ⟨hc, fun {H enc w base spare held fuel cs x} hx => ?_⟩
  obtain ⟨xs, n, rfl, _, hl, hxl, hf⟩ := DataW.trod_struct ht hx
  obtain ⟨a, hK, hG⟩ := h (enc := enc) (w := w) (base := base) (spare := spare) (held := held) (fuel := n) (cs := cs) (fun f' hf' => by
    obtain ⟨i, hi⟩ := List.getElem?_of_mem hf'
    have hi' : fs[i]? = some f' := by simpa using hi
    have hlt : i < fs.size := (Array.getElem?_eq_some_iff.1 hi').1
    exact ⟨xs[i]'(by omega), by rw [hf i f' hi', List.getElem?_eq_getElem]⟩) (by rw [hl, hc, Nat.zero_add])
  refine ⟨g a, ?_, ?_⟩
  · show d.K w (f (g a)) cs
    rw [hfg]
    simpa using hK
  · show G (f (g a))
    rw [hfg]
    exact hG
end Go.Proofs.Ytihbalbcocfnfab.O
end
namespace Go.Proofs.Ytihbalbcocfnfab.fnExactSizesOf
open Go.ChangeShapes Go.WideShapes Go.ChangeAt Go.RowKit
open Go.ChangeMaps (open_string shut_string)
open Go.Proofs.Ytihbalbcocfnfab.P Go.Proofs.Ytihbalbcocfnfab.P.UFnExactSizesOf Go.Proofs.YtihbalbcocfnfabW.PrintWords
set_option linter.unusedVariables false
theorem own : ownKnob Try.prog.godebug = none := by kernel_rfl
theorem laidOut : laidOutB Try.prog = true := by kernel_rfl
set_option maxRecDepth 100000 in
theorem opens24 : O.Opens Try.prog 24 k24 (fun x => G24 x) := by
  have h := O.opens_struct (P := Try.prog) (t := 24) (f := fun x : S24 => (x.f0, x.f1, x.f2)) (g := fun a => (⟨a.1, a.2.1, a.2.2⟩ : S24)) Try.underlying24 (by kernel_rfl) (fun _ => rfl) (O.tail_cons rfl (O.opens_int Try.underlying2 (by kernel_rfl)) rfl (O.tail_cons rfl (O.opens_int Try.underlying2 (by kernel_rfl)) rfl (O.tail_one rfl (O.opens_slice Try.underlying22 (by kernel_rfl) (O.opens_string Try.underlying9 (by kernel_rfl))))))
  exact h
set_option maxRecDepth 100000 in
theorem lifted (os : Os) (started : os.Started) (H : Type) (enc : TypeId × Value → H) :
    ReturnsInHanded {} Try.checked os 3 .any (Rows.fnExactSizesOfSpec.pre6 enc Try.prog Try.f3 Rows.fnExactSizesOfRow.domain false) (Rows.fnExactSizesOfSpec.post enc Try.prog Try.f3 false true false false) := by
  refine returnsInHanded_of_change_sized (C := Try.checked) own started (by kernel_rfl) Try.func3
    (ChangeSpec.witness6 (enc := enc) (C := Try.checked) false ⟨#[], #[.agg #[.int .i64 0, .int .i64 0, .slice none 0 0]], []⟩ 8 (by kernel_rfl) (by kernel_rfl) (by kernel_rfl) (by kernel_rfl)) ?_
  intro W base args ds gs before hval0 hW hcnd hsz0 _
  have hval : ∀ (j : Nat) t v, Try.f3.params[j]? = some t → args[j]? = some v → Value.okWide Try.prog W .any base t v := hval0
  have hW' := hW
  obtain ⟨p, q, hA0, hV, rfl, hfz, hnd⟩ := hW
  have hA : DataW.TrodAll enc Try.prog W 0 (fun _ => true) true Try.f3.params.toList args.toList ds p := hA0
  rw [Try.params3] at hA hval
  obtain ⟨v0, vs0, d0, ds0, p0, q0, hargs, rfl, rfl, h0, r0⟩ := trodAll_cons hA
  obtain ⟨rfl, rfl, rfl⟩ := trodAll_nil r0
  obtain rfl : args = #[v0] := by cases args; simp_all
  obtain ⟨rfl, rfl⟩ := trodVars_none hV
  have k0_ := h0
  have lt0 : ∀ x ∈ p0, x.block < W.heap.size := by obtain ⟨m, hm⟩ := k0_; exact DataW.trod_lt m _ _ _ hm
  obtain ⟨cs0, rfl⟩ : ∃ cs, v0 = .agg cs := by
    have hv := (hval 0 24 v0 rfl rfl)
    unfold Value.okWide at hv
    rw [Try.underlying24] at hv
    obtain ⟨cs, e, _⟩ := hv
    exact ⟨cs, e⟩
  obtain ⟨fuel0, hf0⟩ := h0
  obtain ⟨s0, hK0, g0⟩ := opens24.2 hf0
  obtain ⟨A0_2, c0_2, hcs0, hc0_2, hr0_2⟩ := k24_open hK0
  obtain rfl : cs0 = #[.int .i64 s0.f0, .int .i64 s0.f1, .slice A0_2 s0.f2.length c0_2] := by
    have e_ : cs0.toList = [.int .i64 s0.f0, .int .i64 s0.f1, .slice A0_2 s0.f2.length c0_2] := hcs0
    cases cs0; simp_all
  clear hA0 hval0 hsz0
  obtain ⟨k, h⟩ := VFnExactSizesOf.proof s0.f0 s0.f1 s0.f2 g0.1 g0.2.1 g0.2.2
  refine (laws_FnExactSizesOf.calls k s0.f0 s0.f1 _ _ s0.f2 true W hr0_2 hc0_2 h rfl).mono fun e W' hend => ?_
  obtain ⟨rfl, hbel⟩ := hend
  have bel : Below W.heap.size W W' := hbel
  exact ⟨_, rfl, _, _, _, [], _, [], hW', trodAll_mk1 (shut_bool Try.underlying4 _), (trodAll_cons_mk (Below.trod laidOut (by kernel_rfl) (of_decide_eq_true (by kernel_rfl)) k0_ bel lt0) trodAll_mk0), rfl, bel.frame _, fun h => by cases h⟩
theorem over : Rows.fnExactSizesOfRow.holds Try.pinned (OpenSpec.ofChange Rows.fnExactSizesOfSpec) :=
  OpenClaim.holds_of_wide 3 Try.f3 rfl rfl rfl rfl rfl rfl rfl ⟨rfl, rfl, rfl, rfl, rfl⟩ rfl rfl rfl rfl rfl (by kernel_rfl) Try.func3 (by kernel_rfl)
    (of_decide_eq_true (by kernel_rfl)) (by unfold Func.isWrapper; first | (rw [if_pos (by decide +kernel)]; kernel_rfl) | (rw [if_neg (by decide +kernel)]; exact ⟨rfl, rfl⟩))
    (fun os started H enc _ => lifted os started H enc)
theorem proved : Rows.FnExactSizesOfSaid := over
#print axioms proved
end Go.Proofs.Ytihbalbcocfnfab.fnExactSizesOf
namespace Go.Proofs.Ytihbalbcocfnfab
theorem fnExactSizesOf_holds : Rows.FnExactSizesOfSaid := fnExactSizesOf.proved
end Go.Proofs.Ytihbalbcocfnfab
