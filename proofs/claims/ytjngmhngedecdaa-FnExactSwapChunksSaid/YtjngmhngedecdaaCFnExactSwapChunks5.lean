/- FnExactSwapChunks: the law of the program holds at every input: the Go function returns true, and its arguments read afterwards as before.
Conditions: none beyond the given statement's own (what can be read as data, of a size that memory bears). -/
import Derived.Lib.Strings
import Derived.Lib.Bytealg
import Derived.Laws.BytesArg
import Derived.SliceStrings
import Derived.DataReads
import Derived.DataElems
import Derived.Test.YtjngmhngedecdaaRows
import Derived.WalkKit
import Derived.ProofKit
import Derived.OpenShut
import Derived.ShutString
import Derived.ChangeOld
import Derived.Below
import Derived.SizedLaws
import Derived.Carry
import Derived.Test.YtjngmhngedecdaaCFnExactSwapChunks1
import Derived.Test.YtjngmhngedecdaaCFnExactSwapChunks2
import Derived.Test.YtjngmhngedecdaaCFnExactSwapChunks3
import Derived.Test.YtjngmhngedecdaaCFnExactSwapChunks4
section
namespace Go.Proofs.Ytjngmhngedecdaa.P
open Go.RowKit Go.Proofs.YtjngmhngedecdaaW.PrintWords Go.Proofs.YtjngmhngedecdaaW.PrintLast Go.Proofs.YtjngmhngedecdaaW.PrintMore
attribute [local go_sem] max2_int min2_int max_two min_two max_three min_three max_four min_four
set_option linter.unusedVariables false
set_option linter.unusedSimpArgs false
theorem leafLt {α : Type} {d : Kd α} {e base m : Nat} {A : Nat → Prop} {w : World} {v : Value} {xs : List α} (hm : w.heap.size = m) (h : Kd.S d e w base (fun k => True ∧ A k) v xs) : Kd.S d e w base (fun k => k < m ∧ A k) v xs :=
 Kd.S_mono (Kd.S_bound h) (fun k hk => ⟨by have := hk.2.2.1; omega, hk.1.2⟩)
theorem leafIn {α : Type} {d : Kd α} {e base m : Nat} {L A B : Nat → Prop} {w : World} {v : Value} {xs : List α} (hm : w.heap.size = m) (h : Kd.S d e w base (fun k => (L k ∧ A k) ∧ B k) v xs) : Kd.S d e w base (fun k => ((L k ∧ k < m) ∧ A k) ∧ B k) v xs :=
 Kd.S_mono (Kd.S_bound h) (fun k hk => ⟨⟨⟨hk.1.1.1, by have := hk.2.2.1; omega⟩, hk.1.1.2⟩, hk.1.2⟩)
theorem arrive {α : Type} {d : Kd α} {e : Nat} {w w' : World} {v : Value} {xs : List α} (h : Kd.S d e w' w.heap.size (fun _ => True) v xs) : ∃ m, w.heap.size = m ∧ Kd.S d e w' w.heap.size (fun k => m ≤ k) v xs :=
 ⟨_, rfl, Kd.S_mono (Kd.S_bound h) (fun k hk => hk.2.1)⟩
def laws_FnExactSwapChunks.j0 : Nat → List (S53) → Bool → Int → List (S58) → Int → List (S58) → Option (Bool)
 | 0, _, _, _, _, _, _ => none
 | k + 1, x0, x42, x1103000, x1103001, x1111000, x1111001 => if x42 = true then (some false) else ((laws_markChunksResult.f k x1111000 x1111001 1).bind fun bt1119 => ((laws_heldChunksResult.f k x1111000 bt1119.2 1).bind fun t1121 => (if t1121 < 0 then (some false) else (if t1121 = bt1119.1 then ((laws_toChunkS.f k x0).bind fun t1122 => ((impl_SwapChunks.f k t1122).bind fun bt1125 => ((laws_eqChunksResult.f k bt1125.1 bt1125.2 x1103000 x1103001).bind fun t1130 => (if t1130 = true then ((laws_heldChunksResult.f k x1111000 bt1119.2 1).bind fun t1131 => (if t1131 < 0 then (some false) else (if t1131 = bt1119.1 then (some true) else (some false)))) else (some false))))) else (some false)))))
def laws_FnExactSwapChunks.f (k : Nat) (l0 : List (S53)) : Option (Bool) := (laws_szChunkS.f k l0 1048576).bind fun t1094 => (if t1094 < 0 then (some true) else ((laws_toChunkS.f k l0).bind fun t1095 => ((spec_SwapChunks.f k t1095).bind fun bt1098 => ((laws_toChunkS.f k l0).bind fun t1103 => ((impl_SwapChunks.f k t1103).bind fun bt1106 => ((laws_eqChunksResult.f k bt1106.1 bt1106.2 bt1098.1 bt1098.2).bind fun t1111 => (if t1111 = true then ((laws_toChunkS.f k l0).bind fun t1112 => ((laws_eqChunkS.f k t1103 t1112).bind fun t1115 => (if t1115 = true then ((laws_markChunkS.f k t1103 1).bind fun bt1116 => (if bt1116.1 < 0 then (laws_FnExactSwapChunks.j0 k l0 true bt1098.1 bt1098.2 bt1106.1 bt1106.2) else ((laws_eqChunksResult.f k bt1106.1 bt1106.2 bt1098.1 bt1098.2).bind fun t1118 => (laws_FnExactSwapChunks.j0 k l0 (!t1118) bt1098.1 bt1098.2 bt1106.1 bt1106.2)))) else (some false)))) else (some false))))))))
set_option maxHeartbeats 8000000 in
set_option maxRecDepth 100000 in
theorem laws_FnExactSwapChunks.calls (k : Nat) (A0 : Option Addr) (c0 : Nat) (l0 : List (S53)) (r : Bool) (w : World) (hr0 : Kd.C k53 w A0 l0.length l0) (hc0 : l0.length ≤ c0) (h : laws_FnExactSwapChunks.f k l0 = some r) (hlaw : r = true) :
  Calls Try.prog 9 #[.slice A0 l0.length c0] w fun e w' => e = .returned (.bool r) ∧ Below w.heap.size w w' := by
 have hu71 := Try.underlying71
 have HR0 := Aside0.mk hr0
 have HC0 := Aside0.mk hc0
 clear hr0 hc0
 have HB := Aside0.mk (Below.refl w.heap.size w)
 have HLAW := Aside0.mk hlaw
 clear hlaw
 have H : ((laws_szChunkS.f k l0 1048576).bind fun t1094 => (if t1094 < 0 then (some true) else ((laws_toChunkS.f k l0).bind fun t1095 => ((spec_SwapChunks.f k t1095).bind fun bt1098 => ((laws_toChunkS.f k l0).bind fun t1103 => ((impl_SwapChunks.f k t1103).bind fun bt1106 => ((laws_eqChunksResult.f k bt1106.1 bt1106.2 bt1098.1 bt1098.2).bind fun t1111 => (if t1111 = true then ((laws_toChunkS.f k l0).bind fun t1112 => ((laws_eqChunkS.f k t1103 t1112).bind fun t1115 => (if t1115 = true then ((laws_markChunkS.f k t1103 1).bind fun bt1116 => (if bt1116.1 < 0 then (laws_FnExactSwapChunks.j0 k l0 true bt1098.1 bt1098.2 bt1106.1 bt1106.2) else ((laws_eqChunksResult.f k bt1106.1 bt1106.2 bt1098.1 bt1098.2).bind fun t1118 => (laws_FnExactSwapChunks.j0 k l0 (!t1118) bt1098.1 bt1098.2 bt1106.1 bt1106.2)))) else (some false)))) else (some false))))))))) = some r := h
 clear h
 replace H := Option.bind_eq_some_iff.mp H
 obtain ⟨t1094, A20, H⟩ := H
 replace H : (if t1094 < 0 then (some true) else ((laws_toChunkS.f k l0).bind fun t1095 => ((spec_SwapChunks.f k t1095).bind fun bt1098 => ((laws_toChunkS.f k l0).bind fun t1103 => ((impl_SwapChunks.f k t1103).bind fun bt1106 => ((laws_eqChunksResult.f k bt1106.1 bt1106.2 bt1098.1 bt1098.2).bind fun t1111 => (if t1111 = true then ((laws_toChunkS.f k l0).bind fun t1112 => ((laws_eqChunkS.f k t1103 t1112).bind fun t1115 => (if t1115 = true then ((laws_markChunkS.f k t1103 1).bind fun bt1116 => (if bt1116.1 < 0 then (laws_FnExactSwapChunks.j0 k l0 true bt1098.1 bt1098.2 bt1106.1 bt1106.2) else ((laws_eqChunksResult.f k bt1106.1 bt1106.2 bt1098.1 bt1098.2).bind fun t1118 => (laws_FnExactSwapChunks.j0 k l0 (!t1118) bt1098.1 bt1098.2 bt1106.1 bt1106.2)))) else (some false)))) else (some false)))))))) = some r := H
 have A2 := Aside0.mk A20
 clear A20
 by_cases c3 : t1094 < 0
 ·rw [if_pos c3] at H
  have c3b0 : decide (t1094 < 0) = true := decide_eq_true c3
  clear c3
  obtain rfl := Option.some.inj H
  go_enter Try.func9, Try.ntmps9
  go_wp2_with (first | ((with_reducible refine gate_callee (f := 31) rfl ?_); refine goesL_ (some 13) rfl rfl Try.func31 (by kernel_rfl) rfl #[.slice A0 l0.length c0, .int .i64 1048576] rfl (by (try simp only [List.map_toArray, List.map_cons, List.map_nil]); first | done | rfl | (simp only [List.length_drop, List.length_take]; rfl)) ?_; (with_reducible refine (laws_szChunkS.calls k _ _ l0 1048576 t1094 _ ?side1 ?side2 A2.out).mono ?_); (case side1 => repeat (first | exact HR0.out | (with_reducible refine Kd.C_alloc ?_ _) | (with_reducible refine Kd.C_drewN ?_ _) | (with_reducible refine Kd.C_drew ?_))); (case side2 => exact HC0.out); rintro e w4 ⟨rfl, hb⟩; refine ⟨_, rfl, ?_⟩; have n0_ := Aside0.mk (below_step (by repeat (first | (with_reducible first | exact HB.out | apply below_alloc | apply pw_below_drewN | apply below_drew1) | exact HB.out)) hb); clear HB; have HB := n0_; clear n0_; (try clear hb); (try clear hb2); (try clear hk); (try clear hi)))
  go_ret
  exact ⟨by first | rfl | (simp [errW_none, errW_some] <;> rfl) | (simp [*, errW_none, errW_some] <;> rfl), by repeat (first | (with_reducible first | exact HB.out | apply below_alloc | apply pw_below_drewN | apply below_drew1) | exact HB.out)⟩
 ·rw [if_neg c3] at H
  have c3b0 : decide (t1094 < 0) = false := decide_eq_false c3
  clear c3
  replace H := Option.bind_eq_some_iff.mp H
  obtain ⟨t1095, A50, H⟩ := H
  replace H : ((spec_SwapChunks.f k t1095).bind fun bt1098 => ((laws_toChunkS.f k l0).bind fun t1103 => ((impl_SwapChunks.f k t1103).bind fun bt1106 => ((laws_eqChunksResult.f k bt1106.1 bt1106.2 bt1098.1 bt1098.2).bind fun t1111 => (if t1111 = true then ((laws_toChunkS.f k l0).bind fun t1112 => ((laws_eqChunkS.f k t1103 t1112).bind fun t1115 => (if t1115 = true then ((laws_markChunkS.f k t1103 1).bind fun bt1116 => (if bt1116.1 < 0 then (laws_FnExactSwapChunks.j0 k l0 true bt1098.1 bt1098.2 bt1106.1 bt1106.2) else ((laws_eqChunksResult.f k bt1106.1 bt1106.2 bt1098.1 bt1098.2).bind fun t1118 => (laws_FnExactSwapChunks.j0 k l0 (!t1118) bt1098.1 bt1098.2 bt1106.1 bt1106.2)))) else (some false)))) else (some false)))))) = some r := H
  have A5 := Aside0.mk A50
  clear A50
  replace H := Option.bind_eq_some_iff.mp H
  obtain ⟨⟨t1098, t1099⟩, A60, H⟩ := H
  replace H : ((laws_toChunkS.f k l0).bind fun t1103 => ((impl_SwapChunks.f k t1103).bind fun bt1106 => ((laws_eqChunksResult.f k bt1106.1 bt1106.2 t1098 t1099).bind fun t1111 => (if t1111 = true then ((laws_toChunkS.f k l0).bind fun t1112 => ((laws_eqChunkS.f k t1103 t1112).bind fun t1115 => (if t1115 = true then ((laws_markChunkS.f k t1103 1).bind fun bt1116 => (if bt1116.1 < 0 then (laws_FnExactSwapChunks.j0 k l0 true t1098 t1099 bt1106.1 bt1106.2) else ((laws_eqChunksResult.f k bt1106.1 bt1106.2 t1098 t1099).bind fun t1118 => (laws_FnExactSwapChunks.j0 k l0 (!t1118) t1098 t1099 bt1106.1 bt1106.2)))) else (some false)))) else (some false))))) = some r := H
  have A6 := Aside0.mk A60
  clear A60
  replace H := Option.bind_eq_some_iff.mp H
  obtain ⟨t1103, A70, H⟩ := H
  replace H : ((impl_SwapChunks.f k t1103).bind fun bt1106 => ((laws_eqChunksResult.f k bt1106.1 bt1106.2 t1098 t1099).bind fun t1111 => (if t1111 = true then ((laws_toChunkS.f k l0).bind fun t1112 => ((laws_eqChunkS.f k t1103 t1112).bind fun t1115 => (if t1115 = true then ((laws_markChunkS.f k t1103 1).bind fun bt1116 => (if bt1116.1 < 0 then (laws_FnExactSwapChunks.j0 k l0 true t1098 t1099 bt1106.1 bt1106.2) else ((laws_eqChunksResult.f k bt1106.1 bt1106.2 t1098 t1099).bind fun t1118 => (laws_FnExactSwapChunks.j0 k l0 (!t1118) t1098 t1099 bt1106.1 bt1106.2)))) else (some false)))) else (some false)))) = some r := H
  have A7 := Aside0.mk A70
  clear A70
  replace H := Option.bind_eq_some_iff.mp H
  obtain ⟨⟨t1106, t1107⟩, A80, H⟩ := H
  replace H : ((laws_eqChunksResult.f k t1106 t1107 t1098 t1099).bind fun t1111 => (if t1111 = true then ((laws_toChunkS.f k l0).bind fun t1112 => ((laws_eqChunkS.f k t1103 t1112).bind fun t1115 => (if t1115 = true then ((laws_markChunkS.f k t1103 1).bind fun bt1116 => (if bt1116.1 < 0 then (laws_FnExactSwapChunks.j0 k l0 true t1098 t1099 t1106 t1107) else ((laws_eqChunksResult.f k t1106 t1107 t1098 t1099).bind fun t1118 => (laws_FnExactSwapChunks.j0 k l0 (!t1118) t1098 t1099 t1106 t1107)))) else (some false)))) else (some false))) = some r := H
  have A8 := Aside0.mk A80
  clear A80
  replace H := Option.bind_eq_some_iff.mp H
  obtain ⟨t1111, A90, H⟩ := H
  replace H : (if t1111 = true then ((laws_toChunkS.f k l0).bind fun t1112 => ((laws_eqChunkS.f k t1103 t1112).bind fun t1115 => (if t1115 = true then ((laws_markChunkS.f k t1103 1).bind fun bt1116 => (if bt1116.1 < 0 then (laws_FnExactSwapChunks.j0 k l0 true t1098 t1099 t1106 t1107) else ((laws_eqChunksResult.f k t1106 t1107 t1098 t1099).bind fun t1118 => (laws_FnExactSwapChunks.j0 k l0 (!t1118) t1098 t1099 t1106 t1107)))) else (some false)))) else (some false)) = some r := H
  have A9 := Aside0.mk A90
  clear A90
  by_cases c10 : t1111 = true
  ·subst c10
   have H1 : ((laws_toChunkS.f k l0).bind fun t1112 => ((laws_eqChunkS.f k t1103 t1112).bind fun t1115 => (if t1115 = true then ((laws_markChunkS.f k t1103 1).bind fun bt1116 => (if bt1116.1 < 0 then (laws_FnExactSwapChunks.j0 k l0 true t1098 t1099 t1106 t1107) else ((laws_eqChunksResult.f k t1106 t1107 t1098 t1099).bind fun t1118 => (laws_FnExactSwapChunks.j0 k l0 (!t1118) t1098 t1099 t1106 t1107)))) else (some false)))) = some r := by rw [if_pos rfl] at H; exact H
   clear H
   have H := H1
   clear H1
   replace H := Option.bind_eq_some_iff.mp H
   obtain ⟨t1112, A110, H⟩ := H
   replace H : ((laws_eqChunkS.f k t1103 t1112).bind fun t1115 => (if t1115 = true then ((laws_markChunkS.f k t1103 1).bind fun bt1116 => (if bt1116.1 < 0 then (laws_FnExactSwapChunks.j0 k l0 true t1098 t1099 t1106 t1107) else ((laws_eqChunksResult.f k t1106 t1107 t1098 t1099).bind fun t1118 => (laws_FnExactSwapChunks.j0 k l0 (!t1118) t1098 t1099 t1106 t1107)))) else (some false))) = some r := H
   have A11 := Aside0.mk A110
   clear A110
   replace H := Option.bind_eq_some_iff.mp H
   obtain ⟨t1115, A120, H⟩ := H
   replace H : (if t1115 = true then ((laws_markChunkS.f k t1103 1).bind fun bt1116 => (if bt1116.1 < 0 then (laws_FnExactSwapChunks.j0 k l0 true t1098 t1099 t1106 t1107) else ((laws_eqChunksResult.f k t1106 t1107 t1098 t1099).bind fun t1118 => (laws_FnExactSwapChunks.j0 k l0 (!t1118) t1098 t1099 t1106 t1107)))) else (some false)) = some r := H
   have A12 := Aside0.mk A120
   clear A120
   by_cases c13 : t1115 = true
   ·subst c13
    have H1 : ((laws_markChunkS.f k t1103 1).bind fun bt1116 => (if bt1116.1 < 0 then (laws_FnExactSwapChunks.j0 k l0 true t1098 t1099 t1106 t1107) else ((laws_eqChunksResult.f k t1106 t1107 t1098 t1099).bind fun t1118 => (laws_FnExactSwapChunks.j0 k l0 (!t1118) t1098 t1099 t1106 t1107)))) = some r := by rw [if_pos rfl] at H; exact H
    clear H
    have H := H1
    clear H1
    replace H := Option.bind_eq_some_iff.mp H
    obtain ⟨⟨t1116, t1117⟩, A140, H⟩ := H
    replace H : (if t1116 < 0 then (laws_FnExactSwapChunks.j0 k l0 true t1098 t1099 t1106 t1107) else ((laws_eqChunksResult.f k t1106 t1107 t1098 t1099).bind fun t1118 => (laws_FnExactSwapChunks.j0 k l0 (!t1118) t1098 t1099 t1106 t1107))) = some r := H
    have A14 := Aside0.mk A140
    clear A140
    have HC15 := Aside0.mk H
    clear H
    go_enter Try.func9, Try.ntmps9
    go_upto_region 14 with (first | ((with_reducible refine gate_callee (f := 31) rfl ?_); refine goesL_ (some 13) rfl rfl Try.func31 (by kernel_rfl) rfl #[.slice A0 l0.length c0, .int .i64 1048576] rfl (by (try simp only [List.map_toArray, List.map_cons, List.map_nil]); first | done | rfl | (simp only [List.length_drop, List.length_take]; rfl)) ?_; (with_reducible refine (laws_szChunkS.calls k _ _ l0 1048576 t1094 _ ?side1 ?side2 A2.out).mono ?_); (case side1 => repeat (first | exact HR0.out | (with_reducible refine Kd.C_alloc ?_ _) | (with_reducible refine Kd.C_drewN ?_ _) | (with_reducible refine Kd.C_drew ?_))); (case side2 => exact HC0.out); rintro e w16 ⟨rfl, hb⟩; refine ⟨_, rfl, ?_⟩; have n0_ := Aside0.mk (below_step (by repeat (first | (with_reducible first | exact HB.out | apply below_alloc | apply pw_below_drewN | apply below_drew1) | exact HB.out)) hb); clear HB; have HB := n0_; clear n0_; (try clear hb); (try clear hb2); (try clear hk); (try clear hi)) | ((with_reducible refine gate_callee (f := 33) rfl ?_); refine goesL_ (some 17) rfl rfl Try.func33 (by kernel_rfl) rfl #[.slice A0 l0.length c0] rfl (by (try simp only [List.map_toArray, List.map_cons, List.map_nil]); first | done | rfl | (simp only [List.length_drop, List.length_take]; rfl)) ?_; (with_reducible refine (laws_toChunkS.calls k _ _ l0 t1095 _ ?side1 ?side2 A5.out).mono ?_); (case side1 => repeat (first | exact (Kd.C_below HR0.out HB.out) | (with_reducible refine Kd.C_alloc ?_ _) | (with_reducible refine Kd.C_drewN ?_ _) | (with_reducible refine Kd.C_drew ?_))); (case side2 => exact HC0.out); rintro e w17 ⟨v1096, rfl, ho0, hb⟩; refine ⟨_, rfl, ?_⟩; have n0_ := Aside0.mk (Kd.S_lower ho0 (below_size (by repeat (first | (with_reducible first | exact HB.out | apply below_alloc | apply pw_below_drewN | apply below_drew1) | exact HB.out)))); have n1_ := Aside0.mk (below_step (by repeat (first | (with_reducible first | exact HB.out | apply below_alloc | apply pw_below_drewN | apply below_drew1) | exact HB.out)) hb); clear HB; have HO1097 := n0_; have HB := n1_; clear n0_ n1_; (try clear hb); (try clear hb2); (try clear hk); (try clear hi); (try clear ho0); obtain ⟨Ao18, co18, eo18⟩ := Kd.S_slice HO1097.out; subst eo18) | ((with_reducible refine gate_callee (f := 49) rfl ?_); refine goesL_ (some 18) rfl rfl Try.func49 (by kernel_rfl) rfl #[.slice Ao18 t1095.length co18] rfl (by (try simp only [List.map_toArray, List.map_cons, List.map_nil]); first | done | rfl | (simp only [List.length_drop, List.length_take]; rfl)) ?_; (with_reducible refine (spec_SwapChunks.calls k _ _ t1095 t1098 t1099 _ ?side1 ?side2 A6.out).mono ?_); (case side1 => repeat (first | exact (Kd.S_reads' HO1097.out).2.2 | (with_reducible refine Kd.C_alloc ?_ _) | (with_reducible refine Kd.C_drewN ?_ _) | (with_reducible refine Kd.C_drew ?_))); (case side2 => exact (Kd.S_reads' HO1097.out).2.1); rintro e w19 ⟨v1100, rfl, ho0, hb⟩; refine ⟨_, rfl, ?_⟩; have n0_ := Aside0.mk (Kd.S_elder' (by (with_reducible repeat (first | apply Kd.S_alloc | apply Kd.S_drewN | apply Kd.S_drew)); exact HO1097.out) (Kd.S_base ho0) hb); have n1_ := Aside0.mk (Kd.S_lower (Kd.S_new' ho0 (Kd.S_lt (by (with_reducible repeat (first | apply Kd.S_alloc | apply Kd.S_drewN | apply Kd.S_drew)); exact HO1097.out))) (below_size (by repeat (first | (with_reducible first | exact HB.out | apply below_alloc | apply pw_below_drewN | apply below_drew1) | exact HB.out)))); have n2_ := Aside0.mk (below_step (by repeat (first | (with_reducible first | exact HB.out | apply below_alloc | apply pw_below_drewN | apply below_drew1) | exact HB.out)) hb); clear HO1097; clear HB; have HO1097 := n0_; have HO1101 := n1_; have HB := n2_; clear n0_ n1_ n2_; (try clear hb); (try clear hb2); (try clear hk); (try clear hi); (try clear ho0)) | ((with_reducible refine gate_dst (N := 4) rfl ?_); refine box_event ?hg (N := 4) ?hd (cs := #[.int .i64 0, .slice none 0 0]) (t := 71) ?hr ?_; (case hd => rfl); (case hg => rfl); (case hr => first | (go_simp; done) | (go_simp; rfl)); intro gb1102 hg w20 hbox hb; have n0_ := Aside0.mk (Kd.S_below (by (with_reducible repeat (first | apply Kd.S_alloc | apply Kd.S_drewN | apply Kd.S_drew)); exact HO1097.out) hb); have n1_ := Aside0.mk (Kd.S_below (by (with_reducible repeat (first | apply Kd.S_alloc | apply Kd.S_drewN | apply Kd.S_drew)); exact HO1101.out) hb); have n2_ := Aside0.mk (below_step (by repeat (first | (with_reducible first | exact HB.out | apply below_alloc | apply pw_below_drewN | apply below_drew1) | exact HB.out)) hb); have n3_ := Aside0.mk (hbox); have n4_ := Aside0.mk ((by rw [hg]; exact (below_size (by repeat (first | (with_reducible first | exact HB.out | apply below_alloc | apply pw_below_drewN | apply below_drew1) | exact HB.out))) : w.heap.size ≤ gb1102)); have n5_ := Aside0.mk ((by rw [hg]; exact (below_size (by repeat (first | (with_reducible first | exact HB.out | apply below_alloc | apply pw_below_drewN | apply below_drew1) | exact HB.out))) : w.heap.size ≤ gb1102)); clear HO1097; clear HO1101; clear HB; have HO1097 := n0_; have HO1101 := n1_; have HB := n2_; have BK1102 := n3_; have GW1102 := n4_; have GE1102 := n5_; clear n0_ n1_ n2_ n3_ n4_ n5_; clear hb hbox hg; have hcz21_0 : w20.cell? ⟨gb1102, 0, none⟩ = some (.int .i64 0) := (blk_cell BK1102.out 0).trans rfl; have hcz21_1 : w20.cell? ⟨gb1102, 1, none⟩ = some (.slice none 0 0) := (blk_cell BK1102.out 1).trans rfl; have hfz21_0 := blk_frozen BK1102.out 0; have hfz21_1 := blk_frozen BK1102.out 1; obtain ⟨Ao22, co22, eo22⟩ := Kd.S_slice HO1101.out; subst eo22) | ((with_reducible refine gate_callee (f := 33) rfl ?_); refine goesL_ (some 20) rfl rfl Try.func33 (by kernel_rfl) rfl #[.slice A0 l0.length c0] rfl (by (try simp only [List.map_toArray, List.map_cons, List.map_nil]); first | done | rfl | (simp only [List.length_drop, List.length_take]; rfl)) ?_; (with_reducible refine (laws_toChunkS.calls k _ _ l0 t1103 _ ?side1 ?side2 A7.out).mono ?_); (case side1 => exact Kd.C_below HR0.out (by repeat (first | (with_reducible first | exact HB.out | apply below_alloc | apply pw_below_drewN | apply below_drew1 | refine below_set ?_ GE1102.out) | exact HB.out))); (case side2 => exact HC0.out); rintro e w23 ⟨v1104, rfl, ho0, hb⟩; refine ⟨_, rfl, ?_⟩; obtain ⟨m1, hm1, ho0⟩ := arrive ho0; have n0_ := Aside0.mk (Kd.S_elder' (leafLt hm1 <| by (with_reducible repeat (first | apply Kd.S_alloc | apply Kd.S_drewN | apply Kd.S_drew)); exact (Kd.S_mono (Kd.S_far (p := ⟨gb1102, 1, none⟩) (Kd.S_far (p := ⟨gb1102, 0, none⟩) (Kd.S_types HO1097.out BK1102.out (by decide)) (fun _ hk => hk.2) (.int .i64 t1098)) (fun _ hk => hk.2) (.slice Ao22 t1099.length co22)) (fun _ h_ => h_.1))) (Kd.S_base ho0) hb); have n1_ := Aside0.mk (Kd.S_elder' (leafLt hm1 <| by (with_reducible repeat (first | apply Kd.S_alloc | apply Kd.S_drewN | apply Kd.S_drew)); exact (Kd.S_mono (Kd.S_far (p := ⟨gb1102, 1, none⟩) (Kd.S_far (p := ⟨gb1102, 0, none⟩) (Kd.S_types HO1101.out BK1102.out (by decide)) (fun _ hk => hk.2) (.int .i64 t1098)) (fun _ hk => hk.2) (.slice Ao22 t1099.length co22)) (fun _ h_ => h_.1))) (Kd.S_base ho0) hb); have n2_ := Aside0.mk (Kd.S_lower (Kd.S_new' (Kd.S_new' ho0 (Kd.S_lt (by (with_reducible repeat (first | apply Kd.S_alloc | apply Kd.S_drewN | apply Kd.S_drew)); exact (Kd.S_mono (Kd.S_far (p := ⟨gb1102, 1, none⟩) (Kd.S_far (p := ⟨gb1102, 0, none⟩) (Kd.S_types HO1097.out BK1102.out (by decide)) (fun _ hk => hk.2) (.int .i64 t1098)) (fun _ hk => hk.2) (.slice Ao22 t1099.length co22)) (fun _ h_ => h_.1))))) (Kd.S_lt (by (with_reducible repeat (first | apply Kd.S_alloc | apply Kd.S_drewN | apply Kd.S_drew)); exact (Kd.S_mono (Kd.S_far (p := ⟨gb1102, 1, none⟩) (Kd.S_far (p := ⟨gb1102, 0, none⟩) (Kd.S_types HO1101.out BK1102.out (by decide)) (fun _ hk => hk.2) (.int .i64 t1098)) (fun _ hk => hk.2) (.slice Ao22 t1099.length co22)) (fun _ h_ => h_.1))))) (below_size (by repeat (first | (with_reducible first | exact HB.out | apply below_alloc | apply pw_below_drewN | apply below_drew1 | refine below_set ?_ GE1102.out) | exact HB.out)))); have n3_ := Aside0.mk (blk_below (g := gb1102) (o := .cells #[.int .i64 t1098, .slice Ao22 t1099.length co22] 71 (0, 0)) (by (with_reducible repeat (first | refine blk_drewN ?_ _ | refine blk_drew ?_ | refine blk_alloc ?_ _)); refine blk_put (cs := #[.int .i64 t1098, .slice none 0 0]) ?_ 1 _ rfl; (with_reducible repeat (first | refine blk_drewN ?_ _ | refine blk_drew ?_ | refine blk_alloc ?_ _)); refine blk_put (cs := #[.int .i64 0, .slice none 0 0]) ?_ 0 _ rfl; (with_reducible repeat (first | refine blk_drewN ?_ _ | refine blk_drew ?_ | refine blk_alloc ?_ _)); exact BK1102.out) hb); have n4_ := Aside0.mk (below_step (by repeat (first | (with_reducible first | exact HB.out | apply below_alloc | apply pw_below_drewN | apply below_drew1 | refine below_set ?_ GE1102.out) | exact HB.out)) hb); clear HO1097; clear HO1101; clear BK1102; clear HB; have HO1097 := n0_; have HO1101 := n1_; have HO1105 := n2_; have BK1102 := n3_; have HB := n4_; clear n0_ n1_ n2_ n3_ n4_; (try clear hb); (try clear hb2); (try clear hk); (try clear hi); (try clear ho0); clear hm1; obtain ⟨Ao24, co24, eo24⟩ := Kd.S_slice HO1105.out; subst eo24) | ((with_reducible refine gate_callee (f := 50) rfl ?_); refine goesL_ (some 22) rfl rfl Try.func50 (by kernel_rfl) rfl #[.slice Ao24 t1103.length co24] rfl (by (try simp only [List.map_toArray, List.map_cons, List.map_nil]); first | done | rfl | (simp only [List.length_drop, List.length_take]; rfl)) ?_; (with_reducible refine (impl_SwapChunks.calls k _ _ t1103 t1106 t1107 _ ?side1 ?side2 A8.out).mono ?_); (case side1 => repeat (first | exact (Kd.S_reads' HO1105.out).2.2 | (with_reducible refine Kd.C_alloc ?_ _) | (with_reducible refine Kd.C_drewN ?_ _) | (with_reducible refine Kd.C_drew ?_))); (case side2 => exact (Kd.S_reads' HO1105.out).2.1); rintro e w25 ⟨v1108, rfl, ho0, hb⟩; refine ⟨_, rfl, ?_⟩; obtain ⟨m2, hm2, ho0⟩ := arrive ho0; have n0_ := Aside0.mk (Kd.S_elder' (leafIn hm2 <| by (with_reducible repeat (first | apply Kd.S_alloc | apply Kd.S_drewN | apply Kd.S_drew)); exact HO1097.out) (Kd.S_base ho0) hb); have n1_ := Aside0.mk (Kd.S_elder' (leafIn hm2 <| by (with_reducible repeat (first | apply Kd.S_alloc | apply Kd.S_drewN | apply Kd.S_drew)); exact HO1101.out) (Kd.S_base ho0) hb); have n2_ := Aside0.mk (Kd.S_elder' (leafIn hm2 <| by (with_reducible repeat (first | apply Kd.S_alloc | apply Kd.S_drewN | apply Kd.S_drew)); exact HO1105.out) (Kd.S_base ho0) hb); have n3_ := Aside0.mk (Kd.S_lower (Kd.S_new' (Kd.S_new' (Kd.S_new' ho0 (Kd.S_lt (by (with_reducible repeat (first | apply Kd.S_alloc | apply Kd.S_drewN | apply Kd.S_drew)); exact HO1097.out))) (Kd.S_lt (by (with_reducible repeat (first | apply Kd.S_alloc | apply Kd.S_drewN | apply Kd.S_drew)); exact HO1101.out))) (Kd.S_lt (by (with_reducible repeat (first | apply Kd.S_alloc | apply Kd.S_drewN | apply Kd.S_drew)); exact HO1105.out))) (below_size (by repeat (first | (with_reducible first | exact HB.out | apply below_alloc | apply pw_below_drewN | apply below_drew1 | refine below_set ?_ GE1102.out) | exact HB.out)))); have n4_ := Aside0.mk (blk_below (g := gb1102) (o := .cells #[.int .i64 t1098, .slice Ao22 t1099.length co22] 71 (0, 0)) (by (with_reducible repeat (first | refine blk_drewN ?_ _ | refine blk_drew ?_ | refine blk_alloc ?_ _)); exact BK1102.out) hb); have n5_ := Aside0.mk (below_step (by repeat (first | (with_reducible first | exact HB.out | apply below_alloc | apply pw_below_drewN | apply below_drew1 | refine below_set ?_ GE1102.out) | exact HB.out)) hb); clear HO1097; clear HO1101; clear HO1105; clear BK1102; clear HB; have HO1097 := n0_; have HO1101 := n1_; have HO1105 := n2_; have HO1109 := n3_; have BK1102 := n4_; have HB := n5_; clear n0_ n1_ n2_ n3_ n4_ n5_; (try clear hb); (try clear hb2); (try clear hk); (try clear hi); clear hm2; (try clear ho0)) | ((with_reducible refine gate_dst (N := 6) rfl ?_); refine box_event ?hg (N := 6) ?hd (cs := #[.int .i64 0, .slice none 0 0]) (t := 71) ?hr ?_; (case hd => rfl); (case hg => rfl); (case hr => first | (go_simp; done) | (go_simp; rfl)); intro gb1110 hg w26 hbox hb; have n0_ := Aside0.mk (Kd.S_below (by (with_reducible repeat (first | apply Kd.S_alloc | apply Kd.S_drewN | apply Kd.S_drew)); exact HO1097.out) hb); have n1_ := Aside0.mk (Kd.S_below (by (with_reducible repeat (first | apply Kd.S_alloc | apply Kd.S_drewN | apply Kd.S_drew)); exact HO1101.out) hb); have n2_ := Aside0.mk (Kd.S_below (by (with_reducible repeat (first | apply Kd.S_alloc | apply Kd.S_drewN | apply Kd.S_drew)); exact HO1105.out) hb); have n3_ := Aside0.mk (Kd.S_below (by (with_reducible repeat (first | apply Kd.S_alloc | apply Kd.S_drewN | apply Kd.S_drew)); exact HO1109.out) hb); have n4_ := Aside0.mk (blk_below (g := gb1102) (o := .cells #[.int .i64 t1098, .slice Ao22 t1099.length co22] 71 (0, 0)) (by (with_reducible repeat (first | refine blk_drewN ?_ _ | refine blk_drew ?_ | refine blk_alloc ?_ _)); exact BK1102.out) hb); have n5_ := Aside0.mk (below_step (by repeat (first | (with_reducible first | exact HB.out | apply below_alloc | apply pw_below_drewN | apply below_drew1 | refine below_set ?_ GE1102.out) | exact HB.out)) hb); have n6_ := Aside0.mk (hbox); have n7_ := Aside0.mk ((by rw [hg]; exact (below_size (by repeat (first | (with_reducible first | exact HB.out | apply below_alloc | apply pw_below_drewN | apply below_drew1 | refine below_set ?_ GE1102.out) | exact HB.out))) : w.heap.size ≤ gb1110)); have n8_ := Aside0.mk ((by rw [hg]; exact (below_size (by repeat (first | (with_reducible first | exact HB.out | apply below_alloc | apply pw_below_drewN | apply below_drew1 | refine below_set ?_ GE1102.out) | exact HB.out))) : w.heap.size ≤ gb1110)); have n9_ := Aside0.mk ((by rw [hg]; exact Nat.ne_of_lt (blk_lt (g := gb1102) (o := .cells #[.int .i64 t1098, .slice Ao22 t1099.length co22] 71 (0, 0)) (by (with_reducible repeat (first | refine blk_drewN ?_ _ | refine blk_drew ?_ | refine blk_alloc ?_ _)); exact BK1102.out)) : gb1102 ≠ gb1110)); have n10_ := Aside0.mk ((by rw [hg]; exact Nat.ne_of_gt (blk_lt (g := gb1102) (o := .cells #[.int .i64 t1098, .slice Ao22 t1099.length co22] 71 (0, 0)) (by (with_reducible repeat (first | refine blk_drewN ?_ _ | refine blk_drew ?_ | refine blk_alloc ?_ _)); exact BK1102.out)) : gb1110 ≠ gb1102)); clear HO1097; clear HO1101; clear HO1105; clear HO1109; clear BK1102; clear HB; have HO1097 := n0_; have HO1101 := n1_; have HO1105 := n2_; have HO1109 := n3_; have BK1102 := n4_; have HB := n5_; have BK1110 := n6_; have GW1110 := n7_; have GE1110 := n8_; have NB1102_1110 := n9_; have NB1110_1102 := n10_; clear n0_ n1_ n2_ n3_ n4_ n5_ n6_ n7_ n8_ n9_ n10_; clear hb hbox hg; have hnb27 := NB1110_1102.out; have hnc27 := NB1102_1110.out; have hcz28_0 : w26.cell? ⟨gb1110, 0, none⟩ = some (.int .i64 0) := (blk_cell BK1110.out 0).trans rfl; have hcz28_1 : w26.cell? ⟨gb1110, 1, none⟩ = some (.slice none 0 0) := (blk_cell BK1110.out 1).trans rfl; have hfz28_0 := blk_frozen BK1110.out 0; have hfz28_1 := blk_frozen BK1110.out 1; obtain ⟨Ao29, co29, eo29⟩ := Kd.S_slice HO1109.out; subst eo29; have hcz30_0 : w26.cell? ⟨gb1102, 0, none⟩ = some (.int .i64 t1098) := (blk_cell BK1102.out 0).trans rfl; have hcz30_1 : w26.cell? ⟨gb1102, 1, none⟩ = some (.slice Ao22 t1099.length co22) := (blk_cell BK1102.out 1).trans rfl; have hfz30_0 := blk_frozen BK1102.out 0; have hfz30_1 := blk_frozen BK1102.out 1) | ((with_reducible refine gate_callee (f := 51) rfl ?_); refine goesL_ (some 25) rfl rfl Try.func51 (by kernel_rfl) rfl #[.agg #[.int .i64 t1106, .slice Ao29 t1107.length co29], .agg #[.int .i64 t1098, .slice Ao22 t1099.length co22]] rfl (by (try simp only [List.map_toArray, List.map_cons, List.map_nil]); first | done | rfl | (simp only [List.length_drop, List.length_take]; rfl)) ?_; (with_reducible refine (laws_eqChunksResult.calls k t1106 _ _ t1107 t1098 _ _ t1099 true _ ?side1 ?side2 ?side3 ?side4 A9.out).mono ?_); (case side1 => refine (Kd.S_reads' (e := 58) (base := w.heap.size) (ok := fun k_ => (((m2 ≤ k_ ∧ some k_ ≠ (.slice Ao18 t1095.length co18 : Value).ownBlock) ∧ some k_ ≠ (.slice Ao22 t1099.length co22 : Value).ownBlock) ∧ some k_ ≠ (.slice Ao24 t1103.length co24 : Value).ownBlock)) (n := t1107.length) (c := co29) ?_).2.2; exact (by (with_reducible repeat (first | apply Kd.S_alloc | apply Kd.S_drewN | apply Kd.S_drew)); exact (Kd.S_mono (Kd.S_far (p := ⟨gb1110, 1, none⟩) (Kd.S_far (p := ⟨gb1110, 0, none⟩) (Kd.S_types HO1109.out BK1110.out (by decide)) (fun _ hk => hk.2) (.int .i64 t1106)) (fun _ hk => hk.2) (.slice Ao29 t1107.length co29)) (fun _ h_ => h_.1)))); (case side2 => exact (Kd.S_reads' HO1109.out).2.1); (case side3 => refine (Kd.S_reads' (e := 58) (base := w.heap.size) (ok := fun k_ => ((((k_ < m1 ∧ k_ < m2) ∧ some k_ ≠ (.slice Ao18 t1095.length co18 : Value).ownBlock) ∧ some k_ ≠ (.slice Ao24 t1103.length co24 : Value).ownBlock) ∧ some k_ ≠ (.slice Ao29 t1107.length co29 : Value).ownBlock)) (n := t1099.length) (c := co22) ?_).2.2; exact (by (with_reducible repeat (first | apply Kd.S_alloc | apply Kd.S_drewN | apply Kd.S_drew)); exact (Kd.S_mono (Kd.S_far (p := ⟨gb1110, 1, none⟩) (Kd.S_far (p := ⟨gb1110, 0, none⟩) (Kd.S_types HO1101.out BK1110.out (by decide)) (fun _ hk => hk.2) (.int .i64 t1106)) (fun _ hk => hk.2) (.slice Ao29 t1107.length co29)) (fun _ h_ => h_.1)))); (case side4 => exact (Kd.S_reads' HO1101.out).2.1); rintro e w31 ⟨rfl, hb⟩; refine ⟨_, rfl, ?_⟩; have n0_ := Aside0.mk (Kd.S_below (by (with_reducible repeat (first | apply Kd.S_alloc | apply Kd.S_drewN | apply Kd.S_drew)); exact (Kd.S_mono (Kd.S_far (p := ⟨gb1110, 1, none⟩) (Kd.S_far (p := ⟨gb1110, 0, none⟩) (Kd.S_types HO1097.out BK1110.out (by decide)) (fun _ hk => hk.2) (.int .i64 t1106)) (fun _ hk => hk.2) (.slice Ao29 t1107.length co29)) (fun _ h_ => h_.1))) hb); have n1_ := Aside0.mk (Kd.S_below (by (with_reducible repeat (first | apply Kd.S_alloc | apply Kd.S_drewN | apply Kd.S_drew)); exact (Kd.S_mono (Kd.S_far (p := ⟨gb1110, 1, none⟩) (Kd.S_far (p := ⟨gb1110, 0, none⟩) (Kd.S_types HO1101.out BK1110.out (by decide)) (fun _ hk => hk.2) (.int .i64 t1106)) (fun _ hk => hk.2) (.slice Ao29 t1107.length co29)) (fun _ h_ => h_.1))) hb); have n2_ := Aside0.mk (Kd.S_below (by (with_reducible repeat (first | apply Kd.S_alloc | apply Kd.S_drewN | apply Kd.S_drew)); exact (Kd.S_mono (Kd.S_far (p := ⟨gb1110, 1, none⟩) (Kd.S_far (p := ⟨gb1110, 0, none⟩) (Kd.S_types HO1105.out BK1110.out (by decide)) (fun _ hk => hk.2) (.int .i64 t1106)) (fun _ hk => hk.2) (.slice Ao29 t1107.length co29)) (fun _ h_ => h_.1))) hb); have n3_ := Aside0.mk (Kd.S_below (by (with_reducible repeat (first | apply Kd.S_alloc | apply Kd.S_drewN | apply Kd.S_drew)); exact (Kd.S_mono (Kd.S_far (p := ⟨gb1110, 1, none⟩) (Kd.S_far (p := ⟨gb1110, 0, none⟩) (Kd.S_types HO1109.out BK1110.out (by decide)) (fun _ hk => hk.2) (.int .i64 t1106)) (fun _ hk => hk.2) (.slice Ao29 t1107.length co29)) (fun _ h_ => h_.1))) hb); have n4_ := Aside0.mk (blk_below (g := gb1102) (o := .cells #[.int .i64 t1098, .slice Ao22 t1099.length co22] 71 (0, 0)) (by (with_reducible repeat (first | refine blk_drewN ?_ _ | refine blk_drew ?_ | refine blk_alloc ?_ _)); refine blk_far ?_ NB1102_1110.out _; (with_reducible repeat (first | refine blk_drewN ?_ _ | refine blk_drew ?_ | refine blk_alloc ?_ _)); refine blk_far ?_ NB1102_1110.out _; (with_reducible repeat (first | refine blk_drewN ?_ _ | refine blk_drew ?_ | refine blk_alloc ?_ _)); exact BK1102.out) hb); have n5_ := Aside0.mk (blk_below (g := gb1110) (o := .cells #[.int .i64 t1106, .slice Ao29 t1107.length co29] 71 (0, 0)) (by (with_reducible repeat (first | refine blk_drewN ?_ _ | refine blk_drew ?_ | refine blk_alloc ?_ _)); refine blk_put (cs := #[.int .i64 t1106, .slice none 0 0]) ?_ 1 _ rfl; (with_reducible repeat (first | refine blk_drewN ?_ _ | refine blk_drew ?_ | refine blk_alloc ?_ _)); refine blk_put (cs := #[.int .i64 0, .slice none 0 0]) ?_ 0 _ rfl; (with_reducible repeat (first | refine blk_drewN ?_ _ | refine blk_drew ?_ | refine blk_alloc ?_ _)); exact BK1110.out) hb); have n6_ := Aside0.mk (below_step (by repeat (first | (with_reducible first | exact HB.out | apply below_alloc | apply pw_below_drewN | apply below_drew1 | refine below_set ?_ GE1102.out | refine below_set ?_ GE1110.out) | exact HB.out)) hb); clear HO1097; clear HO1101; clear HO1105; clear HO1109; clear BK1102; clear BK1110; clear HB; have HO1097 := n0_; have HO1101 := n1_; have HO1105 := n2_; have HO1109 := n3_; have BK1102 := n4_; have BK1110 := n5_; have HB := n6_; clear n0_ n1_ n2_ n3_ n4_ n5_ n6_; (try clear hb); (try clear hb2); (try clear hk); (try clear hi)) | ((with_reducible refine gate_callee (f := 33) rfl ?_); refine goesL_ (some 29) rfl rfl Try.func33 (by kernel_rfl) rfl #[.slice A0 l0.length c0] rfl (by (try simp only [List.map_toArray, List.map_cons, List.map_nil]); first | done | rfl | (simp only [List.length_drop, List.length_take]; rfl)) ?_; (with_reducible refine (laws_toChunkS.calls k _ _ l0 t1112 _ ?side1 ?side2 A11.out).mono ?_); (case side1 => repeat (first | exact (Kd.C_below HR0.out HB.out) | (with_reducible refine Kd.C_alloc ?_ _) | (with_reducible refine Kd.C_drewN ?_ _) | (with_reducible refine Kd.C_drew ?_))); (case side2 => exact HC0.out); rintro e w32 ⟨v1113, rfl, ho0, hb⟩; refine ⟨_, rfl, ?_⟩; have n0_ := Aside0.mk (Kd.S_elder' (by (with_reducible repeat (first | apply Kd.S_alloc | apply Kd.S_drewN | apply Kd.S_drew)); exact HO1097.out) (Kd.S_base ho0) hb); have n1_ := Aside0.mk (Kd.S_elder' (by (with_reducible repeat (first | apply Kd.S_alloc | apply Kd.S_drewN | apply Kd.S_drew)); exact HO1101.out) (Kd.S_base ho0) hb); have n2_ := Aside0.mk (Kd.S_elder' (by (with_reducible repeat (first | apply Kd.S_alloc | apply Kd.S_drewN | apply Kd.S_drew)); exact HO1105.out) (Kd.S_base ho0) hb); have n3_ := Aside0.mk (Kd.S_elder' (by (with_reducible repeat (first | apply Kd.S_alloc | apply Kd.S_drewN | apply Kd.S_drew)); exact HO1109.out) (Kd.S_base ho0) hb); have n4_ := Aside0.mk (Kd.S_lower (Kd.S_new' (Kd.S_new' (Kd.S_new' (Kd.S_new' ho0 (Kd.S_lt (by (with_reducible repeat (first | apply Kd.S_alloc | apply Kd.S_drewN | apply Kd.S_drew)); exact HO1097.out))) (Kd.S_lt (by (with_reducible repeat (first | apply Kd.S_alloc | apply Kd.S_drewN | apply Kd.S_drew)); exact HO1101.out))) (Kd.S_lt (by (with_reducible repeat (first | apply Kd.S_alloc | apply Kd.S_drewN | apply Kd.S_drew)); exact HO1105.out))) (Kd.S_lt (by (with_reducible repeat (first | apply Kd.S_alloc | apply Kd.S_drewN | apply Kd.S_drew)); exact HO1109.out))) (below_size (by repeat (first | (with_reducible first | exact HB.out | apply below_alloc | apply pw_below_drewN | apply below_drew1 | refine below_set ?_ GE1102.out | refine below_set ?_ GE1110.out) | exact HB.out)))); have n5_ := Aside0.mk (blk_below (g := gb1102) (o := .cells #[.int .i64 t1098, .slice Ao22 t1099.length co22] 71 (0, 0)) (by (with_reducible repeat (first | refine blk_drewN ?_ _ | refine blk_drew ?_ | refine blk_alloc ?_ _)); exact BK1102.out) hb); have n6_ := Aside0.mk (blk_below (g := gb1110) (o := .cells #[.int .i64 t1106, .slice Ao29 t1107.length co29] 71 (0, 0)) (by (with_reducible repeat (first | refine blk_drewN ?_ _ | refine blk_drew ?_ | refine blk_alloc ?_ _)); exact BK1110.out) hb); have n7_ := Aside0.mk (below_step (by repeat (first | (with_reducible first | exact HB.out | apply below_alloc | apply pw_below_drewN | apply below_drew1 | refine below_set ?_ GE1102.out | refine below_set ?_ GE1110.out) | exact HB.out)) hb); clear HO1097; clear HO1101; clear HO1105; clear HO1109; clear BK1102; clear BK1110; clear HB; have HO1097 := n0_; have HO1101 := n1_; have HO1105 := n2_; have HO1109 := n3_; have HO1114 := n4_; have BK1102 := n5_; have BK1110 := n6_; have HB := n7_; clear n0_ n1_ n2_ n3_ n4_ n5_ n6_ n7_; (try clear hb); (try clear hb2); (try clear hk); (try clear hi); (try clear ho0); obtain ⟨Ao33, co33, eo33⟩ := Kd.S_slice HO1114.out; subst eo33) | ((with_reducible refine gate_callee (f := 35) rfl ?_); refine goesL_ (some 30) rfl rfl Try.func35 (by kernel_rfl) rfl #[.slice Ao24 t1103.length co24, .slice Ao33 t1112.length co33] rfl (by (try simp only [List.map_toArray, List.map_cons, List.map_nil]); first | done | rfl | (simp only [List.length_drop, List.length_take]; rfl)) ?_; (with_reducible refine (laws_eqChunkS.calls k _ _ t1103 _ _ t1112 true _ ?side1 ?side2 ?side3 ?side4 A12.out).mono ?_); (case side1 => repeat (first | exact (Kd.S_reads' HO1105.out).2.2 | (with_reducible refine Kd.C_alloc ?_ _) | (with_reducible refine Kd.C_drewN ?_ _) | (with_reducible refine Kd.C_drew ?_))); (case side2 => exact (Kd.S_reads' HO1105.out).2.1); (case side3 => repeat (first | exact (Kd.S_reads' HO1114.out).2.2 | (with_reducible refine Kd.C_alloc ?_ _) | (with_reducible refine Kd.C_drewN ?_ _) | (with_reducible refine Kd.C_drew ?_))); (case side4 => exact (Kd.S_reads' HO1114.out).2.1); rintro e w34 ⟨rfl, hb⟩; refine ⟨_, rfl, ?_⟩; have n0_ := Aside0.mk (Kd.S_below (by (with_reducible repeat (first | apply Kd.S_alloc | apply Kd.S_drewN | apply Kd.S_drew)); exact HO1097.out) hb); have n1_ := Aside0.mk (Kd.S_below (by (with_reducible repeat (first | apply Kd.S_alloc | apply Kd.S_drewN | apply Kd.S_drew)); exact HO1101.out) hb); have n2_ := Aside0.mk (Kd.S_below (by (with_reducible repeat (first | apply Kd.S_alloc | apply Kd.S_drewN | apply Kd.S_drew)); exact HO1105.out) hb); have n3_ := Aside0.mk (Kd.S_below (by (with_reducible repeat (first | apply Kd.S_alloc | apply Kd.S_drewN | apply Kd.S_drew)); exact HO1109.out) hb); have n4_ := Aside0.mk (Kd.S_below (by (with_reducible repeat (first | apply Kd.S_alloc | apply Kd.S_drewN | apply Kd.S_drew)); exact HO1114.out) hb); have n5_ := Aside0.mk (blk_below (g := gb1102) (o := .cells #[.int .i64 t1098, .slice Ao22 t1099.length co22] 71 (0, 0)) (by (with_reducible repeat (first | refine blk_drewN ?_ _ | refine blk_drew ?_ | refine blk_alloc ?_ _)); exact BK1102.out) hb); have n6_ := Aside0.mk (blk_below (g := gb1110) (o := .cells #[.int .i64 t1106, .slice Ao29 t1107.length co29] 71 (0, 0)) (by (with_reducible repeat (first | refine blk_drewN ?_ _ | refine blk_drew ?_ | refine blk_alloc ?_ _)); exact BK1110.out) hb); have n7_ := Aside0.mk (below_step (by repeat (first | (with_reducible first | exact HB.out | apply below_alloc | apply pw_below_drewN | apply below_drew1 | refine below_set ?_ GE1102.out | refine below_set ?_ GE1110.out) | exact HB.out)) hb); clear HO1097; clear HO1101; clear HO1105; clear HO1109; clear HO1114; clear BK1102; clear BK1110; clear HB; have HO1097 := n0_; have HO1101 := n1_; have HO1105 := n2_; have HO1109 := n3_; have HO1114 := n4_; have BK1102 := n5_; have BK1110 := n6_; have HB := n7_; clear n0_ n1_ n2_ n3_ n4_ n5_ n6_ n7_; (try clear hb); (try clear hb2); (try clear hk); (try clear hi)) | ((with_reducible refine gate_callee (f := 36) rfl ?_); refine goesL_ (some 34) rfl rfl Try.func36 (by kernel_rfl) rfl #[.slice Ao24 t1103.length co24, .int .i64 1] rfl (by (try simp only [List.map_toArray, List.map_cons, List.map_nil]); first | done | rfl | (simp only [List.length_drop, List.length_take]; rfl)) ?_; (with_reducible refine (laws_markChunkS.calls k (fun k_ => ((((((m1 ≤ k_ ∧ k_ < m2) ∧ some k_ ≠ (.slice Ao18 t1095.length co18 : Value).ownBlock) ∧ some k_ ≠ (.slice Ao22 t1099.length co22 : Value).ownBlock) ∧ some k_ ≠ (.slice Ao29 t1107.length co29 : Value).ownBlock) ∧ some k_ ≠ (.slice Ao33 t1112.length co33 : Value).ownBlock) ∧ k_ ≠ gb1102) ∧ k_ ≠ gb1110) (.slice Ao24 t1103.length co24) t1103 1 t1116 t1117 w _ ?side1 ?side2 A14.out).mono ?_); (case side1 => repeat (first | (with_reducible first | exact HB.out | apply below_alloc | apply pw_below_drewN | apply below_drew1 | refine below_set ?_ GE1102.out | refine below_set ?_ GE1110.out) | exact HB.out)); (case side2 => exact Kd.S_types (Kd.S_types HO1105.out (by (with_reducible repeat (first | refine blk_drewN ?_ _ | refine blk_drew ?_ | refine blk_alloc ?_ _)); exact BK1102.out) (by decide)) (by (with_reducible repeat (first | refine blk_drewN ?_ _ | refine blk_drew ?_ | refine blk_alloc ?_ _)); exact BK1110.out) (by decide)); rintro e w35 ⟨rfl, hy0, hb, hkp⟩; refine ⟨_, rfl, ?_⟩; have n0_ := Aside0.mk (Kd.S_mono (ok' := fun k_ => k_ < m2 ∧ some k_ ≠ (.slice Ao22 t1099.length co22 : Value).ownBlock ∧ some k_ ≠ (.slice Ao24 t1103.length co24 : Value).ownBlock ∧ some k_ ≠ (.slice Ao29 t1107.length co29 : Value).ownBlock ∧ some k_ ≠ (.slice Ao33 t1112.length co33 : Value).ownBlock) (Kd.S_keptB (HO1097.out) hkp (fun k_ hk_ hs_ => absurd hk_.1.1.1.1.1 (Nat.not_lt.2 hs_.1.1.1.1.1.1.1))) (fun k_ hk_ => ⟨hk_.1.1.1.1.1.2, hk_.1.1.1.1.2, hk_.1.1.1.2, hk_.1.1.2, hk_.1.2⟩)); have n1_ := Aside0.mk (Kd.S_mono (ok' := fun k_ => k_ < m2 ∧ some k_ ≠ (.slice Ao18 t1095.length co18 : Value).ownBlock ∧ some k_ ≠ (.slice Ao24 t1103.length co24 : Value).ownBlock ∧ some k_ ≠ (.slice Ao29 t1107.length co29 : Value).ownBlock ∧ some k_ ≠ (.slice Ao33 t1112.length co33 : Value).ownBlock) (Kd.S_keptB (HO1101.out) hkp (fun k_ hk_ hs_ => absurd hk_.1.1.1.1.1 (Nat.not_lt.2 hs_.1.1.1.1.1.1.1))) (fun k_ hk_ => ⟨hk_.1.1.1.1.1.2, hk_.1.1.1.1.2, hk_.1.1.1.2, hk_.1.1.2, hk_.1.2⟩)); have n2_ := Aside0.mk (blk_kept (by (with_reducible repeat (first | refine blk_drewN ?_ _ | refine blk_drew ?_ | refine blk_alloc ?_ _)); exact BK1102.out) hkp (fun hs_ => hs_.1.2 rfl)); have n3_ := Aside0.mk (hy0); have n4_ := Aside0.mk (Kd.S_mono (ok' := fun k_ => m2 ≤ k_ ∧ some k_ ≠ (.slice Ao18 t1095.length co18 : Value).ownBlock ∧ some k_ ≠ (.slice Ao22 t1099.length co22 : Value).ownBlock ∧ some k_ ≠ (.slice Ao24 t1103.length co24 : Value).ownBlock ∧ some k_ ≠ (.slice Ao33 t1112.length co33 : Value).ownBlock) (Kd.S_keptB (HO1109.out) hkp (fun k_ hk_ hs_ => absurd hs_.1.1.1.1.1.1.2 (Nat.not_lt.2 hk_.1.1.1.1))) (fun k_ hk_ => ⟨hk_.1.1.1.1.1, hk_.1.1.1.1.2, hk_.1.1.1.2, hk_.1.1.2, hk_.1.2⟩)); have n5_ := Aside0.mk (blk_kept (by (with_reducible repeat (first | refine blk_drewN ?_ _ | refine blk_drew ?_ | refine blk_alloc ?_ _)); exact BK1110.out) hkp (fun hs_ => hs_.2 rfl));  have n7_ := Aside0.mk (hb); clear HO1097; clear HO1101; clear BK1102; clear HO1105; clear HO1109; clear BK1110; clear HO1114; clear HB; have HO1097 := n0_; have HO1101 := n1_; have BK1102 := n2_; have HO1105 := n3_; have HO1109 := n4_; have BK1110 := n5_; have HB := n7_; clear n0_ n1_ n2_ n3_ n4_ n5_ n7_; (try clear hb); (try clear hkp); (try clear hy0)))
    (try simp only [Act.put, List.setIfInBounds_toArray, List.set_cons_zero, List.set_cons_succ])
    go_cut [42] (fun v42 wc => ∃ (kq : Nat) (x42_14 : Bool), v42 = .bool x42_14 ∧ Aside0 (laws_FnExactSwapChunks.j0 kq l0 x42_14 t1098 t1099 t1106 t1107 = some r) ∧ Aside0 (kq ≤ k) ∧ Aside0 (Kd.S k58 58 wc w.heap.size (fun k_ => k_ < m2 ∧ some k_ ≠ ((.slice Ao29 t1107.length co29) : Value).ownBlock) (.slice Ao22 t1099.length co22) t1099) ∧ Aside0 (Kd.S k58 58 wc w.heap.size (fun k_ => m2 ≤ k_ ∧ some k_ ≠ ((.slice Ao22 t1099.length co22) : Value).ownBlock) (.slice Ao29 t1107.length co29) t1107) ∧ Aside0 (wc.heap[gb1102]? = some (.cells #[.int .i64 t1098, (.slice Ao22 t1099.length co22)] 71 (0, 0))) ∧ Aside0 (wc.heap[gb1110]? = some (.cells #[.int .i64 t1106, (.slice Ao29 t1107.length co29)] 71 (0, 0))) ∧ Aside0 (Below w.heap.size w wc))
    case first =>
     have H := HC15.out
     clear HC15
     by_cases c36 : t1116 < 0
     ·rw [if_pos c36] at H
      have c36b0 : decide (t1116 < 0) = true := decide_eq_true c36
      clear c36
      (first | rw [c36b0] | (simp only [i64_w, i32_w]; rw [c36b0]) | skip)
      have H' := Aside0.mk H
      clear H
      go_wp2
      go_meet
      case rel => exact ⟨_, (true), (by first | rfl | (simp; done) | (simp [*]; done)), H', ⟨by first | omega | exact Nat.le_refl _⟩, ⟨by (with_reducible repeat (first | apply Kd.S_alloc | apply Kd.S_drewN | apply Kd.S_drew)); exact Kd.S_mono HO1101.out (fun _ hk => ⟨hk.1, hk.2.2.2.1⟩)⟩, ⟨by (with_reducible repeat (first | apply Kd.S_alloc | apply Kd.S_drewN | apply Kd.S_drew)); exact Kd.S_mono HO1109.out (fun _ hk => ⟨hk.1, hk.2.2.1⟩)⟩, ⟨by (with_reducible repeat (first | refine blk_drewN ?_ _ | refine blk_drew ?_ | refine blk_alloc ?_ _)); exact BK1102.out⟩, ⟨by (with_reducible repeat (first | refine blk_drewN ?_ _ | refine blk_drew ?_ | refine blk_alloc ?_ _)); exact BK1110.out⟩, ⟨by repeat (first | (with_reducible first | exact HB.out | apply below_alloc | apply pw_below_drewN | apply below_drew1 | refine below_set ?_ GE1102.out | refine below_set ?_ GE1110.out) | exact HB.out)⟩⟩
     ·rw [if_neg c36] at H
      have c36b0 : decide (t1116 < 0) = false := decide_eq_false c36
      clear c36
      (first | rw [c36b0] | (simp only [i64_w, i32_w]; rw [c36b0]) | skip)
      replace H := Option.bind_eq_some_iff.mp H
      obtain ⟨t1118, A370, H⟩ := H
      replace H : (laws_FnExactSwapChunks.j0 k l0 (!t1118) t1098 t1099 t1106 t1107) = some r := H
      have A37 := Aside0.mk A370
      clear A370
      have H' := Aside0.mk H
      clear H
      have hnb38 := NB1110_1102.out
      have hnc38 := NB1102_1110.out
      have hcz39_0 : w35.cell? ⟨gb1110, 0, none⟩ = some (.int .i64 t1106) := (blk_cell BK1110.out 0).trans rfl
      have hcz39_1 : w35.cell? ⟨gb1110, 1, none⟩ = some (.slice Ao29 t1107.length co29) := (blk_cell BK1110.out 1).trans rfl
      have hfz39_0 := blk_frozen BK1110.out 0
      have hfz39_1 := blk_frozen BK1110.out 1
      have hcz40_0 : w35.cell? ⟨gb1102, 0, none⟩ = some (.int .i64 t1098) := (blk_cell BK1102.out 0).trans rfl
      have hcz40_1 : w35.cell? ⟨gb1102, 1, none⟩ = some (.slice Ao22 t1099.length co22) := (blk_cell BK1102.out 1).trans rfl
      have hfz40_0 := blk_frozen BK1102.out 0
      have hfz40_1 := blk_frozen BK1102.out 1
      go_wp2_with (first | (go_at_call 51; (with_reducible refine (laws_eqChunksResult.calls k t1106 _ _ t1107 t1098 _ _ t1099 t1118 _ ?side1 ?side2 ?side3 ?side4 A37.out).mono ?_); (case side1 => repeat (first | exact (Kd.S_reads' HO1109.out).2.2 | (with_reducible refine Kd.C_alloc ?_ _) | (with_reducible refine Kd.C_drewN ?_ _) | (with_reducible refine Kd.C_drew ?_))); (case side2 => exact (Kd.S_reads' HO1109.out).2.1); (case side3 => repeat (first | exact (Kd.S_reads' HO1101.out).2.2 | (with_reducible refine Kd.C_alloc ?_ _) | (with_reducible refine Kd.C_drewN ?_ _) | (with_reducible refine Kd.C_drew ?_))); (case side4 => exact (Kd.S_reads' HO1101.out).2.1); rintro e w41 ⟨rfl, hb⟩; have n0_ := Aside0.mk (Kd.S_below (by (with_reducible repeat (first | apply Kd.S_alloc | apply Kd.S_drewN | apply Kd.S_drew)); exact HO1097.out) hb); have n1_ := Aside0.mk (Kd.S_below (by (with_reducible repeat (first | apply Kd.S_alloc | apply Kd.S_drewN | apply Kd.S_drew)); exact HO1101.out) hb); have n2_ := Aside0.mk (Kd.S_below (by (with_reducible repeat (first | apply Kd.S_alloc | apply Kd.S_drewN | apply Kd.S_drew)); exact HO1105.out) hb); have n3_ := Aside0.mk (Kd.S_below (by (with_reducible repeat (first | apply Kd.S_alloc | apply Kd.S_drewN | apply Kd.S_drew)); exact HO1109.out) hb); have n5_ := Aside0.mk (blk_below (g := gb1102) (o := .cells #[.int .i64 t1098, .slice Ao22 t1099.length co22] 71 (0, 0)) (by (with_reducible repeat (first | refine blk_drewN ?_ _ | refine blk_drew ?_ | refine blk_alloc ?_ _)); exact BK1102.out) hb); have n6_ := Aside0.mk (blk_below (g := gb1110) (o := .cells #[.int .i64 t1106, .slice Ao29 t1107.length co29] 71 (0, 0)) (by (with_reducible repeat (first | refine blk_drewN ?_ _ | refine blk_drew ?_ | refine blk_alloc ?_ _)); exact BK1110.out) hb); have n7_ := Aside0.mk (below_step (by repeat (first | (with_reducible first | exact HB.out | apply below_alloc | apply pw_below_drewN | apply below_drew1 | refine below_set ?_ GE1102.out | refine below_set ?_ GE1110.out) | exact HB.out)) hb); clear HO1097; clear HO1101; clear HO1105; clear HO1109; clear BK1102; clear BK1110; clear HB; have HO1097 := n0_; have HO1101 := n1_; have HO1105 := n2_; have HO1109 := n3_; have BK1102 := n5_; have BK1110 := n6_; have HB := n7_; clear n0_ n1_ n2_ n3_ n5_ n6_ n7_; (try clear hb); (try clear hb2); (try clear hk); (try clear hi)))
      go_meet
      case rel => exact ⟨_, (!t1118), (by first | rfl | (simp; done) | (simp [*]; done)), H', ⟨by first | omega | exact Nat.le_refl _⟩, ⟨by (with_reducible repeat (first | apply Kd.S_alloc | apply Kd.S_drewN | apply Kd.S_drew)); exact Kd.S_mono HO1101.out (fun _ hk => ⟨hk.1, hk.2.2.2.1⟩)⟩, ⟨by (with_reducible repeat (first | apply Kd.S_alloc | apply Kd.S_drewN | apply Kd.S_drew)); exact Kd.S_mono HO1109.out (fun _ hk => ⟨hk.1, hk.2.2.1⟩)⟩, ⟨by (with_reducible repeat (first | refine blk_drewN ?_ _ | refine blk_drew ?_ | refine blk_alloc ?_ _)); exact BK1102.out⟩, ⟨by (with_reducible repeat (first | refine blk_drewN ?_ _ | refine blk_drew ?_ | refine blk_alloc ?_ _)); exact BK1110.out⟩, ⟨by repeat (first | (with_reducible first | exact HB.out | apply below_alloc | apply pw_below_drewN | apply below_drew1 | refine below_set ?_ GE1102.out | refine below_set ?_ GE1110.out) | exact HB.out)⟩⟩
    case rest =>
     clear HC15
     try clear c1
     try clear c2
     try clear p2
     try clear c3
     try clear c3b0
     try clear c4
     try clear c5
     try clear c9
     try clear c10
     try clear c13
     try clear c27
     try clear c31
     try clear c33
     try clear c35
     try clear c36
     try clear c36b0
     try clear c38
     try clear hcz21_0
     try clear hcz21_1
     try clear hcz28_0
     try clear hcz28_1
     try clear hcz30_0
     try clear hcz30_1
     try clear hcz39_0
     try clear hcz39_1
     try clear hcz40_0
     try clear hcz40_1
     try clear hfz21_0
     try clear hfz21_1
     try clear hfz28_0
     try clear hfz28_1
     try clear hfz30_0
     try clear hfz30_1
     try clear hfz39_0
     try clear hfz39_1
     try clear hfz40_0
     try clear hfz40_1
     obtain ⟨kq, x42_14, rfl, HA, HJ14, HO_1103001, HO_1111001, BK1102, BK1110, HB⟩ := hcut
     cases kq with
     | zero => exact absurd HA.out (by simp [laws_FnExactSwapChunks.j0])
     | succ kj14 =>
      have H := HA.out
      clear HA
      simp only [laws_FnExactSwapChunks.j0] at H
      by_cases c42 : x42_14 = true
      ·subst c42
       have H1 : (some false) = some r := by rw [if_pos rfl] at H; exact H
       clear H
       have H := H1
       clear H1
       exact absurd ((Option.some.inj H).trans HLAW.out) (by decide)
      ·replace c42 := Bool.eq_false_iff.mpr c42
       subst c42
       have H1 : ((laws_markChunksResult.f kj14 t1106 t1107 1).bind fun bt1119 => ((laws_heldChunksResult.f kj14 t1106 bt1119.2 1).bind fun t1121 => (if t1121 < 0 then (some false) else (if t1121 = bt1119.1 then ((laws_toChunkS.f kj14 l0).bind fun t1122 => ((impl_SwapChunks.f kj14 t1122).bind fun bt1125 => ((laws_eqChunksResult.f kj14 bt1125.1 bt1125.2 t1098 t1099).bind fun t1130 => (if t1130 = true then ((laws_heldChunksResult.f kj14 t1106 bt1119.2 1).bind fun t1131 => (if t1131 < 0 then (some false) else (if t1131 = bt1119.1 then (some true) else (some false)))) else (some false))))) else (some false))))) = some r := by rw [if_neg (show ¬ (false = true) by decide)] at H; exact H
       clear H
       have H := H1
       clear H1
       replace H := Option.bind_eq_some_iff.mp H
       obtain ⟨⟨t1119, t1120⟩, A430, H⟩ := H
       replace H : ((laws_heldChunksResult.f kj14 t1106 t1120 1).bind fun t1121 => (if t1121 < 0 then (some false) else (if t1121 = t1119 then ((laws_toChunkS.f kj14 l0).bind fun t1122 => ((impl_SwapChunks.f kj14 t1122).bind fun bt1125 => ((laws_eqChunksResult.f kj14 bt1125.1 bt1125.2 t1098 t1099).bind fun t1130 => (if t1130 = true then ((laws_heldChunksResult.f kj14 t1106 t1120 1).bind fun t1131 => (if t1131 < 0 then (some false) else (if t1131 = t1119 then (some true) else (some false)))) else (some false))))) else (some false)))) = some r := H
       have A43 := Aside0.mk A430
       clear A430
       replace H := Option.bind_eq_some_iff.mp H
       obtain ⟨t1121, A440, H⟩ := H
       replace H : (if t1121 < 0 then (some false) else (if t1121 = t1119 then ((laws_toChunkS.f kj14 l0).bind fun t1122 => ((impl_SwapChunks.f kj14 t1122).bind fun bt1125 => ((laws_eqChunksResult.f kj14 bt1125.1 bt1125.2 t1098 t1099).bind fun t1130 => (if t1130 = true then ((laws_heldChunksResult.f kj14 t1106 t1120 1).bind fun t1131 => (if t1131 < 0 then (some false) else (if t1131 = t1119 then (some true) else (some false)))) else (some false))))) else (some false))) = some r := H
       have A44 := Aside0.mk A440
       clear A440
       by_cases c45 : t1121 < 0
       ·rw [if_pos c45] at H
        have c45b0 : decide (t1121 < 0) = true := decide_eq_true c45
        clear c45
        exact absurd ((Option.some.inj H).trans HLAW.out) (by decide)
       ·rw [if_neg c45] at H
        have c45b0 : decide (t1121 < 0) = false := decide_eq_false c45
        clear c45
        by_cases c46 : t1121 = t1119
        ·rw [if_pos c46] at H
         have c46b0 : (t1121 == t1119) = true := beq_iff_eq.mpr c46
         have c46b1 : (t1121 != t1119) = false := bne_eq_false_iff_eq.mpr c46
         clear c46
         replace H := Option.bind_eq_some_iff.mp H
         obtain ⟨t1122, A470, H⟩ := H
         replace H : ((impl_SwapChunks.f kj14 t1122).bind fun bt1125 => ((laws_eqChunksResult.f kj14 bt1125.1 bt1125.2 t1098 t1099).bind fun t1130 => (if t1130 = true then ((laws_heldChunksResult.f kj14 t1106 t1120 1).bind fun t1131 => (if t1131 < 0 then (some false) else (if t1131 = t1119 then (some true) else (some false)))) else (some false)))) = some r := H
         have A47 := Aside0.mk A470
         clear A470
         replace H := Option.bind_eq_some_iff.mp H
         obtain ⟨⟨t1125, t1126⟩, A480, H⟩ := H
         replace H : ((laws_eqChunksResult.f kj14 t1125 t1126 t1098 t1099).bind fun t1130 => (if t1130 = true then ((laws_heldChunksResult.f kj14 t1106 t1120 1).bind fun t1131 => (if t1131 < 0 then (some false) else (if t1131 = t1119 then (some true) else (some false)))) else (some false))) = some r := H
         have A48 := Aside0.mk A480
         clear A480
         replace H := Option.bind_eq_some_iff.mp H
         obtain ⟨t1130, A490, H⟩ := H
         replace H : (if t1130 = true then ((laws_heldChunksResult.f kj14 t1106 t1120 1).bind fun t1131 => (if t1131 < 0 then (some false) else (if t1131 = t1119 then (some true) else (some false)))) else (some false)) = some r := H
         have A49 := Aside0.mk A490
         clear A490
         by_cases c50 : t1130 = true
         ·subst c50
          have H1 : ((laws_heldChunksResult.f kj14 t1106 t1120 1).bind fun t1131 => (if t1131 < 0 then (some false) else (if t1131 = t1119 then (some true) else (some false)))) = some r := by rw [if_pos rfl] at H; exact H
          clear H
          have H := H1
          clear H1
          replace H := Option.bind_eq_some_iff.mp H
          obtain ⟨t1131, A510, H⟩ := H
          replace H : (if t1131 < 0 then (some false) else (if t1131 = t1119 then (some true) else (some false))) = some r := H
          have A51 := Aside0.mk A510
          clear A510
          by_cases c52 : t1131 < 0
          ·rw [if_pos c52] at H
           have c52b0 : decide (t1131 < 0) = true := decide_eq_true c52
           clear c52
           exact absurd ((Option.some.inj H).trans HLAW.out) (by decide)
          ·rw [if_neg c52] at H
           have c52b0 : decide (t1131 < 0) = false := decide_eq_false c52
           clear c52
           by_cases c53 : t1131 = t1119
           ·rw [if_pos c53] at H
            have c53b0 : (t1131 == t1119) = true := beq_iff_eq.mpr c53
            have c53b1 : (t1131 != t1119) = false := bne_eq_false_iff_eq.mpr c53
            clear c53
            obtain rfl := Option.some.inj H
            have hnb54 := NB1110_1102.out
            have hnc54 := NB1102_1110.out
            have hcz55_0 : wc.cell? ⟨gb1110, 0, none⟩ = some (.int .i64 t1106) := (blk_cell BK1110.out 0).trans rfl
            have hcz55_1 : wc.cell? ⟨gb1110, 1, none⟩ = some (.slice Ao29 t1107.length co29) := (blk_cell BK1110.out 1).trans rfl
            have hfz55_0 := blk_frozen BK1110.out 0
            have hfz55_1 := blk_frozen BK1110.out 1
            go_wp2_with (first | ((with_reducible refine gate_callee (f := 52) rfl ?_); refine goesL_ (some 45) rfl rfl Try.func52 (by kernel_rfl) rfl #[.agg #[.int .i64 t1106, .slice Ao29 t1107.length co29], .int .i64 1] rfl (by (try simp only [List.map_toArray, List.map_cons, List.map_nil]); first | done | rfl | (simp only [List.length_drop, List.length_take]; rfl)) ?_; (with_reducible refine (laws_markChunksResult.calls kj14 t1106 (fun k_ => ((m2 ≤ k_ ∧ some k_ ≠ (.slice Ao22 t1099.length co22 : Value).ownBlock) ∧ k_ ≠ gb1102) ∧ k_ ≠ gb1110) (.slice Ao29 t1107.length co29) t1107 1 t1119 t1120 w _ ?side1 ?side2 A43.out).mono ?_); (case side1 => repeat (first | (with_reducible first | exact HB.out | apply below_alloc | apply pw_below_drewN | apply below_drew1 | refine below_set ?_ GE1102.out | refine below_set ?_ GE1110.out) | exact HB.out)); (case side2 => exact Kd.S_types (Kd.S_types HO_1111001.out (by (with_reducible repeat (first | refine blk_drewN ?_ _ | refine blk_drew ?_ | refine blk_alloc ?_ _)); exact BK1102.out) (by decide)) (by (with_reducible repeat (first | refine blk_drewN ?_ _ | refine blk_drew ?_ | refine blk_alloc ?_ _)); exact BK1110.out) (by decide)); rintro e w56 ⟨rfl, hy0, hb, hkp⟩; refine ⟨_, rfl, ?_⟩; have n0_ := Aside0.mk (Kd.S_mono (ok' := fun k_ => some k_ ≠ (.slice Ao29 t1107.length co29 : Value).ownBlock) (Kd.S_keptB (HO_1103001.out) hkp (fun k_ hk_ hs_ => absurd hk_.1 (Nat.not_lt.2 hs_.1.1.1))) (fun k_ hk_ => hk_.1.2)); have n1_ := Aside0.mk (Kd.S_mono hy0 (fun _ hk => hk.1.1.2)); have n2_ := Aside0.mk (blk_kept (by (with_reducible repeat (first | refine blk_drewN ?_ _ | refine blk_drew ?_ | refine blk_alloc ?_ _)); exact BK1102.out) hkp (fun hs_ => hs_.1.2 rfl)); have n3_ := Aside0.mk (blk_kept (by (with_reducible repeat (first | refine blk_drewN ?_ _ | refine blk_drew ?_ | refine blk_alloc ?_ _)); exact BK1110.out) hkp (fun hs_ => hs_.2 rfl)); have n4_ := Aside0.mk (hb); clear HO_1103001; clear HO_1111001; clear BK1102; clear BK1110; clear HB; have HO_1103001 := n0_; have HO_1111001 := n1_; have BK1102 := n2_; have BK1110 := n3_; have HB := n4_; clear n0_ n1_ n2_ n3_ n4_; (try clear hb); (try clear hkp); (try clear hy0); have hcz57_0 : w56.cell? ⟨gb1110, 0, none⟩ = some (.int .i64 t1106) := (blk_cell BK1110.out 0).trans rfl; have hcz57_1 : w56.cell? ⟨gb1110, 1, none⟩ = some (.slice Ao29 t1107.length co29) := (blk_cell BK1110.out 1).trans rfl; have hfz57_0 := blk_frozen BK1110.out 0; have hfz57_1 := blk_frozen BK1110.out 1) | ((with_reducible refine gate_callee (f := 53) rfl ?_); refine goesL_ (some 48) rfl rfl Try.func53 (by kernel_rfl) rfl #[.agg #[.int .i64 t1106, .slice Ao29 t1120.length co29], .int .i64 1] rfl (by (try simp only [List.map_toArray, List.map_cons, List.map_nil]); first | done | (rw [show t1120.length = t1107.length from (Kd.S_reads' HO_1111001.out).1.symm] <;> rfl) | rfl | (simp only [List.length_drop, List.length_take]; rfl)) ?_; (with_reducible refine (laws_heldChunksResult.calls kj14 t1106 _ _ t1120 1 t1121 _ ?side1 ?side2 A44.out).mono ?_); (case side1 => repeat (first | exact (Kd.S_reads' HO_1111001.out).2.2 | (with_reducible refine Kd.C_alloc ?_ _) | (with_reducible refine Kd.C_drewN ?_ _) | (with_reducible refine Kd.C_drew ?_))); (case side2 => rw [show t1120.length = t1107.length from (Kd.S_reads' HO_1111001.out).1.symm]; exact (Kd.S_reads' HO_1111001.out).2.1); rintro e w58 ⟨rfl, hb⟩; refine ⟨_, rfl, ?_⟩; have n0_ := Aside0.mk (Kd.S_below (by (with_reducible repeat (first | apply Kd.S_alloc | apply Kd.S_drewN | apply Kd.S_drew)); exact HO_1103001.out) hb); have n1_ := Aside0.mk (Kd.S_below (by (with_reducible repeat (first | apply Kd.S_alloc | apply Kd.S_drewN | apply Kd.S_drew)); exact HO_1111001.out) hb); have n2_ := Aside0.mk (blk_below (g := gb1102) (o := .cells #[.int .i64 t1098, .slice Ao22 t1099.length co22] 71 (0, 0)) (by (with_reducible repeat (first | refine blk_drewN ?_ _ | refine blk_drew ?_ | refine blk_alloc ?_ _)); exact BK1102.out) hb); have n3_ := Aside0.mk (blk_below (g := gb1110) (o := .cells #[.int .i64 t1106, .slice Ao29 t1107.length co29] 71 (0, 0)) (by (with_reducible repeat (first | refine blk_drewN ?_ _ | refine blk_drew ?_ | refine blk_alloc ?_ _)); exact BK1110.out) hb); have n4_ := Aside0.mk (below_step (by repeat (first | (with_reducible first | exact HB.out | apply below_alloc | apply pw_below_drewN | apply below_drew1 | refine below_set ?_ GE1102.out | refine below_set ?_ GE1110.out) | exact HB.out)) hb); clear HO_1103001; clear HO_1111001; clear BK1102; clear BK1110; clear HB; have HO_1103001 := n0_; have HO_1111001 := n1_; have BK1102 := n2_; have BK1110 := n3_; have HB := n4_; clear n0_ n1_ n2_ n3_ n4_; (try clear hb); (try clear hb2); (try clear hk); (try clear hi)) | ((with_reducible refine gate_callee (f := 33) rfl ?_); refine goesL_ (some 55) rfl rfl Try.func33 (by kernel_rfl) rfl #[.slice A0 l0.length c0] rfl (by (try simp only [List.map_toArray, List.map_cons, List.map_nil]); first | done | rfl | (simp only [List.length_drop, List.length_take]; rfl)) ?_; (with_reducible refine (laws_toChunkS.calls kj14 _ _ l0 t1122 _ ?side1 ?side2 A47.out).mono ?_); (case side1 => repeat (first | exact (Kd.C_below HR0.out HB.out) | (with_reducible refine Kd.C_alloc ?_ _) | (with_reducible refine Kd.C_drewN ?_ _) | (with_reducible refine Kd.C_drew ?_))); (case side2 => exact HC0.out); rintro e w59 ⟨v1123, rfl, ho0, hb⟩; refine ⟨_, rfl, ?_⟩; have n0_ := Aside0.mk (Kd.S_elder' (by (with_reducible repeat (first | apply Kd.S_alloc | apply Kd.S_drewN | apply Kd.S_drew)); exact HO_1103001.out) (Kd.S_base ho0) hb); have n1_ := Aside0.mk (Kd.S_elder' (by (with_reducible repeat (first | apply Kd.S_alloc | apply Kd.S_drewN | apply Kd.S_drew)); exact HO_1111001.out) (Kd.S_base ho0) hb); have n2_ := Aside0.mk (Kd.S_lower (Kd.S_new' (Kd.S_new' ho0 (Kd.S_lt (by (with_reducible repeat (first | apply Kd.S_alloc | apply Kd.S_drewN | apply Kd.S_drew)); exact HO_1103001.out))) (Kd.S_lt (by (with_reducible repeat (first | apply Kd.S_alloc | apply Kd.S_drewN | apply Kd.S_drew)); exact HO_1111001.out))) (below_size (by repeat (first | (with_reducible first | exact HB.out | apply below_alloc | apply pw_below_drewN | apply below_drew1 | refine below_set ?_ GE1102.out | refine below_set ?_ GE1110.out) | exact HB.out)))); have n3_ := Aside0.mk (blk_below (g := gb1102) (o := .cells #[.int .i64 t1098, .slice Ao22 t1099.length co22] 71 (0, 0)) (by (with_reducible repeat (first | refine blk_drewN ?_ _ | refine blk_drew ?_ | refine blk_alloc ?_ _)); exact BK1102.out) hb); have n4_ := Aside0.mk (blk_below (g := gb1110) (o := .cells #[.int .i64 t1106, .slice Ao29 t1107.length co29] 71 (0, 0)) (by (with_reducible repeat (first | refine blk_drewN ?_ _ | refine blk_drew ?_ | refine blk_alloc ?_ _)); exact BK1110.out) hb); have n5_ := Aside0.mk (below_step (by repeat (first | (with_reducible first | exact HB.out | apply below_alloc | apply pw_below_drewN | apply below_drew1 | refine below_set ?_ GE1102.out | refine below_set ?_ GE1110.out) | exact HB.out)) hb); clear HO_1103001; clear HO_1111001; clear BK1102; clear BK1110; clear HB; have HO_1103001 := n0_; have HO_1111001 := n1_; have HO1124 := n2_; have BK1102 := n3_; have BK1110 := n4_; have HB := n5_; clear n0_ n1_ n2_ n3_ n4_ n5_; (try clear hb); (try clear hb2); (try clear hk); (try clear hi); (try clear ho0); obtain ⟨Ao60, co60, eo60⟩ := Kd.S_slice HO1124.out; subst eo60) | ((with_reducible refine gate_callee (f := 50) rfl ?_); refine goesL_ (some 56) rfl rfl Try.func50 (by kernel_rfl) rfl #[.slice Ao60 t1122.length co60] rfl (by (try simp only [List.map_toArray, List.map_cons, List.map_nil]); first | done | rfl | (simp only [List.length_drop, List.length_take]; rfl)) ?_; (with_reducible refine (impl_SwapChunks.calls kj14 _ _ t1122 t1125 t1126 _ ?side1 ?side2 A48.out).mono ?_); (case side1 => repeat (first | exact (Kd.S_reads' HO1124.out).2.2 | (with_reducible refine Kd.C_alloc ?_ _) | (with_reducible refine Kd.C_drewN ?_ _) | (with_reducible refine Kd.C_drew ?_))); (case side2 => exact (Kd.S_reads' HO1124.out).2.1); rintro e w61 ⟨v1127, rfl, ho0, hb⟩; refine ⟨_, rfl, ?_⟩; have n0_ := Aside0.mk (Kd.S_elder' (by (with_reducible repeat (first | apply Kd.S_alloc | apply Kd.S_drewN | apply Kd.S_drew)); exact HO_1103001.out) (Kd.S_base ho0) hb); have n1_ := Aside0.mk (Kd.S_elder' (by (with_reducible repeat (first | apply Kd.S_alloc | apply Kd.S_drewN | apply Kd.S_drew)); exact HO_1111001.out) (Kd.S_base ho0) hb); have n2_ := Aside0.mk (Kd.S_elder' (by (with_reducible repeat (first | apply Kd.S_alloc | apply Kd.S_drewN | apply Kd.S_drew)); exact HO1124.out) (Kd.S_base ho0) hb); have n3_ := Aside0.mk (Kd.S_lower (Kd.S_new' (Kd.S_new' (Kd.S_new' ho0 (Kd.S_lt (by (with_reducible repeat (first | apply Kd.S_alloc | apply Kd.S_drewN | apply Kd.S_drew)); exact HO_1103001.out))) (Kd.S_lt (by (with_reducible repeat (first | apply Kd.S_alloc | apply Kd.S_drewN | apply Kd.S_drew)); exact HO_1111001.out))) (Kd.S_lt (by (with_reducible repeat (first | apply Kd.S_alloc | apply Kd.S_drewN | apply Kd.S_drew)); exact HO1124.out))) (below_size (by repeat (first | (with_reducible first | exact HB.out | apply below_alloc | apply pw_below_drewN | apply below_drew1 | refine below_set ?_ GE1102.out | refine below_set ?_ GE1110.out) | exact HB.out)))); have n4_ := Aside0.mk (blk_below (g := gb1102) (o := .cells #[.int .i64 t1098, .slice Ao22 t1099.length co22] 71 (0, 0)) (by (with_reducible repeat (first | refine blk_drewN ?_ _ | refine blk_drew ?_ | refine blk_alloc ?_ _)); exact BK1102.out) hb); have n5_ := Aside0.mk (blk_below (g := gb1110) (o := .cells #[.int .i64 t1106, .slice Ao29 t1107.length co29] 71 (0, 0)) (by (with_reducible repeat (first | refine blk_drewN ?_ _ | refine blk_drew ?_ | refine blk_alloc ?_ _)); exact BK1110.out) hb); have n6_ := Aside0.mk (below_step (by repeat (first | (with_reducible first | exact HB.out | apply below_alloc | apply pw_below_drewN | apply below_drew1 | refine below_set ?_ GE1102.out | refine below_set ?_ GE1110.out) | exact HB.out)) hb); clear HO_1103001; clear HO_1111001; clear HO1124; clear BK1102; clear BK1110; clear HB; have HO_1103001 := n0_; have HO_1111001 := n1_; have HO1124 := n2_; have HO1128 := n3_; have BK1102 := n4_; have BK1110 := n5_; have HB := n6_; clear n0_ n1_ n2_ n3_ n4_ n5_ n6_; (try clear hb); (try clear hb2); (try clear hk); (try clear hi); (try clear ho0)) | ((with_reducible refine gate_dst (N := 10) rfl ?_); refine box_event ?hg (N := 10) ?hd (cs := #[.int .i64 0, .slice none 0 0]) (t := 71) ?hr ?_; (case hd => rfl); (case hg => rfl); (case hr => first | (go_simp; done) | (go_simp; rfl)); intro gb1129 hg w62 hbox hb; have n0_ := Aside0.mk (Kd.S_below (by (with_reducible repeat (first | apply Kd.S_alloc | apply Kd.S_drewN | apply Kd.S_drew)); exact HO_1103001.out) hb); have n1_ := Aside0.mk (Kd.S_below (by (with_reducible repeat (first | apply Kd.S_alloc | apply Kd.S_drewN | apply Kd.S_drew)); exact HO_1111001.out) hb); have n2_ := Aside0.mk (Kd.S_below (by (with_reducible repeat (first | apply Kd.S_alloc | apply Kd.S_drewN | apply Kd.S_drew)); exact HO1124.out) hb); have n3_ := Aside0.mk (Kd.S_below (by (with_reducible repeat (first | apply Kd.S_alloc | apply Kd.S_drewN | apply Kd.S_drew)); exact HO1128.out) hb); have n4_ := Aside0.mk (blk_below (g := gb1102) (o := .cells #[.int .i64 t1098, .slice Ao22 t1099.length co22] 71 (0, 0)) (by (with_reducible repeat (first | refine blk_drewN ?_ _ | refine blk_drew ?_ | refine blk_alloc ?_ _)); exact BK1102.out) hb); have n5_ := Aside0.mk (blk_below (g := gb1110) (o := .cells #[.int .i64 t1106, .slice Ao29 t1107.length co29] 71 (0, 0)) (by (with_reducible repeat (first | refine blk_drewN ?_ _ | refine blk_drew ?_ | refine blk_alloc ?_ _)); exact BK1110.out) hb); have n6_ := Aside0.mk (below_step (by repeat (first | (with_reducible first | exact HB.out | apply below_alloc | apply pw_below_drewN | apply below_drew1 | refine below_set ?_ GE1102.out | refine below_set ?_ GE1110.out) | exact HB.out)) hb); have n7_ := Aside0.mk (hbox); have n8_ := Aside0.mk ((by rw [hg]; exact (below_size (by repeat (first | (with_reducible first | exact HB.out | apply below_alloc | apply pw_below_drewN | apply below_drew1 | refine below_set ?_ GE1102.out | refine below_set ?_ GE1110.out) | exact HB.out))) : w.heap.size ≤ gb1129)); have n9_ := Aside0.mk ((by rw [hg]; exact (below_size (by repeat (first | (with_reducible first | exact HB.out | apply below_alloc | apply pw_below_drewN | apply below_drew1 | refine below_set ?_ GE1102.out | refine below_set ?_ GE1110.out) | exact HB.out))) : w.heap.size ≤ gb1129)); have n10_ := Aside0.mk ((by rw [hg]; exact Nat.ne_of_lt (blk_lt (g := gb1102) (o := .cells #[.int .i64 t1098, .slice Ao22 t1099.length co22] 71 (0, 0)) (by (with_reducible repeat (first | refine blk_drewN ?_ _ | refine blk_drew ?_ | refine blk_alloc ?_ _)); exact BK1102.out)) : gb1102 ≠ gb1129)); have n11_ := Aside0.mk ((by rw [hg]; exact Nat.ne_of_gt (blk_lt (g := gb1102) (o := .cells #[.int .i64 t1098, .slice Ao22 t1099.length co22] 71 (0, 0)) (by (with_reducible repeat (first | refine blk_drewN ?_ _ | refine blk_drew ?_ | refine blk_alloc ?_ _)); exact BK1102.out)) : gb1129 ≠ gb1102)); have n12_ := Aside0.mk ((by rw [hg]; exact Nat.ne_of_lt (blk_lt (g := gb1110) (o := .cells #[.int .i64 t1106, .slice Ao29 t1107.length co29] 71 (0, 0)) (by (with_reducible repeat (first | refine blk_drewN ?_ _ | refine blk_drew ?_ | refine blk_alloc ?_ _)); exact BK1110.out)) : gb1110 ≠ gb1129)); have n13_ := Aside0.mk ((by rw [hg]; exact Nat.ne_of_gt (blk_lt (g := gb1110) (o := .cells #[.int .i64 t1106, .slice Ao29 t1107.length co29] 71 (0, 0)) (by (with_reducible repeat (first | refine blk_drewN ?_ _ | refine blk_drew ?_ | refine blk_alloc ?_ _)); exact BK1110.out)) : gb1129 ≠ gb1110)); clear HO_1103001; clear HO_1111001; clear HO1124; clear HO1128; clear BK1102; clear BK1110; clear HB; have HO_1103001 := n0_; have HO_1111001 := n1_; have HO1124 := n2_; have HO1128 := n3_; have BK1102 := n4_; have BK1110 := n5_; have HB := n6_; have BK1129 := n7_; have GW1129 := n8_; have GE1129 := n9_; have NB1102_1129 := n10_; have NB1129_1102 := n11_; have NB1110_1129 := n12_; have NB1129_1110 := n13_; clear n0_ n1_ n2_ n3_ n4_ n5_ n6_ n7_ n8_ n9_ n10_ n11_ n12_ n13_; clear hb hbox hg; have hnb63 := NB1129_1102.out; have hnc63 := NB1102_1129.out; have hnb64 := NB1129_1110.out; have hnc64 := NB1110_1129.out; have hcz65_0 : w62.cell? ⟨gb1129, 0, none⟩ = some (.int .i64 0) := (blk_cell BK1129.out 0).trans rfl; have hcz65_1 : w62.cell? ⟨gb1129, 1, none⟩ = some (.slice none 0 0) := (blk_cell BK1129.out 1).trans rfl; have hfz65_0 := blk_frozen BK1129.out 0; have hfz65_1 := blk_frozen BK1129.out 1; obtain ⟨Ao66, co66, eo66⟩ := Kd.S_slice HO1128.out; subst eo66; have hcz67_0 : w62.cell? ⟨gb1102, 0, none⟩ = some (.int .i64 t1098) := (blk_cell BK1102.out 0).trans rfl; have hcz67_1 : w62.cell? ⟨gb1102, 1, none⟩ = some (.slice Ao22 t1099.length co22) := (blk_cell BK1102.out 1).trans rfl; have hfz67_0 := blk_frozen BK1102.out 0; have hfz67_1 := blk_frozen BK1102.out 1) | ((with_reducible refine gate_callee (f := 51) rfl ?_); refine goesL_ (some 59) rfl rfl Try.func51 (by kernel_rfl) rfl #[.agg #[.int .i64 t1125, .slice Ao66 t1126.length co66], .agg #[.int .i64 t1098, .slice Ao22 t1099.length co22]] rfl (by (try simp only [List.map_toArray, List.map_cons, List.map_nil]); first | done | rfl | (simp only [List.length_drop, List.length_take]; rfl)) ?_; (with_reducible refine (laws_eqChunksResult.calls kj14 t1125 _ _ t1126 t1098 _ _ t1099 true _ ?side1 ?side2 ?side3 ?side4 A49.out).mono ?_); (case side1 => refine (Kd.S_reads' (e := 58) (base := w.heap.size) (ok := fun k_ => (((True ∧ some k_ ≠ (.slice Ao22 t1099.length co22 : Value).ownBlock) ∧ some k_ ≠ (.slice Ao29 t1107.length co29 : Value).ownBlock) ∧ some k_ ≠ (.slice Ao60 t1122.length co60 : Value).ownBlock)) (n := t1126.length) (c := co66) ?_).2.2; exact (by (with_reducible repeat (first | apply Kd.S_alloc | apply Kd.S_drewN | apply Kd.S_drew)); exact (Kd.S_mono (Kd.S_far (p := ⟨gb1129, 1, none⟩) (Kd.S_far (p := ⟨gb1129, 0, none⟩) (Kd.S_types HO1128.out BK1129.out (by decide)) (fun _ hk => hk.2) (.int .i64 t1125)) (fun _ hk => hk.2) (.slice Ao66 t1126.length co66)) (fun _ h_ => h_.1)))); (case side2 => exact (Kd.S_reads' HO1128.out).2.1); (case side3 => refine (Kd.S_reads' (e := 58) (base := w.heap.size) (ok := fun k_ => ((some k_ ≠ (.slice Ao29 t1107.length co29 : Value).ownBlock ∧ some k_ ≠ (.slice Ao60 t1122.length co60 : Value).ownBlock) ∧ some k_ ≠ (.slice Ao66 t1126.length co66 : Value).ownBlock)) (n := t1099.length) (c := co22) ?_).2.2; exact (by (with_reducible repeat (first | apply Kd.S_alloc | apply Kd.S_drewN | apply Kd.S_drew)); exact (Kd.S_mono (Kd.S_far (p := ⟨gb1129, 1, none⟩) (Kd.S_far (p := ⟨gb1129, 0, none⟩) (Kd.S_types HO_1103001.out BK1129.out (by decide)) (fun _ hk => hk.2) (.int .i64 t1125)) (fun _ hk => hk.2) (.slice Ao66 t1126.length co66)) (fun _ h_ => h_.1)))); (case side4 => exact (Kd.S_reads' HO_1103001.out).2.1); rintro e w68 ⟨rfl, hb⟩; refine ⟨_, rfl, ?_⟩; have n0_ := Aside0.mk (Kd.S_below (by (with_reducible repeat (first | apply Kd.S_alloc | apply Kd.S_drewN | apply Kd.S_drew)); exact (Kd.S_mono (Kd.S_far (p := ⟨gb1129, 1, none⟩) (Kd.S_far (p := ⟨gb1129, 0, none⟩) (Kd.S_types HO_1103001.out BK1129.out (by decide)) (fun _ hk => hk.2) (.int .i64 t1125)) (fun _ hk => hk.2) (.slice Ao66 t1126.length co66)) (fun _ h_ => h_.1))) hb); have n1_ := Aside0.mk (Kd.S_below (by (with_reducible repeat (first | apply Kd.S_alloc | apply Kd.S_drewN | apply Kd.S_drew)); exact (Kd.S_mono (Kd.S_far (p := ⟨gb1129, 1, none⟩) (Kd.S_far (p := ⟨gb1129, 0, none⟩) (Kd.S_types HO_1111001.out BK1129.out (by decide)) (fun _ hk => hk.2) (.int .i64 t1125)) (fun _ hk => hk.2) (.slice Ao66 t1126.length co66)) (fun _ h_ => h_.1))) hb); have n2_ := Aside0.mk (Kd.S_below (by (with_reducible repeat (first | apply Kd.S_alloc | apply Kd.S_drewN | apply Kd.S_drew)); exact (Kd.S_mono (Kd.S_far (p := ⟨gb1129, 1, none⟩) (Kd.S_far (p := ⟨gb1129, 0, none⟩) (Kd.S_types HO1124.out BK1129.out (by decide)) (fun _ hk => hk.2) (.int .i64 t1125)) (fun _ hk => hk.2) (.slice Ao66 t1126.length co66)) (fun _ h_ => h_.1))) hb); have n3_ := Aside0.mk (Kd.S_below (by (with_reducible repeat (first | apply Kd.S_alloc | apply Kd.S_drewN | apply Kd.S_drew)); exact (Kd.S_mono (Kd.S_far (p := ⟨gb1129, 1, none⟩) (Kd.S_far (p := ⟨gb1129, 0, none⟩) (Kd.S_types HO1128.out BK1129.out (by decide)) (fun _ hk => hk.2) (.int .i64 t1125)) (fun _ hk => hk.2) (.slice Ao66 t1126.length co66)) (fun _ h_ => h_.1))) hb); have n4_ := Aside0.mk (blk_below (g := gb1102) (o := .cells #[.int .i64 t1098, .slice Ao22 t1099.length co22] 71 (0, 0)) (by (with_reducible repeat (first | refine blk_drewN ?_ _ | refine blk_drew ?_ | refine blk_alloc ?_ _)); refine blk_far ?_ NB1102_1129.out _; (with_reducible repeat (first | refine blk_drewN ?_ _ | refine blk_drew ?_ | refine blk_alloc ?_ _)); refine blk_far ?_ NB1102_1129.out _; (with_reducible repeat (first | refine blk_drewN ?_ _ | refine blk_drew ?_ | refine blk_alloc ?_ _)); exact BK1102.out) hb); have n5_ := Aside0.mk (blk_below (g := gb1110) (o := .cells #[.int .i64 t1106, .slice Ao29 t1107.length co29] 71 (0, 0)) (by (with_reducible repeat (first | refine blk_drewN ?_ _ | refine blk_drew ?_ | refine blk_alloc ?_ _)); refine blk_far ?_ NB1110_1129.out _; (with_reducible repeat (first | refine blk_drewN ?_ _ | refine blk_drew ?_ | refine blk_alloc ?_ _)); refine blk_far ?_ NB1110_1129.out _; (with_reducible repeat (first | refine blk_drewN ?_ _ | refine blk_drew ?_ | refine blk_alloc ?_ _)); exact BK1110.out) hb); have n6_ := Aside0.mk (blk_below (g := gb1129) (o := .cells #[.int .i64 t1125, .slice Ao66 t1126.length co66] 71 (0, 0)) (by (with_reducible repeat (first | refine blk_drewN ?_ _ | refine blk_drew ?_ | refine blk_alloc ?_ _)); refine blk_put (cs := #[.int .i64 t1125, .slice none 0 0]) ?_ 1 _ rfl; (with_reducible repeat (first | refine blk_drewN ?_ _ | refine blk_drew ?_ | refine blk_alloc ?_ _)); refine blk_put (cs := #[.int .i64 0, .slice none 0 0]) ?_ 0 _ rfl; (with_reducible repeat (first | refine blk_drewN ?_ _ | refine blk_drew ?_ | refine blk_alloc ?_ _)); exact BK1129.out) hb); have n7_ := Aside0.mk (below_step (by repeat (first | (with_reducible first | exact HB.out | apply below_alloc | apply pw_below_drewN | apply below_drew1 | refine below_set ?_ GE1102.out | refine below_set ?_ GE1110.out | refine below_set ?_ GE1129.out) | exact HB.out)) hb); clear HO_1103001; clear HO_1111001; clear HO1124; clear HO1128; clear BK1102; clear BK1110; clear BK1129; clear HB; have HO_1103001 := n0_; have HO_1111001 := n1_; have HO1124 := n2_; have HO1128 := n3_; have BK1102 := n4_; have BK1110 := n5_; have BK1129 := n6_; have HB := n7_; clear n0_ n1_ n2_ n3_ n4_ n5_ n6_ n7_; (try clear hb); (try clear hb2); (try clear hk); (try clear hi); have hcz69_0 : w68.cell? ⟨gb1110, 0, none⟩ = some (.int .i64 t1106) := (blk_cell BK1110.out 0).trans rfl; have hcz69_1 : w68.cell? ⟨gb1110, 1, none⟩ = some (.slice Ao29 t1107.length co29) := (blk_cell BK1110.out 1).trans rfl; have hfz69_0 := blk_frozen BK1110.out 0; have hfz69_1 := blk_frozen BK1110.out 1) | ((with_reducible refine gate_callee (f := 53) rfl ?_); refine goesL_ (some 63) rfl rfl Try.func53 (by kernel_rfl) rfl #[.agg #[.int .i64 t1106, .slice Ao29 t1120.length co29], .int .i64 1] rfl (by (try simp only [List.map_toArray, List.map_cons, List.map_nil]); first | done | (rw [show t1120.length = t1107.length from (Kd.S_reads' HO_1111001.out).1.symm] <;> rfl) | rfl | (simp only [List.length_drop, List.length_take]; rfl)) ?_; (with_reducible refine (laws_heldChunksResult.calls kj14 t1106 _ _ t1120 1 t1131 _ ?side1 ?side2 A51.out).mono ?_); (case side1 => repeat (first | exact (Kd.S_reads' HO_1111001.out).2.2 | (with_reducible refine Kd.C_alloc ?_ _) | (with_reducible refine Kd.C_drewN ?_ _) | (with_reducible refine Kd.C_drew ?_))); (case side2 => rw [show t1120.length = t1107.length from (Kd.S_reads' HO_1111001.out).1.symm]; exact (Kd.S_reads' HO_1111001.out).2.1); rintro e w70 ⟨rfl, hb⟩; refine ⟨_, rfl, ?_⟩; have n0_ := Aside0.mk (Kd.S_below (by (with_reducible repeat (first | apply Kd.S_alloc | apply Kd.S_drewN | apply Kd.S_drew)); exact HO_1103001.out) hb); have n1_ := Aside0.mk (Kd.S_below (by (with_reducible repeat (first | apply Kd.S_alloc | apply Kd.S_drewN | apply Kd.S_drew)); exact HO_1111001.out) hb); have n2_ := Aside0.mk (Kd.S_below (by (with_reducible repeat (first | apply Kd.S_alloc | apply Kd.S_drewN | apply Kd.S_drew)); exact HO1124.out) hb); have n3_ := Aside0.mk (Kd.S_below (by (with_reducible repeat (first | apply Kd.S_alloc | apply Kd.S_drewN | apply Kd.S_drew)); exact HO1128.out) hb); have n4_ := Aside0.mk (blk_below (g := gb1102) (o := .cells #[.int .i64 t1098, .slice Ao22 t1099.length co22] 71 (0, 0)) (by (with_reducible repeat (first | refine blk_drewN ?_ _ | refine blk_drew ?_ | refine blk_alloc ?_ _)); exact BK1102.out) hb); have n5_ := Aside0.mk (blk_below (g := gb1110) (o := .cells #[.int .i64 t1106, .slice Ao29 t1107.length co29] 71 (0, 0)) (by (with_reducible repeat (first | refine blk_drewN ?_ _ | refine blk_drew ?_ | refine blk_alloc ?_ _)); exact BK1110.out) hb); have n6_ := Aside0.mk (blk_below (g := gb1129) (o := .cells #[.int .i64 t1125, .slice Ao66 t1126.length co66] 71 (0, 0)) (by (with_reducible repeat (first | refine blk_drewN ?_ _ | refine blk_drew ?_ | refine blk_alloc ?_ _)); exact BK1129.out) hb); have n7_ := Aside0.mk (below_step (by repeat (first | (with_reducible first | exact HB.out | apply below_alloc | apply pw_below_drewN | apply below_drew1 | refine below_set ?_ GE1102.out | refine below_set ?_ GE1110.out | refine below_set ?_ GE1129.out) | exact HB.out)) hb); clear HO_1103001; clear HO_1111001; clear HO1124; clear HO1128; clear BK1102; clear BK1110; clear BK1129; clear HB; have HO_1103001 := n0_; have HO_1111001 := n1_; have HO1124 := n2_; have HO1128 := n3_; have BK1102 := n4_; have BK1110 := n5_; have BK1129 := n6_; have HB := n7_; clear n0_ n1_ n2_ n3_ n4_ n5_ n6_ n7_; (try clear hb); (try clear hb2); (try clear hk); (try clear hi)))
            go_ret
            exact ⟨by first | rfl | (simp [errW_none, errW_some] <;> rfl) | (simp [*, errW_none, errW_some] <;> rfl), by repeat (first | (with_reducible first | exact HB.out | apply below_alloc | apply pw_below_drewN | apply below_drew1 | refine below_set ?_ GE1102.out | refine below_set ?_ GE1110.out | refine below_set ?_ GE1129.out) | exact HB.out)⟩
           ·rw [if_neg c53] at H
            have c53b0 : (t1131 == t1119) = false := beq_eq_false_iff_ne.mpr c53
            have c53b1 : (t1131 != t1119) = true := bne_iff_ne.mpr c53
            exact absurd ((Option.some.inj H).trans HLAW.out) (by decide)
         ·replace c50 := Bool.eq_false_iff.mpr c50
          subst c50
          have H1 : (some false) = some r := by rw [if_neg (show ¬ (false = true) by decide)] at H; exact H
          clear H
          have H := H1
          clear H1
          exact absurd ((Option.some.inj H).trans HLAW.out) (by decide)
        ·rw [if_neg c46] at H
         have c46b0 : (t1121 == t1119) = false := beq_eq_false_iff_ne.mpr c46
         have c46b1 : (t1121 != t1119) = true := bne_iff_ne.mpr c46
         exact absurd ((Option.some.inj H).trans HLAW.out) (by decide)
   ·replace c13 := Bool.eq_false_iff.mpr c13
    subst c13
    have H1 : (some false) = some r := by rw [if_neg (show ¬ (false = true) by decide)] at H; exact H
    clear H
    have H := H1
    clear H1
    exact absurd ((Option.some.inj H).trans HLAW.out) (by decide)
  ·replace c10 := Bool.eq_false_iff.mpr c10
   subst c10
   have H1 : (some false) = some r := by rw [if_neg (show ¬ (false = true) by decide)] at H; exact H
   clear H
   have H := H1
   clear H1
   exact absurd ((Option.some.inj H).trans HLAW.out) (by decide)
end Go.Proofs.Ytjngmhngedecdaa.P
end
section
set_option linter.unusedVariables false
namespace Go.Proofs.Ytjngmhngedecdaa.P
open Go.RowKit Go.Proofs.YtjngmhngedecdaaW.PrintWords Go.Proofs.YtjngmhngedecdaaW.PrintLast
namespace UFnExactSwapChunks
def G53 (x : S53) : Prop := (((Lit.int .i64 (x.f0)).wf = true) ∧ (((x.f1).length ≤ 9223372036854775807 ∧ ∀ y ∈ (x.f1), y.size ≤ 9223372036854775807) ∧ (((x.f2).length ≤ 9223372036854775807 ∧ ∀ y ∈ (x.f2), y.size ≤ 9223372036854775807) ∧ ((x.f3).length ≤ 9223372036854775807 ∧ ∀ y ∈ (x.f3), y.size ≤ 9223372036854775807))))
def Pure : Prop := ∀ (l0 : List S53), (l0.length ≤ 9223372036854775807 ∧ ∀ x ∈ l0, G53 x) → ∃ k, laws_FnExactSwapChunks.f k l0 = some true
end UFnExactSwapChunks
end Go.Proofs.Ytjngmhngedecdaa.P
end
section
set_option linter.unusedVariables false
set_option linter.unusedSimpArgs false
namespace Go.Proofs.Ytjngmhngedecdaa.P
open Go.RowKit Go.Proofs.YtjngmhngedecdaaW.PrintWords Go.Proofs.YtjngmhngedecdaaW.PrintLast
theorem wid {x : Int} (h0 : -9223372036854775808 ≤ x) (h1 : x ≤ 9223372036854775807) : wrap64 x = x := by
  unfold wrap64
  omega
theorem wsucc {i n : Nat} (h : i < n) (hn : n ≤ 9223372036854775807) : wrap64 ((i : Int) + 1) = ((i + 1 : Nat) : Int) := by
  rw [wid (by omega) (by omega)]
  rfl
theorem Ev_if {α : Type} {c : Prop} [Decidable c] {a b : Nat → Option α} {r : α} (hp : c → Ev a r) (hn : ¬ c → Ev b r) : Ev (fun k => if c then a k else b k) r := by
  by_cases h : c
  · exact (hp h).congr (fun k => if_pos h)
  · exact (hn h).congr (fun k => if_neg h)
theorem Ev_pos {α : Type} {c : Prop} [Decidable c] {a b : Nat → Option α} {r : α} (hc : c) (h : Ev a r) : Ev (fun k => if c then a k else b k) r := h.congr (fun k => if_pos hc)
theorem Ev_neg {α : Type} {c : Prop} [Decidable c] {a b : Nat → Option α} {r : α} (hc : ¬ c) (h : Ev b r) : Ev (fun k => if c then a k else b k) r := h.congr (fun k => if_neg hc)
theorem Ev_call {α β : Type} {g : Nat → Option α} {f : Nat → α → Option β} {a : α} {r : β} (h : Ev g a) (k : Ev (fun n => f n a) r) : Ev (fun n => (g n).bind (f n)) r := Ev.bind h k
theorem Ev_const {α β : Type} {g : Option α} {f : Nat → α → Option β} {a : α} {r : β} (h : g = some a) (k : Ev (fun n => f n a) r) : Ev (fun n => g.bind (f n)) r :=
  Ev.bind (g := fun _ => g) ⟨0, fun _ _ => h⟩ k
theorem Ev_eq {α : Type} {g : Nat → Option α} {r r' : α} (h : Ev g r) (e : r = r') : Ev g r' := e ▸ h
theorem Ev_val {α : Type} {r r' : α} (h : r = r') : Ev (fun _ => some r) r' := ⟨0, fun _ _ => by rw [h]⟩
theorem rd_nat {α : Type} (d : α) {xs : List α} {i : Nat} (h : i < xs.length) : rdOf d xs (i : Int) = xs[i] := by
  unfold rdOf
  rw [Int.toNat_natCast, List.getD_eq_getElem?_getD, List.getElem?_eq_getElem h]
  rfl
theorem rdi_nat {xs : List Int} {i : Nat} (h : i < xs.length) : rd xs (i : Int) = xs[i] := by
  unfold rd
  rw [Int.toNat_natCast, List.getD_eq_getElem?_getD, List.getElem?_eq_getElem h]
  rfl
theorem bt_nat {s : ByteArray} {i : Nat} (h : i < s.data.toList.length) : bt s (i : Int) = ((s.data.toList[i]).toNat : Int) := by
  have h' : i < s.size := by simpa using h
  unfold bt
  rw [dif_pos (by rw [Int.toNat_natCast]; exact h')]
  simp [ByteArray.getElem_eq_getElem_data]
theorem data_eq {a b : ByteArray} : a.toList = b.toList ↔ a = b := by
  rw [ByteArray.toList_eq, ByteArray.toList_eq]
  constructor
  · intro h
    cases a
    cases b
    simpa using h
  · rintro rfl
    rfl
theorem toList_nil {a : ByteArray} : a.toList = ([] : List UInt8) ↔ a.data.toList = [] := by rw [ByteArray.toList_eq]
theorem size_data (a : ByteArray) : a.data.toList.length = a.size := by simp
theorem dec_same {α : Type} [DecidableEq α] {x y : α} {l m : List α} (h : x = y) : decide (l = m) = decide (x :: l = y :: m) := by
  subst h
  simp
theorem dec_diff {α : Type} [DecidableEq α] {x y : α} {l m : List α} (h : x ≠ y) : false = decide (x :: l = y :: m) := by simp [h]
theorem drop_at {α : Type} {xs : List α} {i : Nat} (h : i < xs.length) : xs.drop i = xs[i] :: xs.drop (i + 1) := List.drop_eq_getElem_cons h
def total : List ByteArray → Nat
  | [] => 0
  | x :: l => x.size + total l
end Go.Proofs.Ytjngmhngedecdaa.P
end
section
namespace Go.Proofs.Ytjngmhngedecdaa.P
open Go.RowKit Go.Proofs.YtjngmhngedecdaaW.PrintWords Go.Proofs.YtjngmhngedecdaaW.PrintLast Go.Proofs.YtjngmhngedecdaaW.PrintMore
attribute [local go_sem] max2_int min2_int max_two min_two max_three min_three max_four min_four
end Go.Proofs.Ytjngmhngedecdaa.P
end
section
set_option linter.unusedVariables false
set_option linter.unusedSimpArgs false
namespace Go.Proofs.Ytjngmhngedecdaa.P
open Go.RowKit Go.Proofs.YtjngmhngedecdaaW.PrintWords Go.Proofs.YtjngmhngedecdaaW.PrintLast
theorem sz_loop (xs : List ByteArray) (hx : ∀ x ∈ xs, x.size ≤ 9223372036854775807) (hl : xs.length ≤ 9223372036854775807) : ∀ (d i : Nat) (n : Int), xs.length - i = d → i ≤ xs.length → 0 ≤ n → n ≤ 1048576 →
    ∃ r, Ev (fun k => laws_szStringS.l0 k xs n (i : Int)) r ∧ (r < 0 ∨ (0 ≤ r ∧ r ≤ n ∧ (total (xs.drop i) : Int) = n - r)) := by
  intro d
  induction d with
  | zero =>
    intro i n hd hi h0 h1
    have : i = xs.length := by omega
    subst this
    refine ⟨n, Ev.step (fun k => by rw [laws_szStringS.l0]) (Ev_neg (by omega) (Ev.now _)), .inr ⟨h0, Int.le_refl _, ?_⟩⟩
    rw [List.drop_length]
    simp [total]
  | succ d ih =>
    intro i n hd hi h0 h1
    have hlt : i < xs.length := by omega
    have hs := hx xs[i] (List.getElem_mem hlt)
    by_cases hc : n - (xs[i].size : Int) < 0
    · refine ⟨-1, Ev.step (fun k => by rw [laws_szStringS.l0]) (Ev_pos (by omega) (Ev_pos (by omega) ?_)), .inl (by omega)⟩
      rw [rd_nat _ hlt, wid (by omega) (by omega)]
      exact Ev_pos hc (Ev.now _)
    · obtain ⟨r, hr, hp⟩ := ih (i + 1) (n - (xs[i].size : Int)) (by omega) (by omega) (by omega) (by omega)
      refine ⟨r, Ev.step (fun k => by rw [laws_szStringS.l0]) (Ev_pos (by omega) (Ev_pos (by omega) ?_)), ?_⟩
      · rw [rd_nat _ hlt, wid (by omega) (by omega), wsucc hlt hl]
        exact Ev_neg hc hr
      · rcases hp with hp | ⟨h2, h3, h4⟩
        · exact .inl hp
        · refine .inr ⟨h2, by omega, ?_⟩
          rw [drop_at hlt]
          simp only [total]
          omega
theorem sz_tells (xs : List ByteArray) (hg : xs.length ≤ 9223372036854775807 ∧ ∀ x ∈ xs, x.size ≤ 9223372036854775807) (n : Int) (h0 : 0 ≤ n) (h1 : n ≤ 1048576) :
    ∃ r, Ev (fun k => laws_szStringS.f k xs n) r ∧ (r < 0 ∨ (0 ≤ r ∧ r ≤ n ∧ (xs.length : Int) + (total xs : Int) = n - r)) := by
  by_cases hc : n - (xs.length : Int) < 0
  · refine ⟨-1, ?_, .inl (by omega)⟩
    unfold laws_szStringS.f
    rw [wid (by omega) (by omega)]
    exact Ev_pos hc (Ev.now _)
  · obtain ⟨r, hr, hp⟩ := sz_loop xs hg.2 hg.1 _ 0 (n - (xs.length : Int)) rfl (by omega) (by omega) (by omega)
    refine ⟨r, ?_, ?_⟩
    · unfold laws_szStringS.f
      rw [wid (by omega) (by omega)]
      exact Ev_neg hc hr
    · rcases hp with hp | ⟨h2, h3, h4⟩
      · exact .inl hp
      · rw [List.drop_zero] at h4
        exact .inr ⟨h2, by omega, by omega⟩
theorem to_loop (xs : List ByteArray) (hl : xs.length ≤ 9223372036854775807) : ∀ (d i : Nat) (ys : List ByteArray), xs.length - i = d → i ≤ xs.length → ys.length = xs.length →
    Ev (fun k => laws_toStringS.l0 k xs ys (i : Int)) (ys.take i ++ xs.drop i) := by
  intro d
  induction d with
  | zero =>
    intro i ys hd hi hy
    have : i = xs.length := by omega
    subst this
    refine Ev.step (fun k => by rw [laws_toStringS.l0]) (Ev_neg (by omega) (Ev_val ?_))
    rw [List.drop_length, List.append_nil, ← hy, List.take_length]
  | succ d ih =>
    intro i ys hd hi hy
    have hlt : i < xs.length := by omega
    refine Ev.step (fun k => by rw [laws_toStringS.l0]) (Ev_pos (by omega) (Ev_pos (by omega) (Ev_pos (by omega) ?_)))
    rw [rd_nat _ hlt, wsucc hlt hl, Int.toNat_natCast]
    have h := ih (i + 1) (ys.set i xs[i]) (by omega) (by omega) (by rw [List.length_set]; exact hy)
    refine Ev_eq h ?_
    rw [drop_at hlt, List.take_succ_eq_append_getElem (by rw [List.length_set]; omega), List.getElem_set_self, List.take_set_of_le (by omega), List.append_assoc]
    rfl
theorem to_tells (xs : List ByteArray) (hl : xs.length ≤ 17592186044416) : Ev (fun k => laws_toStringS.f k xs) xs := by
  unfold laws_toStringS.f
  refine Ev_pos (by omega) (Ev_pos (by rw [Int.toNat_natCast]; exact hl) ?_)
  have h := to_loop xs (by omega) _ 0 (List.replicate ((xs.length : Int) : Int).toNat (⟨#[]⟩ : ByteArray)) rfl (by omega) (by simp)
  exact Ev_eq h (by simp)
theorem eq_loop (xs : List ByteArray) (hl : xs.length ≤ 9223372036854775807) : ∀ (d i : Nat), xs.length - i = d → i ≤ xs.length → Ev (fun k => laws_eqStringS.l0 k xs xs (i : Int)) true := by
  intro d
  induction d with
  | zero => intro i hd hi; exact Ev.step (fun k => by rw [laws_eqStringS.l0]) (Ev_neg (by omega) (Ev.now _))
  | succ d ih =>
    intro i hd hi
    have hlt : i < xs.length := by omega
    refine Ev.step (fun k => by rw [laws_eqStringS.l0]) (Ev_pos (by omega) (Ev_pos (by omega) (Ev_pos (by omega) (Ev_pos rfl ?_))))
    rw [wsucc hlt hl]
    exact ih (i + 1) (by omega) (by omega)
theorem eq_tells (xs : List ByteArray) (hl : xs.length ≤ 9223372036854775807) : Ev (fun k => laws_eqStringS.f k xs xs) true := by
  unfold laws_eqStringS.f
  exact Ev_pos rfl (eq_loop xs hl _ 0 rfl (by omega))
theorem ssame_loop (xs ys : List ByteArray) (hl : xs.length ≤ 9223372036854775807) (he : xs.length = ys.length) : ∀ (d i : Nat), xs.length - i = d → i ≤ xs.length → Ev (fun k => spec_SameLines.l0 k xs ys (i : Int)) (decide (xs.drop i = ys.drop i)) := by
  intro d
  induction d with
  | zero =>
    intro i hd hi
    refine Ev.step (fun k => by rw [spec_SameLines.l0]) (Ev_neg (by omega) (Ev_val ?_))
    rw [List.drop_eq_nil_of_le (by omega), List.drop_eq_nil_of_le (by omega)]
    simp
  | succ d ih =>
    intro i hd hi
    have hlt : i < xs.length := by omega
    have hlt2 : i < ys.length := by omega
    refine Ev.step (fun k => by rw [spec_SameLines.l0]) (Ev_pos (by omega) (Ev_pos (by omega) (Ev_pos (by omega) ?_)))
    rw [rd_nat _ hlt, rd_nat _ hlt2, wsucc hlt hl, drop_at hlt, drop_at hlt2]
    refine Ev_if (fun h => Ev_eq (ih (i + 1) (by omega) (by omega)) ?_) (fun h => Ev_val ?_)
    · exact dec_same (data_eq.1 h)
    · exact dec_diff (fun e => h (data_eq.2 e))
theorem ssame_tells (xs ys : List ByteArray) (hl : xs.length ≤ 9223372036854775807) : Ev (fun k => spec_SameLines.f k xs ys) (decide (xs = ys)) := by
  unfold spec_SameLines.f
  refine Ev_if (fun h => ?_) (fun h => Ev_val ?_)
  · exact ssame_loop xs ys hl (by omega) _ 0 rfl (by omega)
  · have : xs ≠ ys := fun e => h (by rw [e])
    simp [this]
theorem isame_loop (xs ys : List ByteArray) (hl : xs.length ≤ 9223372036854775807) (he : xs.length = ys.length) : ∀ (d i : Nat), xs.length - i = d → i ≤ xs.length → Ev (fun k => slices_Equal_string_string.l0 k xs ys (xs.length : Int) (i : Int)) (decide (xs.drop i = ys.drop i)) := by
  intro d
  induction d with
  | zero =>
    intro i hd hi
    refine Ev.step (fun k => by rw [slices_Equal_string_string.l0]) (Ev_neg (by omega) (Ev_val ?_))
    rw [List.drop_eq_nil_of_le (by omega), List.drop_eq_nil_of_le (by omega)]
    simp
  | succ d ih =>
    intro i hd hi
    have hlt : i < xs.length := by omega
    have hlt2 : i < ys.length := by omega
    refine Ev.step (fun k => by rw [slices_Equal_string_string.l0]) (Ev_pos (by omega) (Ev_pos (by omega) (Ev_pos (by omega) (Ev_pos (by omega) ?_))))
    rw [rd_nat _ hlt, rd_nat _ hlt2, wsucc hlt hl, drop_at hlt, drop_at hlt2]
    refine Ev_if (fun h => Ev_eq (ih (i + 1) (by omega) (by omega)) ?_) (fun h => Ev_val ?_)
    · exact dec_same (data_eq.1 h)
    · exact dec_diff (fun e => h (data_eq.2 e))
theorem isame_tells (xs ys : List ByteArray) (hl : xs.length ≤ 9223372036854775807) : Ev (fun k => slices_Equal_string_string.f k xs ys) (decide (xs = ys)) := by
  unfold slices_Equal_string_string.f
  refine Ev_if (fun h => ?_) (fun h => Ev_val ?_)
  · exact isame_loop xs ys hl (by omega) _ 0 rfl (by omega)
  · have : xs ≠ ys := fun e => h (by rw [e])
    simp [this]
end Go.Proofs.Ytjngmhngedecdaa.P
end
section
set_option linter.unusedVariables false
set_option linter.unusedSimpArgs false
namespace Go.Proofs.Ytjngmhngedecdaa.P
open Go.RowKit
theorem index_low (l : List UInt8) (c : UInt8) : -1 ≤ Lib.indexByte l c := by
  induction l with
  | nil => simp [Lib.indexByte]
  | cons b l ih =>
    unfold Lib.indexByte
    split
    · omega
    · split
      · omega
      · omega
theorem index_mem (l : List UInt8) (c : UInt8) : Lib.indexByte l c ≥ 0 ↔ c ∈ l := by
  induction l with
  | nil => simp [Lib.indexByte]
  | cons b l ih =>
    have hl := index_low l c
    unfold Lib.indexByte
    by_cases h : b = c
    · subst h
      simp
    · have h2 : (b == c) = false := by simpa using h
      rw [h2, List.mem_cons]
      have h3 : ¬ c = b := fun e => h e.symm
      by_cases h4 : Lib.indexByte l c = -1
      · have h5 : (Lib.indexByte l c == -1) = true := by simpa using h4
        rw [h5]
        have : ¬ c ∈ l := fun hm => by have := ih.2 hm; omega
        simp [h3, this]
      · have h5 : (Lib.indexByte l c == -1) = false := by simpa using h4
        rw [h5]
        have : c ∈ l := ih.1 (by omega)
        simp [this]
        omega
def lineEnd : List UInt8 → Nat
  | [] => 0
  | c :: l => if c = 10 then 0 else lineEnd l + 1
theorem lineEnd_le (l : List UInt8) : lineEnd l ≤ l.length := by
  induction l with
  | nil => simp [lineEnd]
  | cons c l ih =>
    unfold lineEnd
    split
    · omega
    · simp
      omega
theorem lineEnd_mem (l : List UInt8) : lineEnd l < l.length ↔ 10 ∈ l := by
  induction l with
  | nil => simp [lineEnd]
  | cons c l ih =>
    unfold lineEnd
    by_cases h : c = 10
    · subst h
      simp
    · rw [if_neg h, List.length_cons, List.mem_cons]
      have h2 : ¬ (10 : UInt8) = c := fun e => h e.symm
      simp only [h2, false_or]
      rw [← ih]
      omega
theorem lineEnd_early (l : List UInt8) : lineEnd l < l.length - 1 ↔ 10 ∈ l.dropLast := by
  induction l with
  | nil => simp [lineEnd]
  | cons c l ih =>
    cases l with
    | nil =>
      simp [lineEnd]
    | cons d l =>
      unfold lineEnd
      by_cases h : c = 10
      · subst h
        simp
      · rw [if_neg h, List.dropLast_cons_cons, List.mem_cons]
        have h2 : ¬ (10 : UInt8) = c := fun e => h e.symm
        simp only [h2, false_or]
        rw [← ih]
        simp only [List.length_cons]
        omega
theorem suffix_last (l : List UInt8) : Lib.hasSuffix l [10] = true ↔ ∃ r, l = r ++ [10] := by
  unfold Lib.hasSuffix
  rw [List.isSuffixOf_iff_suffix]
  constructor
  · rintro ⟨r, h⟩
    exact ⟨r, h.symm⟩
  · rintro ⟨r, h⟩
    exact ⟨r, h.symm⟩
theorem suffix_iff (l : List UInt8) (h : ¬ 10 ∈ l.dropLast) : Lib.hasSuffix l [10] = true ↔ 10 ∈ l := by
  rw [suffix_last]
  constructor
  · rintro ⟨r, rfl⟩
    simp
  · intro hm
    have hne : l ≠ [] := by
      rintro rfl
      simp at hm
    have e := List.dropLast_concat_getLast hne
    rw [← e] at hm
    rcases List.mem_append.1 hm with h1 | h1
    · exact absurd h1 h
    · refine ⟨l.dropLast, ?_⟩
      have h2 : (10 : UInt8) = l.getLast hne := by simpa using h1
      rw [h2]
      exact e.symm
end Go.Proofs.Ytjngmhngedecdaa.P
end
section
set_option linter.unusedVariables false
set_option linter.unusedSimpArgs false
namespace Go.Proofs.Ytjngmhngedecdaa.P
open Go.RowKit Go.Proofs.YtjngmhngedecdaaW.PrintWords Go.Proofs.YtjngmhngedecdaaW.PrintLast
theorem ended_loop (s : ByteArray) (hs : s.size ≤ 9223372036854775807) : ∀ (d i : Nat), s.size - i = d → i ≤ s.size → Ev (fun k => spec_l1Ended.l0 k s (i : Int)) (((i + lineEnd (s.data.toList.drop i) : Nat)) : Int) := by
  intro d
  induction d with
  | zero =>
    intro i hd hi
    refine Ev.step (fun k => by rw [spec_l1Ended.l0]) (Ev_neg (by omega) (Ev_val ?_))
    rw [List.drop_eq_nil_of_le (by rw [size_data]; omega)]
    simp only [lineEnd]
    omega
  | succ d ih =>
    intro i hd hi
    have hlt : i < s.data.toList.length := by rw [size_data]; omega
    refine Ev.step (fun k => by rw [spec_l1Ended.l0]) (Ev_pos (by omega) (Ev_pos (by omega) ?_))
    rw [bt_nat hlt, drop_at hlt, wsucc (n := s.size) (by omega) hs]
    refine Ev_if (fun h => Ev_val ?_) (fun h => Ev_eq (ih (i + 1) (by omega) (by omega)) ?_)
    · have : s.data.toList[i] = 10 := by
        apply UInt8.toNat_inj.1
        have h2 : s.data.toList[i].toNat = 10 := by omega
        exact h2
      rw [lineEnd, if_pos this]
      rfl
    · have : ¬ s.data.toList[i] = 10 := fun e => h (by rw [e]; rfl)
      rw [lineEnd, if_neg this]
      omega
theorem ended_tells (s : ByteArray) (hs : s.size ≤ 9223372036854775807) : Ev (fun k => spec_l1Ended.f k s) ((lineEnd s.data.toList : Nat) : Int) := by
  unfold spec_l1Ended.f
  have h := ended_loop s hs _ 0 rfl (by omega)
  rw [List.drop_zero, Nat.zero_add] at h
  exact h
def lineBad (s : List UInt8) (last : Bool) : Bool := decide (s = [] ∨ 10 ∈ s.dropLast ∨ (¬ 10 ∈ s ∧ last = false))
def linesBad : List ByteArray → Bool
  | [] => false
  | x :: r => lineBad x.data.toList (decide (r = [])) || linesBad r
theorem lb_go {x : ByteArray} {r : List ByteArray} (h : lineBad x.data.toList (decide (r = [])) = false) : (if linesBad r then (1 : Int) else 0) = if linesBad (x :: r) then 1 else 0 := by
  unfold linesBad
  rw [h, Bool.false_or]
  cases r <;> rfl
theorem lb_end {x : ByteArray} {r : List ByteArray} (h : lineBad x.data.toList (decide (r = [])) = true) : (1 : Int) = if linesBad (x :: r) then 1 else 0 := by
  unfold linesBad
  rw [h, Bool.true_or]
  rfl
def LF (xs : List ByteArray) : Int := if xs.length > 100 ∨ total xs > 2000 then 2 else if linesBad xs then 1 else 0
theorem slf_loop1 (xs : List ByteArray) (hx : ∀ x ∈ xs, x.size ≤ 9223372036854775807) (hl : xs.length ≤ 9223372036854775807) : ∀ (d i : Nat), xs.length - i = d → i ≤ xs.length →
    Ev (fun k => spec_LinesFault.l1 k xs (i : Int)) (if linesBad (xs.drop i) then 1 else 0) := by
  intro d
  induction d with
  | zero =>
    intro i hd hi
    refine Ev.step (fun k => by rw [spec_LinesFault.l1]) (Ev_neg (by omega) (Ev_val ?_))
    rw [List.drop_eq_nil_of_le (by omega)]
    rfl
  | succ d ih =>
    intro i hd hi
    have hlt : i < xs.length := by omega
    have hs := hx xs[i] (List.getElem_mem hlt)
    refine Ev.step (fun k => by rw [spec_LinesFault.l1]) (Ev_pos (by omega) (Ev_pos (by omega) ?_))
    rw [rd_nat _ hlt, drop_at hlt, wsucc hlt hl]
    refine Ev_call (ended_tells _ hs) ?_
    have hle := lineEnd_le xs[i].data.toList
    rw [size_data] at hle
    have hrest : xs.drop (i + 1) = [] ↔ i + 1 = xs.length := by
      rw [List.drop_eq_nil_iff]
      omega
    refine Ev_if (fun h => Ev_val ?_) (fun h => ?_)
    · have h2 := toList_nil.1 h
      exact lb_end (by simp [lineBad, h2])
    have hne : ¬ xs[i].data.toList = [] := fun e => h (toList_nil.2 e)
    have h0 : xs[i].data.toList.length ≠ 0 := fun e => hne (List.length_eq_zero_iff.1 e)
    rw [size_data] at h0
    rw [wid (by omega) (by omega)]
    have hearly := lineEnd_early xs[i].data.toList
    rw [size_data] at hearly
    have hmem := lineEnd_mem xs[i].data.toList
    rw [size_data] at hmem
    refine Ev_if (fun h => Ev_val ?_) (fun h => ?_)
    · have h2 : 10 ∈ xs[i].data.toList.dropLast := hearly.1 (by omega)
      exact lb_end (by simp [lineBad, h2])
    have hn2 : ¬ 10 ∈ xs[i].data.toList.dropLast := fun e => h (by have := hearly.2 e; omega)
    have go : (¬ 10 ∈ xs[i].data.toList → i + 1 = xs.length) → Ev (fun k => spec_LinesFault.l1 k xs ((i + 1 : Nat) : Int)) (if linesBad (xs[i] :: xs.drop (i + 1)) then 1 else 0) := by
      intro hg
      refine Ev_eq (ih (i + 1) (by omega) (by omega)) ?_
      have : lineBad xs[i].data.toList (decide (xs.drop (i + 1) = [])) = false := by
        unfold lineBad
        rw [decide_eq_false_iff_not]
        rintro (h1 | h1 | ⟨h1, h2⟩)
        · exact hne h1
        · exact hn2 h1
        · rw [decide_eq_false_iff_not, hrest] at h2
          exact h2 (hg h1)
      exact lb_go this
    refine Ev_if (fun h => ?_) (fun h => ?_)
    · have hno : ¬ 10 ∈ xs[i].data.toList := fun e => by have := hmem.2 e; omega
      rw [wid (by omega) (by omega)]
      refine Ev_if (fun h3 => Ev_val ?_) (fun h3 => go (fun _ => by omega))
      have : lineBad xs[i].data.toList (decide (xs.drop (i + 1) = [])) = true := by
        unfold lineBad
        rw [decide_eq_true_iff]
        refine .inr (.inr ⟨hno, ?_⟩)
        rw [decide_eq_false_iff_not, hrest]
        omega
      exact lb_end this
    · exact go (fun hno => absurd (hmem.1 (by omega)) hno)
theorem slf_loop0 (xs : List ByteArray) (hx : ∀ x ∈ xs, x.size ≤ 9223372036854775807) (hl : xs.length ≤ 9223372036854775807) (hb : total xs ≤ 9223372036854775807) : ∀ (d i n : Nat), xs.length - i = d → i ≤ xs.length → n + total (xs.drop i) = total xs →
    Ev (fun k => spec_LinesFault.l0 k xs (n : Int) (i : Int)) (LF xs) := by
  intro d
  induction d with
  | zero =>
    intro i n hd hi hn
    rw [List.drop_eq_nil_of_le (by omega)] at hn
    simp only [total, Nat.add_zero] at hn
    refine Ev.step (fun k => by rw [spec_LinesFault.l0]) (Ev_neg (by omega) ?_)
    have body : ∀ b : Bool, b = decide (xs.length > 100 ∨ total xs > 2000) → Ev (fun k => spec_LinesFault.j1 k xs b) (LF xs) := by
      intro b hb2
      refine Ev.step (fun k => by rw [spec_LinesFault.j1]) ?_
      unfold LF
      rw [hb2]
      refine Ev_if (fun h => Ev_val ?_) (fun h => ?_)
      · rw [if_pos (of_decide_eq_true h)]
      · rw [if_neg (fun e => h (decide_eq_true e))]
        have := slf_loop1 xs hx hl _ 0 rfl (by omega)
        rw [List.drop_zero] at this
        exact this
    refine Ev_if (fun h => body _ ?_) (fun h => body _ ?_)
    · symm
      rw [decide_eq_true_iff]
      exact .inl (by omega)
    · rw [decide_eq_decide]
      omega
  | succ d ih =>
    intro i n hd hi hn
    have hlt : i < xs.length := by omega
    rw [drop_at hlt] at hn
    simp only [total] at hn
    refine Ev.step (fun k => by rw [spec_LinesFault.l0]) (Ev_pos (by omega) (Ev_pos (by omega) ?_))
    rw [rd_nat _ hlt, wsucc hlt hl, wid (by omega) (by omega), show (n : Int) + (xs[i].size : Int) = ((n + xs[i].size : Nat) : Int) by omega]
    exact ih (i + 1) (n + xs[i].size) (by omega) (by omega) (by omega)
theorem slf_tells (xs : List ByteArray) (hx : ∀ x ∈ xs, x.size ≤ 9223372036854775807) (hl : xs.length ≤ 9223372036854775807) (hb : total xs ≤ 9223372036854775807) : Ev (fun k => spec_LinesFault.f k xs) (LF xs) := by
  unfold spec_LinesFault.f
  exact slf_loop0 xs hx hl hb _ 0 0 rfl (by omega) (by simp)
theorem isLine_tells (s : ByteArray) (hs : s.size ≤ 9223372036854775807) : impl_isLine.f s = some (decide (¬ (s.data.toList = [] ∨ 10 ∈ s.data.toList.dropLast))) := by
  unfold impl_isLine.f
  by_cases h : s.data.toList = []
  · rw [if_pos (toList_nil.2 h)]
    simp [h]
  · have h0 : s.data.toList.length ≠ 0 := fun e => h (List.length_eq_zero_iff.1 e)
    rw [size_data] at h0
    rw [if_neg (fun e => h (toList_nil.1 e)), wid (by omega) (by omega), if_pos (by omega), if_pos (by omega)]
    have he : (s.extract 0 ((s.size : Int) - 1).toNat).data.toList = s.data.toList.dropLast := by
      rw [← ByteArray.toList_eq, Lib.extract_toList, List.drop_zero, List.dropLast_eq_take, size_data]
      congr 1
      omega
    unfold strings_Contains.f
    simp only [Option.bind_some]
    rw [he]
    congr 1
    have hi := index_mem s.data.toList.dropLast 10
    by_cases hm : 10 ∈ s.data.toList.dropLast
    · have : (0 : Int) ≤ Lib.indexByte s.data.toList.dropLast 10 := hi.2 hm
      simp [hm, this]
    · have : ¬ (0 : Int) ≤ Lib.indexByte s.data.toList.dropLast 10 := fun e => hm (hi.1 e)
      simp only [this, hm, h]
      simp
theorem isWhole_tells (s : ByteArray) (hs : s.size ≤ 9223372036854775807) : impl_isWhole.f s = some (Lib.hasSuffix s.data.toList [10]) := by
  unfold impl_isWhole.f strings_HasSuffix.f
  rw [if_pos hs]
  rfl
theorem ilf_loop (xs : List ByteArray) (hx : ∀ x ∈ xs, x.size ≤ 9223372036854775807) (hl : xs.length ≤ 9223372036854775807) : ∀ (d i : Nat), xs.length - i = d → i ≤ xs.length →
    Ev (fun k => impl_LinesFault.l0 k xs xs (xs.length : Int) (i : Int)) (if linesBad (xs.drop i) then 1 else 0) := by
  intro d
  induction d with
  | zero =>
    intro i hd hi
    refine Ev.step (fun k => by rw [impl_LinesFault.l0]) (Ev_neg (by omega) (Ev_val ?_))
    rw [List.drop_eq_nil_of_le (by omega)]
    rfl
  | succ d ih =>
    intro i hd hi
    have hlt : i < xs.length := by omega
    have hs := hx xs[i] (List.getElem_mem hlt)
    have hrest : xs.drop (i + 1) = [] ↔ i + 1 = xs.length := by
      rw [List.drop_eq_nil_iff]
      omega
    refine Ev.step (fun k => by rw [impl_LinesFault.l0]) (Ev_pos (by omega) (Ev_pos (by omega) (Ev_pos (by omega) ?_)))
    rw [rd_nat _ hlt, drop_at hlt, wsucc hlt hl]
    refine Ev_const (isLine_tells _ hs) ?_
    refine Ev_if (fun h => ?_) (fun h => Ev_val ?_)
    · have h := of_decide_eq_true h
      have hne : ¬ xs[i].data.toList = [] := fun e => h (.inl e)
      have hn2 : ¬ 10 ∈ xs[i].data.toList.dropLast := fun e => h (.inr e)
      have go : (¬ 10 ∈ xs[i].data.toList → i + 1 = xs.length) → Ev (fun k => impl_LinesFault.l0 k xs xs (xs.length : Int) ((i + 1 : Nat) : Int)) (if linesBad (xs[i] :: xs.drop (i + 1)) then 1 else 0) := by
        intro hg
        refine Ev_eq (ih (i + 1) (by omega) (by omega)) ?_
        have : lineBad xs[i].data.toList (decide (xs.drop (i + 1) = [])) = false := by
          unfold lineBad
          rw [decide_eq_false_iff_not]
          rintro (h1 | h1 | ⟨h1, h2⟩)
          · exact hne h1
          · exact hn2 h1
          · rw [decide_eq_false_iff_not, hrest] at h2
            exact h2 (hg h1)
        exact lb_go this
      have hsuf := suffix_iff _ hn2
      refine Ev_const (isWhole_tells _ hs) (Ev_if (fun h3 => go (fun hno => absurd (hsuf.1 h3) hno)) (fun h3 => ?_))
      rw [wid (by omega) (by omega)]
      refine Ev_if (fun h4 => go (fun _ => by omega)) (fun h4 => Ev_val ?_)
      have : lineBad xs[i].data.toList (decide (xs.drop (i + 1) = [])) = true := by
        unfold lineBad
        rw [decide_eq_true_iff]
        refine .inr (.inr ⟨fun e => h3 (hsuf.2 e), ?_⟩)
        rw [decide_eq_false_iff_not, hrest]
        omega
      exact lb_end this
    · have h2 : xs[i].data.toList = [] ∨ 10 ∈ xs[i].data.toList.dropLast := Classical.byContradiction (fun e => h (decide_eq_true e))
      have : lineBad xs[i].data.toList (decide (xs.drop (i + 1) = [])) = true := by
        unfold lineBad
        rw [decide_eq_true_iff]
        rcases h2 with h2 | h2
        · exact .inl h2
        · exact .inr (.inl h2)
      exact lb_end this
theorem join_flat (xs : List ByteArray) : Lib.join (xs.map (·.data.toList)) [] = (xs.map (·.data.toList)).flatten := by
  unfold Lib.join
  induction xs with
  | nil => rfl
  | cons x l ih =>
    cases l with
    | nil => simp [List.intercalate]
    | cons y l =>
      simp only [List.map_cons, List.intercalate, List.intersperse, List.flatten_cons, List.nil_append] at ih ⊢
      rw [ih]
theorem join_all (xs : List ByteArray) : (Lib.join (xs.map (·.data.toList)) []).length = total xs := by
  rw [join_flat]
  induction xs with
  | nil => rfl
  | cons x l ih =>
    rw [List.map_cons, List.flatten_cons, List.length_append, ih, size_data]
    rfl
theorem ilf_tells (xs : List ByteArray) (hx : ∀ x ∈ xs, x.size ≤ 9223372036854775807) (hl : xs.length ≤ 140737488355328) (hb : total xs ≤ 140737488355328) : Ev (fun k => impl_LinesFault.f k xs) (LF xs) := by
  unfold impl_LinesFault.f
  have body : ∀ b : Bool, b = decide (xs.length > 100 ∨ total xs > 2000) → Ev (fun k => impl_LinesFault.j0 k xs b) (LF xs) := by
    intro b hb2
    refine Ev.step (fun k => by rw [impl_LinesFault.j0]) ?_
    unfold LF
    rw [hb2]
    refine Ev_if (fun h => Ev_val ?_) (fun h => ?_)
    · rw [if_pos (of_decide_eq_true h)]
    · rw [if_neg (fun e => h (decide_eq_true e))]
      have := ilf_loop xs hx (by omega) _ 0 rfl (by omega)
      rw [List.drop_zero] at this
      exact this
  refine Ev_if (fun h => body _ ?_) (fun h => ?_)
  · symm
    rw [decide_eq_true_iff]
    exact .inl (by omega)
  · have hj := join_all xs
    refine Ev_const (a := ⟨(Lib.join (xs.map (·.data.toList)) []).toArray⟩) ?_ (body _ ?_)
    · unfold strings_Join.f
      exact if_pos ⟨hl, by show (Lib.join _ []).length ≤ _; omega⟩
    · rw [decide_eq_decide]
      have : ((⟨(Lib.join (xs.map (·.data.toList)) []).toArray⟩ : ByteArray).size) = total xs := by
        rw [← hj]
        simp [ByteArray.size]
      rw [this]
      omega
end Go.Proofs.Ytjngmhngedecdaa.P
end
section
namespace Go.Proofs.Ytjngmhngedecdaa.P
open Go.RowKit Go.Proofs.YtjngmhngedecdaaW.PrintWords Go.Proofs.YtjngmhngedecdaaW.PrintLast Go.Proofs.YtjngmhngedecdaaW.PrintMore
attribute [local go_sem] max2_int min2_int max_two min_two max_three min_three max_four min_four
end Go.Proofs.Ytjngmhngedecdaa.P
end
section
namespace Go.Proofs.Ytjngmhngedecdaa.P
open Go.RowKit Go.Proofs.YtjngmhngedecdaaW.PrintWords Go.Proofs.YtjngmhngedecdaaW.PrintLast Go.Proofs.YtjngmhngedecdaaW.PrintMore
attribute [local go_sem] max2_int min2_int max_two min_two max_three min_three max_four min_four
end Go.Proofs.Ytjngmhngedecdaa.P
end
section
set_option linter.unusedVariables false
set_option linter.unusedSimpArgs false
namespace Go.Proofs.Ytjngmhngedecdaa.P
open Go.RowKit Go.Proofs.YtjngmhngedecdaaW.PrintWords Go.Proofs.YtjngmhngedecdaaW.PrintLast
def Small (xs : List ByteArray) : Prop := (∀ x ∈ xs, x.size ≤ 9223372036854775807) ∧ xs.length ≤ 1048576 ∧ total xs ≤ 1048576
theorem Small.slf {xs : List ByteArray} (h : Small xs) : Ev (fun k => spec_LinesFault.f k xs) (LF xs) := slf_tells xs h.1 (by have := h.2.1; omega) (by have := h.2.2; omega)
theorem Small.ilf {xs : List ByteArray} (h : Small xs) : Ev (fun k => impl_LinesFault.f k xs) (LF xs) := ilf_tells xs h.1 (by have := h.2.1; omega) (by have := h.2.2; omega)
def firstOf : List Int → Int
  | [] => 0
  | c :: l => if c = 0 then firstOf l else c
theorem first_loop (xs : List Int) (hl : xs.length ≤ 9223372036854775807) : ∀ (d i : Nat), xs.length - i = d → i ≤ xs.length → Ev (fun k => impl_firstCode.l0 k xs (xs.length : Int) (i : Int)) (firstOf (xs.drop i)) := by
  intro d
  induction d with
  | zero =>
    intro i hd hi
    refine Ev.step (fun k => by rw [impl_firstCode.l0]) (Ev_neg (by omega) (Ev_val ?_))
    rw [List.drop_eq_nil_of_le (by omega)]
    rfl
  | succ d ih =>
    intro i hd hi
    have hlt : i < xs.length := by omega
    refine Ev.step (fun k => by rw [impl_firstCode.l0]) (Ev_pos (by omega) (Ev_pos (by omega) (Ev_pos (by omega) ?_)))
    rw [rdi_nat hlt, drop_at hlt, wsucc hlt hl, firstOf]
    refine Ev_if (fun h => ?_) (fun h => ?_)
    · rw [if_pos h]
      exact ih (i + 1) (by omega) (by omega)
    · rw [if_neg h]
      exact Ev.now _
theorem first_tells (xs : List Int) (hl : xs.length ≤ 9223372036854775807) : Ev (fun k => impl_firstCode.f k xs) (firstOf xs) := by
  unfold impl_firstCode.f
  have := first_loop xs hl _ 0 rfl (by omega)
  rw [List.drop_zero] at this
  exact this
end Go.Proofs.Ytjngmhngedecdaa.P
end
section
set_option linter.unusedVariables false
set_option linter.unusedSimpArgs false
namespace Go.Proofs.Ytjngmhngedecdaa.P
open Go.RowKit Go.Proofs.YtjngmhngedecdaaW.PrintWords Go.Proofs.YtjngmhngedecdaaW.PrintLast
theorem Small.to {xs : List ByteArray} (h : Small xs) : Ev (fun k => laws_toStringS.f k xs) xs := to_tells xs (by have := h.2.1; omega)
theorem Small.eq {xs : List ByteArray} (h : Small xs) : Ev (fun k => laws_eqStringS.f k xs xs) true := eq_tells xs (by have := h.2.1; omega)
end Go.Proofs.Ytjngmhngedecdaa.P
end
section
namespace Go.Proofs.Ytjngmhngedecdaa.P
open Go.RowKit
theorem wsucc' {i : Nat} (hn : i < 9223372036854775807) : wrap64 ((i : Int) + 1) = ((i + 1 : Nat) : Int) := by
  rw [wid (by omega) (by omega)]
  omega
end Go.Proofs.Ytjngmhngedecdaa.P
end
section
set_option linter.unusedVariables false
namespace Go.Proofs.Ytjngmhngedecdaa.P
open Go.RowKit Go.Proofs.YtjngmhngedecdaaW.PrintWords Go.Proofs.YtjngmhngedecdaaW.PrintLast
theorem in_tells (x y z : Int) : spec_l1In.f x y z = some (decide (y ≤ x ∧ x ≤ z)) := by
  unfold spec_l1In.f
  split
  · rename_i h
    have h2 : y ≤ x := by omega
    simp [h2]
  · rename_i h
    have h2 : ¬ y ≤ x := by omega
    simp [h2]
theorem within_tells (x y z : Int) : impl_within.f x y z = some (decide (y ≤ x ∧ x ≤ z)) := by
  unfold impl_within.f
  split
  · rename_i h
    have h2 : y ≤ x := by omega
    simp [h2]
  · rename_i h
    have h2 : ¬ y ≤ x := by omega
    simp [h2]
end Go.Proofs.Ytjngmhngedecdaa.P
end
section
set_option linter.unusedVariables false
namespace Go.Proofs.Ytjngmhngedecdaa.P
def GL (l : List ByteArray) : Prop := l.length ≤ 9223372036854775807 ∧ ∀ x ∈ l, x.size ≤ 9223372036854775807
def lw (l : List ByteArray) : Nat := l.length + total l
theorem total_append (x y : List ByteArray) : total (x ++ y) = total x + total y := by
  induction x with
  | nil => simp [total]
  | cons a x ih => simp only [List.cons_append, total, ih]; omega
theorem lw_append (x y : List ByteArray) : lw (x ++ y) = lw x + lw y := by
  simp only [lw, total_append, List.length_append]
  omega
theorem lw_small {x : List ByteArray} (h : ∀ a ∈ x, a.size ≤ 9223372036854775807) (hw : lw x ≤ 1048576) : Small x := ⟨h, by unfold lw at hw; omega, by unfold lw at hw; omega⟩
end Go.Proofs.Ytjngmhngedecdaa.P
end
section
set_option linter.unusedVariables false
set_option linter.unusedSimpArgs false
namespace Go.Proofs.Ytjngmhngedecdaa.P
open Go.RowKit Go.Proofs.YtjngmhngedecdaaW.PrintWords Go.Proofs.YtjngmhngedecdaaW.PrintLast
theorem rdk_nat {l : List S58} {i : Nat} (h : i < l.length) : rd_T58 l (i : Int) = l[i] := by
  unfold rd_T58
  rw [Int.toNat_natCast, List.getD_eq_getElem?_getD, List.getElem?_eq_getElem h]
  rfl
def kw : List S58 → Nat
  | [] => 0
  | c :: l => lw c.f1 + lw c.f2 + lw c.f3 + kw l
theorem kw_at : ∀ (l : List S58) (i : Nat) (h : i < l.length), lw l[i].f1 + lw l[i].f2 + lw l[i].f3 ≤ kw l := by
  intro l
  induction l with
  | nil => intro i h; exact absurd h (by simp)
  | cons c l ih =>
    intro i h
    cases i with
    | zero => simp only [List.getElem_cons_zero, kw]; omega
    | succ i => simp only [List.getElem_cons_succ, kw]; have := ih i (by simpa using h); omega
def GK (c : S58) : Prop := (∀ a ∈ c.f1, a.size ≤ 9223372036854775807) ∧ (∀ a ∈ c.f2, a.size ≤ 9223372036854775807) ∧ (∀ a ∈ c.f3, a.size ≤ 9223372036854775807)
def SmallK (l : List S58) : Prop := (∀ c ∈ l, GK c) ∧ l.length ≤ 1048576 ∧ kw l ≤ 1048576
theorem SmallK.at {l : List S58} (h : SmallK l) {i : Nat} (hi : i < l.length) : Small l[i].f1 ∧ Small l[i].f2 ∧ Small l[i].f3 := by
  have h1 := h.1 l[i] (List.getElem_mem hi)
  have h2 := kw_at l i hi
  have h3 := h.2.2
  exact ⟨lw_small h1.1 (by omega), lw_small h1.2.1 (by omega), lw_small h1.2.2 (by omega)⟩
def sideK (n : Int) (c : S58) : List ByteArray := if n = 0 then c.f1 else if n = 1 then c.f2 else c.f3
def sides (n : Int) (l : List S58) : List ByteArray := (l.map (sideK n)).flatten
theorem sides_cons (n : Int) (c : S58) (l : List S58) : sides n (c :: l) = sideK n c ++ sides n l := rfl
theorem sides_lw (n : Int) : ∀ l : List S58, lw (sides n l) ≤ kw l := by
  intro l
  induction l with
  | nil => simp [sides, lw, total, kw]
  | cons c l ih =>
    rw [sides_cons, lw_append]
    simp only [kw]
    have : lw (sideK n c) ≤ lw c.f1 + lw c.f2 + lw c.f3 := by
      unfold sideK
      split
      · omega
      · split <;> omega
    omega
theorem sides_good (n : Int) : ∀ l : List S58, (∀ c ∈ l, GK c) → ∀ a ∈ sides n l, a.size ≤ 9223372036854775807 := by
  intro l
  induction l with
  | nil => intro _ a ha; exact absurd ha (by simp [sides])
  | cons c l ih =>
    intro h a ha
    rw [sides_cons, List.mem_append] at ha
    rcases ha with ha | ha
    · have hc := h c (by simp)
      unfold sideK at ha
      split at ha
      · exact hc.1 a ha
      · split at ha
        · exact hc.2.1 a ha
        · exact hc.2.2 a ha
    · exact ih (fun c hc => h c (by simp [hc])) a ha
theorem SmallK.side {l : List S58} (h : SmallK l) (n : Int) : Small (sides n l) := lw_small (sides_good n l h.1) (by have := sides_lw n l; have := h.2.2; omega)
theorem sside_loop (l : List S58) (hl : SmallK l) (n : Int) (h0 : 0 ≤ n) (h2 : n ≤ 2) : ∀ (d i : Nat) (acc : List ByteArray), l.length - i = d → i ≤ l.length → acc.length + (sides n (l.drop i)).length ≤ 1048576 →
    Ev (fun k => spec_l4Side.l0 k l n acc (i : Int)) (acc ++ sides n (l.drop i)) := by
  intro d
  induction d with
  | zero =>
    intro i acc hd hi ha
    refine Ev.step (fun k => by rw [spec_l4Side.l0]) (Ev_neg (by omega) (Ev_val ?_))
    rw [List.drop_eq_nil_of_le (by omega)]
    simp [sides]
  | succ d ih =>
    intro i acc hd hi ha
    have hlt : i < l.length := by omega
    have hn := hl.2.1
    rw [drop_at hlt, sides_cons, List.length_append] at ha
    have nx := ih (i + 1) (acc ++ sideK n l[i]) (by omega) (by omega) (by rw [List.length_append]; omega)
    rw [List.append_assoc, ← sides_cons, ← drop_at hlt] at nx
    refine Ev.step (fun k => by rw [spec_l4Side.l0]) (Ev_pos (by omega) ?_)
    rw [rdk_nat hlt, wsucc hlt (by omega)]
    by_cases c0 : n = 0
    · have e : sideK n l[i] = l[i].f1 := by unfold sideK; rw [if_pos c0]
      rw [e] at ha nx
      exact Ev_pos c0 (Ev_pos (by omega) (Ev_pos (by omega) nx))
    · by_cases c1 : n = 1
      · have e : sideK n l[i] = l[i].f2 := by unfold sideK; rw [if_neg c0, if_pos c1]
        rw [e] at ha nx
        exact Ev_neg c0 (Ev_pos c1 (Ev_pos (by omega) (Ev_pos (by omega) nx)))
      · have e : sideK n l[i] = l[i].f3 := by unfold sideK; rw [if_neg c0, if_neg c1]
        rw [e] at ha nx
        exact Ev_neg c0 (Ev_neg c1 (Ev_pos (by omega) (Ev_pos (by omega) (Ev_pos (by omega) nx))))
theorem sside_tells {l : List S58} (hl : SmallK l) (n : Int) (h0 : 0 ≤ n) (h2 : n ≤ 2) : Ev (fun k => spec_l4Side.f k l n) (sides n l) := by
  have := sside_loop l hl n h0 h2 _ 0 [] rfl (by omega) (by have := (hl.side n).2.1; simpa using this)
  exact this
theorem iside_loop (l : List S58) (hl : SmallK l) (n : Int) (h0 : 0 ≤ n) (h2 : n ≤ 2) : ∀ (d i : Nat) (acc : List ByteArray), l.length - i = d → i ≤ l.length → acc.length + (sides n (l.drop i)).length ≤ 1048576 →
    Ev (fun k => impl_sideOf.l0 k n acc l (l.length : Int) (i : Int)) (acc ++ sides n (l.drop i)) := by
  intro d
  induction d with
  | zero =>
    intro i acc hd hi ha
    refine Ev.step (fun k => by rw [impl_sideOf.l0]) (Ev_neg (by omega) (Ev_val ?_))
    rw [List.drop_eq_nil_of_le (by omega)]
    simp [sides]
  | succ d ih =>
    intro i acc hd hi ha
    have hlt : i < l.length := by omega
    have hn := hl.2.1
    rw [drop_at hlt, sides_cons, List.length_append] at ha
    have nx := ih (i + 1) (acc ++ sideK n l[i]) (by omega) (by omega) (by rw [List.length_append]; omega)
    rw [List.append_assoc, ← sides_cons, ← drop_at hlt] at nx
    refine Ev.step (fun k => by rw [impl_sideOf.l0]) (Ev_pos (by omega) (Ev_pos (by omega) (Ev_pos (by omega) ?_)))
    rw [rdk_nat hlt, wsucc hlt (by omega)]
    by_cases c0 : n = 0
    · have e : sideK n l[i] = l[i].f1 := by unfold sideK; rw [if_pos c0]
      rw [e] at ha nx
      exact Ev_pos c0 (Ev_pos (by omega) nx)
    · by_cases c1 : n = 1
      · have e : sideK n l[i] = l[i].f2 := by unfold sideK; rw [if_neg c0, if_pos c1]
        rw [e] at ha nx
        exact Ev_neg c0 (Ev_pos c1 (Ev_pos (by omega) nx))
      · have e : sideK n l[i] = l[i].f3 := by unfold sideK; rw [if_neg c0, if_neg c1]
        rw [e] at ha nx
        exact Ev_neg c0 (Ev_neg c1 (Ev_pos (by omega) nx))
theorem iside_tells {l : List S58} (hl : SmallK l) (n : Int) (h0 : 0 ≤ n) (h2 : n ≤ 2) : Ev (fun k => impl_sideOf.f k l n) (sides n l) := by
  have := iside_loop l hl n h0 h2 _ 0 [] rfl (by omega) (by have := (hl.side n).2.1; simpa using this)
  exact this
def kindK (b o t : List ByteArray) : Int := if b = o ∧ b = t then 0 else if b = t then 1 else if b = o then 2 else if o = t then 3 else 4
theorem kindK_val (b o t : List ByteArray) {p q r : Bool} (hp : p = decide (b = o)) (hq : q = decide (b = t)) (hr : r = decide (o = t)) : kindK b o t = if p = true ∧ q = true then 0 else if q = true then 1 else if p = true then 2 else if r = true then 3 else 4 := by
  subst hp hq hr
  simp only [kindK, decide_eq_true_eq]
theorem skind_tells {b o t : List ByteArray} (hb : b.length ≤ 1048576) (ho : o.length ≤ 1048576) : Ev (fun k => spec_l4Kind.f k b o t) (kindK b o t) := by
  unfold spec_l4Kind.f
  refine Ev_call (ssame_tells b o (by omega)) (Ev_call (ssame_tells b t (by omega)) ?_)
  rw [kindK_val b o t rfl rfl rfl]
  generalize decide (b = o) = p
  generalize decide (b = t) = q
  refine Ev_if (fun h1 => Ev.step (fun k => by rw [spec_l4Kind.j0]) ?_) (fun h1 => Ev.step (fun k => by rw [spec_l4Kind.j0]) ?_)
  · cases q
    · refine Ev_neg (by simp) (Ev_neg (by simp) (Ev_pos h1 (Ev_val ?_)))
      simp [h1]
    · refine Ev_pos rfl (Ev_val ?_)
      simp [h1]
  · refine Ev_neg (by simp) (Ev_if (fun h2 => Ev_val ?_) (fun h2 => Ev_neg h1 (Ev_call (ssame_tells o t (by omega)) (Ev_if (fun h3 => Ev_val ?_) (fun h3 => Ev_val ?_)))))
    · simp [h1, h2]
    · simp [h1, h2, h3]
    · simp [h1, h2, h3]
theorem ikind_tells {b o t : List ByteArray} (hb : b.length ≤ 1048576) (ho : o.length ≤ 1048576) : Ev (fun k => impl_kindOf.f k b o t) (kindK b o t) := by
  unfold impl_kindOf.f
  refine Ev_call (isame_tells b o (by omega)) (Ev_call (isame_tells b t (by omega)) (Ev_call (isame_tells o t (by omega)) ?_))
  rw [kindK_val b o t rfl rfl rfl]
  generalize decide (b = o) = p
  generalize decide (b = t) = q
  generalize decide (o = t) = r
  refine Ev_if (fun h1 => Ev.step (fun k => by rw [impl_kindOf.j0]) ?_) (fun h1 => Ev.step (fun k => by rw [impl_kindOf.j0]) ?_)
  · cases q
    · refine Ev_neg (by simp) (Ev_neg (by simp) (Ev_pos h1 (Ev_val ?_)))
      simp [h1]
    · refine Ev_pos rfl (Ev_val ?_)
      simp [h1]
  · refine Ev_neg (by simp) (Ev_if (fun h2 => Ev_val ?_) (fun h2 => Ev_neg h1 (Ev_if (fun h3 => Ev_val ?_) (fun h3 => Ev_val ?_))))
    · simp [h1, h2]
    · simp [h1, h2, h3]
    · simp [h1, h2, h3]
def KF : List S58 → Int
  | [] => 0
  | c :: l => if ¬ (0 ≤ c.f0 ∧ c.f0 ≤ 4) then 3 else if kindK c.f1 c.f2 c.f3 ≠ c.f0 ∨ c.f1.length + c.f2.length + c.f3.length = 0 then 1 else KF l
theorem KF_cons (c : S58) (l : List S58) : KF (c :: l) = if ¬ (0 ≤ c.f0 ∧ c.f0 ≤ 4) then 3 else if kindK c.f1 c.f2 c.f3 ≠ c.f0 ∨ c.f1.length + c.f2.length + c.f3.length = 0 then 1 else KF l := rfl
def SF (l : List S58) : Int := if LF (sides 0 l) ≠ 0 then LF (sides 0 l) else if LF (sides 1 l) ≠ 0 then LF (sides 1 l) else LF (sides 2 l)
def CKF (l : List S58) : Int := if l.length > 201 then 2 else if KF l = 0 then SF l else KF l
theorem sckf_loop1 {l : List S58} (hl : SmallK l) : Ev (fun k => spec_ChunksFault.l1 k l 0) (SF l) := by
  unfold SF
  have one : ∀ n : Nat, n < 3 → ∀ {r : Int}, (LF (sides n l) = 0 → Ev (fun k => spec_ChunksFault.l1 k l ((n + 1 : Nat) : Int)) r) → (LF (sides n l) ≠ 0 → LF (sides n l) = r) → Ev (fun k => spec_ChunksFault.l1 k l (n : Int)) r := by
    intro n hn r h1 h2
    refine Ev.step (fun k => by rw [spec_ChunksFault.l1]) (Ev_pos (by omega) ?_)
    refine Ev_call (sside_tells hl n (by omega) (by omega)) (Ev_call (hl.side n).slf (Ev_if (fun h => ?_) (fun h => Ev_val (h2 h))))
    rw [wsucc' (by omega)]
    exact h1 h
  refine one 0 (by omega) (fun h0 => ?_) (fun h0 => ?_)
  · rw [if_neg (by intro e; exact e h0)]
    refine one 1 (by omega) (fun h1 => ?_) (fun h1 => ?_)
    · rw [if_neg (by intro e; exact e h1)]
      refine one 2 (by omega) (fun h2 => ?_) (fun h2 => rfl)
      exact Ev.step (fun k => by rw [spec_ChunksFault.l1]) (Ev_neg (by omega) (Ev_val h2.symm))
    · exact (if_pos h1).symm
  · exact (if_pos h0).symm
theorem sckf_loop {l : List S58} (hl : SmallK l) : ∀ (d i : Nat), l.length - i = d → i ≤ l.length → Ev (fun k => spec_ChunksFault.l0 k l (i : Int)) (if KF (l.drop i) = 0 then SF l else KF (l.drop i)) := by
  intro d
  induction d with
  | zero =>
    intro i hd hi
    refine Ev.step (fun k => by rw [spec_ChunksFault.l0]) (Ev_neg (by omega) ?_)
    rw [List.drop_eq_nil_of_le (by omega)]
    exact Ev_eq (sckf_loop1 hl) rfl
  | succ d ih =>
    intro i hd hi
    have hlt : i < l.length := by omega
    obtain ⟨s1, s2, s3⟩ := hl.at hlt
    have l1 := s1.2.1
    have l2 := s2.2.1
    have l3 := s3.2.1
    have hn := hl.2.1
    have nx := ih (i + 1) (by omega) (by omega)
    refine Ev.step (fun k => by rw [spec_ChunksFault.l0]) (Ev_pos (by omega) (Ev_pos (by omega) ?_))
    rw [rdk_nat hlt, wsucc hlt (by omega), drop_at hlt]
    refine Ev_const (in_tells _ _ _) (Ev_if (fun h => ?_) (fun h => ?_))
    · have hin : ¬ ¬ (0 ≤ l[i].f0 ∧ l[i].f0 ≤ 4) := fun e => e (of_decide_eq_true h)
      refine Ev_call (skind_tells (by omega) (by omega)) (Ev_if (fun h2 => ?_) (fun h2 => Ev_val ?_))
      · rw [wid (x := ((l[i].f1).length : Int) + ((l[i].f2).length : Int)) (by omega) (by omega), wid (by omega) (by omega)]
        refine Ev_if (fun h3 => Ev_val ?_) (fun h3 => ?_)
        · have e : KF (l[i] :: l.drop (i + 1)) = 1 := by rw [KF_cons, if_neg hin, if_pos (.inr (by omega))]
          rw [e]
          rfl
        · have e : KF (l[i] :: l.drop (i + 1)) = KF (l.drop (i + 1)) := by
            rw [KF_cons, if_neg hin, if_neg]
            rintro (e | e)
            · exact e h2
            · omega
          rw [e]
          exact nx
      · have e : KF (l[i] :: l.drop (i + 1)) = 1 := by rw [KF_cons, if_neg hin, if_pos (.inl h2)]
        rw [e]
        rfl
    · have e : KF (l[i] :: l.drop (i + 1)) = 3 := by rw [KF_cons, if_pos (fun e => h (decide_eq_true e))]
      rw [e]
      exact Ev.now _
theorem sckf_tells {l : List S58} (hl : SmallK l) : Ev (fun k => spec_ChunksFault.f k l) (CKF l) := by
  unfold spec_ChunksFault.f CKF
  refine Ev_if (fun h => Ev_val ?_) (fun h => ?_)
  · rw [if_pos (by omega)]
  · rw [if_neg (by omega)]
    have := sckf_loop hl _ 0 rfl (by omega)
    rw [List.drop_zero] at this
    exact this
theorem ickf_loop {l : List S58} (hl : SmallK l) : ∀ (d i : Nat), l.length - i = d → i ≤ l.length → Ev (fun k => impl_ChunksFault.l0 k l l (l.length : Int) (i : Int)) (if KF (l.drop i) = 0 then SF l else KF (l.drop i)) := by
  intro d
  induction d with
  | zero =>
    intro i hd hi
    refine Ev.step (fun k => by rw [impl_ChunksFault.l0]) (Ev_neg (by omega) ?_)
    rw [List.drop_eq_nil_of_le (by omega)]
    refine Ev_call (iside_tells hl 0 (by omega) (by omega)) (Ev_call (hl.side 0).ilf (Ev_call (iside_tells hl 1 (by omega) (by omega)) (Ev_call (hl.side 1).ilf (Ev_call (iside_tells hl 2 (by omega) (by omega)) (Ev_call (hl.side 2).ilf (Ev_call (first_tells _ (by simp)) (Ev_val ?_)))))))
    simp only [firstOf, KF, SF]
    repeat' split
    all_goals first | rfl | contradiction | omega
  | succ d ih =>
    intro i hd hi
    have hlt : i < l.length := by omega
    obtain ⟨s1, s2, s3⟩ := hl.at hlt
    have l1 := s1.2.1
    have l2 := s2.2.1
    have l3 := s3.2.1
    have hn := hl.2.1
    have nx := ih (i + 1) (by omega) (by omega)
    refine Ev.step (fun k => by rw [impl_ChunksFault.l0]) (Ev_pos (by omega) (Ev_pos (by omega) (Ev_pos (by omega) ?_)))
    rw [rdk_nat hlt, wsucc hlt (by omega), drop_at hlt]
    refine Ev_const (within_tells _ _ _) (Ev_if (fun h => ?_) (fun h => ?_))
    · have hin : ¬ ¬ (0 ≤ l[i].f0 ∧ l[i].f0 ≤ 4) := fun e => e (of_decide_eq_true h)
      refine Ev_call (ikind_tells (by omega) (by omega)) (Ev_if (fun h2 => ?_) (fun h2 => Ev_val ?_))
      · rw [wid (x := ((l[i].f1).length : Int) + ((l[i].f2).length : Int)) (by omega) (by omega), wid (by omega) (by omega)]
        refine Ev_if (fun h3 => Ev_val ?_) (fun h3 => ?_)
        · have e : KF (l[i] :: l.drop (i + 1)) = 1 := by rw [KF_cons, if_neg hin, if_pos (.inr (by omega))]
          rw [e]
          rfl
        · have e : KF (l[i] :: l.drop (i + 1)) = KF (l.drop (i + 1)) := by
            rw [KF_cons, if_neg hin, if_neg]
            rintro (e | e)
            · exact e h2.symm
            · omega
          rw [e]
          exact nx
      · have e : KF (l[i] :: l.drop (i + 1)) = 1 := by rw [KF_cons, if_neg hin, if_pos (.inl (fun e => h2 e.symm))]
        rw [e]
        rfl
    · have e : KF (l[i] :: l.drop (i + 1)) = 3 := by rw [KF_cons, if_pos (fun e => h (decide_eq_true e))]
      rw [e]
      exact Ev.now _
theorem ickf_tells {l : List S58} (hl : SmallK l) : Ev (fun k => impl_ChunksFault.f k l) (CKF l) := by
  unfold impl_ChunksFault.f CKF
  refine Ev_if (fun h => Ev_val ?_) (fun h => ?_)
  · rw [if_pos (by omega)]
  · rw [if_neg (by omega)]
    have := ickf_loop hl _ 0 rfl (by omega)
    rw [List.drop_zero] at this
    exact this
theorem rdj_nat {l : List S53} {i : Nat} (h : i < l.length) : rd_T53 l (i : Int) = l[i] := by
  unfold rd_T53
  rw [Int.toNat_natCast, List.getD_eq_getElem?_getD, List.getElem?_eq_getElem h]
  rfl
def ck (x : S53) : S58 := ⟨x.f0, x.f1, x.f2, x.f3⟩
theorem szk_tells (a : Int) (x y z : List ByteArray) (gx : GL x) (gy : GL y) (gz : GL z) (n : Int) (h0 : 0 ≤ n) (h1 : n ≤ 1048576) :
    ∃ r, Ev (fun k => laws_szChunk.f k a x y z n) r ∧ (r < 0 ∨ (0 ≤ r ∧ r ≤ n ∧ ((lw x + lw y + lw z : Nat) : Int) = n - r)) := by
  obtain ⟨r1, e1, p1⟩ := sz_tells x gx n h0 h1
  rcases p1 with p1 | ⟨a1, b1, c1⟩
  · refine ⟨-1, ?_, .inl (by omega)⟩
    unfold laws_szChunk.f
    exact Ev_call e1 (Ev_pos p1 (Ev.now _))
  obtain ⟨r2, e2, p2⟩ := sz_tells y gy r1 a1 (by omega)
  rcases p2 with p2 | ⟨a2, b2, c2⟩
  · refine ⟨-1, ?_, .inl (by omega)⟩
    unfold laws_szChunk.f
    exact Ev_call e1 (Ev_neg (by omega) (Ev_call e2 (Ev_pos p2 (Ev.now _))))
  obtain ⟨r3, e3, p3⟩ := sz_tells z gz r2 a2 (by omega)
  rcases p3 with p3 | ⟨a3, b3, c3⟩
  · refine ⟨-1, ?_, .inl (by omega)⟩
    unfold laws_szChunk.f
    exact Ev_call e1 (Ev_neg (by omega) (Ev_call e2 (Ev_neg (by omega) (Ev_call e3 (Ev_pos p3 (Ev.now _))))))
  · refine ⟨r3, ?_, .inr ⟨a3, by omega, by unfold lw; omega⟩⟩
    unfold laws_szChunk.f
    exact Ev_call e1 (Ev_neg (by omega) (Ev_call e2 (Ev_neg (by omega) (Ev_call e3 (Ev_neg (by omega) (Ev.now _))))))
theorem szks_loop (xs : List S53) (hg : ∀ c ∈ xs, GL c.f1 ∧ GL c.f2 ∧ GL c.f3) (hl : xs.length ≤ 9223372036854775807) : ∀ (d i : Nat) (n : Int), xs.length - i = d → i ≤ xs.length → 0 ≤ n → n ≤ 1048576 →
    ∃ r, Ev (fun k => laws_szChunkS.l0 k xs n (i : Int)) r ∧ (r < 0 ∨ (0 ≤ r ∧ r ≤ n ∧ (kw ((xs.drop i).map ck) : Int) = n - r)) := by
  intro d
  induction d with
  | zero =>
    intro i n hd hi h0 h1
    refine ⟨n, Ev.step (fun k => by rw [laws_szChunkS.l0]) (Ev_neg (by omega) (Ev.now _)), .inr ⟨h0, Int.le_refl _, ?_⟩⟩
    rw [List.drop_eq_nil_of_le (by omega)]
    simp [kw]
  | succ d ih =>
    intro i n hd hi h0 h1
    have hlt : i < xs.length := by omega
    have g := hg xs[i] (List.getElem_mem hlt)
    obtain ⟨r, e, p⟩ := szk_tells xs[i].f0 xs[i].f1 xs[i].f2 xs[i].f3 g.1 g.2.1 g.2.2 n h0 h1
    rcases p with p | ⟨a1, b1, c1⟩
    · refine ⟨-1, Ev.step (fun k => by rw [laws_szChunkS.l0]) (Ev_pos (by omega) (Ev_pos (by omega) ?_)), .inl (by omega)⟩
      rw [rdj_nat hlt]
      exact Ev_call e (Ev_pos p (Ev.now _))
    · obtain ⟨r2, hr, hp⟩ := ih (i + 1) r (by omega) (by omega) a1 (by omega)
      refine ⟨r2, Ev.step (fun k => by rw [laws_szChunkS.l0]) (Ev_pos (by omega) (Ev_pos (by omega) ?_)), ?_⟩
      · rw [rdj_nat hlt, wsucc hlt hl]
        exact Ev_call e (Ev_neg (by omega) hr)
      · rcases hp with hp | ⟨h2, h3, h4⟩
        · exact .inl hp
        · refine .inr ⟨h2, by omega, ?_⟩
          rw [drop_at hlt]
          simp only [List.map_cons, kw, ck]
          omega
theorem guard_chunks (xs : List S53) (hg : ∀ c ∈ xs, GL c.f1 ∧ GL c.f2 ∧ GL c.f3) (hl : xs.length ≤ 9223372036854775807) (n : Int) (h0 : 0 ≤ n) (h1 : n ≤ 1048576) {F : Nat → Int → Option Bool}
    (h : ∀ r, 0 ≤ r → r ≤ n → SmallK (xs.map ck) → Ev (fun k => F k r) true) : Ev (fun k => (laws_szChunkS.f k xs n).bind fun t => (if t < 0 then (some true) else F k t)) true := by
  by_cases hc : n - (xs.length : Int) < 0
  · refine Ev_call (a := -1) ?_ (Ev_pos (by omega) (Ev.now _))
    unfold laws_szChunkS.f
    rw [wid (by omega) (by omega)]
    exact Ev_pos hc (Ev.now _)
  · obtain ⟨r, hr, hp⟩ := szks_loop xs hg hl _ 0 (n - (xs.length : Int)) rfl (by omega) (by omega) (by omega)
    refine Ev_call (a := r) ?_ ?_
    · unfold laws_szChunkS.f
      rw [wid (by omega) (by omega)]
      exact Ev_neg hc hr
    · rcases hp with hp | ⟨h2, h3, h4⟩
      · exact Ev_pos hp (Ev.now _)
      · rw [List.drop_zero] at h4
        refine Ev_neg (by omega) (h r h2 (by omega) ⟨?_, by rw [List.length_map]; omega, by omega⟩)
        intro c hc
        obtain ⟨x, hx, rfl⟩ := List.mem_map.1 hc
        exact ⟨(hg x hx).1.2, (hg x hx).2.1.2, (hg x hx).2.2.2⟩
theorem tok_tells (x : S53) (h : Small x.f1 ∧ Small x.f2 ∧ Small x.f3) : Ev (fun k => laws_toChunk.f k x.f0 x.f1 x.f2 x.f3) (x.f0, x.f1, x.f2, x.f3) := by
  unfold laws_toChunk.f
  exact Ev_call h.1.to (Ev_call h.2.1.to (Ev_call h.2.2.to (Ev.now _)))
theorem toks_loop (xs : List S53) (hs : SmallK (xs.map ck)) : ∀ (d i : Nat) (ys : List S58), xs.length - i = d → i ≤ xs.length → ys.length = xs.length →
    Ev (fun k => laws_toChunkS.l0 k xs ys (i : Int)) (ys.take i ++ (xs.drop i).map ck) := by
  have hl := hs.2.1
  rw [List.length_map] at hl
  intro d
  induction d with
  | zero =>
    intro i ys hd hi hy
    refine Ev.step (fun k => by rw [laws_toChunkS.l0]) (Ev_neg (by omega) (Ev_val ?_))
    rw [List.drop_eq_nil_of_le (show xs.length ≤ i by omega), List.map_nil, List.append_nil, List.take_of_length_le (by omega)]
  | succ d ih =>
    intro i ys hd hi hy
    have hlt : i < xs.length := by omega
    have hk := hs.at (i := i) (by rw [List.length_map]; exact hlt)
    rw [List.getElem_map] at hk
    refine Ev.step (fun k => by rw [laws_toChunkS.l0]) (Ev_pos (by omega) (Ev_pos (by omega) ?_))
    rw [rdj_nat hlt, wsucc hlt (by omega)]
    refine Ev_call (tok_tells xs[i] hk) (Ev_pos (by omega) ?_)
    rw [Int.toNat_natCast]
    refine Ev_eq (ih (i + 1) (ys.set i (ck xs[i])) (by omega) (by omega) (by rw [List.length_set]; exact hy)) ?_
    rw [drop_at hlt, List.map_cons, List.take_succ_eq_append_getElem (by rw [List.length_set]; omega), List.getElem_set_self, List.take_set_of_le (by omega), List.append_assoc]
    rfl
theorem toks_tells {xs : List S53} (hs : SmallK (xs.map ck)) : Ev (fun k => laws_toChunkS.f k xs) (xs.map ck) := by
  have hl := hs.2.1
  rw [List.length_map] at hl
  unfold laws_toChunkS.f
  refine Ev_pos (by omega) (Ev_pos (by rw [Int.toNat_natCast]; omega) ?_)
  have h := toks_loop xs hs _ 0 (List.replicate ((xs.length : Int) : Int).toNat z58) rfl (by omega) (by simp)
  exact Ev_eq h (by simp)
theorem eqks_loop (xs : List S58) (hs : SmallK xs) : ∀ (d i : Nat), xs.length - i = d → i ≤ xs.length → Ev (fun k => laws_eqChunkS.l0 k xs xs (i : Int)) true := by
  have hl := hs.2.1
  intro d
  induction d with
  | zero => intro i hd hi; exact Ev.step (fun k => by rw [laws_eqChunkS.l0]) (Ev_neg (by omega) (Ev.now _))
  | succ d ih =>
    intro i hd hi
    have hlt : i < xs.length := by omega
    have hk := hs.at hlt
    refine Ev.step (fun k => by rw [laws_eqChunkS.l0]) (Ev_pos (by omega) (Ev_pos (by omega) (Ev_pos (by omega) ?_)))
    rw [rdk_nat hlt, wsucc hlt (by omega)]
    refine Ev_call (a := true) ?_ (Ev_pos rfl (ih (i + 1) (by omega) (by omega)))
    unfold laws_eqChunk.f
    exact Ev_pos rfl (Ev_call hk.1.eq (Ev_pos rfl (Ev_call hk.2.1.eq (Ev_pos rfl (Ev_call hk.2.2.eq (Ev_pos rfl (Ev.now _)))))))
theorem eqks_tells {xs : List S58} (hs : SmallK xs) : Ev (fun k => laws_eqChunkS.f k xs xs) true := by
  unfold laws_eqChunkS.f
  exact Ev_pos rfl (eqks_loop xs hs _ 0 rfl (by omega))
end Go.Proofs.Ytjngmhngedecdaa.P
end
section
namespace Go.Proofs.Ytjngmhngedecdaa.P
open Go.RowKit Go.Proofs.YtjngmhngedecdaaW.PrintWords Go.Proofs.YtjngmhngedecdaaW.PrintLast Go.Proofs.YtjngmhngedecdaaW.PrintMore
attribute [local go_sem] max2_int min2_int max_two min_two max_three min_three max_four min_four
end Go.Proofs.Ytjngmhngedecdaa.P
end
section
namespace Go.Proofs.Ytjngmhngedecdaa.P
open Go.RowKit Go.Proofs.YtjngmhngedecdaaW.PrintWords Go.Proofs.YtjngmhngedecdaaW.PrintLast Go.Proofs.YtjngmhngedecdaaW.PrintMore
attribute [local go_sem] max2_int min2_int max_two min_two max_three min_three max_four min_four
end Go.Proofs.Ytjngmhngedecdaa.P
end
section
namespace Go.Proofs.Ytjngmhngedecdaa.P
open Go.RowKit Go.Proofs.YtjngmhngedecdaaW.PrintWords Go.Proofs.YtjngmhngedecdaaW.PrintLast Go.Proofs.YtjngmhngedecdaaW.PrintMore
attribute [local go_sem] max2_int min2_int max_two min_two max_three min_three max_four min_four
end Go.Proofs.Ytjngmhngedecdaa.P
end
section
set_option linter.unusedVariables false
set_option linter.unusedSimpArgs false
namespace Go.Proofs.Ytjngmhngedecdaa.P
open Go.RowKit Go.Proofs.YtjngmhngedecdaaW.PrintWords Go.Proofs.YtjngmhngedecdaaW.PrintLast
theorem mtext_loop : ∀ (n : Nat) (s : ByteArray), n + s.size ≤ 4611686018427387904 → ∃ t, Ev (fun k => laws_markText.l0 k (n : Int) s) t := by
  intro n
  induction n using Nat.strongRecOn with
  | _ n ih =>
    intro s hs
    by_cases h : n = 0
    · subst h
      exact ⟨_, Ev.step (fun k => by rw [laws_markText.l0]) (Ev_neg (by omega) (Ev_pos (by omega) (Ev.now _)))⟩
    · have hq : Int.tdiv (n : Int) 10 = ((n / 10 : Nat) : Int) := by
        rw [Int.tdiv_eq_ediv_of_nonneg (by omega)]
        omega
      have hsz : (strOfNums [(wrap64 (48 + (Int.tmod (n : Int) 10))) % 256] ++ s).size = 1 + s.size := by
        rw [ByteArray.size_append, strOfNums_size]
        rfl
      obtain ⟨t, ht⟩ := ih (n / 10) (by omega) (strOfNums [(wrap64 (48 + (Int.tmod (n : Int) 10))) % 256] ++ s) (by rw [hsz]; omega)
      refine ⟨t, Ev.step (fun k => by rw [laws_markText.l0]) (Ev_pos (by omega) ?_)⟩
      refine Ev_const rfl ?_
      refine Ev_pos (by rw [strOfNums_size]; simp; omega) ?_
      rw [hq, wid (by omega) (by omega)]
      exact ht
theorem mtext_some (n : Nat) (hn : n ≤ 4611686018427387904) : ∃ t, Ev (fun k => laws_markText.f k (n : Int)) t := by
  unfold laws_markText.f
  by_cases h : n = 0
  · subst h
    exact ⟨_, Ev_pos (by omega) (Ev.now _)⟩
  · obtain ⟨t, ht⟩ := mtext_loop n (⟨#[]⟩ : ByteArray) (by simp [ByteArray.size]; exact hn)
    exact ⟨t, Ev_neg (by omega) ht⟩
noncomputable def mtx (n : Nat) : ByteArray := @Classical.epsilon ByteArray ⟨⟨#[]⟩⟩ (fun t => Ev (fun k => laws_markText.f k (n : Int)) t)
theorem mtx_tells (n : Nat) (hn : n ≤ 4611686018427387904) : Ev (fun k => laws_markText.f k (n : Int)) (mtx n) := @Classical.epsilon_spec _ _ (mtext_some n hn)
noncomputable def mks : Nat → Nat → List ByteArray
  | _, 0 => []
  | n, d + 1 => mtx n :: mks (n + 1) d
theorem mks_length : ∀ (d n : Nat), (mks n d).length = d
  | 0, _ => rfl
  | d + 1, n => by rw [mks, List.length_cons, mks_length d (n + 1)]
theorem mark_loop (L : Nat) (hL : L ≤ 1000000000) : ∀ (d i n : Nat) (x : List ByteArray), L - i = d → i ≤ L → x.length = L → n + d ≤ 4611686018427387904 →
    Ev (fun k => laws_markStringS.l0 k x (n : Int) (i : Int)) (((n + d : Nat) : Int), x.take i ++ mks n d) := by
  intro d
  induction d with
  | zero =>
    intro i n x hd hi hx hn
    refine Ev.step (fun k => by rw [laws_markStringS.l0]) (Ev_neg (by omega) (Ev_val ?_))
    rw [mks, List.append_nil, List.take_of_length_le (by omega)]
    rfl
  | succ d ih =>
    intro i n x hd hi hx hn
    refine Ev.step (fun k => by rw [laws_markStringS.l0]) (Ev_pos (by omega) ?_)
    refine Ev_call (mtx_tells n (by omega)) ?_
    refine Ev_pos (by omega) ?_
    rw [wsucc' (i := n) (by omega), wsucc' (i := i) (by omega), Int.toNat_natCast]
    refine Ev_eq (ih (i + 1) (n + 1) (x.set i (mtx n)) (by omega) (by omega) (by rw [List.length_set]; exact hx) (by omega)) ?_
    rw [mks, List.take_succ_eq_append_getElem (by rw [List.length_set]; omega), List.getElem_set_self, List.take_set_of_le (by omega), List.append_assoc, show n + 1 + d = n + (d + 1) by omega]
    rfl
theorem mark_tells (x : List ByteArray) (n : Nat) (hx : x.length ≤ 1000000000) (hn : n ≤ 4611686017427387904) : Ev (fun k => laws_markStringS.f k x (n : Int)) (((n + x.length : Nat) : Int), mks n x.length) := by
  unfold laws_markStringS.f
  have h := mark_loop x.length hx _ 0 n x rfl (by omega) rfl (by omega)
  rw [List.take_zero, List.nil_append, Nat.sub_zero] at h
  exact h
theorem held_loop : ∀ (d n : Nat) (p : List ByteArray), p.length + d ≤ 1000000000 → n + d ≤ 4611686018427387904 → Ev (fun k => laws_heldStringS.l0 k (p ++ mks n d) (n : Int) (p.length : Int)) ((n + d : Nat) : Int) := by
  intro d
  induction d with
  | zero =>
    intro n p hp hn
    refine Ev.step (fun k => by rw [laws_heldStringS.l0]) ?_
    exact Ev_neg (by rw [mks, List.append_nil]; omega) (Ev.now _)
  | succ d ih =>
    intro n p hp hn
    have hl : (p ++ mks n (d + 1)).length = p.length + (d + 1) := by rw [List.length_append, mks_length]
    refine Ev.step (fun k => by rw [laws_heldStringS.l0]) (Ev_pos (by omega) (Ev_pos (by omega) ?_))
    refine Ev_call (mtx_tells n (by omega)) ?_
    have hg : rdOf ByteArray.empty (p ++ mks n (d + 1)) (p.length : Int) = mtx n := by
      rw [rd_nat _ (by omega), List.getElem_append_right (by omega)]
      simp [mks]
    rw [hg, wsucc' (i := n) (by omega), wsucc' (i := p.length) (by omega)]
    refine Ev_pos rfl ?_
    have h := ih (n + 1) (p ++ [mtx n]) (by simp; omega) (by omega)
    rw [List.append_assoc, List.length_append, List.length_singleton] at h
    rw [show n + (d + 1) = n + 1 + d by omega, mks]
    exact h
theorem held_tells (n d : Nat) (hd : d ≤ 1000000000) (hn : n ≤ 4611686017427387904) : Ev (fun k => laws_heldStringS.f k (mks n d) (n : Int)) ((n + d : Nat) : Int) := by
  unfold laws_heldStringS.f
  exact held_loop d n [] (by simp; exact hd) (by omega)
end Go.Proofs.Ytjngmhngedecdaa.P
end
section
set_option linter.unusedVariables false
set_option linter.unusedSimpArgs false
namespace Go.Proofs.Ytjngmhngedecdaa.P
open Go.RowKit Go.Proofs.YtjngmhngedecdaaW.PrintWords Go.Proofs.YtjngmhngedecdaaW.PrintLast
abbrev CK := S58
def nc (c : CK) : Nat := c.f1.length + c.f2.length + c.f3.length
noncomputable def mkk : Nat → List CK → List CK
  | _, [] => []
  | n, c :: l => ⟨(n : Int), mks (n + 1) c.f1.length, mks (n + 1 + c.f1.length) c.f2.length, mks (n + 1 + c.f1.length + c.f2.length) c.f3.length⟩ :: mkk (n + 1 + c.f1.length + c.f2.length + c.f3.length) l
def ksz : Nat → List CK → Nat
  | n, [] => n
  | n, c :: l => ksz (n + 1 + c.f1.length + c.f2.length + c.f3.length) l
theorem ksz_ge : ∀ (l : List CK) (n : Nat), n ≤ ksz n l := by
  intro l
  induction l with
  | nil => intro n; exact Nat.le_refl _
  | cons c l ih => intro n; rw [ksz]; have := ih (n + 1 + c.f1.length + c.f2.length + c.f3.length); omega
theorem ksz_le : ∀ (l : List CK) (n : Nat), ksz n l ≤ n + l.length + kw l := by
  intro l
  induction l with
  | nil => intro n; simp [ksz]
  | cons c l ih =>
    intro n
    rw [ksz]
    have := ih (n + 1 + c.f1.length + c.f2.length + c.f3.length)
    simp only [List.length_cons, kw, lw]
    omega
theorem setk_mid {α : Type} (p : List α) (c v : α) (r : List α) : (p ++ c :: r).set p.length v = p ++ v :: r := by
  rw [List.set_append_right _ _ (Nat.le_refl _), Nat.sub_self]
  rfl
theorem rdk_mid (p : List CK) (c : CK) (r : List CK) : rd_T58 (p ++ c :: r) (p.length : Int) = c := by
  rw [rdk_nat (by simp)]
  simp
theorem markks_loop : ∀ (l p : List CK) (n : Nat), p.length + l.length ≤ 1048576 → (∀ c ∈ l, nc c ≤ 1048576) → ksz n l ≤ 4611686017427387000 →
    Ev (fun k => laws_markChunkS.l0 k (p ++ l) (n : Int) (p.length : Int)) (((ksz n l : Nat) : Int), p ++ mkk n l) := by
  intro l
  induction l with
  | nil =>
    intro p n hp hc hn
    refine Ev.step (fun k => by rw [laws_markChunkS.l0]) ?_
    refine Ev_neg (by rw [List.append_nil]; omega) (Ev_val ?_)
    rw [ksz, mkk]
  | cons c l ih =>
    intro p n hp hc hn
    have h0 := ksz_ge (c :: l) n
    have h1 := ksz_ge l (n + 1 + c.f1.length + c.f2.length + c.f3.length)
    rw [ksz] at hn
    have hc0 := hc c (by simp)
    unfold nc at hc0
    simp only [List.length_cons] at hp
    refine Ev.step (fun k => by rw [laws_markChunkS.l0]) ?_
    refine Ev_pos (by rw [List.length_append, List.length_cons]; omega) (Ev_pos (by omega) ?_)
    refine Ev_const rfl ?_
    rw [Int.toNat_natCast, rdk_mid, setk_mid, rdk_mid, wsucc' (i := n) (by omega), wsucc' (i := p.length) (by omega)]
    refine Ev_call (mark_tells c.f1 (n + 1) (by omega) (by omega)) (Ev_const rfl ?_)
    rw [setk_mid, rdk_mid]
    refine Ev_call (mark_tells c.f2 (n + 1 + c.f1.length) (by omega) (by omega)) (Ev_const rfl ?_)
    rw [setk_mid, rdk_mid]
    refine Ev_call (mark_tells c.f3 (n + 1 + c.f1.length + c.f2.length) (by omega) (by omega)) (Ev_const rfl ?_)
    rw [setk_mid]
    have e := ih (p ++ [⟨(n : Int), mks (n + 1) c.f1.length, mks (n + 1 + c.f1.length) c.f2.length, mks (n + 1 + c.f1.length + c.f2.length) c.f3.length⟩]) (n + 1 + c.f1.length + c.f2.length + c.f3.length) (by simp; omega) (fun x hx => hc x (by simp [hx])) (by omega)
    rw [List.append_assoc, List.length_append, List.append_assoc] at e
    exact e
theorem markks_from {l : List CK} (n : Nat) (hn : n ≤ 4611686017420000000) (h1 : l.length ≤ 1048576) (h2 : kw l ≤ 1048576) : Ev (fun k => laws_markChunkS.f k l (n : Int)) (((ksz n l : Nat) : Int), mkk n l) := by
  unfold laws_markChunkS.f
  have hc : ∀ c ∈ l, nc c ≤ 1048576 := fun c hc => by
    obtain ⟨i, hi, rfl⟩ := List.mem_iff_getElem.1 hc
    have := kw_at l i hi
    unfold nc
    unfold lw at this
    omega
  have h3 := ksz_le l n
  exact markks_loop l [] n (by simp; omega) hc (by omega)
theorem markks_tells {l : List CK} (h : SmallK l) : Ev (fun k => laws_markChunkS.f k l 1) (((ksz 1 l : Nat) : Int), mkk 1 l) := markks_from 1 (by omega) h.2.1 h.2.2
theorem heldks_loop : ∀ (l p : List CK) (n : Nat), p.length + l.length ≤ 1048576 → (∀ c ∈ l, nc c ≤ 1048576) → ksz n l ≤ 4611686017427387000 →
    Ev (fun k => laws_heldChunkS.l0 k (p ++ mkk n l) (n : Int) (p.length : Int)) ((ksz n l : Nat) : Int) := by
  intro l
  induction l with
  | nil =>
    intro p n hp hc hn
    refine Ev.step (fun k => by rw [laws_heldChunkS.l0]) ?_
    rw [mkk, ksz]
    exact Ev_neg (by rw [List.append_nil]; omega) (Ev_val rfl)
  | cons c l ih =>
    intro p n hp hc hn
    have h0 := ksz_ge (c :: l) n
    have h1 := ksz_ge l (n + 1 + c.f1.length + c.f2.length + c.f3.length)
    rw [ksz] at hn
    have hc0 := hc c (by simp)
    unfold nc at hc0
    simp only [List.length_cons] at hp
    rw [mkk]
    refine Ev.step (fun k => by rw [laws_heldChunkS.l0]) ?_
    refine Ev_pos (by rw [List.length_append, List.length_cons]; omega) (Ev_pos (by omega) ?_)
    rw [rdk_mid, wsucc' (i := n) (by omega), wsucc' (i := p.length) (by omega)]
    refine Ev_pos rfl (Ev_call (held_tells (n + 1) c.f1.length (by omega) (by omega)) (Ev_neg (by omega) ?_))
    refine Ev_call (held_tells (n + 1 + c.f1.length) c.f2.length (by omega) (by omega)) (Ev_neg (by omega) ?_)
    refine Ev_call (held_tells (n + 1 + c.f1.length + c.f2.length) c.f3.length (by omega) (by omega)) (Ev_neg (by omega) ?_)
    have e := ih (p ++ [⟨(n : Int), mks (n + 1) c.f1.length, mks (n + 1 + c.f1.length) c.f2.length, mks (n + 1 + c.f1.length + c.f2.length) c.f3.length⟩]) (n + 1 + c.f1.length + c.f2.length + c.f3.length) (by simp; omega) (fun x hx => hc x (by simp [hx])) (by omega)
    rw [List.append_assoc, List.length_append] at e
    exact e
theorem heldks_tells {l : List CK} (h1 : l.length ≤ 1048576) (h2 : kw l ≤ 1048576) : Ev (fun k => laws_heldChunkS.f k (mkk 1 l) 1) ((ksz 1 l : Nat) : Int) := by
  unfold laws_heldChunkS.f
  have hc : ∀ c ∈ l, nc c ≤ 1048576 := fun c hc => by
    obtain ⟨i, hi, rfl⟩ := List.mem_iff_getElem.1 hc
    have := kw_at l i hi
    unfold nc
    unfold lw at this
    omega
  have h3 := ksz_le l 1
  exact heldks_loop l [] 1 (by simp; omega) hc (by omega)
end Go.Proofs.Ytjngmhngedecdaa.P
end
section
set_option linter.unusedVariables false
set_option linter.unusedSimpArgs false
namespace Go.Proofs.Ytjngmhngedecdaa.P
open Go.RowKit Go.Proofs.YtjngmhngedecdaaW.PrintWords Go.Proofs.YtjngmhngedecdaaW.PrintLast
def mkc (b o t : List ByteArray) : CK := ⟨kindK b o t, b, o, t⟩
theorem copy_tells {x : List ByteArray} (h : x.length ≤ 1048576) : spec_l4Copy.f x = some x := by
  unfold spec_l4Copy.f
  show (if ([] : List ByteArray).length + x.length < 8796093022208 then _ else _) = _
  rw [if_pos (by simp; omega)]
  rfl
theorem clone_tells {x : List ByteArray} (h : x.length ≤ 1048576) : slices_CloneS.f x = some x := by
  unfold slices_CloneS.f
  rw [if_pos (by omega)]
theorem put_tells (out : List CK) {b o t : List ByteArray} (hb : b.length ≤ 1048576) (ho : o.length ≤ 1048576) (ht : t.length ≤ 1048576) (hl : out.length ≤ 1759218604440) :
    Ev (fun k => spec_l4Put.f k out b o t) (if b.length + o.length + t.length = 0 then out else out ++ [mkc b o t]) := by
  unfold spec_l4Put.f
  rw [wid (x := (b.length : Int) + (o.length : Int)) (by omega) (by omega), wid (by omega) (by omega)]
  refine Ev_if (fun h => Ev_val ?_) (fun h => ?_)
  · rw [if_pos (by omega)]
  · rw [if_neg (by omega)]
    exact Ev_call (skind_tells hb ho) (Ev_const (copy_tells hb) (Ev_const (copy_tells ho) (Ev_const (copy_tells ht) (Ev_pos (by omega) (Ev.now _)))))
theorem chunkOf_tells {b o t : List ByteArray} (hb : b.length ≤ 1048576) (ho : o.length ≤ 1048576) (ht : t.length ≤ 1048576) :
    Ev (fun k => impl_chunkOf.f k b o t) (kindK b o t, b, o, t) := by
  unfold impl_chunkOf.f
  exact Ev_call (ikind_tells hb ho) (Ev_const (clone_tells hb) (Ev_const (clone_tells ho) (Ev_const (clone_tells ht) (Ev.now _))))
end Go.Proofs.Ytjngmhngedecdaa.P
end
section
set_option linter.unusedVariables false
set_option linter.unusedSimpArgs false
namespace Go.Proofs.Ytjngmhngedecdaa.P.VFnExactSwapChunks
open Go.RowKit Go.Proofs.YtjngmhngedecdaaW.PrintWords Go.Proofs.YtjngmhngedecdaaW.PrintLast
def swk (c : CK) : CK := mkc c.f1 c.f3 c.f2
def SW (l : List CK) : Int × List CK := if CKF l = 0 then (0, l.map swk) else (CKF l, [])
theorem kw_swk : ∀ l : List CK, kw (l.map swk) = kw l := by
  intro l
  induction l with
  | nil => rfl
  | cons c l ih =>
    simp only [List.map_cons, kw, ih, swk, mkc]
    omega
theorem small_swk {l : List CK} (hs : SmallK l) : SmallK (l.map swk) := by
  refine ⟨fun c hc => ?_, by rw [List.length_map]; exact hs.2.1, by rw [kw_swk]; exact hs.2.2⟩
  obtain ⟨x, hx, rfl⟩ := List.mem_map.1 hc
  have h := hs.1 x hx
  exact ⟨h.1, h.2.2, h.2.1⟩
theorem SW_small {l : List CK} (hs : SmallK l) : SmallK (SW l).2 := by
  unfold SW
  split
  · exact small_swk hs
  · exact ⟨fun c hc => absurd hc (by simp), by simp, by simp [kw]⟩
theorem kf_nonempty : ∀ {l : List CK}, KF l = 0 → ∀ c ∈ l, ¬ c.f1.length + c.f2.length + c.f3.length = 0 := by
  intro l
  induction l with
  | nil => intro _ c hc; exact absurd hc (by simp)
  | cons c l ih =>
    intro h x hx
    rw [KF_cons] at h
    split at h
    · exact absurd h (by decide)
    · split at h
      · exact absurd h (by decide)
      · rename_i h2
        rcases List.mem_cons.1 hx with rfl | hx
        · exact fun e => h2 (.inr e)
        · exact ih h x hx
theorem ckf_kf {l : List CK} (h : CKF l = 0) : KF l = 0 := by
  unfold CKF at h
  split at h
  · exact absurd h (by decide)
  · split at h
    · assumption
    · assumption
theorem s_loop {l : List CK} (hs : SmallK l) (hn : ∀ c ∈ l, ¬ c.f1.length + c.f2.length + c.f3.length = 0) : ∀ (d i : Nat) (acc : List CK), l.length - i = d → i ≤ l.length → acc.length ≤ i → Ev (fun k => spec_SwapChunks.l0 k l acc (i : Int)) ((0 : Int), acc ++ (l.drop i).map swk) := by
  have hl := hs.2.1
  intro d
  induction d with
  | zero =>
    intro i acc hd hi ha
    refine Ev.step (fun k => by rw [spec_SwapChunks.l0]) (Ev_neg (by omega) (Ev_val ?_))
    rw [List.drop_eq_nil_of_le (by omega), List.map_nil, List.append_nil]
  | succ d ih =>
    intro i acc hd hi ha
    have hlt : i < l.length := by omega
    obtain ⟨s1, s2, s3⟩ := hs.at hlt
    have nx := ih (i + 1) (acc ++ [swk l[i]]) (by omega) (by omega) (by simp; omega)
    refine Ev.step (fun k => by rw [spec_SwapChunks.l0]) (Ev_pos (by omega) (Ev_pos (by omega) ?_))
    rw [rdk_nat hlt, wsucc hlt (by omega)]
    have hp := put_tells acc s1.2.1 s3.2.1 s2.2.1 (by omega)
    rw [if_neg (by have := hn l[i] (List.getElem_mem hlt); omega)] at hp
    refine Ev_call hp (Ev_eq nx ?_)
    rw [drop_at hlt, List.map_cons, List.append_assoc]
    rfl
theorem s_tells {l : List CK} (hs : SmallK l) : Ev (fun k => spec_SwapChunks.f k l) (SW l) := by
  unfold spec_SwapChunks.f SW
  refine Ev_call (sckf_tells hs) (Ev_if (fun h => ?_) (fun h => Ev_val ?_))
  · rw [if_pos h]
    exact s_loop hs (kf_nonempty (ckf_kf h)) _ 0 [] rfl (by omega) (by simp)
  · rw [if_neg h]
theorem i_loop {l : List CK} (hs : SmallK l) : ∀ (d i : Nat) (acc : List CK), l.length - i = d → i ≤ l.length → acc.length ≤ i → Ev (fun k => impl_swapChunks.l0 k acc l (l.length : Int) (i : Int)) (acc ++ (l.drop i).map swk) := by
  have hl := hs.2.1
  intro d
  induction d with
  | zero =>
    intro i acc hd hi ha
    refine Ev.step (fun k => by rw [impl_swapChunks.l0]) (Ev_neg (by omega) (Ev_val ?_))
    rw [List.drop_eq_nil_of_le (by omega), List.map_nil, List.append_nil]
  | succ d ih =>
    intro i acc hd hi ha
    have hlt : i < l.length := by omega
    obtain ⟨s1, s2, s3⟩ := hs.at hlt
    have nx := ih (i + 1) (acc ++ [swk l[i]]) (by omega) (by omega) (by simp; omega)
    refine Ev.step (fun k => by rw [impl_swapChunks.l0]) (Ev_pos (by omega) (Ev_pos (by omega) (Ev_pos (by omega) ?_)))
    rw [rdk_nat hlt, wsucc hlt (by omega)]
    refine Ev_call (chunkOf_tells s1.2.1 s3.2.1 s2.2.1) (Ev_pos (by omega) (Ev_eq nx ?_))
    rw [drop_at hlt, List.map_cons, List.append_assoc]
    rfl
theorem i_tells {l : List CK} (hs : SmallK l) : Ev (fun k => impl_SwapChunks.f k l) (SW l) := by
  unfold impl_SwapChunks.f SW
  refine Ev_call (ickf_tells hs) (Ev_if (fun h => ?_) (fun h => Ev_val ?_))
  · rw [if_pos h]
    refine Ev_call (a := l.map swk) ?_ (Ev.now _)
    unfold impl_swapChunks.f
    exact i_loop hs _ 0 [] rfl (by omega) (by simp)
  · rw [if_neg h]
theorem proof : UFnExactSwapChunks.Pure := by
  intro l0 g0
  apply Ev.rounds
  unfold laws_FnExactSwapChunks.f
  refine guard_chunks l0 (fun c hc => ⟨(g0.2 c hc).2.1, (g0.2 c hc).2.2.1, (g0.2 c hc).2.2.2⟩) g0.1 1048576 (by omega) (by omega) (fun r h0 h1 hs => ?_)
  have tc := toks_tells hs
  obtain ⟨c, x, hw⟩ : ∃ c x, SW (l0.map ck) = (c, x) := ⟨_, _, rfl⟩
  have hx : SmallK x := by
    have e : x = (SW (l0.map ck)).2 := by rw [hw]
    rw [e]
    exact SW_small hs
  have s1 := s_tells hs
  have s2 := i_tells hs
  rw [hw] at s1 s2
  have e : Ev (fun k => laws_eqChunksResult.f k c x c x) true := by
    unfold laws_eqChunksResult.f
    exact Ev_pos rfl (Ev_call (eqks_tells hx) (Ev_pos rfl (Ev.now _)))
  refine Ev_call tc (Ev_call s1 (Ev_call tc (Ev_call s2 (Ev_call e (Ev_pos rfl ?_)))))
  refine Ev_call tc (Ev_call (eqks_tells hs) (Ev_pos rfl (Ev_call (markks_tells hs) (Ev_neg (by omega) (Ev_call e ?_)))))
  refine Ev.step (fun k => by rw [laws_FnExactSwapChunks.j0]) (Ev_neg (by simp) ?_)
  refine Ev_call (a := (((ksz 1 x : Nat) : Int), mkk 1 x)) (by unfold laws_markChunksResult.f; exact Ev_call (markks_tells hx) (Ev.now _)) ?_
  have hh : Ev (fun k => laws_heldChunksResult.f k c (mkk 1 x) 1) ((ksz 1 x : Nat) : Int) := by
    unfold laws_heldChunksResult.f
    exact Ev_call (heldks_tells hx.2.1 hx.2.2) (Ev_neg (by omega) (Ev.now _))
  refine Ev_call hh (Ev_neg (by omega) (Ev_pos rfl ?_))
  exact Ev_call tc (Ev_call s2 (Ev_call e (Ev_pos rfl (Ev_call hh (Ev_neg (by omega) (Ev_pos rfl (Ev.now _)))))))
end Go.Proofs.Ytjngmhngedecdaa.P.VFnExactSwapChunks
end
section
set_option linter.unusedVariables false
set_option linter.unusedSimpArgs false
namespace Go.Proofs.Ytjngmhngedecdaa.O
open Go.RowKit Go.ChangeShapes Go.WideShapes Go.Proofs.YtjngmhngedecdaaW.PrintWords
def Opens {α : Type} (P : Program) (t : TypeId) (d : Kd α) (G : α → Prop) : Prop :=
  P.cellsOf t = d.sz ∧ ∀ {H : Type} {enc : TypeId × Value → H} {w : World} {base : Nat} {spare : Nat → Bool} {held : Bool} {fuel : Nat} {cs : List Value} {x : DataW H × List MemPlace},
    DataW.trod enc P w base spare held fuel t cs = some x → ∃ a, d.K w a cs ∧ G a
theorem list_of {α : Type} {Q : Nat → α → Prop} : ∀ n : Nat, (∀ j, j < n → ∃ p, Q j p) → ∃ xs : List α, xs.length = n ∧ ∀ j p, xs[j]? = some p → Q j p
  | 0, _ => ⟨[], rfl, fun j p h => by simp at h⟩
  | n + 1, h => by
    obtain ⟨xs, hl, hx⟩ := list_of n (fun j hj => h j (Nat.lt_succ_of_lt hj))
    obtain ⟨p, hp⟩ := h n (Nat.lt_succ_self n)
    refine ⟨xs ++ [p], by simp [hl], fun j q hq => ?_⟩
    rcases Nat.lt_or_ge j xs.length with hj | hj
    · rw [List.getElem?_append_left hj] at hq
      exact hx j q hq
    · have hj' : j = xs.length := by
        have := (List.getElem?_eq_some_iff.1 hq).1
        rw [List.length_append, List.length_singleton] at this
        omega
      subst hj'
      have e : p = q := by simpa using hq
      subst e
      rw [hl]
      exact hp
theorem cells_get {w : World} {base : Nat} {a : Addr} {n : Nat} {cs : List Value} (h : w.cells? base a n = some cs) : cs.length = n ∧ ∀ i u, cs[i]? = some u → w.cell? (a.add i) = some u := by
  unfold World.cells? at h
  split at h
  · have hl := mapM_some_length h
    rw [List.length_range] at hl
    refine ⟨hl, fun i u hu => ?_⟩
    have hi : i < n := by
      have := (List.getElem?_eq_some_iff.1 hu).1
      omega
    have := mapM_some_get h i i (by simp [hi])
    rw [this, hu]
  · simp at h
theorem opens_int {P : Program} {t : TypeId} {k : IntKind} (ht : P.underlying t = some (.int k)) (hc : P.cellsOf t = 1) : Opens P t (Kd.int k) (fun x => (Lit.int k x).wf = true) :=
  ⟨hc, fun h => by
    obtain ⟨n, rfl, _, hw⟩ := DataW.trod_int ht h
    exact ⟨n, rfl, hw⟩⟩
theorem opens_string {P : Program} {t : TypeId} (ht : P.underlying t = some .string) (hc : P.cellsOf t = 1) : Opens P t Kd.string (fun s => s.size ≤ 9223372036854775807) :=
  ⟨hc, fun h => by
    obtain ⟨s, rfl, _, hw⟩ := DataW.trod_string ht h
    exact ⟨s, rfl, hw⟩⟩
theorem opens_slice {α : Type} {P : Program} {t e : TypeId} {d : Kd α} {G : α → Prop} (ht : P.underlying t = some (.slice e)) (hc : P.cellsOf t = 1) (he : Opens P e d G) :
    Opens P t (Kd.slice e d) (fun l => l.length ≤ 9223372036854775807 ∧ ∀ x ∈ l, G x) := by
  refine ⟨hc, fun {H enc w base spare held fuel cs x} h => ?_⟩
  rcases DataW.trod_slice ht h with ⟨rfl, _⟩ | ⟨a, len, cap, elems, rest, n, _, rfl, _, hb, hl, hm, hlen, hel, _, _⟩
  · exact ⟨[], ⟨none, 0, rfl, Nat.le_refl _, rfl, by simp, fun hp => absurd hp (by simp)⟩, by simp, by simp⟩
  · have hcap : cap ≤ 9223372036854775807 := hm
    obtain ⟨xs, hxl, hx⟩ := list_of (Q := fun j p => (∃ c : List Value, c.length = d.sz ∧ d.K w p c ∧ ∀ i u, c[i]? = some u → w.cell? (a.add (j * d.sz + i)) = some u) ∧ G p) len (fun j hj => by
      have h1 := hel j hj
      rw [List.getElem?_eq_getElem (by omega), Option.bind_eq_some_iff] at h1
      obtain ⟨cs', hcs, hy⟩ := h1
      obtain ⟨p, hK, hG⟩ := he.2 hy
      obtain ⟨hcl, hcell⟩ := cells_get hcs
      refine ⟨p, ⟨cs', by rw [hcl, he.1], hK, fun i u hu => ?_⟩, hG⟩
      have := hcell i u hu
      rw [he.1] at this
      rw [← Addr.add_add]
      exact this)
    have hlen2 : xs.length ≤ cap := by omega
    refine ⟨xs, ⟨some a, cap, ?_, hlen2, rfl, by omega, fun _ => ⟨a, rfl, fun j p hj => (hx j p hj).1⟩⟩, by omega, fun y hy => ?_⟩
    · rw [hxl]
    · obtain ⟨j, hj⟩ := List.getElem?_of_mem hy
      exact (hx j y hj).2
def OpensTail {α : Type} (P : Program) (fs : List Field) (off : Nat) (d : Kd α) (G : α → Prop) : Prop :=
  ∀ {H : Type} {enc : TypeId × Value → H} {w : World} {base : Nat} {spare : Nat → Bool} {held : Bool} {fuel : Nat} {cs : List Value},
    (∀ f ∈ fs, ∃ y, DataW.trod enc P w base spare held fuel f.type ((cs.drop f.offset).take (P.cellsOf f.type)) = some y) → cs.length = off + d.sz → ∃ a, d.K w a (cs.drop off) ∧ G a
theorem tail_one {α : Type} {P : Program} {f : Field} {off : Nat} {d : Kd α} {G : α → Prop} (ho : f.offset = off) (h : Opens P f.type d G) : OpensTail P [f] off d G := by
  intro H enc w base spare held fuel cs hy hl
  obtain ⟨y, hy⟩ := hy f (List.mem_singleton.2 rfl)
  obtain ⟨a, hK, hG⟩ := h.2 hy
  refine ⟨a, ?_, hG⟩
  rw [ho, h.1, List.take_of_length_le (by rw [List.length_drop]; omega)] at hK
  exact hK
theorem tail_cons {α β : Type} {P : Program} {f : Field} {fs : List Field} {off off2 : Nat} {d : Kd α} {d2 : Kd β} {G : α → Prop} {G2 : β → Prop} (ho : f.offset = off) (h : Opens P f.type d G) (ho2 : off2 = off + d.sz) (h2 : OpensTail P fs off2 d2 G2) :
    OpensTail P (f :: fs) off (Kd.pair d d2) (fun x => G x.1 ∧ G2 x.2) := by
  intro H enc w base spare held fuel cs hy hl
  obtain ⟨y, hy1⟩ := hy f List.mem_cons_self
  obtain ⟨a, hK, hG⟩ := h.2 hy1
  have hl' : cs.length = off2 + d2.sz := by rw [hl, ho2]; exact (Nat.add_assoc _ _ _).symm
  obtain ⟨b, hK2, hG2⟩ := h2 (fun f' hf' => hy f' (List.mem_cons_of_mem _ hf')) hl'
  refine ⟨(a, b), ⟨(cs.drop off).take d.sz, (cs.drop off).drop d.sz, (List.take_append_drop _ _).symm, ?_, ?_⟩, hG, hG2⟩
  · rw [ho, h.1] at hK
    exact hK
  · rw [List.drop_drop, ← ho2]
    exact hK2
theorem opens_struct {α β : Type} {P : Program} {t : TypeId} {fs : Array Field} {d : Kd α} {f : β → α} {g : α → β} {G : α → Prop} (ht : P.underlying t = some (.struct fs)) (hc : P.cellsOf t = d.sz) (hfg : ∀ a, f (g a) = a) (h : OpensTail P fs.toList 0 d G) :
    Opens P t (Kd.iso d f) (fun b => G (f b)) := by
  refine ⟨hc, fun {H enc w base spare held fuel cs x} hx => ?_⟩
  obtain ⟨xs, n, rfl, _, hl, hxl, hf⟩ := DataW.trod_struct ht hx
  obtain ⟨a, hK, hG⟩ := h (enc := enc) (w := w) (base := base) (spare := spare) (held := held) (fuel := n) (cs := cs) (fun f' hf' => by
    obtain ⟨i, hi⟩ := List.getElem?_of_mem hf'
    have hi' : fs[i]? = some f' := by simpa using hi
    have hlt : i < fs.size := (Array.getElem?_eq_some_iff.1 hi').1
    exact ⟨xs[i]'(by omega), by rw [hf i f' hi', List.getElem?_eq_getElem]⟩) (by rw [hl, hc, Nat.zero_add])
  refine ⟨g a, ?_, ?_⟩
  · show d.K w (f (g a)) cs
    rw [hfg]
    simpa using hK
  · show G (f (g a))
    rw [hfg]
    exact hG
end Go.Proofs.Ytjngmhngedecdaa.O
end
namespace Go.Proofs.Ytjngmhngedecdaa.fnExactSwapChunks
open Go.ChangeShapes Go.WideShapes Go.ChangeAt Go.RowKit
open Go.ChangeMaps (open_string shut_string)
open Go.Proofs.Ytjngmhngedecdaa.P Go.Proofs.Ytjngmhngedecdaa.P.UFnExactSwapChunks Go.Proofs.YtjngmhngedecdaaW.PrintWords
set_option linter.unusedVariables false
theorem own : ownKnob Try.prog.godebug = none := by kernel_rfl
theorem laidOut : laidOutB Try.prog = true := by kernel_rfl
set_option maxRecDepth 100000 in
theorem opens53 : O.Opens Try.prog 53 k53 (fun x => G53 x) := by
  have h := O.opens_struct (P := Try.prog) (t := 53) (f := fun x : S53 => (x.f0, x.f1, x.f2, x.f3)) (g := fun a => (⟨a.1, a.2.1, a.2.2.1, a.2.2.2⟩ : S53)) Try.underlying53 (by kernel_rfl) (fun _ => rfl) (O.tail_cons rfl (O.opens_int Try.underlying2 (by kernel_rfl)) rfl (O.tail_cons rfl (O.opens_slice Try.underlying34 (by kernel_rfl) (O.opens_string Try.underlying9 (by kernel_rfl))) rfl (O.tail_cons rfl (O.opens_slice Try.underlying34 (by kernel_rfl) (O.opens_string Try.underlying9 (by kernel_rfl))) rfl (O.tail_one rfl (O.opens_slice Try.underlying34 (by kernel_rfl) (O.opens_string Try.underlying9 (by kernel_rfl)))))))
  exact h
set_option maxRecDepth 100000 in
theorem lifted (os : Os) (started : os.Started) (H : Type) (enc : TypeId × Value → H) :
    ReturnsInHanded {} Try.checked os 9 .any (Rows.fnExactSwapChunksSpec.pre6 enc Try.prog Try.f9 Rows.fnExactSwapChunksRow.domain false) (Rows.fnExactSwapChunksSpec.post enc Try.prog Try.f9 false true false false) := by
  refine returnsInHanded_of_change_sized (C := Try.checked) own started (by kernel_rfl) Try.func9
    (ChangeSpec.witness6 (enc := enc) (C := Try.checked) false ⟨#[], #[.slice none 0 0], []⟩ 8 (by kernel_rfl) (by kernel_rfl) (by kernel_rfl) (by kernel_rfl)) ?_
  intro W base args ds gs before hval0 hW hcnd hsz0 _
  have hval : ∀ (j : Nat) t v, Try.f9.params[j]? = some t → args[j]? = some v → Value.okWide Try.prog W .any base t v := hval0
  have hW' := hW
  obtain ⟨p, q, hA0, hV, rfl, hfz, hnd⟩ := hW
  have hA : DataW.TrodAll enc Try.prog W 0 (fun _ => true) true Try.f9.params.toList args.toList ds p := hA0
  rw [Try.params9] at hA hval
  obtain ⟨v0, vs0, d0, ds0, p0, q0, hargs, rfl, rfl, h0, r0⟩ := trodAll_cons hA
  obtain ⟨rfl, rfl, rfl⟩ := trodAll_nil r0
  obtain rfl : args = #[v0] := by cases args; simp_all
  obtain ⟨rfl, rfl⟩ := trodVars_none hV
  have k0_ := h0
  have lt0 : ∀ x ∈ p0, x.block < W.heap.size := by obtain ⟨m, hm⟩ := k0_; exact DataW.trod_lt m _ _ _ hm
  obtain ⟨b0, len0, cap0, rfl⟩ := okWide_slice Try.underlying44 (hval 0 44 v0 rfl rfl)
  obtain ⟨fuel0, hf0⟩ := h0
  obtain ⟨l0, ⟨A0, c0, hcs0, hc0, hr0⟩, g0⟩ := (O.opens_slice Try.underlying44 (by kernel_rfl) opens53).2 hf0
  simp [Value.cells] at hcs0
  obtain ⟨rfl, rfl, rfl⟩ := hcs0
  clear hA0 hval0 hsz0
  obtain ⟨k, h⟩ := VFnExactSwapChunks.proof l0 g0
  refine (laws_FnExactSwapChunks.calls k _ _ l0 true W hr0 hc0 h rfl).mono fun e W' hend => ?_
  obtain ⟨rfl, hbel⟩ := hend
  have bel : Below W.heap.size W W' := hbel
  exact ⟨_, rfl, _, _, _, [], _, [], hW', trodAll_mk1 (shut_bool Try.underlying4 _), (trodAll_cons_mk (Below.trod laidOut (by kernel_rfl) (of_decide_eq_true (by kernel_rfl)) k0_ bel lt0) trodAll_mk0), rfl, bel.frame _, fun h => by cases h⟩
theorem over : Rows.fnExactSwapChunksRow.holds Try.pinned (OpenSpec.ofChange Rows.fnExactSwapChunksSpec) :=
  OpenClaim.holds_of_wide 9 Try.f9 rfl rfl rfl rfl rfl rfl rfl ⟨rfl, rfl, rfl, rfl, rfl⟩ rfl rfl rfl rfl rfl (by kernel_rfl) Try.func9 (by kernel_rfl)
    (of_decide_eq_true (by kernel_rfl)) (by unfold Func.isWrapper; first | (rw [if_pos (by decide +kernel)]; kernel_rfl) | (rw [if_neg (by decide +kernel)]; exact ⟨rfl, rfl⟩))
    (fun os started H enc _ => lifted os started H enc)
theorem proved : Rows.FnExactSwapChunksSaid := over
#print axioms proved
end Go.Proofs.Ytjngmhngedecdaa.fnExactSwapChunks
namespace Go.Proofs.Ytjngmhngedecdaa
theorem fnExactSwapChunks_holds : Rows.FnExactSwapChunksSaid := fnExactSwapChunks.proved
end Go.Proofs.Ytjngmhngedecdaa
