/- FnExactApplyHunks: the law of the program holds at every input: the Go function returns true, and its arguments read afterwards as before.
Conditions: none beyond the given statement's own (what can be read as data, of a size that memory bears). -/
import Derived.Lib.Strings
import Derived.Lib.Bytealg
import Derived.Laws.BytesArg
import Derived.SliceStrings
import Derived.DataReads
import Derived.DataElems
import Derived.Test.YtjngmhngedecdaaRows
import Derived.WalkKit
import Derived.ProofKit
import Derived.OpenShut
import Derived.ShutString
import Derived.ChangeOld
import Derived.Below
import Derived.SizedLaws
import Derived.Carry
import Derived.Test.YtjngmhngedecdaaCFnExactApplyHunks1
import Derived.Test.YtjngmhngedecdaaCFnExactApplyHunks2
import Derived.Test.YtjngmhngedecdaaCFnExactApplyHunks3
import Derived.Test.YtjngmhngedecdaaCFnExactApplyHunks4
section
namespace Go.Proofs.Ytjngmhngedecdaa.P
open Go.RowKit Go.Proofs.YtjngmhngedecdaaW.PrintWords Go.Proofs.YtjngmhngedecdaaW.PrintLast Go.Proofs.YtjngmhngedecdaaW.PrintMore
attribute [local go_sem] max2_int min2_int max_two min_two max_three min_three max_four min_four
set_option linter.unusedVariables false
set_option linter.unusedSimpArgs false
def laws_FnExactApplyHunks.j0 : Nat → List ByteArray → List (S89) → Bool → Int → List ByteArray → Int → List ByteArray → Option (Bool)
 | 0, _, _, _, _, _, _, _ => none
 | k + 1, x0, x1, x63, x363000, x363001, x374000, x374001 => if x63 = true then (some false) else ((laws_markLinesResult.f k x374000 x374001 1).bind fun bt388 => ((laws_heldLinesResult.f k x374000 bt388.2 1).bind fun t390 => (if t390 < 0 then (some false) else (if t390 = bt388.1 then ((laws_toStringS.f k x0).bind fun t391 => ((laws_toHunkS.f k x1).bind fun t394 => ((impl_ApplyHunks.f k t391 t394).bind fun bt397 => ((laws_eqLinesResult.f k bt397.1 bt397.2 x363000 x363001).bind fun t402 => (if t402 = true then ((laws_heldLinesResult.f k x374000 bt388.2 1).bind fun t403 => (if t403 < 0 then (some false) else (if t403 = bt388.1 then (some true) else (some false)))) else (some false)))))) else (some false)))))
def laws_FnExactApplyHunks.f (k : Nat) (l0 : List ByteArray) (l1 : List (S89)) : Option (Bool) := (laws_szStringS.f k l0 1048576).bind fun t350 => (if t350 < 0 then (some true) else ((laws_szHunkS.f k l1 t350).bind fun t351 => (if t351 < 0 then (some true) else ((laws_toStringS.f k l0).bind fun t352 => ((laws_toHunkS.f k l1).bind fun t355 => ((spec_ApplyHunks.f k t352 t355).bind fun bt358 => ((laws_toStringS.f k l0).bind fun t363 => ((laws_toHunkS.f k l1).bind fun t366 => ((impl_ApplyHunks.f k t363 t366).bind fun bt369 => ((laws_eqLinesResult.f k bt369.1 bt369.2 bt358.1 bt358.2).bind fun t374 => (if t374 = true then ((laws_toStringS.f k l0).bind fun t375 => ((laws_eqStringS.f k t363 t375).bind fun t378 => (if t378 = true then ((laws_toHunkS.f k l1).bind fun t379 => ((laws_eqHunkS.f k t366 t379).bind fun t382 => (if t382 = true then ((laws_markStringS.f k t363 1).bind fun bt383 => ((laws_markHunkS.f k t366 bt383.1).bind fun bt385 => (if bt385.1 < 0 then (laws_FnExactApplyHunks.j0 k l0 l1 true bt358.1 bt358.2 bt369.1 bt369.2) else ((laws_eqLinesResult.f k bt369.1 bt369.2 bt358.1 bt358.2).bind fun t387 => (laws_FnExactApplyHunks.j0 k l0 l1 (!t387) bt358.1 bt358.2 bt369.1 bt369.2))))) else (some false)))) else (some false)))) else (some false))))))))))))
set_option maxHeartbeats 8000000 in
set_option maxRecDepth 100000 in
theorem laws_FnExactApplyHunks.calls (k : Nat) (A0 : Option Addr) (c0 : Nat) (l0 : List ByteArray) (A1 : Option Addr) (c1 : Nat) (l1 : List (S89)) (r : Bool) (w : World) (hr0 : Kd.C Kd.string w A0 l0.length l0) (hc0 : l0.length ≤ c0) (hr1 : Kd.C k89 w A1 l1.length l1) (hc1 : l1.length ≤ c1) (h : laws_FnExactApplyHunks.f k l0 l1 = some r) (hlaw : r = true) :
  Calls Try.prog 4 #[.slice A0 l0.length c0, .slice A1 l1.length c1] w fun e w' => e = .returned (.bool r) ∧ Below w.heap.size w w' := by
 have hu37 := Try.underlying37
 have HR0 := Aside0.mk hr0
 have HC0 := Aside0.mk hc0
 clear hr0 hc0
 have HR1 := Aside0.mk hr1
 have HC1 := Aside0.mk hc1
 clear hr1 hc1
 have HB := Aside0.mk (Below.refl w.heap.size w)
 have HLAW := Aside0.mk hlaw
 clear hlaw
 have H : ((laws_szStringS.f k l0 1048576).bind fun t350 => (if t350 < 0 then (some true) else ((laws_szHunkS.f k l1 t350).bind fun t351 => (if t351 < 0 then (some true) else ((laws_toStringS.f k l0).bind fun t352 => ((laws_toHunkS.f k l1).bind fun t355 => ((spec_ApplyHunks.f k t352 t355).bind fun bt358 => ((laws_toStringS.f k l0).bind fun t363 => ((laws_toHunkS.f k l1).bind fun t366 => ((impl_ApplyHunks.f k t363 t366).bind fun bt369 => ((laws_eqLinesResult.f k bt369.1 bt369.2 bt358.1 bt358.2).bind fun t374 => (if t374 = true then ((laws_toStringS.f k l0).bind fun t375 => ((laws_eqStringS.f k t363 t375).bind fun t378 => (if t378 = true then ((laws_toHunkS.f k l1).bind fun t379 => ((laws_eqHunkS.f k t366 t379).bind fun t382 => (if t382 = true then ((laws_markStringS.f k t363 1).bind fun bt383 => ((laws_markHunkS.f k t366 bt383.1).bind fun bt385 => (if bt385.1 < 0 then (laws_FnExactApplyHunks.j0 k l0 l1 true bt358.1 bt358.2 bt369.1 bt369.2) else ((laws_eqLinesResult.f k bt369.1 bt369.2 bt358.1 bt358.2).bind fun t387 => (laws_FnExactApplyHunks.j0 k l0 l1 (!t387) bt358.1 bt358.2 bt369.1 bt369.2))))) else (some false)))) else (some false)))) else (some false))))))))))))) = some r := h
 clear h
 replace H := Option.bind_eq_some_iff.mp H
 obtain ⟨t350, A30, H⟩ := H
 replace H : (if t350 < 0 then (some true) else ((laws_szHunkS.f k l1 t350).bind fun t351 => (if t351 < 0 then (some true) else ((laws_toStringS.f k l0).bind fun t352 => ((laws_toHunkS.f k l1).bind fun t355 => ((spec_ApplyHunks.f k t352 t355).bind fun bt358 => ((laws_toStringS.f k l0).bind fun t363 => ((laws_toHunkS.f k l1).bind fun t366 => ((impl_ApplyHunks.f k t363 t366).bind fun bt369 => ((laws_eqLinesResult.f k bt369.1 bt369.2 bt358.1 bt358.2).bind fun t374 => (if t374 = true then ((laws_toStringS.f k l0).bind fun t375 => ((laws_eqStringS.f k t363 t375).bind fun t378 => (if t378 = true then ((laws_toHunkS.f k l1).bind fun t379 => ((laws_eqHunkS.f k t366 t379).bind fun t382 => (if t382 = true then ((laws_markStringS.f k t363 1).bind fun bt383 => ((laws_markHunkS.f k t366 bt383.1).bind fun bt385 => (if bt385.1 < 0 then (laws_FnExactApplyHunks.j0 k l0 l1 true bt358.1 bt358.2 bt369.1 bt369.2) else ((laws_eqLinesResult.f k bt369.1 bt369.2 bt358.1 bt358.2).bind fun t387 => (laws_FnExactApplyHunks.j0 k l0 l1 (!t387) bt358.1 bt358.2 bt369.1 bt369.2))))) else (some false)))) else (some false)))) else (some false)))))))))))) = some r := H
 have A3 := Aside0.mk A30
 clear A30
 by_cases c4 : t350 < 0
 ·rw [if_pos c4] at H
  have c4b0 : decide (t350 < 0) = true := decide_eq_true c4
  clear c4
  obtain rfl := Option.some.inj H
  go_enter Try.func4, Try.ntmps4
  go_wp2_with (first | ((with_reducible refine gate_callee (f := 22) rfl ?_); refine goesL_ (some 16) rfl rfl Try.func22 (by kernel_rfl) rfl #[.slice A0 l0.length c0, .int .i64 1048576] rfl (by (try simp only [List.map_toArray, List.map_cons, List.map_nil]); first | done | rfl | (simp only [List.length_drop, List.length_take]; rfl)) ?_; (with_reducible refine (laws_szStringS.calls k _ _ l0 1048576 t350 _ ?side1 ?side2 A3.out).mono ?_); (case side1 => repeat (first | exact HR0.out | (with_reducible refine Kd.C_alloc ?_ _) | (with_reducible refine Kd.C_drewN ?_ _) | (with_reducible refine Kd.C_drew ?_))); (case side2 => exact HC0.out); rintro e w' ⟨rfl, ⟨nd, rfl⟩⟩; refine ⟨_, rfl, ?_⟩))
  go_ret
  exact ⟨by first | rfl | (simp [errW_none, errW_some] <;> rfl) | (simp [*, errW_none, errW_some] <;> rfl), by repeat (first | (with_reducible first | exact HB.out | apply below_alloc | apply pw_below_drewN | apply below_drew1) | exact HB.out)⟩
 ·rw [if_neg c4] at H
  have c4b0 : decide (t350 < 0) = false := decide_eq_false c4
  clear c4
  replace H := Option.bind_eq_some_iff.mp H
  obtain ⟨t351, A50, H⟩ := H
  replace H : (if t351 < 0 then (some true) else ((laws_toStringS.f k l0).bind fun t352 => ((laws_toHunkS.f k l1).bind fun t355 => ((spec_ApplyHunks.f k t352 t355).bind fun bt358 => ((laws_toStringS.f k l0).bind fun t363 => ((laws_toHunkS.f k l1).bind fun t366 => ((impl_ApplyHunks.f k t363 t366).bind fun bt369 => ((laws_eqLinesResult.f k bt369.1 bt369.2 bt358.1 bt358.2).bind fun t374 => (if t374 = true then ((laws_toStringS.f k l0).bind fun t375 => ((laws_eqStringS.f k t363 t375).bind fun t378 => (if t378 = true then ((laws_toHunkS.f k l1).bind fun t379 => ((laws_eqHunkS.f k t366 t379).bind fun t382 => (if t382 = true then ((laws_markStringS.f k t363 1).bind fun bt383 => ((laws_markHunkS.f k t366 bt383.1).bind fun bt385 => (if bt385.1 < 0 then (laws_FnExactApplyHunks.j0 k l0 l1 true bt358.1 bt358.2 bt369.1 bt369.2) else ((laws_eqLinesResult.f k bt369.1 bt369.2 bt358.1 bt358.2).bind fun t387 => (laws_FnExactApplyHunks.j0 k l0 l1 (!t387) bt358.1 bt358.2 bt369.1 bt369.2))))) else (some false)))) else (some false)))) else (some false)))))))))) = some r := H
  have A5 := Aside0.mk A50
  clear A50
  by_cases c6 : t351 < 0
  ·rw [if_pos c6] at H
   have c6b0 : decide (t351 < 0) = true := decide_eq_true c6
   clear c6
   obtain rfl := Option.some.inj H
   go_enter Try.func4, Try.ntmps4
   go_wp2_with (first | ((with_reducible refine gate_callee (f := 22) rfl ?_); refine goesL_ (some 16) rfl rfl Try.func22 (by kernel_rfl) rfl #[.slice A0 l0.length c0, .int .i64 1048576] rfl (by (try simp only [List.map_toArray, List.map_cons, List.map_nil]); first | done | rfl | (simp only [List.length_drop, List.length_take]; rfl)) ?_; (with_reducible refine (laws_szStringS.calls k _ _ l0 1048576 t350 _ ?side1 ?side2 A3.out).mono ?_); (case side1 => repeat (first | exact HR0.out | (with_reducible refine Kd.C_alloc ?_ _) | (with_reducible refine Kd.C_drewN ?_ _) | (with_reducible refine Kd.C_drew ?_))); (case side2 => exact HC0.out); rintro e w' ⟨rfl, ⟨nd, rfl⟩⟩; refine ⟨_, rfl, ?_⟩) | ((with_reducible refine gate_callee (f := 13) rfl ?_); refine goesL_ (some 21) rfl rfl Try.func13 (by kernel_rfl) rfl #[.slice A1 l1.length c1, .int .i64 t350] rfl (by (try simp only [List.map_toArray, List.map_cons, List.map_nil]); first | done | rfl | (simp only [List.length_drop, List.length_take]; rfl)) ?_; (with_reducible refine (laws_szHunkS.calls k _ _ l1 t350 t351 _ ?side1 ?side2 A5.out).mono ?_); (case side1 => repeat (first | exact HR1.out | (with_reducible refine Kd.C_alloc ?_ _) | (with_reducible refine Kd.C_drewN ?_ _) | (with_reducible refine Kd.C_drew ?_))); (case side2 => exact HC1.out); rintro e w7 ⟨rfl, hb⟩; refine ⟨_, rfl, ?_⟩; have n0_ := Aside0.mk (below_step (by repeat (first | (with_reducible first | exact HB.out | apply below_alloc | apply pw_below_drewN | apply below_drew1) | exact HB.out)) hb); clear HB; have HB := n0_; clear n0_; (try clear hb); (try clear hb2); (try clear hk); (try clear hi)))
   go_ret
   exact ⟨by first | rfl | (simp [errW_none, errW_some] <;> rfl) | (simp [*, errW_none, errW_some] <;> rfl), by repeat (first | (with_reducible first | exact HB.out | apply below_alloc | apply pw_below_drewN | apply below_drew1) | exact HB.out)⟩
  ·rw [if_neg c6] at H
   have c6b0 : decide (t351 < 0) = false := decide_eq_false c6
   clear c6
   replace H := Option.bind_eq_some_iff.mp H
   obtain ⟨t352, A80, H⟩ := H
   replace H : ((laws_toHunkS.f k l1).bind fun t355 => ((spec_ApplyHunks.f k t352 t355).bind fun bt358 => ((laws_toStringS.f k l0).bind fun t363 => ((laws_toHunkS.f k l1).bind fun t366 => ((impl_ApplyHunks.f k t363 t366).bind fun bt369 => ((laws_eqLinesResult.f k bt369.1 bt369.2 bt358.1 bt358.2).bind fun t374 => (if t374 = true then ((laws_toStringS.f k l0).bind fun t375 => ((laws_eqStringS.f k t363 t375).bind fun t378 => (if t378 = true then ((laws_toHunkS.f k l1).bind fun t379 => ((laws_eqHunkS.f k t366 t379).bind fun t382 => (if t382 = true then ((laws_markStringS.f k t363 1).bind fun bt383 => ((laws_markHunkS.f k t366 bt383.1).bind fun bt385 => (if bt385.1 < 0 then (laws_FnExactApplyHunks.j0 k l0 l1 true bt358.1 bt358.2 bt369.1 bt369.2) else ((laws_eqLinesResult.f k bt369.1 bt369.2 bt358.1 bt358.2).bind fun t387 => (laws_FnExactApplyHunks.j0 k l0 l1 (!t387) bt358.1 bt358.2 bt369.1 bt369.2))))) else (some false)))) else (some false)))) else (some false)))))))) = some r := H
   have A8 := Aside0.mk A80
   clear A80
   replace H := Option.bind_eq_some_iff.mp H
   obtain ⟨t355, A90, H⟩ := H
   replace H : ((spec_ApplyHunks.f k t352 t355).bind fun bt358 => ((laws_toStringS.f k l0).bind fun t363 => ((laws_toHunkS.f k l1).bind fun t366 => ((impl_ApplyHunks.f k t363 t366).bind fun bt369 => ((laws_eqLinesResult.f k bt369.1 bt369.2 bt358.1 bt358.2).bind fun t374 => (if t374 = true then ((laws_toStringS.f k l0).bind fun t375 => ((laws_eqStringS.f k t363 t375).bind fun t378 => (if t378 = true then ((laws_toHunkS.f k l1).bind fun t379 => ((laws_eqHunkS.f k t366 t379).bind fun t382 => (if t382 = true then ((laws_markStringS.f k t363 1).bind fun bt383 => ((laws_markHunkS.f k t366 bt383.1).bind fun bt385 => (if bt385.1 < 0 then (laws_FnExactApplyHunks.j0 k l0 l1 true bt358.1 bt358.2 bt369.1 bt369.2) else ((laws_eqLinesResult.f k bt369.1 bt369.2 bt358.1 bt358.2).bind fun t387 => (laws_FnExactApplyHunks.j0 k l0 l1 (!t387) bt358.1 bt358.2 bt369.1 bt369.2))))) else (some false)))) else (some false)))) else (some false))))))) = some r := H
   have A9 := Aside0.mk A90
   clear A90
   replace H := Option.bind_eq_some_iff.mp H
   obtain ⟨⟨t358, t359⟩, A100, H⟩ := H
   replace H : ((laws_toStringS.f k l0).bind fun t363 => ((laws_toHunkS.f k l1).bind fun t366 => ((impl_ApplyHunks.f k t363 t366).bind fun bt369 => ((laws_eqLinesResult.f k bt369.1 bt369.2 t358 t359).bind fun t374 => (if t374 = true then ((laws_toStringS.f k l0).bind fun t375 => ((laws_eqStringS.f k t363 t375).bind fun t378 => (if t378 = true then ((laws_toHunkS.f k l1).bind fun t379 => ((laws_eqHunkS.f k t366 t379).bind fun t382 => (if t382 = true then ((laws_markStringS.f k t363 1).bind fun bt383 => ((laws_markHunkS.f k t366 bt383.1).bind fun bt385 => (if bt385.1 < 0 then (laws_FnExactApplyHunks.j0 k l0 l1 true t358 t359 bt369.1 bt369.2) else ((laws_eqLinesResult.f k bt369.1 bt369.2 t358 t359).bind fun t387 => (laws_FnExactApplyHunks.j0 k l0 l1 (!t387) t358 t359 bt369.1 bt369.2))))) else (some false)))) else (some false)))) else (some false)))))) = some r := H
   have A10 := Aside0.mk A100
   clear A100
   replace H := Option.bind_eq_some_iff.mp H
   obtain ⟨t363, A110, H⟩ := H
   replace H : ((laws_toHunkS.f k l1).bind fun t366 => ((impl_ApplyHunks.f k t363 t366).bind fun bt369 => ((laws_eqLinesResult.f k bt369.1 bt369.2 t358 t359).bind fun t374 => (if t374 = true then ((laws_toStringS.f k l0).bind fun t375 => ((laws_eqStringS.f k t363 t375).bind fun t378 => (if t378 = true then ((laws_toHunkS.f k l1).bind fun t379 => ((laws_eqHunkS.f k t366 t379).bind fun t382 => (if t382 = true then ((laws_markStringS.f k t363 1).bind fun bt383 => ((laws_markHunkS.f k t366 bt383.1).bind fun bt385 => (if bt385.1 < 0 then (laws_FnExactApplyHunks.j0 k l0 l1 true t358 t359 bt369.1 bt369.2) else ((laws_eqLinesResult.f k bt369.1 bt369.2 t358 t359).bind fun t387 => (laws_FnExactApplyHunks.j0 k l0 l1 (!t387) t358 t359 bt369.1 bt369.2))))) else (some false)))) else (some false)))) else (some false))))) = some r := H
   have A11 := Aside0.mk A110
   clear A110
   replace H := Option.bind_eq_some_iff.mp H
   obtain ⟨t366, A120, H⟩ := H
   replace H : ((impl_ApplyHunks.f k t363 t366).bind fun bt369 => ((laws_eqLinesResult.f k bt369.1 bt369.2 t358 t359).bind fun t374 => (if t374 = true then ((laws_toStringS.f k l0).bind fun t375 => ((laws_eqStringS.f k t363 t375).bind fun t378 => (if t378 = true then ((laws_toHunkS.f k l1).bind fun t379 => ((laws_eqHunkS.f k t366 t379).bind fun t382 => (if t382 = true then ((laws_markStringS.f k t363 1).bind fun bt383 => ((laws_markHunkS.f k t366 bt383.1).bind fun bt385 => (if bt385.1 < 0 then (laws_FnExactApplyHunks.j0 k l0 l1 true t358 t359 bt369.1 bt369.2) else ((laws_eqLinesResult.f k bt369.1 bt369.2 t358 t359).bind fun t387 => (laws_FnExactApplyHunks.j0 k l0 l1 (!t387) t358 t359 bt369.1 bt369.2))))) else (some false)))) else (some false)))) else (some false)))) = some r := H
   have A12 := Aside0.mk A120
   clear A120
   replace H := Option.bind_eq_some_iff.mp H
   obtain ⟨⟨t369, t370⟩, A130, H⟩ := H
   replace H : ((laws_eqLinesResult.f k t369 t370 t358 t359).bind fun t374 => (if t374 = true then ((laws_toStringS.f k l0).bind fun t375 => ((laws_eqStringS.f k t363 t375).bind fun t378 => (if t378 = true then ((laws_toHunkS.f k l1).bind fun t379 => ((laws_eqHunkS.f k t366 t379).bind fun t382 => (if t382 = true then ((laws_markStringS.f k t363 1).bind fun bt383 => ((laws_markHunkS.f k t366 bt383.1).bind fun bt385 => (if bt385.1 < 0 then (laws_FnExactApplyHunks.j0 k l0 l1 true t358 t359 t369 t370) else ((laws_eqLinesResult.f k t369 t370 t358 t359).bind fun t387 => (laws_FnExactApplyHunks.j0 k l0 l1 (!t387) t358 t359 t369 t370))))) else (some false)))) else (some false)))) else (some false))) = some r := H
   have A13 := Aside0.mk A130
   clear A130
   replace H := Option.bind_eq_some_iff.mp H
   obtain ⟨t374, A140, H⟩ := H
   replace H : (if t374 = true then ((laws_toStringS.f k l0).bind fun t375 => ((laws_eqStringS.f k t363 t375).bind fun t378 => (if t378 = true then ((laws_toHunkS.f k l1).bind fun t379 => ((laws_eqHunkS.f k t366 t379).bind fun t382 => (if t382 = true then ((laws_markStringS.f k t363 1).bind fun bt383 => ((laws_markHunkS.f k t366 bt383.1).bind fun bt385 => (if bt385.1 < 0 then (laws_FnExactApplyHunks.j0 k l0 l1 true t358 t359 t369 t370) else ((laws_eqLinesResult.f k t369 t370 t358 t359).bind fun t387 => (laws_FnExactApplyHunks.j0 k l0 l1 (!t387) t358 t359 t369 t370))))) else (some false)))) else (some false)))) else (some false)) = some r := H
   have A14 := Aside0.mk A140
   clear A140
   by_cases c15 : t374 = true
   ·subst c15
    have H1 : ((laws_toStringS.f k l0).bind fun t375 => ((laws_eqStringS.f k t363 t375).bind fun t378 => (if t378 = true then ((laws_toHunkS.f k l1).bind fun t379 => ((laws_eqHunkS.f k t366 t379).bind fun t382 => (if t382 = true then ((laws_markStringS.f k t363 1).bind fun bt383 => ((laws_markHunkS.f k t366 bt383.1).bind fun bt385 => (if bt385.1 < 0 then (laws_FnExactApplyHunks.j0 k l0 l1 true t358 t359 t369 t370) else ((laws_eqLinesResult.f k t369 t370 t358 t359).bind fun t387 => (laws_FnExactApplyHunks.j0 k l0 l1 (!t387) t358 t359 t369 t370))))) else (some false)))) else (some false)))) = some r := by rw [if_pos rfl] at H; exact H
    clear H
    have H := H1
    clear H1
    replace H := Option.bind_eq_some_iff.mp H
    obtain ⟨t375, A160, H⟩ := H
    replace H : ((laws_eqStringS.f k t363 t375).bind fun t378 => (if t378 = true then ((laws_toHunkS.f k l1).bind fun t379 => ((laws_eqHunkS.f k t366 t379).bind fun t382 => (if t382 = true then ((laws_markStringS.f k t363 1).bind fun bt383 => ((laws_markHunkS.f k t366 bt383.1).bind fun bt385 => (if bt385.1 < 0 then (laws_FnExactApplyHunks.j0 k l0 l1 true t358 t359 t369 t370) else ((laws_eqLinesResult.f k t369 t370 t358 t359).bind fun t387 => (laws_FnExactApplyHunks.j0 k l0 l1 (!t387) t358 t359 t369 t370))))) else (some false)))) else (some false))) = some r := H
    have A16 := Aside0.mk A160
    clear A160
    replace H := Option.bind_eq_some_iff.mp H
    obtain ⟨t378, A170, H⟩ := H
    replace H : (if t378 = true then ((laws_toHunkS.f k l1).bind fun t379 => ((laws_eqHunkS.f k t366 t379).bind fun t382 => (if t382 = true then ((laws_markStringS.f k t363 1).bind fun bt383 => ((laws_markHunkS.f k t366 bt383.1).bind fun bt385 => (if bt385.1 < 0 then (laws_FnExactApplyHunks.j0 k l0 l1 true t358 t359 t369 t370) else ((laws_eqLinesResult.f k t369 t370 t358 t359).bind fun t387 => (laws_FnExactApplyHunks.j0 k l0 l1 (!t387) t358 t359 t369 t370))))) else (some false)))) else (some false)) = some r := H
    have A17 := Aside0.mk A170
    clear A170
    by_cases c18 : t378 = true
    ·subst c18
     have H1 : ((laws_toHunkS.f k l1).bind fun t379 => ((laws_eqHunkS.f k t366 t379).bind fun t382 => (if t382 = true then ((laws_markStringS.f k t363 1).bind fun bt383 => ((laws_markHunkS.f k t366 bt383.1).bind fun bt385 => (if bt385.1 < 0 then (laws_FnExactApplyHunks.j0 k l0 l1 true t358 t359 t369 t370) else ((laws_eqLinesResult.f k t369 t370 t358 t359).bind fun t387 => (laws_FnExactApplyHunks.j0 k l0 l1 (!t387) t358 t359 t369 t370))))) else (some false)))) = some r := by rw [if_pos rfl] at H; exact H
     clear H
     have H := H1
     clear H1
     replace H := Option.bind_eq_some_iff.mp H
     obtain ⟨t379, A190, H⟩ := H
     replace H : ((laws_eqHunkS.f k t366 t379).bind fun t382 => (if t382 = true then ((laws_markStringS.f k t363 1).bind fun bt383 => ((laws_markHunkS.f k t366 bt383.1).bind fun bt385 => (if bt385.1 < 0 then (laws_FnExactApplyHunks.j0 k l0 l1 true t358 t359 t369 t370) else ((laws_eqLinesResult.f k t369 t370 t358 t359).bind fun t387 => (laws_FnExactApplyHunks.j0 k l0 l1 (!t387) t358 t359 t369 t370))))) else (some false))) = some r := H
     have A19 := Aside0.mk A190
     clear A190
     replace H := Option.bind_eq_some_iff.mp H
     obtain ⟨t382, A200, H⟩ := H
     replace H : (if t382 = true then ((laws_markStringS.f k t363 1).bind fun bt383 => ((laws_markHunkS.f k t366 bt383.1).bind fun bt385 => (if bt385.1 < 0 then (laws_FnExactApplyHunks.j0 k l0 l1 true t358 t359 t369 t370) else ((laws_eqLinesResult.f k t369 t370 t358 t359).bind fun t387 => (laws_FnExactApplyHunks.j0 k l0 l1 (!t387) t358 t359 t369 t370))))) else (some false)) = some r := H
     have A20 := Aside0.mk A200
     clear A200
     by_cases c21 : t382 = true
     ·subst c21
      have H1 : ((laws_markStringS.f k t363 1).bind fun bt383 => ((laws_markHunkS.f k t366 bt383.1).bind fun bt385 => (if bt385.1 < 0 then (laws_FnExactApplyHunks.j0 k l0 l1 true t358 t359 t369 t370) else ((laws_eqLinesResult.f k t369 t370 t358 t359).bind fun t387 => (laws_FnExactApplyHunks.j0 k l0 l1 (!t387) t358 t359 t369 t370))))) = some r := by rw [if_pos rfl] at H; exact H
      clear H
      have H := H1
      clear H1
      replace H := Option.bind_eq_some_iff.mp H
      obtain ⟨⟨t383, t384⟩, A220, H⟩ := H
      replace H : ((laws_markHunkS.f k t366 t383).bind fun bt385 => (if bt385.1 < 0 then (laws_FnExactApplyHunks.j0 k l0 l1 true t358 t359 t369 t370) else ((laws_eqLinesResult.f k t369 t370 t358 t359).bind fun t387 => (laws_FnExactApplyHunks.j0 k l0 l1 (!t387) t358 t359 t369 t370)))) = some r := H
      have A22 := Aside0.mk A220
      clear A220
      replace H := Option.bind_eq_some_iff.mp H
      obtain ⟨⟨t385, t386⟩, A230, H⟩ := H
      replace H : (if t385 < 0 then (laws_FnExactApplyHunks.j0 k l0 l1 true t358 t359 t369 t370) else ((laws_eqLinesResult.f k t369 t370 t358 t359).bind fun t387 => (laws_FnExactApplyHunks.j0 k l0 l1 (!t387) t358 t359 t369 t370))) = some r := H
      have A23 := Aside0.mk A230
      clear A230
      have HC24 := Aside0.mk H
      clear H
      go_enter Try.func4, Try.ntmps4
      go_upto_region 21 with (first | ((with_reducible refine gate_callee (f := 22) rfl ?_); refine goesL_ (some 16) rfl rfl Try.func22 (by kernel_rfl) rfl #[.slice A0 l0.length c0, .int .i64 1048576] rfl (by (try simp only [List.map_toArray, List.map_cons, List.map_nil]); first | done | rfl | (simp only [List.length_drop, List.length_take]; rfl)) ?_; (with_reducible refine (laws_szStringS.calls k _ _ l0 1048576 t350 _ ?side1 ?side2 A3.out).mono ?_); (case side1 => repeat (first | exact HR0.out | (with_reducible refine Kd.C_alloc ?_ _) | (with_reducible refine Kd.C_drewN ?_ _) | (with_reducible refine Kd.C_drew ?_))); (case side2 => exact HC0.out); rintro e w' ⟨rfl, ⟨nd, rfl⟩⟩; refine ⟨_, rfl, ?_⟩) | ((with_reducible refine gate_callee (f := 13) rfl ?_); refine goesL_ (some 21) rfl rfl Try.func13 (by kernel_rfl) rfl #[.slice A1 l1.length c1, .int .i64 t350] rfl (by (try simp only [List.map_toArray, List.map_cons, List.map_nil]); first | done | rfl | (simp only [List.length_drop, List.length_take]; rfl)) ?_; (with_reducible refine (laws_szHunkS.calls k _ _ l1 t350 t351 _ ?side1 ?side2 A5.out).mono ?_); (case side1 => repeat (first | exact HR1.out | (with_reducible refine Kd.C_alloc ?_ _) | (with_reducible refine Kd.C_drewN ?_ _) | (with_reducible refine Kd.C_drew ?_))); (case side2 => exact HC1.out); rintro e w25 ⟨rfl, hb⟩; refine ⟨_, rfl, ?_⟩; have n0_ := Aside0.mk (below_step (by repeat (first | (with_reducible first | exact HB.out | apply below_alloc | apply pw_below_drewN | apply below_drew1) | exact HB.out)) hb); clear HB; have HB := n0_; clear n0_; (try clear hb); (try clear hb2); (try clear hk); (try clear hi)) | ((with_reducible refine gate_callee (f := 24) rfl ?_); refine goesL_ (some 25) rfl rfl Try.func24 (by kernel_rfl) rfl #[.slice A0 l0.length c0] rfl (by (try simp only [List.map_toArray, List.map_cons, List.map_nil]); first | done | rfl | (simp only [List.length_drop, List.length_take]; rfl)) ?_; (with_reducible refine (laws_toStringS.calls k _ _ l0 t352 _ ?side1 ?side2 A8.out).mono ?_); (case side1 => repeat (first | exact (Kd.C_below HR0.out HB.out) | (with_reducible refine Kd.C_alloc ?_ _) | (with_reducible refine Kd.C_drewN ?_ _) | (with_reducible refine Kd.C_drew ?_))); (case side2 => exact HC0.out); rintro e w26 ⟨v353, rfl, ho0, hb⟩; refine ⟨_, rfl, ?_⟩; have n0_ := Aside0.mk (Kd.R_lower ho0 (below_size (by repeat (first | (with_reducible first | exact HB.out | apply below_alloc | apply pw_below_drewN | apply below_drew1) | exact HB.out)))); have n1_ := Aside0.mk (below_step (by repeat (first | (with_reducible first | exact HB.out | apply below_alloc | apply pw_below_drewN | apply below_drew1) | exact HB.out)) hb); clear HB; have HO354 := n0_; have HB := n1_; clear n0_ n1_; (try clear hb); (try clear hb2); (try clear hk); (try clear hi); (try clear ho0)) | ((with_reducible refine gate_callee (f := 15) rfl ?_); refine goesL_ (some 27) rfl rfl Try.func15 (by kernel_rfl) rfl #[.slice A1 l1.length c1] rfl (by (try simp only [List.map_toArray, List.map_cons, List.map_nil]); first | done | rfl | (simp only [List.length_drop, List.length_take]; rfl)) ?_; (with_reducible refine (laws_toHunkS.calls k _ _ l1 t355 _ ?side1 ?side2 A9.out).mono ?_); (case side1 => repeat (first | exact (Kd.C_below HR1.out HB.out) | (with_reducible refine Kd.C_alloc ?_ _) | (with_reducible refine Kd.C_drewN ?_ _) | (with_reducible refine Kd.C_drew ?_))); (case side2 => exact HC1.out); rintro e w27 ⟨v356, rfl, ho0, hb⟩; refine ⟨_, rfl, ?_⟩; have n0_ := Aside0.mk (Kd.R_below (by (with_reducible repeat (first | apply Kd.R_alloc | apply Kd.R_drewN | apply Kd.R_drew)); exact HO354.out) hb); have n1_ := Aside0.mk (Kd.S_lower (Kd.S_new' ho0 (Kd.R_lt (by (with_reducible repeat (first | apply Kd.R_alloc | apply Kd.R_drewN | apply Kd.R_drew)); exact HO354.out))) (below_size (by repeat (first | (with_reducible first | exact HB.out | apply below_alloc | apply pw_below_drewN | apply below_drew1) | exact HB.out)))); have n2_ := Aside0.mk (below_step (by repeat (first | (with_reducible first | exact HB.out | apply below_alloc | apply pw_below_drewN | apply below_drew1) | exact HB.out)) hb); clear HO354; clear HB; have HO354 := n0_; have HO357 := n1_; have HB := n2_; clear n0_ n1_ n2_; (try clear hb); (try clear hb2); (try clear hk); (try clear hi); (try clear ho0); obtain ⟨Ao28, co28, eo28⟩ := Kd.R_slice HO354.out; subst eo28; obtain ⟨Ao29, co29, eo29⟩ := Kd.S_slice HO357.out; subst eo29) | ((with_reducible refine gate_callee (f := 23) rfl ?_); refine goesL_ (some 28) rfl rfl Try.func23 (by kernel_rfl) rfl #[.slice Ao28 t352.length co28, .slice Ao29 t355.length co29] rfl (by (try simp only [List.map_toArray, List.map_cons, List.map_nil]); first | done | rfl | (simp only [List.length_drop, List.length_take]; rfl)) ?_; (with_reducible refine (spec_ApplyHunks.calls k _ _ t352 _ _ t355 t358 t359 _ ?side1 ?side2 ?side3 ?side4 A10.out).mono ?_); (case side1 => repeat (first | exact (Kd.R_reads' HO354.out).2.2 | (with_reducible refine Kd.C_alloc ?_ _) | (with_reducible refine Kd.C_drewN ?_ _) | (with_reducible refine Kd.C_drew ?_))); (case side2 => exact (Kd.R_reads' HO354.out).2.1); (case side3 => repeat (first | exact (Kd.S_reads' HO357.out).2.2 | (with_reducible refine Kd.C_alloc ?_ _) | (with_reducible refine Kd.C_drewN ?_ _) | (with_reducible refine Kd.C_drew ?_))); (case side4 => exact (Kd.S_reads' HO357.out).2.1); rintro e w30 ⟨v360, rfl, ho0, hb⟩; refine ⟨_, rfl, ?_⟩; have n0_ := Aside0.mk (Kd.R_elder' (by (with_reducible repeat (first | apply Kd.R_alloc | apply Kd.R_drewN | apply Kd.R_drew)); exact HO354.out) (Kd.R_base ho0) hb); have n1_ := Aside0.mk (Kd.S_elder' (by (with_reducible repeat (first | apply Kd.S_alloc | apply Kd.S_drewN | apply Kd.S_drew)); exact HO357.out) (Kd.R_base ho0) hb); have n2_ := Aside0.mk (Kd.R_lower (Kd.R_new' ho0 (Kd.R_lt (by (with_reducible repeat (first | apply Kd.R_alloc | apply Kd.R_drewN | apply Kd.R_drew)); exact HO354.out))) (below_size (by repeat (first | (with_reducible first | exact HB.out | apply below_alloc | apply pw_below_drewN | apply below_drew1) | exact HB.out)))); have n3_ := Aside0.mk (below_step (by repeat (first | (with_reducible first | exact HB.out | apply below_alloc | apply pw_below_drewN | apply below_drew1) | exact HB.out)) hb); clear HO354; clear HO357; clear HB; have HO354 := n0_; have HO357 := n1_; have HO361 := n2_; have HB := n3_; clear n0_ n1_ n2_ n3_; (try clear hb); (try clear hb2); (try clear hk); (try clear hi); (try clear ho0)) | ((with_reducible refine gate_dst (N := 6) rfl ?_); refine box_event ?hg (N := 6) ?hd (cs := #[.int .i64 0, .slice none 0 0]) (t := 37) ?hr ?_; (case hd => rfl); (case hg => rfl); (case hr => first | (go_simp; done) | (go_simp; rfl)); intro gb362 hg w31 hbox hb; have n0_ := Aside0.mk (Kd.R_below (by (with_reducible repeat (first | apply Kd.R_alloc | apply Kd.R_drewN | apply Kd.R_drew)); exact HO354.out) hb); have n1_ := Aside0.mk (Kd.S_below (by (with_reducible repeat (first | apply Kd.S_alloc | apply Kd.S_drewN | apply Kd.S_drew)); exact HO357.out) hb); have n2_ := Aside0.mk (Kd.R_below (by (with_reducible repeat (first | apply Kd.R_alloc | apply Kd.R_drewN | apply Kd.R_drew)); exact HO361.out) hb); have n3_ := Aside0.mk (below_step (by repeat (first | (with_reducible first | exact HB.out | apply below_alloc | apply pw_below_drewN | apply below_drew1) | exact HB.out)) hb); have n4_ := Aside0.mk (hbox); have n5_ := Aside0.mk ((by rw [hg]; exact (below_size (by repeat (first | (with_reducible first | exact HB.out | apply below_alloc | apply pw_below_drewN | apply below_drew1) | exact HB.out))) : w.heap.size ≤ gb362)); have n6_ := Aside0.mk ((by rw [hg]; exact (below_size (by repeat (first | (with_reducible first | exact HB.out | apply below_alloc | apply pw_below_drewN | apply below_drew1) | exact HB.out))) : w.heap.size ≤ gb362)); clear HO354; clear HO357; clear HO361; clear HB; have HO354 := n0_; have HO357 := n1_; have HO361 := n2_; have HB := n3_; have BK362 := n4_; have GW362 := n5_; have GE362 := n6_; clear n0_ n1_ n2_ n3_ n4_ n5_ n6_; clear hb hbox hg; have hcz32_0 : w31.cell? ⟨gb362, 0, none⟩ = some (.int .i64 0) := (blk_cell BK362.out 0).trans rfl; have hcz32_1 : w31.cell? ⟨gb362, 1, none⟩ = some (.slice none 0 0) := (blk_cell BK362.out 1).trans rfl; have hfz32_0 := blk_frozen BK362.out 0; have hfz32_1 := blk_frozen BK362.out 1; obtain ⟨Ao33, co33, eo33⟩ := Kd.R_slice HO361.out; subst eo33) | ((with_reducible refine gate_callee (f := 24) rfl ?_); refine goesL_ (some 30) rfl rfl Try.func24 (by kernel_rfl) rfl #[.slice A0 l0.length c0] rfl (by (try simp only [List.map_toArray, List.map_cons, List.map_nil]); first | done | rfl | (simp only [List.length_drop, List.length_take]; rfl)) ?_; (with_reducible refine (laws_toStringS.calls k _ _ l0 t363 _ ?side1 ?side2 A11.out).mono ?_); (case side1 => exact Kd.C_below HR0.out (by repeat (first | (with_reducible first | exact HB.out | apply below_alloc | apply pw_below_drewN | apply below_drew1 | refine below_set ?_ GE362.out) | exact HB.out))); (case side2 => exact HC0.out); rintro e w34 ⟨v364, rfl, ho0, hb⟩; refine ⟨_, rfl, ?_⟩; have n0_ := Aside0.mk (Kd.R_elder' (by (with_reducible repeat (first | apply Kd.R_alloc | apply Kd.R_drewN | apply Kd.R_drew)); exact (Kd.R_mono (Kd.R_far (p := ⟨gb362, 1, none⟩) (Kd.R_far (p := ⟨gb362, 0, none⟩) (Kd.R_types HO354.out BK362.out (by decide)) (fun _ hk => hk.2) (.int .i64 t358)) (fun _ hk => hk.2) (.slice Ao33 t359.length co33)) (fun _ h_ => h_.1))) (Kd.R_base ho0) hb); have n1_ := Aside0.mk (Kd.S_elder' (by (with_reducible repeat (first | apply Kd.S_alloc | apply Kd.S_drewN | apply Kd.S_drew)); exact (Kd.S_mono (Kd.S_far (p := ⟨gb362, 1, none⟩) (Kd.S_far (p := ⟨gb362, 0, none⟩) (Kd.S_types HO357.out BK362.out (by decide)) (fun _ hk => hk.2) (.int .i64 t358)) (fun _ hk => hk.2) (.slice Ao33 t359.length co33)) (fun _ h_ => h_.1))) (Kd.R_base ho0) hb); have n2_ := Aside0.mk (Kd.R_elder' (by (with_reducible repeat (first | apply Kd.R_alloc | apply Kd.R_drewN | apply Kd.R_drew)); exact (Kd.R_mono (Kd.R_far (p := ⟨gb362, 1, none⟩) (Kd.R_far (p := ⟨gb362, 0, none⟩) (Kd.R_types HO361.out BK362.out (by decide)) (fun _ hk => hk.2) (.int .i64 t358)) (fun _ hk => hk.2) (.slice Ao33 t359.length co33)) (fun _ h_ => h_.1))) (Kd.R_base ho0) hb); have n3_ := Aside0.mk (Kd.R_lower (Kd.R_new' (Kd.R_new' ho0 (Kd.R_lt (by (with_reducible repeat (first | apply Kd.R_alloc | apply Kd.R_drewN | apply Kd.R_drew)); exact (Kd.R_mono (Kd.R_far (p := ⟨gb362, 1, none⟩) (Kd.R_far (p := ⟨gb362, 0, none⟩) (Kd.R_types HO354.out BK362.out (by decide)) (fun _ hk => hk.2) (.int .i64 t358)) (fun _ hk => hk.2) (.slice Ao33 t359.length co33)) (fun _ h_ => h_.1))))) (Kd.R_lt (by (with_reducible repeat (first | apply Kd.R_alloc | apply Kd.R_drewN | apply Kd.R_drew)); exact (Kd.R_mono (Kd.R_far (p := ⟨gb362, 1, none⟩) (Kd.R_far (p := ⟨gb362, 0, none⟩) (Kd.R_types HO361.out BK362.out (by decide)) (fun _ hk => hk.2) (.int .i64 t358)) (fun _ hk => hk.2) (.slice Ao33 t359.length co33)) (fun _ h_ => h_.1))))) (below_size (by repeat (first | (with_reducible first | exact HB.out | apply below_alloc | apply pw_below_drewN | apply below_drew1 | refine below_set ?_ GE362.out) | exact HB.out)))); have n4_ := Aside0.mk (blk_below (g := gb362) (o := .cells #[.int .i64 t358, .slice Ao33 t359.length co33] 37 (0, 0)) (by (with_reducible repeat (first | refine blk_drewN ?_ _ | refine blk_drew ?_ | refine blk_alloc ?_ _)); refine blk_put (cs := #[.int .i64 t358, .slice none 0 0]) ?_ 1 _ rfl; (with_reducible repeat (first | refine blk_drewN ?_ _ | refine blk_drew ?_ | refine blk_alloc ?_ _)); refine blk_put (cs := #[.int .i64 0, .slice none 0 0]) ?_ 0 _ rfl; (with_reducible repeat (first | refine blk_drewN ?_ _ | refine blk_drew ?_ | refine blk_alloc ?_ _)); exact BK362.out) hb); have n5_ := Aside0.mk (below_step (by repeat (first | (with_reducible first | exact HB.out | apply below_alloc | apply pw_below_drewN | apply below_drew1 | refine below_set ?_ GE362.out) | exact HB.out)) hb); clear HO354; clear HO357; clear HO361; clear BK362; clear HB; have HO354 := n0_; have HO357 := n1_; have HO361 := n2_; have HO365 := n3_; have BK362 := n4_; have HB := n5_; clear n0_ n1_ n2_ n3_ n4_ n5_; (try clear hb); (try clear hb2); (try clear hk); (try clear hi); (try clear ho0)) | ((with_reducible refine gate_callee (f := 15) rfl ?_); refine goesL_ (some 32) rfl rfl Try.func15 (by kernel_rfl) rfl #[.slice A1 l1.length c1] rfl (by (try simp only [List.map_toArray, List.map_cons, List.map_nil]); first | done | rfl | (simp only [List.length_drop, List.length_take]; rfl)) ?_; (with_reducible refine (laws_toHunkS.calls k _ _ l1 t366 _ ?side1 ?side2 A12.out).mono ?_); (case side1 => repeat (first | exact (Kd.C_below HR1.out HB.out) | (with_reducible refine Kd.C_alloc ?_ _) | (with_reducible refine Kd.C_drewN ?_ _) | (with_reducible refine Kd.C_drew ?_))); (case side2 => exact HC1.out); rintro e w35 ⟨v367, rfl, ho0, hb⟩; refine ⟨_, rfl, ?_⟩; have n0_ := Aside0.mk (Kd.R_below (by (with_reducible repeat (first | apply Kd.R_alloc | apply Kd.R_drewN | apply Kd.R_drew)); exact HO354.out) hb); have n1_ := Aside0.mk (Kd.S_elder' (by (with_reducible repeat (first | apply Kd.S_alloc | apply Kd.S_drewN | apply Kd.S_drew)); exact HO357.out) (Kd.S_base ho0) hb); have n2_ := Aside0.mk (Kd.R_below (by (with_reducible repeat (first | apply Kd.R_alloc | apply Kd.R_drewN | apply Kd.R_drew)); exact HO361.out) hb); have n3_ := Aside0.mk (Kd.R_below (by (with_reducible repeat (first | apply Kd.R_alloc | apply Kd.R_drewN | apply Kd.R_drew)); exact HO365.out) hb); have n4_ := Aside0.mk (Kd.S_lower (Kd.S_new' (Kd.S_new' (Kd.S_new' (Kd.S_new' ho0 (Kd.R_lt (by (with_reducible repeat (first | apply Kd.R_alloc | apply Kd.R_drewN | apply Kd.R_drew)); exact HO354.out))) (Kd.S_lt (by (with_reducible repeat (first | apply Kd.S_alloc | apply Kd.S_drewN | apply Kd.S_drew)); exact HO357.out))) (Kd.R_lt (by (with_reducible repeat (first | apply Kd.R_alloc | apply Kd.R_drewN | apply Kd.R_drew)); exact HO361.out))) (Kd.R_lt (by (with_reducible repeat (first | apply Kd.R_alloc | apply Kd.R_drewN | apply Kd.R_drew)); exact HO365.out))) (below_size (by repeat (first | (with_reducible first | exact HB.out | apply below_alloc | apply pw_below_drewN | apply below_drew1 | refine below_set ?_ GE362.out) | exact HB.out)))); have n5_ := Aside0.mk (blk_below (g := gb362) (o := .cells #[.int .i64 t358, .slice Ao33 t359.length co33] 37 (0, 0)) (by (with_reducible repeat (first | refine blk_drewN ?_ _ | refine blk_drew ?_ | refine blk_alloc ?_ _)); exact BK362.out) hb); have n6_ := Aside0.mk (below_step (by repeat (first | (with_reducible first | exact HB.out | apply below_alloc | apply pw_below_drewN | apply below_drew1 | refine below_set ?_ GE362.out) | exact HB.out)) hb); clear HO354; clear HO357; clear HO361; clear HO365; clear BK362; clear HB; have HO354 := n0_; have HO357 := n1_; have HO361 := n2_; have HO365 := n3_; have HO368 := n4_; have BK362 := n5_; have HB := n6_; clear n0_ n1_ n2_ n3_ n4_ n5_ n6_; (try clear hb); (try clear hb2); (try clear hk); (try clear hi); (try clear ho0); obtain ⟨Ao36, co36, eo36⟩ := Kd.R_slice HO365.out; subst eo36; obtain ⟨Ao37, co37, eo37⟩ := Kd.S_slice HO368.out; subst eo37) | ((with_reducible refine gate_callee (f := 25) rfl ?_); refine goesL_ (some 35) rfl rfl Try.func25 (by kernel_rfl) rfl #[.slice Ao36 t363.length co36, .slice Ao37 t366.length co37] rfl (by (try simp only [List.map_toArray, List.map_cons, List.map_nil]); first | done | rfl | (simp only [List.length_drop, List.length_take]; rfl)) ?_; (with_reducible refine (impl_ApplyHunks.calls k _ _ t363 _ _ t366 t369 t370 _ ?side1 ?side2 ?side3 ?side4 A13.out).mono ?_); (case side1 => repeat (first | exact (Kd.R_reads' HO365.out).2.2 | (with_reducible refine Kd.C_alloc ?_ _) | (with_reducible refine Kd.C_drewN ?_ _) | (with_reducible refine Kd.C_drew ?_))); (case side2 => exact (Kd.R_reads' HO365.out).2.1); (case side3 => repeat (first | exact (Kd.S_reads' HO368.out).2.2 | (with_reducible refine Kd.C_alloc ?_ _) | (with_reducible refine Kd.C_drewN ?_ _) | (with_reducible refine Kd.C_drew ?_))); (case side4 => exact (Kd.S_reads' HO368.out).2.1); rintro e w38 ⟨v371, rfl, ho0, hb⟩; refine ⟨_, rfl, ?_⟩; have n0_ := Aside0.mk (Kd.R_elder' (by (with_reducible repeat (first | apply Kd.R_alloc | apply Kd.R_drewN | apply Kd.R_drew)); exact HO354.out) (Kd.R_base ho0) hb); have n1_ := Aside0.mk (Kd.S_elder' (by (with_reducible repeat (first | apply Kd.S_alloc | apply Kd.S_drewN | apply Kd.S_drew)); exact HO357.out) (Kd.R_base ho0) hb); have n2_ := Aside0.mk (Kd.R_elder' (by (with_reducible repeat (first | apply Kd.R_alloc | apply Kd.R_drewN | apply Kd.R_drew)); exact HO361.out) (Kd.R_base ho0) hb); have n3_ := Aside0.mk (Kd.R_elder' (by (with_reducible repeat (first | apply Kd.R_alloc | apply Kd.R_drewN | apply Kd.R_drew)); exact HO365.out) (Kd.R_base ho0) hb); have n4_ := Aside0.mk (Kd.S_elder' (by (with_reducible repeat (first | apply Kd.S_alloc | apply Kd.S_drewN | apply Kd.S_drew)); exact HO368.out) (Kd.R_base ho0) hb); have n5_ := Aside0.mk (Kd.R_lower (Kd.R_new' (Kd.R_new' (Kd.R_new' ho0 (Kd.R_lt (by (with_reducible repeat (first | apply Kd.R_alloc | apply Kd.R_drewN | apply Kd.R_drew)); exact HO354.out))) (Kd.R_lt (by (with_reducible repeat (first | apply Kd.R_alloc | apply Kd.R_drewN | apply Kd.R_drew)); exact HO361.out))) (Kd.R_lt (by (with_reducible repeat (first | apply Kd.R_alloc | apply Kd.R_drewN | apply Kd.R_drew)); exact HO365.out))) (below_size (by repeat (first | (with_reducible first | exact HB.out | apply below_alloc | apply pw_below_drewN | apply below_drew1 | refine below_set ?_ GE362.out) | exact HB.out)))); have n6_ := Aside0.mk (blk_below (g := gb362) (o := .cells #[.int .i64 t358, .slice Ao33 t359.length co33] 37 (0, 0)) (by (with_reducible repeat (first | refine blk_drewN ?_ _ | refine blk_drew ?_ | refine blk_alloc ?_ _)); exact BK362.out) hb); have n7_ := Aside0.mk (below_step (by repeat (first | (with_reducible first | exact HB.out | apply below_alloc | apply pw_below_drewN | apply below_drew1 | refine below_set ?_ GE362.out) | exact HB.out)) hb); clear HO354; clear HO357; clear HO361; clear HO365; clear HO368; clear BK362; clear HB; have HO354 := n0_; have HO357 := n1_; have HO361 := n2_; have HO365 := n3_; have HO368 := n4_; have HO372 := n5_; have BK362 := n6_; have HB := n7_; clear n0_ n1_ n2_ n3_ n4_ n5_ n6_ n7_; (try clear hb); (try clear hb2); (try clear hk); (try clear hi); (try clear ho0)) | ((with_reducible refine gate_dst (N := 9) rfl ?_); refine box_event ?hg (N := 9) ?hd (cs := #[.int .i64 0, .slice none 0 0]) (t := 37) ?hr ?_; (case hd => rfl); (case hg => rfl); (case hr => first | (go_simp; done) | (go_simp; rfl)); intro gb373 hg w39 hbox hb; have n0_ := Aside0.mk (Kd.R_below (by (with_reducible repeat (first | apply Kd.R_alloc | apply Kd.R_drewN | apply Kd.R_drew)); exact HO354.out) hb); have n1_ := Aside0.mk (Kd.S_below (by (with_reducible repeat (first | apply Kd.S_alloc | apply Kd.S_drewN | apply Kd.S_drew)); exact HO357.out) hb); have n2_ := Aside0.mk (Kd.R_below (by (with_reducible repeat (first | apply Kd.R_alloc | apply Kd.R_drewN | apply Kd.R_drew)); exact HO361.out) hb); have n3_ := Aside0.mk (Kd.R_below (by (with_reducible repeat (first | apply Kd.R_alloc | apply Kd.R_drewN | apply Kd.R_drew)); exact HO365.out) hb); have n4_ := Aside0.mk (Kd.S_below (by (with_reducible repeat (first | apply Kd.S_alloc | apply Kd.S_drewN | apply Kd.S_drew)); exact HO368.out) hb); have n5_ := Aside0.mk (Kd.R_below (by (with_reducible repeat (first | apply Kd.R_alloc | apply Kd.R_drewN | apply Kd.R_drew)); exact HO372.out) hb); have n6_ := Aside0.mk (blk_below (g := gb362) (o := .cells #[.int .i64 t358, .slice Ao33 t359.length co33] 37 (0, 0)) (by (with_reducible repeat (first | refine blk_drewN ?_ _ | refine blk_drew ?_ | refine blk_alloc ?_ _)); exact BK362.out) hb); have n7_ := Aside0.mk (below_step (by repeat (first | (with_reducible first | exact HB.out | apply below_alloc | apply pw_below_drewN | apply below_drew1 | refine below_set ?_ GE362.out) | exact HB.out)) hb); have n8_ := Aside0.mk (hbox); have n9_ := Aside0.mk ((by rw [hg]; exact (below_size (by repeat (first | (with_reducible first | exact HB.out | apply below_alloc | apply pw_below_drewN | apply below_drew1 | refine below_set ?_ GE362.out) | exact HB.out))) : w.heap.size ≤ gb373)); have n10_ := Aside0.mk ((by rw [hg]; exact (below_size (by repeat (first | (with_reducible first | exact HB.out | apply below_alloc | apply pw_below_drewN | apply below_drew1 | refine below_set ?_ GE362.out) | exact HB.out))) : w.heap.size ≤ gb373)); have n11_ := Aside0.mk ((by rw [hg]; exact Nat.ne_of_lt (blk_lt (g := gb362) (o := .cells #[.int .i64 t358, .slice Ao33 t359.length co33] 37 (0, 0)) (by (with_reducible repeat (first | refine blk_drewN ?_ _ | refine blk_drew ?_ | refine blk_alloc ?_ _)); exact BK362.out)) : gb362 ≠ gb373)); have n12_ := Aside0.mk ((by rw [hg]; exact Nat.ne_of_gt (blk_lt (g := gb362) (o := .cells #[.int .i64 t358, .slice Ao33 t359.length co33] 37 (0, 0)) (by (with_reducible repeat (first | refine blk_drewN ?_ _ | refine blk_drew ?_ | refine blk_alloc ?_ _)); exact BK362.out)) : gb373 ≠ gb362)); clear HO354; clear HO357; clear HO361; clear HO365; clear HO368; clear HO372; clear BK362; clear HB; have HO354 := n0_; have HO357 := n1_; have HO361 := n2_; have HO365 := n3_; have HO368 := n4_; have HO372 := n5_; have BK362 := n6_; have HB := n7_; have BK373 := n8_; have GW373 := n9_; have GE373 := n10_; have NB362_373 := n11_; have NB373_362 := n12_; clear n0_ n1_ n2_ n3_ n4_ n5_ n6_ n7_ n8_ n9_ n10_ n11_ n12_; clear hb hbox hg; have hnb40 := NB373_362.out; have hnc40 := NB362_373.out; have hcz41_0 : w39.cell? ⟨gb373, 0, none⟩ = some (.int .i64 0) := (blk_cell BK373.out 0).trans rfl; have hcz41_1 : w39.cell? ⟨gb373, 1, none⟩ = some (.slice none 0 0) := (blk_cell BK373.out 1).trans rfl; have hfz41_0 := blk_frozen BK373.out 0; have hfz41_1 := blk_frozen BK373.out 1; obtain ⟨Ao42, co42, eo42⟩ := Kd.R_slice HO372.out; subst eo42; have hcz43_0 : w39.cell? ⟨gb362, 0, none⟩ = some (.int .i64 t358) := (blk_cell BK362.out 0).trans rfl; have hcz43_1 : w39.cell? ⟨gb362, 1, none⟩ = some (.slice Ao33 t359.length co33) := (blk_cell BK362.out 1).trans rfl; have hfz43_0 := blk_frozen BK362.out 0; have hfz43_1 := blk_frozen BK362.out 1) | ((with_reducible refine gate_callee (f := 26) rfl ?_); refine goesL_ (some 38) rfl rfl Try.func26 (by kernel_rfl) rfl #[.agg #[.int .i64 t369, .slice Ao42 t370.length co42], .agg #[.int .i64 t358, .slice Ao33 t359.length co33]] rfl (by (try simp only [List.map_toArray, List.map_cons, List.map_nil]); first | done | rfl | (simp only [List.length_drop, List.length_take]; rfl)) ?_; (with_reducible refine (laws_eqLinesResult.calls k t369 _ _ t370 t358 _ _ t359 true _ ?side1 ?side2 ?side3 ?side4 A14.out).mono ?_); (case side1 => refine (Kd.R_reads' (e := 9) (base := w.heap.size) (ok := fun k_ => (((True ∧ some k_ ≠ (.slice Ao28 t352.length co28 : Value).ownBlock) ∧ some k_ ≠ (.slice Ao33 t359.length co33 : Value).ownBlock) ∧ some k_ ≠ (.slice Ao36 t363.length co36 : Value).ownBlock)) (n := t370.length) (c := co42) ?_).2.2; exact (by (with_reducible repeat (first | apply Kd.R_alloc | apply Kd.R_drewN | apply Kd.R_drew)); exact (Kd.R_mono (Kd.R_far (p := ⟨gb373, 1, none⟩) (Kd.R_far (p := ⟨gb373, 0, none⟩) (Kd.R_types HO372.out BK373.out (by decide)) (fun _ hk => hk.2) (.int .i64 t369)) (fun _ hk => hk.2) (.slice Ao42 t370.length co42)) (fun _ h_ => h_.1)))); (case side2 => exact (Kd.R_reads' HO372.out).2.1); (case side3 => refine (Kd.R_reads' (e := 9) (base := w.heap.size) (ok := fun k_ => (((True ∧ some k_ ≠ (.slice Ao28 t352.length co28 : Value).ownBlock) ∧ some k_ ≠ (.slice Ao36 t363.length co36 : Value).ownBlock) ∧ some k_ ≠ (.slice Ao42 t370.length co42 : Value).ownBlock)) (n := t359.length) (c := co33) ?_).2.2; exact (by (with_reducible repeat (first | apply Kd.R_alloc | apply Kd.R_drewN | apply Kd.R_drew)); exact (Kd.R_mono (Kd.R_far (p := ⟨gb373, 1, none⟩) (Kd.R_far (p := ⟨gb373, 0, none⟩) (Kd.R_types HO361.out BK373.out (by decide)) (fun _ hk => hk.2) (.int .i64 t369)) (fun _ hk => hk.2) (.slice Ao42 t370.length co42)) (fun _ h_ => h_.1)))); (case side4 => exact (Kd.R_reads' HO361.out).2.1); rintro e w44 ⟨rfl, hb⟩; refine ⟨_, rfl, ?_⟩; have n0_ := Aside0.mk (Kd.R_below (by (with_reducible repeat (first | apply Kd.R_alloc | apply Kd.R_drewN | apply Kd.R_drew)); exact (Kd.R_mono (Kd.R_far (p := ⟨gb373, 1, none⟩) (Kd.R_far (p := ⟨gb373, 0, none⟩) (Kd.R_types HO354.out BK373.out (by decide)) (fun _ hk => hk.2) (.int .i64 t369)) (fun _ hk => hk.2) (.slice Ao42 t370.length co42)) (fun _ h_ => h_.1))) hb); have n1_ := Aside0.mk (Kd.S_below (by (with_reducible repeat (first | apply Kd.S_alloc | apply Kd.S_drewN | apply Kd.S_drew)); exact (Kd.S_mono (Kd.S_far (p := ⟨gb373, 1, none⟩) (Kd.S_far (p := ⟨gb373, 0, none⟩) (Kd.S_types HO357.out BK373.out (by decide)) (fun _ hk => hk.2) (.int .i64 t369)) (fun _ hk => hk.2) (.slice Ao42 t370.length co42)) (fun _ h_ => h_.1))) hb); have n2_ := Aside0.mk (Kd.R_below (by (with_reducible repeat (first | apply Kd.R_alloc | apply Kd.R_drewN | apply Kd.R_drew)); exact (Kd.R_mono (Kd.R_far (p := ⟨gb373, 1, none⟩) (Kd.R_far (p := ⟨gb373, 0, none⟩) (Kd.R_types HO361.out BK373.out (by decide)) (fun _ hk => hk.2) (.int .i64 t369)) (fun _ hk => hk.2) (.slice Ao42 t370.length co42)) (fun _ h_ => h_.1))) hb); have n3_ := Aside0.mk (Kd.R_below (by (with_reducible repeat (first | apply Kd.R_alloc | apply Kd.R_drewN | apply Kd.R_drew)); exact (Kd.R_mono (Kd.R_far (p := ⟨gb373, 1, none⟩) (Kd.R_far (p := ⟨gb373, 0, none⟩) (Kd.R_types HO365.out BK373.out (by decide)) (fun _ hk => hk.2) (.int .i64 t369)) (fun _ hk => hk.2) (.slice Ao42 t370.length co42)) (fun _ h_ => h_.1))) hb); have n4_ := Aside0.mk (Kd.S_below (by (with_reducible repeat (first | apply Kd.S_alloc | apply Kd.S_drewN | apply Kd.S_drew)); exact (Kd.S_mono (Kd.S_far (p := ⟨gb373, 1, none⟩) (Kd.S_far (p := ⟨gb373, 0, none⟩) (Kd.S_types HO368.out BK373.out (by decide)) (fun _ hk => hk.2) (.int .i64 t369)) (fun _ hk => hk.2) (.slice Ao42 t370.length co42)) (fun _ h_ => h_.1))) hb); have n5_ := Aside0.mk (Kd.R_below (by (with_reducible repeat (first | apply Kd.R_alloc | apply Kd.R_drewN | apply Kd.R_drew)); exact (Kd.R_mono (Kd.R_far (p := ⟨gb373, 1, none⟩) (Kd.R_far (p := ⟨gb373, 0, none⟩) (Kd.R_types HO372.out BK373.out (by decide)) (fun _ hk => hk.2) (.int .i64 t369)) (fun _ hk => hk.2) (.slice Ao42 t370.length co42)) (fun _ h_ => h_.1))) hb); have n6_ := Aside0.mk (blk_below (g := gb362) (o := .cells #[.int .i64 t358, .slice Ao33 t359.length co33] 37 (0, 0)) (by (with_reducible repeat (first | refine blk_drewN ?_ _ | refine blk_drew ?_ | refine blk_alloc ?_ _)); refine blk_far ?_ NB362_373.out _; (with_reducible repeat (first | refine blk_drewN ?_ _ | refine blk_drew ?_ | refine blk_alloc ?_ _)); refine blk_far ?_ NB362_373.out _; (with_reducible repeat (first | refine blk_drewN ?_ _ | refine blk_drew ?_ | refine blk_alloc ?_ _)); exact BK362.out) hb); have n7_ := Aside0.mk (blk_below (g := gb373) (o := .cells #[.int .i64 t369, .slice Ao42 t370.length co42] 37 (0, 0)) (by (with_reducible repeat (first | refine blk_drewN ?_ _ | refine blk_drew ?_ | refine blk_alloc ?_ _)); refine blk_put (cs := #[.int .i64 t369, .slice none 0 0]) ?_ 1 _ rfl; (with_reducible repeat (first | refine blk_drewN ?_ _ | refine blk_drew ?_ | refine blk_alloc ?_ _)); refine blk_put (cs := #[.int .i64 0, .slice none 0 0]) ?_ 0 _ rfl; (with_reducible repeat (first | refine blk_drewN ?_ _ | refine blk_drew ?_ | refine blk_alloc ?_ _)); exact BK373.out) hb); have n8_ := Aside0.mk (below_step (by repeat (first | (with_reducible first | exact HB.out | apply below_alloc | apply pw_below_drewN | apply below_drew1 | refine below_set ?_ GE362.out | refine below_set ?_ GE373.out) | exact HB.out)) hb); clear HO354; clear HO357; clear HO361; clear HO365; clear HO368; clear HO372; clear BK362; clear BK373; clear HB; have HO354 := n0_; have HO357 := n1_; have HO361 := n2_; have HO365 := n3_; have HO368 := n4_; have HO372 := n5_; have BK362 := n6_; have BK373 := n7_; have HB := n8_; clear n0_ n1_ n2_ n3_ n4_ n5_ n6_ n7_ n8_; (try clear hb); (try clear hb2); (try clear hk); (try clear hi)) | ((with_reducible refine gate_callee (f := 24) rfl ?_); refine goesL_ (some 42) rfl rfl Try.func24 (by kernel_rfl) rfl #[.slice A0 l0.length c0] rfl (by (try simp only [List.map_toArray, List.map_cons, List.map_nil]); first | done | rfl | (simp only [List.length_drop, List.length_take]; rfl)) ?_; (with_reducible refine (laws_toStringS.calls k _ _ l0 t375 _ ?side1 ?side2 A16.out).mono ?_); (case side1 => repeat (first | exact (Kd.C_below HR0.out HB.out) | (with_reducible refine Kd.C_alloc ?_ _) | (with_reducible refine Kd.C_drewN ?_ _) | (with_reducible refine Kd.C_drew ?_))); (case side2 => exact HC0.out); rintro e w45 ⟨v376, rfl, ho0, hb⟩; refine ⟨_, rfl, ?_⟩; have n0_ := Aside0.mk (Kd.R_elder' (by (with_reducible repeat (first | apply Kd.R_alloc | apply Kd.R_drewN | apply Kd.R_drew)); exact HO354.out) (Kd.R_base ho0) hb); have n1_ := Aside0.mk (Kd.S_elder' (by (with_reducible repeat (first | apply Kd.S_alloc | apply Kd.S_drewN | apply Kd.S_drew)); exact HO357.out) (Kd.R_base ho0) hb); have n2_ := Aside0.mk (Kd.R_elder' (by (with_reducible repeat (first | apply Kd.R_alloc | apply Kd.R_drewN | apply Kd.R_drew)); exact HO361.out) (Kd.R_base ho0) hb); have n3_ := Aside0.mk (Kd.R_elder' (by (with_reducible repeat (first | apply Kd.R_alloc | apply Kd.R_drewN | apply Kd.R_drew)); exact HO365.out) (Kd.R_base ho0) hb); have n4_ := Aside0.mk (Kd.S_elder' (by (with_reducible repeat (first | apply Kd.S_alloc | apply Kd.S_drewN | apply Kd.S_drew)); exact HO368.out) (Kd.R_base ho0) hb); have n5_ := Aside0.mk (Kd.R_elder' (by (with_reducible repeat (first | apply Kd.R_alloc | apply Kd.R_drewN | apply Kd.R_drew)); exact HO372.out) (Kd.R_base ho0) hb); have n6_ := Aside0.mk (Kd.R_lower (Kd.R_new' (Kd.R_new' (Kd.R_new' (Kd.R_new' ho0 (Kd.R_lt (by (with_reducible repeat (first | apply Kd.R_alloc | apply Kd.R_drewN | apply Kd.R_drew)); exact HO354.out))) (Kd.R_lt (by (with_reducible repeat (first | apply Kd.R_alloc | apply Kd.R_drewN | apply Kd.R_drew)); exact HO361.out))) (Kd.R_lt (by (with_reducible repeat (first | apply Kd.R_alloc | apply Kd.R_drewN | apply Kd.R_drew)); exact HO365.out))) (Kd.R_lt (by (with_reducible repeat (first | apply Kd.R_alloc | apply Kd.R_drewN | apply Kd.R_drew)); exact HO372.out))) (below_size (by repeat (first | (with_reducible first | exact HB.out | apply below_alloc | apply pw_below_drewN | apply below_drew1 | refine below_set ?_ GE362.out | refine below_set ?_ GE373.out) | exact HB.out)))); have n7_ := Aside0.mk (blk_below (g := gb362) (o := .cells #[.int .i64 t358, .slice Ao33 t359.length co33] 37 (0, 0)) (by (with_reducible repeat (first | refine blk_drewN ?_ _ | refine blk_drew ?_ | refine blk_alloc ?_ _)); exact BK362.out) hb); have n8_ := Aside0.mk (blk_below (g := gb373) (o := .cells #[.int .i64 t369, .slice Ao42 t370.length co42] 37 (0, 0)) (by (with_reducible repeat (first | refine blk_drewN ?_ _ | refine blk_drew ?_ | refine blk_alloc ?_ _)); exact BK373.out) hb); have n9_ := Aside0.mk (below_step (by repeat (first | (with_reducible first | exact HB.out | apply below_alloc | apply pw_below_drewN | apply below_drew1 | refine below_set ?_ GE362.out | refine below_set ?_ GE373.out) | exact HB.out)) hb); clear HO354; clear HO357; clear HO361; clear HO365; clear HO368; clear HO372; clear BK362; clear BK373; clear HB; have HO354 := n0_; have HO357 := n1_; have HO361 := n2_; have HO365 := n3_; have HO368 := n4_; have HO372 := n5_; have HO377 := n6_; have BK362 := n7_; have BK373 := n8_; have HB := n9_; clear n0_ n1_ n2_ n3_ n4_ n5_ n6_ n7_ n8_ n9_; (try clear hb); (try clear hb2); (try clear hk); (try clear hi); (try clear ho0); obtain ⟨Ao46, co46, eo46⟩ := Kd.R_slice HO377.out; subst eo46) | ((with_reducible refine gate_callee (f := 27) rfl ?_); refine goesL_ (some 43) rfl rfl Try.func27 (by kernel_rfl) rfl #[.slice Ao36 t363.length co36, .slice Ao46 t375.length co46] rfl (by (try simp only [List.map_toArray, List.map_cons, List.map_nil]); first | done | rfl | (simp only [List.length_drop, List.length_take]; rfl)) ?_; (with_reducible refine (laws_eqStringS.calls k _ _ t363 _ _ t375 true _ ?side1 ?side2 ?side3 ?side4 A17.out).mono ?_); (case side1 => repeat (first | exact (Kd.R_reads' HO365.out).2.2 | (with_reducible refine Kd.C_alloc ?_ _) | (with_reducible refine Kd.C_drewN ?_ _) | (with_reducible refine Kd.C_drew ?_))); (case side2 => exact (Kd.R_reads' HO365.out).2.1); (case side3 => repeat (first | exact (Kd.R_reads' HO377.out).2.2 | (with_reducible refine Kd.C_alloc ?_ _) | (with_reducible refine Kd.C_drewN ?_ _) | (with_reducible refine Kd.C_drew ?_))); (case side4 => exact (Kd.R_reads' HO377.out).2.1); rintro e w' ⟨rfl, ⟨nd, rfl⟩⟩; refine ⟨_, rfl, ?_⟩) | ((with_reducible refine gate_callee (f := 15) rfl ?_); refine goesL_ (some 47) rfl rfl Try.func15 (by kernel_rfl) rfl #[.slice A1 l1.length c1] rfl (by (try simp only [List.map_toArray, List.map_cons, List.map_nil]); first | done | rfl | (simp only [List.length_drop, List.length_take]; rfl)) ?_; (with_reducible refine (laws_toHunkS.calls k _ _ l1 t379 _ ?side1 ?side2 A19.out).mono ?_); (case side1 => repeat (first | exact (Kd.C_below HR1.out (by repeat (first | (with_reducible first | exact HB.out | apply below_alloc | apply pw_below_drewN | apply below_drew1 | refine below_set ?_ GE362.out | refine below_set ?_ GE373.out) | exact HB.out))) | (with_reducible refine Kd.C_alloc ?_ _) | (with_reducible refine Kd.C_drewN ?_ _) | (with_reducible refine Kd.C_drew ?_))); (case side2 => exact HC1.out); rintro e w47 ⟨v380, rfl, ho0, hb⟩; refine ⟨_, rfl, ?_⟩; have n0_ := Aside0.mk (Kd.R_below (by (with_reducible repeat (first | apply Kd.R_alloc | apply Kd.R_drewN | apply Kd.R_drew)); exact HO354.out) hb); have n1_ := Aside0.mk (Kd.S_elder' (by (with_reducible repeat (first | apply Kd.S_alloc | apply Kd.S_drewN | apply Kd.S_drew)); exact HO357.out) (Kd.S_base ho0) hb); have n2_ := Aside0.mk (Kd.R_below (by (with_reducible repeat (first | apply Kd.R_alloc | apply Kd.R_drewN | apply Kd.R_drew)); exact HO361.out) hb); have n3_ := Aside0.mk (Kd.R_below (by (with_reducible repeat (first | apply Kd.R_alloc | apply Kd.R_drewN | apply Kd.R_drew)); exact HO365.out) hb); have n4_ := Aside0.mk (Kd.S_elder' (by (with_reducible repeat (first | apply Kd.S_alloc | apply Kd.S_drewN | apply Kd.S_drew)); exact HO368.out) (Kd.S_base ho0) hb); have n5_ := Aside0.mk (Kd.R_below (by (with_reducible repeat (first | apply Kd.R_alloc | apply Kd.R_drewN | apply Kd.R_drew)); exact HO372.out) hb); have n6_ := Aside0.mk (Kd.R_below (by (with_reducible repeat (first | apply Kd.R_alloc | apply Kd.R_drewN | apply Kd.R_drew)); exact HO377.out) hb); have n7_ := Aside0.mk (Kd.S_lower (Kd.S_new' (Kd.S_new' (Kd.S_new' (Kd.S_new' (Kd.S_new' (Kd.S_new' (Kd.S_new' ho0 (Kd.R_lt (by (with_reducible repeat (first | apply Kd.R_alloc | apply Kd.R_drewN | apply Kd.R_drew)); exact HO354.out))) (Kd.S_lt (by (with_reducible repeat (first | apply Kd.S_alloc | apply Kd.S_drewN | apply Kd.S_drew)); exact HO357.out))) (Kd.R_lt (by (with_reducible repeat (first | apply Kd.R_alloc | apply Kd.R_drewN | apply Kd.R_drew)); exact HO361.out))) (Kd.R_lt (by (with_reducible repeat (first | apply Kd.R_alloc | apply Kd.R_drewN | apply Kd.R_drew)); exact HO365.out))) (Kd.S_lt (by (with_reducible repeat (first | apply Kd.S_alloc | apply Kd.S_drewN | apply Kd.S_drew)); exact HO368.out))) (Kd.R_lt (by (with_reducible repeat (first | apply Kd.R_alloc | apply Kd.R_drewN | apply Kd.R_drew)); exact HO372.out))) (Kd.R_lt (by (with_reducible repeat (first | apply Kd.R_alloc | apply Kd.R_drewN | apply Kd.R_drew)); exact HO377.out))) (below_size (by repeat (first | (with_reducible first | exact HB.out | apply below_alloc | apply pw_below_drewN | apply below_drew1 | refine below_set ?_ GE362.out | refine below_set ?_ GE373.out) | exact HB.out)))); have n8_ := Aside0.mk (blk_below (g := gb362) (o := .cells #[.int .i64 t358, .slice Ao33 t359.length co33] 37 (0, 0)) (by (with_reducible repeat (first | refine blk_drewN ?_ _ | refine blk_drew ?_ | refine blk_alloc ?_ _)); exact BK362.out) hb); have n9_ := Aside0.mk (blk_below (g := gb373) (o := .cells #[.int .i64 t369, .slice Ao42 t370.length co42] 37 (0, 0)) (by (with_reducible repeat (first | refine blk_drewN ?_ _ | refine blk_drew ?_ | refine blk_alloc ?_ _)); exact BK373.out) hb); have n10_ := Aside0.mk (below_step (by repeat (first | (with_reducible first | exact HB.out | apply below_alloc | apply pw_below_drewN | apply below_drew1 | refine below_set ?_ GE362.out | refine below_set ?_ GE373.out) | exact HB.out)) hb); clear HO354; clear HO357; clear HO361; clear HO365; clear HO368; clear HO372; clear HO377; clear BK362; clear BK373; clear HB; have HO354 := n0_; have HO357 := n1_; have HO361 := n2_; have HO365 := n3_; have HO368 := n4_; have HO372 := n5_; have HO377 := n6_; have HO381 := n7_; have BK362 := n8_; have BK373 := n9_; have HB := n10_; clear n0_ n1_ n2_ n3_ n4_ n5_ n6_ n7_ n8_ n9_ n10_; (try clear hb); (try clear hb2); (try clear hk); (try clear hi); (try clear ho0); obtain ⟨Ao48, co48, eo48⟩ := Kd.S_slice HO381.out; subst eo48) | ((with_reducible refine gate_callee (f := 18) rfl ?_); refine goesL_ (some 48) rfl rfl Try.func18 (by kernel_rfl) rfl #[.slice Ao37 t366.length co37, .slice Ao48 t379.length co48] rfl (by (try simp only [List.map_toArray, List.map_cons, List.map_nil]); first | done | rfl | (simp only [List.length_drop, List.length_take]; rfl)) ?_; (with_reducible refine (laws_eqHunkS.calls k _ _ t366 _ _ t379 true _ ?side1 ?side2 ?side3 ?side4 A20.out).mono ?_); (case side1 => repeat (first | exact (Kd.S_reads' HO368.out).2.2 | (with_reducible refine Kd.C_alloc ?_ _) | (with_reducible refine Kd.C_drewN ?_ _) | (with_reducible refine Kd.C_drew ?_))); (case side2 => exact (Kd.S_reads' HO368.out).2.1); (case side3 => repeat (first | exact (Kd.S_reads' HO381.out).2.2 | (with_reducible refine Kd.C_alloc ?_ _) | (with_reducible refine Kd.C_drewN ?_ _) | (with_reducible refine Kd.C_drew ?_))); (case side4 => exact (Kd.S_reads' HO381.out).2.1); rintro e w49 ⟨rfl, hb⟩; refine ⟨_, rfl, ?_⟩; have n0_ := Aside0.mk (Kd.R_below (by (with_reducible repeat (first | apply Kd.R_alloc | apply Kd.R_drewN | apply Kd.R_drew)); exact HO354.out) hb); have n1_ := Aside0.mk (Kd.S_below (by (with_reducible repeat (first | apply Kd.S_alloc | apply Kd.S_drewN | apply Kd.S_drew)); exact HO357.out) hb); have n2_ := Aside0.mk (Kd.R_below (by (with_reducible repeat (first | apply Kd.R_alloc | apply Kd.R_drewN | apply Kd.R_drew)); exact HO361.out) hb); have n3_ := Aside0.mk (Kd.R_below (by (with_reducible repeat (first | apply Kd.R_alloc | apply Kd.R_drewN | apply Kd.R_drew)); exact HO365.out) hb); have n4_ := Aside0.mk (Kd.S_below (by (with_reducible repeat (first | apply Kd.S_alloc | apply Kd.S_drewN | apply Kd.S_drew)); exact HO368.out) hb); have n5_ := Aside0.mk (Kd.R_below (by (with_reducible repeat (first | apply Kd.R_alloc | apply Kd.R_drewN | apply Kd.R_drew)); exact HO372.out) hb); have n6_ := Aside0.mk (Kd.R_below (by (with_reducible repeat (first | apply Kd.R_alloc | apply Kd.R_drewN | apply Kd.R_drew)); exact HO377.out) hb); have n7_ := Aside0.mk (Kd.S_below (by (with_reducible repeat (first | apply Kd.S_alloc | apply Kd.S_drewN | apply Kd.S_drew)); exact HO381.out) hb); have n8_ := Aside0.mk (blk_below (g := gb362) (o := .cells #[.int .i64 t358, .slice Ao33 t359.length co33] 37 (0, 0)) (by (with_reducible repeat (first | refine blk_drewN ?_ _ | refine blk_drew ?_ | refine blk_alloc ?_ _)); exact BK362.out) hb); have n9_ := Aside0.mk (blk_below (g := gb373) (o := .cells #[.int .i64 t369, .slice Ao42 t370.length co42] 37 (0, 0)) (by (with_reducible repeat (first | refine blk_drewN ?_ _ | refine blk_drew ?_ | refine blk_alloc ?_ _)); exact BK373.out) hb); have n10_ := Aside0.mk (below_step (by repeat (first | (with_reducible first | exact HB.out | apply below_alloc | apply pw_below_drewN | apply below_drew1 | refine below_set ?_ GE362.out | refine below_set ?_ GE373.out) | exact HB.out)) hb); clear HO354; clear HO357; clear HO361; clear HO365; clear HO368; clear HO372; clear HO377; clear HO381; clear BK362; clear BK373; clear HB; have HO354 := n0_; have HO357 := n1_; have HO361 := n2_; have HO365 := n3_; have HO368 := n4_; have HO372 := n5_; have HO377 := n6_; have HO381 := n7_; have BK362 := n8_; have BK373 := n9_; have HB := n10_; clear n0_ n1_ n2_ n3_ n4_ n5_ n6_ n7_ n8_ n9_ n10_; (try clear hb); (try clear hb2); (try clear hk); (try clear hi)) | ((with_reducible refine gate_callee (f := 28) rfl ?_); refine goesL_ (some 52) rfl rfl Try.func28 (by kernel_rfl) rfl #[.slice Ao36 t363.length co36, .int .i64 1] rfl (by (try simp only [List.map_toArray, List.map_cons, List.map_nil]); first | done | rfl | (simp only [List.length_drop, List.length_take]; rfl)) ?_; (with_reducible refine (laws_markStringS.calls k (fun k_ => some k_ = (.slice Ao36 t363.length co36 : Value).ownBlock) (.slice Ao36 t363.length co36) t363 1 t383 t384 w _ ?side1 ?side2 A22.out).mono ?_); (case side1 => repeat (first | (with_reducible first | exact HB.out | apply below_alloc | apply pw_below_drewN | apply below_drew1 | refine below_set ?_ GE362.out | refine below_set ?_ GE373.out) | exact HB.out)); (case side2 => exact Kd.R_tight rfl HO365.out); rintro e w50 ⟨rfl, hy0, hb, hkp⟩; refine ⟨_, rfl, ?_⟩; have n0_ := Aside0.mk (Kd.R_mono (ok' := fun k_ => some k_ ≠ (.slice Ao33 t359.length co33 : Value).ownBlock ∧ some k_ ≠ (.slice Ao36 t363.length co36 : Value).ownBlock ∧ some k_ ≠ (.slice Ao42 t370.length co42 : Value).ownBlock ∧ some k_ ≠ (.slice Ao46 t375.length co46 : Value).ownBlock) (Kd.R_keptB (HO354.out) hkp (fun k_ hk_ hs_ => (hk_.1.1.2) hs_)) (fun k_ hk_ => ⟨hk_.1.1.1.1.2, hk_.1.1.1.2, hk_.1.1.2, hk_.1.2⟩)); have n1_ := Aside0.mk (Kd.S_mono (ok' := fun k_ => some k_ ≠ (.slice Ao28 t352.length co28 : Value).ownBlock ∧ some k_ ≠ (.slice Ao33 t359.length co33 : Value).ownBlock ∧ some k_ ≠ (.slice Ao36 t363.length co36 : Value).ownBlock ∧ some k_ ≠ (.slice Ao37 t366.length co37 : Value).ownBlock ∧ some k_ ≠ (.slice Ao42 t370.length co42 : Value).ownBlock ∧ some k_ ≠ (.slice Ao46 t375.length co46 : Value).ownBlock ∧ some k_ ≠ (.slice Ao48 t379.length co48 : Value).ownBlock) (Kd.S_keptB (HO357.out) hkp (fun k_ hk_ hs_ => (hk_.1.1.1.1.2) hs_)) (fun k_ hk_ => ⟨hk_.1.1.1.1.1.1.1.2, hk_.1.1.1.1.1.1.2, hk_.1.1.1.1.1.2, hk_.1.1.1.1.2, hk_.1.1.1.2, hk_.1.1.2, hk_.1.2⟩)); have n2_ := Aside0.mk (Kd.R_mono (ok' := fun k_ => some k_ ≠ (.slice Ao28 t352.length co28 : Value).ownBlock ∧ some k_ ≠ (.slice Ao36 t363.length co36 : Value).ownBlock ∧ some k_ ≠ (.slice Ao42 t370.length co42 : Value).ownBlock ∧ some k_ ≠ (.slice Ao46 t375.length co46 : Value).ownBlock) (Kd.R_keptB (HO361.out) hkp (fun k_ hk_ hs_ => (hk_.1.1.2) hs_)) (fun k_ hk_ => ⟨hk_.1.1.1.1.2, hk_.1.1.1.2, hk_.1.1.2, hk_.1.2⟩)); have n3_ := Aside0.mk (blk_kept (by (with_reducible repeat (first | refine blk_drewN ?_ _ | refine blk_drew ?_ | refine blk_alloc ?_ _)); exact BK362.out) hkp (fun hs_ => (fun e_ => (Kd.R_ne HO365.out BK362.out (by decide)) e_) hs_)); have n4_ := Aside0.mk (Kd.R_reok rfl hy0 (fun k_ e_ => HO365.out.1 k_ e_)); have n5_ := Aside0.mk (Kd.S_mono (ok' := fun k_ => some k_ ≠ (.slice Ao28 t352.length co28 : Value).ownBlock ∧ some k_ ≠ (.slice Ao29 t355.length co29 : Value).ownBlock ∧ some k_ ≠ (.slice Ao33 t359.length co33 : Value).ownBlock ∧ some k_ ≠ (.slice Ao36 t363.length co36 : Value).ownBlock ∧ some k_ ≠ (.slice Ao42 t370.length co42 : Value).ownBlock ∧ some k_ ≠ (.slice Ao46 t375.length co46 : Value).ownBlock ∧ some k_ ≠ (.slice Ao48 t379.length co48 : Value).ownBlock) (Kd.S_keptB (HO368.out) hkp (fun k_ hk_ hs_ => (hk_.1.1.1.2) hs_)) (fun k_ hk_ => ⟨hk_.1.1.1.1.1.1.1.2, hk_.1.1.1.1.1.1.2, hk_.1.1.1.1.1.2, hk_.1.1.1.1.2, hk_.1.1.1.2, hk_.1.1.2, hk_.1.2⟩)); have n6_ := Aside0.mk (Kd.R_mono (ok' := fun k_ => some k_ ≠ (.slice Ao28 t352.length co28 : Value).ownBlock ∧ some k_ ≠ (.slice Ao33 t359.length co33 : Value).ownBlock ∧ some k_ ≠ (.slice Ao36 t363.length co36 : Value).ownBlock ∧ some k_ ≠ (.slice Ao46 t375.length co46 : Value).ownBlock) (Kd.R_keptB (HO372.out) hkp (fun k_ hk_ hs_ => (hk_.1.2) hs_)) (fun k_ hk_ => ⟨hk_.1.1.1.1.2, hk_.1.1.1.2, hk_.1.1.2, hk_.1.2⟩)); have n7_ := Aside0.mk (blk_kept (by (with_reducible repeat (first | refine blk_drewN ?_ _ | refine blk_drew ?_ | refine blk_alloc ?_ _)); exact BK373.out) hkp (fun hs_ => (fun e_ => (Kd.R_ne HO365.out BK373.out (by decide)) e_) hs_)); have n8_ := Aside0.mk (Kd.R_mono (ok' := fun k_ => some k_ ≠ (.slice Ao28 t352.length co28 : Value).ownBlock ∧ some k_ ≠ (.slice Ao33 t359.length co33 : Value).ownBlock ∧ some k_ ≠ (.slice Ao36 t363.length co36 : Value).ownBlock ∧ some k_ ≠ (.slice Ao42 t370.length co42 : Value).ownBlock) (Kd.R_keptB (HO377.out) hkp (fun k_ hk_ hs_ => (hk_.1.2) hs_)) (fun k_ hk_ => ⟨hk_.1.1.1.1.2, hk_.1.1.1.2, hk_.1.1.2, hk_.1.2⟩)); have n9_ := Aside0.mk (Kd.S_mono (ok' := fun k_ => some k_ ≠ (.slice Ao28 t352.length co28 : Value).ownBlock ∧ some k_ ≠ (.slice Ao29 t355.length co29 : Value).ownBlock ∧ some k_ ≠ (.slice Ao33 t359.length co33 : Value).ownBlock ∧ some k_ ≠ (.slice Ao36 t363.length co36 : Value).ownBlock ∧ some k_ ≠ (.slice Ao37 t366.length co37 : Value).ownBlock ∧ some k_ ≠ (.slice Ao42 t370.length co42 : Value).ownBlock ∧ some k_ ≠ (.slice Ao46 t375.length co46 : Value).ownBlock) (Kd.S_keptB (HO381.out) hkp (fun k_ hk_ hs_ => (hk_.1.1.1.2) hs_)) (fun k_ hk_ => ⟨hk_.1.1.1.1.1.1.1.2, hk_.1.1.1.1.1.1.2, hk_.1.1.1.1.1.2, hk_.1.1.1.1.2, hk_.1.1.1.2, hk_.1.1.2, hk_.1.2⟩)); have n10_ := Aside0.mk (hb); clear HO354; clear HO357; clear HO361; clear BK362; clear HO365; clear HO368; clear HO372; clear BK373; clear HO377; clear HO381; clear HB; have HO354 := n0_; have HO357 := n1_; have HO361 := n2_; have BK362 := n3_; have HO365 := n4_; have HO368 := n5_; have HO372 := n6_; have BK373 := n7_; have HO377 := n8_; have HO381 := n9_; have HB := n10_; clear n0_ n1_ n2_ n3_ n4_ n5_ n6_ n7_ n8_ n9_ n10_; (try clear hb); (try clear hkp); (try clear hy0)) | ((with_reducible refine gate_callee (f := 19) rfl ?_); refine goesL_ (some 55) rfl rfl Try.func19 (by kernel_rfl) rfl #[.slice Ao37 t366.length co37, .int .i64 t383] rfl (by (try simp only [List.map_toArray, List.map_cons, List.map_nil]); first | done | rfl | (simp only [List.length_drop, List.length_take]; rfl)) ?_; (with_reducible refine (laws_markHunkS.calls k (fun k_ => ((some k_ ≠ (.slice Ao28 t352.length co28 : Value).ownBlock ∧ (some k_ ≠ (.slice Ao29 t355.length co29 : Value).ownBlock ∧ (some k_ ≠ (.slice Ao33 t359.length co33 : Value).ownBlock ∧ (some k_ ≠ (.slice Ao36 t363.length co36 : Value).ownBlock ∧ (some k_ ≠ (.slice Ao42 t370.length co42 : Value).ownBlock ∧ (some k_ ≠ (.slice Ao46 t375.length co46 : Value).ownBlock ∧ some k_ ≠ (.slice Ao48 t379.length co48 : Value).ownBlock)))))) ∧ k_ ≠ gb362) ∧ k_ ≠ gb373) (.slice Ao37 t366.length co37) t366 t383 t385 t386 w _ ?side1 ?side2 A23.out).mono ?_); (case side1 => repeat (first | (with_reducible first | exact HB.out | apply below_alloc | apply pw_below_drewN | apply below_drew1 | refine below_set ?_ GE362.out | refine below_set ?_ GE373.out) | exact HB.out)); (case side2 => exact Kd.S_types (Kd.S_types HO368.out (by (with_reducible repeat (first | refine blk_drewN ?_ _ | refine blk_drew ?_ | refine blk_alloc ?_ _)); exact BK362.out) (by decide)) (by (with_reducible repeat (first | refine blk_drewN ?_ _ | refine blk_drew ?_ | refine blk_alloc ?_ _)); exact BK373.out) (by decide)); rintro e w51 ⟨rfl, hy0, hb, hkp⟩; refine ⟨_, rfl, ?_⟩; have n2_ := Aside0.mk (Kd.R_reok rfl (Kd.R_keptB (Kd.R_tight rfl HO361.out) hkp (fun k_ hk_ hs_ => hs_.1.1.2.2.1 hk_)) (fun k_ e_ => HO361.out.1 k_ e_)); have n3_ := Aside0.mk (blk_kept (by (with_reducible repeat (first | refine blk_drewN ?_ _ | refine blk_drew ?_ | refine blk_alloc ?_ _)); exact BK362.out) hkp (fun hs_ => hs_.1.2 rfl)); have n6_ := Aside0.mk (Kd.R_reok rfl (Kd.R_keptB (Kd.R_tight rfl HO372.out) hkp (fun k_ hk_ hs_ => hs_.1.1.2.2.2.2.1 hk_)) (fun k_ e_ => HO372.out.1 k_ e_)); have n7_ := Aside0.mk (blk_kept (by (with_reducible repeat (first | refine blk_drewN ?_ _ | refine blk_drew ?_ | refine blk_alloc ?_ _)); exact BK373.out) hkp (fun hs_ => hs_.2 rfl)); have n10_ := Aside0.mk (hb); clear HO354; clear HO357; clear HO361; clear BK362; clear HO365; clear HO368; clear HO372; clear BK373; clear HO377; clear HO381; clear HB; have HO361 := n2_; have BK362 := n3_; have HO372 := n6_; have BK373 := n7_; have HB := n10_; clear n2_ n3_ n6_ n7_ n10_; (try clear hb); (try clear hkp); (try clear hy0)))
      (try simp only [Act.put, List.setIfInBounds_toArray, List.set_cons_zero, List.set_cons_succ])
      go_cut [63] (fun v63 wc => ∃ (kq : Nat) (x63_23 : Bool), v63 = .bool x63_23 ∧ Aside0 (laws_FnExactApplyHunks.j0 kq l0 l1 x63_23 t358 t359 t369 t370 = some r) ∧ Aside0 (kq ≤ k) ∧ Aside0 (Kd.R Kd.string 9 wc w.heap.size (fun k_ => some k_ ≠ ((.slice Ao42 t370.length co42) : Value).ownBlock) (.slice Ao33 t359.length co33) t359) ∧ Aside0 (Kd.R Kd.string 9 wc w.heap.size (fun k_ => some k_ ≠ ((.slice Ao33 t359.length co33) : Value).ownBlock) (.slice Ao42 t370.length co42) t370) ∧ Aside0 (wc.heap[gb362]? = some (.cells #[.int .i64 t358, (.slice Ao33 t359.length co33)] 37 (0, 0))) ∧ Aside0 (wc.heap[gb373]? = some (.cells #[.int .i64 t369, (.slice Ao42 t370.length co42)] 37 (0, 0))) ∧ Aside0 (Below w.heap.size w wc))
      case first =>
       have H := HC24.out
       clear HC24
       by_cases c52 : t385 < 0
       ·rw [if_pos c52] at H
        have c52b0 : decide (t385 < 0) = true := decide_eq_true c52
        clear c52
        (first | rw [c52b0] | (simp only [i64_w, i32_w]; rw [c52b0]) | skip)
        have H' := Aside0.mk H
        clear H
        go_wp2
        go_meet
        case rel => exact ⟨_, (true), (by first | rfl | (simp; done) | (simp [*]; done)), H', ⟨by first | omega | exact Nat.le_refl _⟩, ⟨by (with_reducible repeat (first | apply Kd.R_alloc | apply Kd.R_drewN | apply Kd.R_drew)); exact Kd.R_mono HO361.out (fun _ hk => hk.2.2.1)⟩, ⟨by (with_reducible repeat (first | apply Kd.R_alloc | apply Kd.R_drewN | apply Kd.R_drew)); exact Kd.R_mono HO372.out (fun _ hk => hk.2.1)⟩, ⟨by (with_reducible repeat (first | refine blk_drewN ?_ _ | refine blk_drew ?_ | refine blk_alloc ?_ _)); exact BK362.out⟩, ⟨by (with_reducible repeat (first | refine blk_drewN ?_ _ | refine blk_drew ?_ | refine blk_alloc ?_ _)); exact BK373.out⟩, ⟨by repeat (first | (with_reducible first | exact HB.out | apply below_alloc | apply pw_below_drewN | apply below_drew1 | refine below_set ?_ GE362.out | refine below_set ?_ GE373.out) | exact HB.out)⟩⟩
       ·rw [if_neg c52] at H
        have c52b0 : decide (t385 < 0) = false := decide_eq_false c52
        clear c52
        (first | rw [c52b0] | (simp only [i64_w, i32_w]; rw [c52b0]) | skip)
        replace H := Option.bind_eq_some_iff.mp H
        obtain ⟨t387, A530, H⟩ := H
        replace H : (laws_FnExactApplyHunks.j0 k l0 l1 (!t387) t358 t359 t369 t370) = some r := H
        have A53 := Aside0.mk A530
        clear A530
        have H' := Aside0.mk H
        clear H
        have hnb54 := NB373_362.out
        have hnc54 := NB362_373.out
        have hcz55_0 : w51.cell? ⟨gb373, 0, none⟩ = some (.int .i64 t369) := (blk_cell BK373.out 0).trans rfl
        have hcz55_1 : w51.cell? ⟨gb373, 1, none⟩ = some (.slice Ao42 t370.length co42) := (blk_cell BK373.out 1).trans rfl
        have hfz55_0 := blk_frozen BK373.out 0
        have hfz55_1 := blk_frozen BK373.out 1
        have hcz56_0 : w51.cell? ⟨gb362, 0, none⟩ = some (.int .i64 t358) := (blk_cell BK362.out 0).trans rfl
        have hcz56_1 : w51.cell? ⟨gb362, 1, none⟩ = some (.slice Ao33 t359.length co33) := (blk_cell BK362.out 1).trans rfl
        have hfz56_0 := blk_frozen BK362.out 0
        have hfz56_1 := blk_frozen BK362.out 1
        go_wp2_with (first | (go_at_call 26; (with_reducible refine (laws_eqLinesResult.calls k t369 _ _ t370 t358 _ _ t359 t387 _ ?side1 ?side2 ?side3 ?side4 A53.out).mono ?_); (case side1 => repeat (first | exact (Kd.R_reads' HO372.out).2.2 | (with_reducible refine Kd.C_alloc ?_ _) | (with_reducible refine Kd.C_drewN ?_ _) | (with_reducible refine Kd.C_drew ?_))); (case side2 => exact (Kd.R_reads' HO372.out).2.1); (case side3 => repeat (first | exact (Kd.R_reads' HO361.out).2.2 | (with_reducible refine Kd.C_alloc ?_ _) | (with_reducible refine Kd.C_drewN ?_ _) | (with_reducible refine Kd.C_drew ?_))); (case side4 => exact (Kd.R_reads' HO361.out).2.1); rintro e w57 ⟨rfl, hb⟩; have n2_ := Aside0.mk (Kd.R_below (by (with_reducible repeat (first | apply Kd.R_alloc | apply Kd.R_drewN | apply Kd.R_drew)); exact HO361.out) hb); have n5_ := Aside0.mk (Kd.R_below (by (with_reducible repeat (first | apply Kd.R_alloc | apply Kd.R_drewN | apply Kd.R_drew)); exact HO372.out) hb); have n8_ := Aside0.mk (blk_below (g := gb362) (o := .cells #[.int .i64 t358, .slice Ao33 t359.length co33] 37 (0, 0)) (by (with_reducible repeat (first | refine blk_drewN ?_ _ | refine blk_drew ?_ | refine blk_alloc ?_ _)); exact BK362.out) hb); have n9_ := Aside0.mk (blk_below (g := gb373) (o := .cells #[.int .i64 t369, .slice Ao42 t370.length co42] 37 (0, 0)) (by (with_reducible repeat (first | refine blk_drewN ?_ _ | refine blk_drew ?_ | refine blk_alloc ?_ _)); exact BK373.out) hb); have n10_ := Aside0.mk (below_step (by repeat (first | (with_reducible first | exact HB.out | apply below_alloc | apply pw_below_drewN | apply below_drew1 | refine below_set ?_ GE362.out | refine below_set ?_ GE373.out) | exact HB.out)) hb); clear HO361; clear HO372; clear BK362; clear BK373; clear HB; have HO361 := n2_; have HO372 := n5_; have BK362 := n8_; have BK373 := n9_; have HB := n10_; clear n2_ n5_ n8_ n9_ n10_; (try clear hb); (try clear hb2); (try clear hk); (try clear hi)))
        go_meet
        case rel => exact ⟨_, (!t387), (by first | rfl | (simp; done) | (simp [*]; done)), H', ⟨by first | omega | exact Nat.le_refl _⟩, ⟨by (with_reducible repeat (first | apply Kd.R_alloc | apply Kd.R_drewN | apply Kd.R_drew)); exact Kd.R_mono HO361.out (fun _ hk => hk.2.2.1)⟩, ⟨by (with_reducible repeat (first | apply Kd.R_alloc | apply Kd.R_drewN | apply Kd.R_drew)); exact Kd.R_mono HO372.out (fun _ hk => hk.2.1)⟩, ⟨by (with_reducible repeat (first | refine blk_drewN ?_ _ | refine blk_drew ?_ | refine blk_alloc ?_ _)); exact BK362.out⟩, ⟨by (with_reducible repeat (first | refine blk_drewN ?_ _ | refine blk_drew ?_ | refine blk_alloc ?_ _)); exact BK373.out⟩, ⟨by repeat (first | (with_reducible first | exact HB.out | apply below_alloc | apply pw_below_drewN | apply below_drew1 | refine below_set ?_ GE362.out | refine below_set ?_ GE373.out) | exact HB.out)⟩⟩
      case rest =>
       clear HC24
       try clear c1
       try clear c2
       try clear p2
       try clear c4
       try clear c4b0
       try clear c5
       try clear c6
       try clear c6b0
       try clear c13
       try clear c15
       try clear c18
       try clear c19
       try clear c21
       try clear c22
       try clear c23
       try clear c24
       try clear c25
       try clear c26
       try clear c27
       try clear c28
       try clear c40
       try clear c52
       try clear c52b0
       try clear c54
       try clear hcz32_0
       try clear hcz32_1
       try clear hcz41_0
       try clear hcz41_1
       try clear hcz43_0
       try clear hcz43_1
       try clear hcz55_0
       try clear hcz55_1
       try clear hcz56_0
       try clear hcz56_1
       try clear hfz32_0
       try clear hfz32_1
       try clear hfz41_0
       try clear hfz41_1
       try clear hfz43_0
       try clear hfz43_1
       try clear hfz55_0
       try clear hfz55_1
       try clear hfz56_0
       try clear hfz56_1
       obtain ⟨kq, x63_23, rfl, HA, HJ23, HO_363001, HO_374001, BK362, BK373, HB⟩ := hcut
       cases kq with
       | zero => exact absurd HA.out (by simp [laws_FnExactApplyHunks.j0])
       | succ kj23 =>
        have H := HA.out
        clear HA
        simp only [laws_FnExactApplyHunks.j0] at H
        by_cases c58 : x63_23 = true
        ·subst c58
         have H1 : (some false) = some r := by rw [if_pos rfl] at H; exact H
         clear H
         have H := H1
         clear H1
         exact absurd ((Option.some.inj H).trans HLAW.out) (by decide)
        ·replace c58 := Bool.eq_false_iff.mpr c58
         subst c58
         have H1 : ((laws_markLinesResult.f kj23 t369 t370 1).bind fun bt388 => ((laws_heldLinesResult.f kj23 t369 bt388.2 1).bind fun t390 => (if t390 < 0 then (some false) else (if t390 = bt388.1 then ((laws_toStringS.f kj23 l0).bind fun t391 => ((laws_toHunkS.f kj23 l1).bind fun t394 => ((impl_ApplyHunks.f kj23 t391 t394).bind fun bt397 => ((laws_eqLinesResult.f kj23 bt397.1 bt397.2 t358 t359).bind fun t402 => (if t402 = true then ((laws_heldLinesResult.f kj23 t369 bt388.2 1).bind fun t403 => (if t403 < 0 then (some false) else (if t403 = bt388.1 then (some true) else (some false)))) else (some false)))))) else (some false))))) = some r := by rw [if_neg (show ¬ (false = true) by decide)] at H; exact H
         clear H
         have H := H1
         clear H1
         replace H := Option.bind_eq_some_iff.mp H
         obtain ⟨⟨t388, t389⟩, A590, H⟩ := H
         replace H : ((laws_heldLinesResult.f kj23 t369 t389 1).bind fun t390 => (if t390 < 0 then (some false) else (if t390 = t388 then ((laws_toStringS.f kj23 l0).bind fun t391 => ((laws_toHunkS.f kj23 l1).bind fun t394 => ((impl_ApplyHunks.f kj23 t391 t394).bind fun bt397 => ((laws_eqLinesResult.f kj23 bt397.1 bt397.2 t358 t359).bind fun t402 => (if t402 = true then ((laws_heldLinesResult.f kj23 t369 t389 1).bind fun t403 => (if t403 < 0 then (some false) else (if t403 = t388 then (some true) else (some false)))) else (some false)))))) else (some false)))) = some r := H
         have A59 := Aside0.mk A590
         clear A590
         replace H := Option.bind_eq_some_iff.mp H
         obtain ⟨t390, A600, H⟩ := H
         replace H : (if t390 < 0 then (some false) else (if t390 = t388 then ((laws_toStringS.f kj23 l0).bind fun t391 => ((laws_toHunkS.f kj23 l1).bind fun t394 => ((impl_ApplyHunks.f kj23 t391 t394).bind fun bt397 => ((laws_eqLinesResult.f kj23 bt397.1 bt397.2 t358 t359).bind fun t402 => (if t402 = true then ((laws_heldLinesResult.f kj23 t369 t389 1).bind fun t403 => (if t403 < 0 then (some false) else (if t403 = t388 then (some true) else (some false)))) else (some false)))))) else (some false))) = some r := H
         have A60 := Aside0.mk A600
         clear A600
         by_cases c61 : t390 < 0
         ·rw [if_pos c61] at H
          have c61b0 : decide (t390 < 0) = true := decide_eq_true c61
          clear c61
          exact absurd ((Option.some.inj H).trans HLAW.out) (by decide)
         ·rw [if_neg c61] at H
          have c61b0 : decide (t390 < 0) = false := decide_eq_false c61
          clear c61
          by_cases c62 : t390 = t388
          ·rw [if_pos c62] at H
           have c62b0 : (t390 == t388) = true := beq_iff_eq.mpr c62
           have c62b1 : (t390 != t388) = false := bne_eq_false_iff_eq.mpr c62
           clear c62
           replace H := Option.bind_eq_some_iff.mp H
           obtain ⟨t391, A630, H⟩ := H
           replace H : ((laws_toHunkS.f kj23 l1).bind fun t394 => ((impl_ApplyHunks.f kj23 t391 t394).bind fun bt397 => ((laws_eqLinesResult.f kj23 bt397.1 bt397.2 t358 t359).bind fun t402 => (if t402 = true then ((laws_heldLinesResult.f kj23 t369 t389 1).bind fun t403 => (if t403 < 0 then (some false) else (if t403 = t388 then (some true) else (some false)))) else (some false))))) = some r := H
           have A63 := Aside0.mk A630
           clear A630
           replace H := Option.bind_eq_some_iff.mp H
           obtain ⟨t394, A640, H⟩ := H
           replace H : ((impl_ApplyHunks.f kj23 t391 t394).bind fun bt397 => ((laws_eqLinesResult.f kj23 bt397.1 bt397.2 t358 t359).bind fun t402 => (if t402 = true then ((laws_heldLinesResult.f kj23 t369 t389 1).bind fun t403 => (if t403 < 0 then (some false) else (if t403 = t388 then (some true) else (some false)))) else (some false)))) = some r := H
           have A64 := Aside0.mk A640
           clear A640
           replace H := Option.bind_eq_some_iff.mp H
           obtain ⟨⟨t397, t398⟩, A650, H⟩ := H
           replace H : ((laws_eqLinesResult.f kj23 t397 t398 t358 t359).bind fun t402 => (if t402 = true then ((laws_heldLinesResult.f kj23 t369 t389 1).bind fun t403 => (if t403 < 0 then (some false) else (if t403 = t388 then (some true) else (some false)))) else (some false))) = some r := H
           have A65 := Aside0.mk A650
           clear A650
           replace H := Option.bind_eq_some_iff.mp H
           obtain ⟨t402, A660, H⟩ := H
           replace H : (if t402 = true then ((laws_heldLinesResult.f kj23 t369 t389 1).bind fun t403 => (if t403 < 0 then (some false) else (if t403 = t388 then (some true) else (some false)))) else (some false)) = some r := H
           have A66 := Aside0.mk A660
           clear A660
           by_cases c67 : t402 = true
           ·subst c67
            have H1 : ((laws_heldLinesResult.f kj23 t369 t389 1).bind fun t403 => (if t403 < 0 then (some false) else (if t403 = t388 then (some true) else (some false)))) = some r := by rw [if_pos rfl] at H; exact H
            clear H
            have H := H1
            clear H1
            replace H := Option.bind_eq_some_iff.mp H
            obtain ⟨t403, A680, H⟩ := H
            replace H : (if t403 < 0 then (some false) else (if t403 = t388 then (some true) else (some false))) = some r := H
            have A68 := Aside0.mk A680
            clear A680
            by_cases c69 : t403 < 0
            ·rw [if_pos c69] at H
             have c69b0 : decide (t403 < 0) = true := decide_eq_true c69
             clear c69
             exact absurd ((Option.some.inj H).trans HLAW.out) (by decide)
            ·rw [if_neg c69] at H
             have c69b0 : decide (t403 < 0) = false := decide_eq_false c69
             clear c69
             by_cases c70 : t403 = t388
             ·rw [if_pos c70] at H
              have c70b0 : (t403 == t388) = true := beq_iff_eq.mpr c70
              have c70b1 : (t403 != t388) = false := bne_eq_false_iff_eq.mpr c70
              clear c70
              obtain rfl := Option.some.inj H
              have hnb71 := NB373_362.out
              have hnc71 := NB362_373.out
              have hcz72_0 : wc.cell? ⟨gb373, 0, none⟩ = some (.int .i64 t369) := (blk_cell BK373.out 0).trans rfl
              have hcz72_1 : wc.cell? ⟨gb373, 1, none⟩ = some (.slice Ao42 t370.length co42) := (blk_cell BK373.out 1).trans rfl
              have hfz72_0 := blk_frozen BK373.out 0
              have hfz72_1 := blk_frozen BK373.out 1
              go_wp2_with (first | ((with_reducible refine gate_callee (f := 29) rfl ?_); refine goesL_ (some 66) rfl rfl Try.func29 (by kernel_rfl) rfl #[.agg #[.int .i64 t369, .slice Ao42 t370.length co42], .int .i64 1] rfl (by (try simp only [List.map_toArray, List.map_cons, List.map_nil]); first | done | rfl | (simp only [List.length_drop, List.length_take]; rfl)) ?_; (with_reducible refine (laws_markLinesResult.calls kj23 t369 (fun k_ => some k_ = (.slice Ao42 t370.length co42 : Value).ownBlock) (.slice Ao42 t370.length co42) t370 1 t388 t389 w _ ?side1 ?side2 A59.out).mono ?_); (case side1 => repeat (first | (with_reducible first | exact HB.out | apply below_alloc | apply pw_below_drewN | apply below_drew1 | refine below_set ?_ GE362.out | refine below_set ?_ GE373.out) | exact HB.out)); (case side2 => exact Kd.R_tight rfl HO_374001.out); rintro e w73 ⟨rfl, hy0, hb, hkp⟩; refine ⟨_, rfl, ?_⟩; have n0_ := Aside0.mk (Kd.R_mono (ok' := fun k_ => some k_ ≠ (.slice Ao42 t370.length co42 : Value).ownBlock) (Kd.R_keptB (HO_363001.out) hkp (fun k_ hk_ hs_ => (hk_) hs_)) (fun k_ hk_ => hk_.1)); have n1_ := Aside0.mk (Kd.R_reok rfl hy0 (fun k_ e_ => HO_374001.out.1 k_ e_)); have n2_ := Aside0.mk (blk_kept (by (with_reducible repeat (first | refine blk_drewN ?_ _ | refine blk_drew ?_ | refine blk_alloc ?_ _)); exact BK362.out) hkp (fun hs_ => (fun e_ => (Kd.R_ne HO_374001.out BK362.out (by decide)) e_) hs_)); have n3_ := Aside0.mk (blk_kept (by (with_reducible repeat (first | refine blk_drewN ?_ _ | refine blk_drew ?_ | refine blk_alloc ?_ _)); exact BK373.out) hkp (fun hs_ => (fun e_ => (Kd.R_ne HO_374001.out BK373.out (by decide)) e_) hs_)); have n4_ := Aside0.mk (hb); clear HO_363001; clear HO_374001; clear BK362; clear BK373; clear HB; have HO_363001 := n0_; have HO_374001 := n1_; have BK362 := n2_; have BK373 := n3_; have HB := n4_; clear n0_ n1_ n2_ n3_ n4_; (try clear hb); (try clear hkp); (try clear hy0); have hcz74_0 : w73.cell? ⟨gb373, 0, none⟩ = some (.int .i64 t369) := (blk_cell BK373.out 0).trans rfl; have hcz74_1 : w73.cell? ⟨gb373, 1, none⟩ = some (.slice Ao42 t370.length co42) := (blk_cell BK373.out 1).trans rfl; have hfz74_0 := blk_frozen BK373.out 0; have hfz74_1 := blk_frozen BK373.out 1) | ((with_reducible refine gate_callee (f := 30) rfl ?_); refine goesL_ (some 69) rfl rfl Try.func30 (by kernel_rfl) rfl #[.agg #[.int .i64 t369, .slice Ao42 t389.length co42], .int .i64 1] rfl (by (try simp only [List.map_toArray, List.map_cons, List.map_nil]); first | done | (rw [show t389.length = t370.length from (Kd.R_reads' HO_374001.out).1.symm] <;> rfl) | rfl | (simp only [List.length_drop, List.length_take]; rfl)) ?_; (with_reducible refine (laws_heldLinesResult.calls kj23 t369 _ _ t389 1 t390 _ ?side1 ?side2 A60.out).mono ?_); (case side1 => repeat (first | exact (Kd.R_reads' HO_374001.out).2.2 | (with_reducible refine Kd.C_alloc ?_ _) | (with_reducible refine Kd.C_drewN ?_ _) | (with_reducible refine Kd.C_drew ?_))); (case side2 => rw [show t389.length = t370.length from (Kd.R_reads' HO_374001.out).1.symm]; exact (Kd.R_reads' HO_374001.out).2.1); rintro e w75 ⟨rfl, hb⟩; refine ⟨_, rfl, ?_⟩; have n0_ := Aside0.mk (Kd.R_below (by (with_reducible repeat (first | apply Kd.R_alloc | apply Kd.R_drewN | apply Kd.R_drew)); exact HO_363001.out) hb); have n1_ := Aside0.mk (Kd.R_below (by (with_reducible repeat (first | apply Kd.R_alloc | apply Kd.R_drewN | apply Kd.R_drew)); exact HO_374001.out) hb); have n2_ := Aside0.mk (blk_below (g := gb362) (o := .cells #[.int .i64 t358, .slice Ao33 t359.length co33] 37 (0, 0)) (by (with_reducible repeat (first | refine blk_drewN ?_ _ | refine blk_drew ?_ | refine blk_alloc ?_ _)); exact BK362.out) hb); have n3_ := Aside0.mk (blk_below (g := gb373) (o := .cells #[.int .i64 t369, .slice Ao42 t370.length co42] 37 (0, 0)) (by (with_reducible repeat (first | refine blk_drewN ?_ _ | refine blk_drew ?_ | refine blk_alloc ?_ _)); exact BK373.out) hb); have n4_ := Aside0.mk (below_step (by repeat (first | (with_reducible first | exact HB.out | apply below_alloc | apply pw_below_drewN | apply below_drew1 | refine below_set ?_ GE362.out | refine below_set ?_ GE373.out) | exact HB.out)) hb); clear HO_363001; clear HO_374001; clear BK362; clear BK373; clear HB; have HO_363001 := n0_; have HO_374001 := n1_; have BK362 := n2_; have BK373 := n3_; have HB := n4_; clear n0_ n1_ n2_ n3_ n4_; (try clear hb); (try clear hb2); (try clear hk); (try clear hi)) | ((with_reducible refine gate_callee (f := 24) rfl ?_); refine goesL_ (some 76) rfl rfl Try.func24 (by kernel_rfl) rfl #[.slice A0 l0.length c0] rfl (by (try simp only [List.map_toArray, List.map_cons, List.map_nil]); first | done | rfl | (simp only [List.length_drop, List.length_take]; rfl)) ?_; (with_reducible refine (laws_toStringS.calls kj23 _ _ l0 t391 _ ?side1 ?side2 A63.out).mono ?_); (case side1 => repeat (first | exact (Kd.C_below HR0.out HB.out) | (with_reducible refine Kd.C_alloc ?_ _) | (with_reducible refine Kd.C_drewN ?_ _) | (with_reducible refine Kd.C_drew ?_))); (case side2 => exact HC0.out); rintro e w76 ⟨v392, rfl, ho0, hb⟩; refine ⟨_, rfl, ?_⟩; have n0_ := Aside0.mk (Kd.R_elder' (by (with_reducible repeat (first | apply Kd.R_alloc | apply Kd.R_drewN | apply Kd.R_drew)); exact HO_363001.out) (Kd.R_base ho0) hb); have n1_ := Aside0.mk (Kd.R_elder' (by (with_reducible repeat (first | apply Kd.R_alloc | apply Kd.R_drewN | apply Kd.R_drew)); exact HO_374001.out) (Kd.R_base ho0) hb); have n2_ := Aside0.mk (Kd.R_lower (Kd.R_new' (Kd.R_new' ho0 (Kd.R_lt (by (with_reducible repeat (first | apply Kd.R_alloc | apply Kd.R_drewN | apply Kd.R_drew)); exact HO_363001.out))) (Kd.R_lt (by (with_reducible repeat (first | apply Kd.R_alloc | apply Kd.R_drewN | apply Kd.R_drew)); exact HO_374001.out))) (below_size (by repeat (first | (with_reducible first | exact HB.out | apply below_alloc | apply pw_below_drewN | apply below_drew1 | refine below_set ?_ GE362.out | refine below_set ?_ GE373.out) | exact HB.out)))); have n3_ := Aside0.mk (blk_below (g := gb362) (o := .cells #[.int .i64 t358, .slice Ao33 t359.length co33] 37 (0, 0)) (by (with_reducible repeat (first | refine blk_drewN ?_ _ | refine blk_drew ?_ | refine blk_alloc ?_ _)); exact BK362.out) hb); have n4_ := Aside0.mk (blk_below (g := gb373) (o := .cells #[.int .i64 t369, .slice Ao42 t370.length co42] 37 (0, 0)) (by (with_reducible repeat (first | refine blk_drewN ?_ _ | refine blk_drew ?_ | refine blk_alloc ?_ _)); exact BK373.out) hb); have n5_ := Aside0.mk (below_step (by repeat (first | (with_reducible first | exact HB.out | apply below_alloc | apply pw_below_drewN | apply below_drew1 | refine below_set ?_ GE362.out | refine below_set ?_ GE373.out) | exact HB.out)) hb); clear HO_363001; clear HO_374001; clear BK362; clear BK373; clear HB; have HO_363001 := n0_; have HO_374001 := n1_; have HO393 := n2_; have BK362 := n3_; have BK373 := n4_; have HB := n5_; clear n0_ n1_ n2_ n3_ n4_ n5_; (try clear hb); (try clear hb2); (try clear hk); (try clear hi); (try clear ho0)) | ((with_reducible refine gate_callee (f := 15) rfl ?_); refine goesL_ (some 78) rfl rfl Try.func15 (by kernel_rfl) rfl #[.slice A1 l1.length c1] rfl (by (try simp only [List.map_toArray, List.map_cons, List.map_nil]); first | done | rfl | (simp only [List.length_drop, List.length_take]; rfl)) ?_; (with_reducible refine (laws_toHunkS.calls kj23 _ _ l1 t394 _ ?side1 ?side2 A64.out).mono ?_); (case side1 => repeat (first | exact (Kd.C_below HR1.out HB.out) | (with_reducible refine Kd.C_alloc ?_ _) | (with_reducible refine Kd.C_drewN ?_ _) | (with_reducible refine Kd.C_drew ?_))); (case side2 => exact HC1.out); rintro e w77 ⟨v395, rfl, ho0, hb⟩; refine ⟨_, rfl, ?_⟩; have n0_ := Aside0.mk (Kd.R_below (by (with_reducible repeat (first | apply Kd.R_alloc | apply Kd.R_drewN | apply Kd.R_drew)); exact HO_363001.out) hb); have n1_ := Aside0.mk (Kd.R_below (by (with_reducible repeat (first | apply Kd.R_alloc | apply Kd.R_drewN | apply Kd.R_drew)); exact HO_374001.out) hb); have n2_ := Aside0.mk (Kd.R_below (by (with_reducible repeat (first | apply Kd.R_alloc | apply Kd.R_drewN | apply Kd.R_drew)); exact HO393.out) hb); have n3_ := Aside0.mk (Kd.S_lower (Kd.S_new' (Kd.S_new' (Kd.S_new' ho0 (Kd.R_lt (by (with_reducible repeat (first | apply Kd.R_alloc | apply Kd.R_drewN | apply Kd.R_drew)); exact HO_363001.out))) (Kd.R_lt (by (with_reducible repeat (first | apply Kd.R_alloc | apply Kd.R_drewN | apply Kd.R_drew)); exact HO_374001.out))) (Kd.R_lt (by (with_reducible repeat (first | apply Kd.R_alloc | apply Kd.R_drewN | apply Kd.R_drew)); exact HO393.out))) (below_size (by repeat (first | (with_reducible first | exact HB.out | apply below_alloc | apply pw_below_drewN | apply below_drew1 | refine below_set ?_ GE362.out | refine below_set ?_ GE373.out) | exact HB.out)))); have n4_ := Aside0.mk (blk_below (g := gb362) (o := .cells #[.int .i64 t358, .slice Ao33 t359.length co33] 37 (0, 0)) (by (with_reducible repeat (first | refine blk_drewN ?_ _ | refine blk_drew ?_ | refine blk_alloc ?_ _)); exact BK362.out) hb); have n5_ := Aside0.mk (blk_below (g := gb373) (o := .cells #[.int .i64 t369, .slice Ao42 t370.length co42] 37 (0, 0)) (by (with_reducible repeat (first | refine blk_drewN ?_ _ | refine blk_drew ?_ | refine blk_alloc ?_ _)); exact BK373.out) hb); have n6_ := Aside0.mk (below_step (by repeat (first | (with_reducible first | exact HB.out | apply below_alloc | apply pw_below_drewN | apply below_drew1 | refine below_set ?_ GE362.out | refine below_set ?_ GE373.out) | exact HB.out)) hb); clear HO_363001; clear HO_374001; clear HO393; clear BK362; clear BK373; clear HB; have HO_363001 := n0_; have HO_374001 := n1_; have HO393 := n2_; have HO396 := n3_; have BK362 := n4_; have BK373 := n5_; have HB := n6_; clear n0_ n1_ n2_ n3_ n4_ n5_ n6_; (try clear hb); (try clear hb2); (try clear hk); (try clear hi); (try clear ho0); obtain ⟨Ao78, co78, eo78⟩ := Kd.R_slice HO393.out; subst eo78; obtain ⟨Ao79, co79, eo79⟩ := Kd.S_slice HO396.out; subst eo79) | ((with_reducible refine gate_callee (f := 25) rfl ?_); refine goesL_ (some 79) rfl rfl Try.func25 (by kernel_rfl) rfl #[.slice Ao78 t391.length co78, .slice Ao79 t394.length co79] rfl (by (try simp only [List.map_toArray, List.map_cons, List.map_nil]); first | done | rfl | (simp only [List.length_drop, List.length_take]; rfl)) ?_; (with_reducible refine (impl_ApplyHunks.calls kj23 _ _ t391 _ _ t394 t397 t398 _ ?side1 ?side2 ?side3 ?side4 A65.out).mono ?_); (case side1 => repeat (first | exact (Kd.R_reads' HO393.out).2.2 | (with_reducible refine Kd.C_alloc ?_ _) | (with_reducible refine Kd.C_drewN ?_ _) | (with_reducible refine Kd.C_drew ?_))); (case side2 => exact (Kd.R_reads' HO393.out).2.1); (case side3 => repeat (first | exact (Kd.S_reads' HO396.out).2.2 | (with_reducible refine Kd.C_alloc ?_ _) | (with_reducible refine Kd.C_drewN ?_ _) | (with_reducible refine Kd.C_drew ?_))); (case side4 => exact (Kd.S_reads' HO396.out).2.1); rintro e w80 ⟨v399, rfl, ho0, hb⟩; refine ⟨_, rfl, ?_⟩; have n0_ := Aside0.mk (Kd.R_elder' (by (with_reducible repeat (first | apply Kd.R_alloc | apply Kd.R_drewN | apply Kd.R_drew)); exact HO_363001.out) (Kd.R_base ho0) hb); have n1_ := Aside0.mk (Kd.R_elder' (by (with_reducible repeat (first | apply Kd.R_alloc | apply Kd.R_drewN | apply Kd.R_drew)); exact HO_374001.out) (Kd.R_base ho0) hb); have n2_ := Aside0.mk (Kd.R_elder' (by (with_reducible repeat (first | apply Kd.R_alloc | apply Kd.R_drewN | apply Kd.R_drew)); exact HO393.out) (Kd.R_base ho0) hb); have n3_ := Aside0.mk (Kd.S_elder' (by (with_reducible repeat (first | apply Kd.S_alloc | apply Kd.S_drewN | apply Kd.S_drew)); exact HO396.out) (Kd.R_base ho0) hb); have n4_ := Aside0.mk (Kd.R_lower (Kd.R_new' (Kd.R_new' (Kd.R_new' ho0 (Kd.R_lt (by (with_reducible repeat (first | apply Kd.R_alloc | apply Kd.R_drewN | apply Kd.R_drew)); exact HO_363001.out))) (Kd.R_lt (by (with_reducible repeat (first | apply Kd.R_alloc | apply Kd.R_drewN | apply Kd.R_drew)); exact HO_374001.out))) (Kd.R_lt (by (with_reducible repeat (first | apply Kd.R_alloc | apply Kd.R_drewN | apply Kd.R_drew)); exact HO393.out))) (below_size (by repeat (first | (with_reducible first | exact HB.out | apply below_alloc | apply pw_below_drewN | apply below_drew1 | refine below_set ?_ GE362.out | refine below_set ?_ GE373.out) | exact HB.out)))); have n5_ := Aside0.mk (blk_below (g := gb362) (o := .cells #[.int .i64 t358, .slice Ao33 t359.length co33] 37 (0, 0)) (by (with_reducible repeat (first | refine blk_drewN ?_ _ | refine blk_drew ?_ | refine blk_alloc ?_ _)); exact BK362.out) hb); have n6_ := Aside0.mk (blk_below (g := gb373) (o := .cells #[.int .i64 t369, .slice Ao42 t370.length co42] 37 (0, 0)) (by (with_reducible repeat (first | refine blk_drewN ?_ _ | refine blk_drew ?_ | refine blk_alloc ?_ _)); exact BK373.out) hb); have n7_ := Aside0.mk (below_step (by repeat (first | (with_reducible first | exact HB.out | apply below_alloc | apply pw_below_drewN | apply below_drew1 | refine below_set ?_ GE362.out | refine below_set ?_ GE373.out) | exact HB.out)) hb); clear HO_363001; clear HO_374001; clear HO393; clear HO396; clear BK362; clear BK373; clear HB; have HO_363001 := n0_; have HO_374001 := n1_; have HO393 := n2_; have HO396 := n3_; have HO400 := n4_; have BK362 := n5_; have BK373 := n6_; have HB := n7_; clear n0_ n1_ n2_ n3_ n4_ n5_ n6_ n7_; (try clear hb); (try clear hb2); (try clear hk); (try clear hi); (try clear ho0)) | ((with_reducible refine gate_dst (N := 13) rfl ?_); refine box_event ?hg (N := 13) ?hd (cs := #[.int .i64 0, .slice none 0 0]) (t := 37) ?hr ?_; (case hd => rfl); (case hg => rfl); (case hr => first | (go_simp; done) | (go_simp; rfl)); intro gb401 hg w81 hbox hb; have n0_ := Aside0.mk (Kd.R_below (by (with_reducible repeat (first | apply Kd.R_alloc | apply Kd.R_drewN | apply Kd.R_drew)); exact HO_363001.out) hb); have n1_ := Aside0.mk (Kd.R_below (by (with_reducible repeat (first | apply Kd.R_alloc | apply Kd.R_drewN | apply Kd.R_drew)); exact HO_374001.out) hb); have n2_ := Aside0.mk (Kd.R_below (by (with_reducible repeat (first | apply Kd.R_alloc | apply Kd.R_drewN | apply Kd.R_drew)); exact HO393.out) hb); have n3_ := Aside0.mk (Kd.S_below (by (with_reducible repeat (first | apply Kd.S_alloc | apply Kd.S_drewN | apply Kd.S_drew)); exact HO396.out) hb); have n4_ := Aside0.mk (Kd.R_below (by (with_reducible repeat (first | apply Kd.R_alloc | apply Kd.R_drewN | apply Kd.R_drew)); exact HO400.out) hb); have n5_ := Aside0.mk (blk_below (g := gb362) (o := .cells #[.int .i64 t358, .slice Ao33 t359.length co33] 37 (0, 0)) (by (with_reducible repeat (first | refine blk_drewN ?_ _ | refine blk_drew ?_ | refine blk_alloc ?_ _)); exact BK362.out) hb); have n6_ := Aside0.mk (blk_below (g := gb373) (o := .cells #[.int .i64 t369, .slice Ao42 t370.length co42] 37 (0, 0)) (by (with_reducible repeat (first | refine blk_drewN ?_ _ | refine blk_drew ?_ | refine blk_alloc ?_ _)); exact BK373.out) hb); have n7_ := Aside0.mk (below_step (by repeat (first | (with_reducible first | exact HB.out | apply below_alloc | apply pw_below_drewN | apply below_drew1 | refine below_set ?_ GE362.out | refine below_set ?_ GE373.out) | exact HB.out)) hb); have n8_ := Aside0.mk (hbox); have n9_ := Aside0.mk ((by rw [hg]; exact (below_size (by repeat (first | (with_reducible first | exact HB.out | apply below_alloc | apply pw_below_drewN | apply below_drew1 | refine below_set ?_ GE362.out | refine below_set ?_ GE373.out) | exact HB.out))) : w.heap.size ≤ gb401)); have n10_ := Aside0.mk ((by rw [hg]; exact (below_size (by repeat (first | (with_reducible first | exact HB.out | apply below_alloc | apply pw_below_drewN | apply below_drew1 | refine below_set ?_ GE362.out | refine below_set ?_ GE373.out) | exact HB.out))) : w.heap.size ≤ gb401)); have n11_ := Aside0.mk ((by rw [hg]; exact Nat.ne_of_lt (blk_lt (g := gb362) (o := .cells #[.int .i64 t358, .slice Ao33 t359.length co33] 37 (0, 0)) (by (with_reducible repeat (first | refine blk_drewN ?_ _ | refine blk_drew ?_ | refine blk_alloc ?_ _)); exact BK362.out)) : gb362 ≠ gb401)); have n12_ := Aside0.mk ((by rw [hg]; exact Nat.ne_of_gt (blk_lt (g := gb362) (o := .cells #[.int .i64 t358, .slice Ao33 t359.length co33] 37 (0, 0)) (by (with_reducible repeat (first | refine blk_drewN ?_ _ | refine blk_drew ?_ | refine blk_alloc ?_ _)); exact BK362.out)) : gb401 ≠ gb362)); have n13_ := Aside0.mk ((by rw [hg]; exact Nat.ne_of_lt (blk_lt (g := gb373) (o := .cells #[.int .i64 t369, .slice Ao42 t370.length co42] 37 (0, 0)) (by (with_reducible repeat (first | refine blk_drewN ?_ _ | refine blk_drew ?_ | refine blk_alloc ?_ _)); exact BK373.out)) : gb373 ≠ gb401)); have n14_ := Aside0.mk ((by rw [hg]; exact Nat.ne_of_gt (blk_lt (g := gb373) (o := .cells #[.int .i64 t369, .slice Ao42 t370.length co42] 37 (0, 0)) (by (with_reducible repeat (first | refine blk_drewN ?_ _ | refine blk_drew ?_ | refine blk_alloc ?_ _)); exact BK373.out)) : gb401 ≠ gb373)); clear HO_363001; clear HO_374001; clear HO393; clear HO396; clear HO400; clear BK362; clear BK373; clear HB; have HO_363001 := n0_; have HO_374001 := n1_; have HO393 := n2_; have HO396 := n3_; have HO400 := n4_; have BK362 := n5_; have BK373 := n6_; have HB := n7_; have BK401 := n8_; have GW401 := n9_; have GE401 := n10_; have NB362_401 := n11_; have NB401_362 := n12_; have NB373_401 := n13_; have NB401_373 := n14_; clear n0_ n1_ n2_ n3_ n4_ n5_ n6_ n7_ n8_ n9_ n10_ n11_ n12_ n13_ n14_; clear hb hbox hg; have hnb82 := NB401_362.out; have hnc82 := NB362_401.out; have hnb83 := NB401_373.out; have hnc83 := NB373_401.out; have hcz84_0 : w81.cell? ⟨gb401, 0, none⟩ = some (.int .i64 0) := (blk_cell BK401.out 0).trans rfl; have hcz84_1 : w81.cell? ⟨gb401, 1, none⟩ = some (.slice none 0 0) := (blk_cell BK401.out 1).trans rfl; have hfz84_0 := blk_frozen BK401.out 0; have hfz84_1 := blk_frozen BK401.out 1; obtain ⟨Ao85, co85, eo85⟩ := Kd.R_slice HO400.out; subst eo85; have hcz86_0 : w81.cell? ⟨gb362, 0, none⟩ = some (.int .i64 t358) := (blk_cell BK362.out 0).trans rfl; have hcz86_1 : w81.cell? ⟨gb362, 1, none⟩ = some (.slice Ao33 t359.length co33) := (blk_cell BK362.out 1).trans rfl; have hfz86_0 := blk_frozen BK362.out 0; have hfz86_1 := blk_frozen BK362.out 1) | ((with_reducible refine gate_callee (f := 26) rfl ?_); refine goesL_ (some 82) rfl rfl Try.func26 (by kernel_rfl) rfl #[.agg #[.int .i64 t397, .slice Ao85 t398.length co85], .agg #[.int .i64 t358, .slice Ao33 t359.length co33]] rfl (by (try simp only [List.map_toArray, List.map_cons, List.map_nil]); first | done | rfl | (simp only [List.length_drop, List.length_take]; rfl)) ?_; (with_reducible refine (laws_eqLinesResult.calls kj23 t397 _ _ t398 t358 _ _ t359 true _ ?side1 ?side2 ?side3 ?side4 A66.out).mono ?_); (case side1 => refine (Kd.R_reads' (e := 9) (base := w.heap.size) (ok := fun k_ => (((True ∧ some k_ ≠ (.slice Ao33 t359.length co33 : Value).ownBlock) ∧ some k_ ≠ (.slice Ao42 t370.length co42 : Value).ownBlock) ∧ some k_ ≠ (.slice Ao78 t391.length co78 : Value).ownBlock)) (n := t398.length) (c := co85) ?_).2.2; exact (by (with_reducible repeat (first | apply Kd.R_alloc | apply Kd.R_drewN | apply Kd.R_drew)); exact (Kd.R_mono (Kd.R_far (p := ⟨gb401, 1, none⟩) (Kd.R_far (p := ⟨gb401, 0, none⟩) (Kd.R_types HO400.out BK401.out (by decide)) (fun _ hk => hk.2) (.int .i64 t397)) (fun _ hk => hk.2) (.slice Ao85 t398.length co85)) (fun _ h_ => h_.1)))); (case side2 => exact (Kd.R_reads' HO400.out).2.1); (case side3 => refine (Kd.R_reads' (e := 9) (base := w.heap.size) (ok := fun k_ => ((some k_ ≠ (.slice Ao42 t370.length co42 : Value).ownBlock ∧ some k_ ≠ (.slice Ao78 t391.length co78 : Value).ownBlock) ∧ some k_ ≠ (.slice Ao85 t398.length co85 : Value).ownBlock)) (n := t359.length) (c := co33) ?_).2.2; exact (by (with_reducible repeat (first | apply Kd.R_alloc | apply Kd.R_drewN | apply Kd.R_drew)); exact (Kd.R_mono (Kd.R_far (p := ⟨gb401, 1, none⟩) (Kd.R_far (p := ⟨gb401, 0, none⟩) (Kd.R_types HO_363001.out BK401.out (by decide)) (fun _ hk => hk.2) (.int .i64 t397)) (fun _ hk => hk.2) (.slice Ao85 t398.length co85)) (fun _ h_ => h_.1)))); (case side4 => exact (Kd.R_reads' HO_363001.out).2.1); rintro e w87 ⟨rfl, hb⟩; refine ⟨_, rfl, ?_⟩; have n0_ := Aside0.mk (Kd.R_below (by (with_reducible repeat (first | apply Kd.R_alloc | apply Kd.R_drewN | apply Kd.R_drew)); exact (Kd.R_mono (Kd.R_far (p := ⟨gb401, 1, none⟩) (Kd.R_far (p := ⟨gb401, 0, none⟩) (Kd.R_types HO_363001.out BK401.out (by decide)) (fun _ hk => hk.2) (.int .i64 t397)) (fun _ hk => hk.2) (.slice Ao85 t398.length co85)) (fun _ h_ => h_.1))) hb); have n1_ := Aside0.mk (Kd.R_below (by (with_reducible repeat (first | apply Kd.R_alloc | apply Kd.R_drewN | apply Kd.R_drew)); exact (Kd.R_mono (Kd.R_far (p := ⟨gb401, 1, none⟩) (Kd.R_far (p := ⟨gb401, 0, none⟩) (Kd.R_types HO_374001.out BK401.out (by decide)) (fun _ hk => hk.2) (.int .i64 t397)) (fun _ hk => hk.2) (.slice Ao85 t398.length co85)) (fun _ h_ => h_.1))) hb); have n2_ := Aside0.mk (Kd.R_below (by (with_reducible repeat (first | apply Kd.R_alloc | apply Kd.R_drewN | apply Kd.R_drew)); exact (Kd.R_mono (Kd.R_far (p := ⟨gb401, 1, none⟩) (Kd.R_far (p := ⟨gb401, 0, none⟩) (Kd.R_types HO393.out BK401.out (by decide)) (fun _ hk => hk.2) (.int .i64 t397)) (fun _ hk => hk.2) (.slice Ao85 t398.length co85)) (fun _ h_ => h_.1))) hb); have n3_ := Aside0.mk (Kd.S_below (by (with_reducible repeat (first | apply Kd.S_alloc | apply Kd.S_drewN | apply Kd.S_drew)); exact (Kd.S_mono (Kd.S_far (p := ⟨gb401, 1, none⟩) (Kd.S_far (p := ⟨gb401, 0, none⟩) (Kd.S_types HO396.out BK401.out (by decide)) (fun _ hk => hk.2) (.int .i64 t397)) (fun _ hk => hk.2) (.slice Ao85 t398.length co85)) (fun _ h_ => h_.1))) hb); have n4_ := Aside0.mk (Kd.R_below (by (with_reducible repeat (first | apply Kd.R_alloc | apply Kd.R_drewN | apply Kd.R_drew)); exact (Kd.R_mono (Kd.R_far (p := ⟨gb401, 1, none⟩) (Kd.R_far (p := ⟨gb401, 0, none⟩) (Kd.R_types HO400.out BK401.out (by decide)) (fun _ hk => hk.2) (.int .i64 t397)) (fun _ hk => hk.2) (.slice Ao85 t398.length co85)) (fun _ h_ => h_.1))) hb); have n5_ := Aside0.mk (blk_below (g := gb362) (o := .cells #[.int .i64 t358, .slice Ao33 t359.length co33] 37 (0, 0)) (by (with_reducible repeat (first | refine blk_drewN ?_ _ | refine blk_drew ?_ | refine blk_alloc ?_ _)); refine blk_far ?_ NB362_401.out _; (with_reducible repeat (first | refine blk_drewN ?_ _ | refine blk_drew ?_ | refine blk_alloc ?_ _)); refine blk_far ?_ NB362_401.out _; (with_reducible repeat (first | refine blk_drewN ?_ _ | refine blk_drew ?_ | refine blk_alloc ?_ _)); exact BK362.out) hb); have n6_ := Aside0.mk (blk_below (g := gb373) (o := .cells #[.int .i64 t369, .slice Ao42 t370.length co42] 37 (0, 0)) (by (with_reducible repeat (first | refine blk_drewN ?_ _ | refine blk_drew ?_ | refine blk_alloc ?_ _)); refine blk_far ?_ NB373_401.out _; (with_reducible repeat (first | refine blk_drewN ?_ _ | refine blk_drew ?_ | refine blk_alloc ?_ _)); refine blk_far ?_ NB373_401.out _; (with_reducible repeat (first | refine blk_drewN ?_ _ | refine blk_drew ?_ | refine blk_alloc ?_ _)); exact BK373.out) hb); have n7_ := Aside0.mk (blk_below (g := gb401) (o := .cells #[.int .i64 t397, .slice Ao85 t398.length co85] 37 (0, 0)) (by (with_reducible repeat (first | refine blk_drewN ?_ _ | refine blk_drew ?_ | refine blk_alloc ?_ _)); refine blk_put (cs := #[.int .i64 t397, .slice none 0 0]) ?_ 1 _ rfl; (with_reducible repeat (first | refine blk_drewN ?_ _ | refine blk_drew ?_ | refine blk_alloc ?_ _)); refine blk_put (cs := #[.int .i64 0, .slice none 0 0]) ?_ 0 _ rfl; (with_reducible repeat (first | refine blk_drewN ?_ _ | refine blk_drew ?_ | refine blk_alloc ?_ _)); exact BK401.out) hb); have n8_ := Aside0.mk (below_step (by repeat (first | (with_reducible first | exact HB.out | apply below_alloc | apply pw_below_drewN | apply below_drew1 | refine below_set ?_ GE362.out | refine below_set ?_ GE373.out | refine below_set ?_ GE401.out) | exact HB.out)) hb); clear HO_363001; clear HO_374001; clear HO393; clear HO396; clear HO400; clear BK362; clear BK373; clear BK401; clear HB; have HO_363001 := n0_; have HO_374001 := n1_; have HO393 := n2_; have HO396 := n3_; have HO400 := n4_; have BK362 := n5_; have BK373 := n6_; have BK401 := n7_; have HB := n8_; clear n0_ n1_ n2_ n3_ n4_ n5_ n6_ n7_ n8_; (try clear hb); (try clear hb2); (try clear hk); (try clear hi); have hcz88_0 : w87.cell? ⟨gb373, 0, none⟩ = some (.int .i64 t369) := (blk_cell BK373.out 0).trans rfl; have hcz88_1 : w87.cell? ⟨gb373, 1, none⟩ = some (.slice Ao42 t370.length co42) := (blk_cell BK373.out 1).trans rfl; have hfz88_0 := blk_frozen BK373.out 0; have hfz88_1 := blk_frozen BK373.out 1) | ((with_reducible refine gate_callee (f := 30) rfl ?_); refine goesL_ (some 86) rfl rfl Try.func30 (by kernel_rfl) rfl #[.agg #[.int .i64 t369, .slice Ao42 t389.length co42], .int .i64 1] rfl (by (try simp only [List.map_toArray, List.map_cons, List.map_nil]); first | done | (rw [show t389.length = t370.length from (Kd.R_reads' HO_374001.out).1.symm] <;> rfl) | rfl | (simp only [List.length_drop, List.length_take]; rfl)) ?_; (with_reducible refine (laws_heldLinesResult.calls kj23 t369 _ _ t389 1 t403 _ ?side1 ?side2 A68.out).mono ?_); (case side1 => repeat (first | exact (Kd.R_reads' HO_374001.out).2.2 | (with_reducible refine Kd.C_alloc ?_ _) | (with_reducible refine Kd.C_drewN ?_ _) | (with_reducible refine Kd.C_drew ?_))); (case side2 => rw [show t389.length = t370.length from (Kd.R_reads' HO_374001.out).1.symm]; exact (Kd.R_reads' HO_374001.out).2.1); rintro e w89 ⟨rfl, hb⟩; refine ⟨_, rfl, ?_⟩; have n0_ := Aside0.mk (Kd.R_below (by (with_reducible repeat (first | apply Kd.R_alloc | apply Kd.R_drewN | apply Kd.R_drew)); exact HO_363001.out) hb); have n1_ := Aside0.mk (Kd.R_below (by (with_reducible repeat (first | apply Kd.R_alloc | apply Kd.R_drewN | apply Kd.R_drew)); exact HO_374001.out) hb); have n2_ := Aside0.mk (Kd.R_below (by (with_reducible repeat (first | apply Kd.R_alloc | apply Kd.R_drewN | apply Kd.R_drew)); exact HO393.out) hb); have n3_ := Aside0.mk (Kd.S_below (by (with_reducible repeat (first | apply Kd.S_alloc | apply Kd.S_drewN | apply Kd.S_drew)); exact HO396.out) hb); have n4_ := Aside0.mk (Kd.R_below (by (with_reducible repeat (first | apply Kd.R_alloc | apply Kd.R_drewN | apply Kd.R_drew)); exact HO400.out) hb); have n5_ := Aside0.mk (blk_below (g := gb362) (o := .cells #[.int .i64 t358, .slice Ao33 t359.length co33] 37 (0, 0)) (by (with_reducible repeat (first | refine blk_drewN ?_ _ | refine blk_drew ?_ | refine blk_alloc ?_ _)); exact BK362.out) hb); have n6_ := Aside0.mk (blk_below (g := gb373) (o := .cells #[.int .i64 t369, .slice Ao42 t370.length co42] 37 (0, 0)) (by (with_reducible repeat (first | refine blk_drewN ?_ _ | refine blk_drew ?_ | refine blk_alloc ?_ _)); exact BK373.out) hb); have n7_ := Aside0.mk (blk_below (g := gb401) (o := .cells #[.int .i64 t397, .slice Ao85 t398.length co85] 37 (0, 0)) (by (with_reducible repeat (first | refine blk_drewN ?_ _ | refine blk_drew ?_ | refine blk_alloc ?_ _)); exact BK401.out) hb); have n8_ := Aside0.mk (below_step (by repeat (first | (with_reducible first | exact HB.out | apply below_alloc | apply pw_below_drewN | apply below_drew1 | refine below_set ?_ GE362.out | refine below_set ?_ GE373.out | refine below_set ?_ GE401.out) | exact HB.out)) hb); clear HO_363001; clear HO_374001; clear HO393; clear HO396; clear HO400; clear BK362; clear BK373; clear BK401; clear HB; have HO_363001 := n0_; have HO_374001 := n1_; have HO393 := n2_; have HO396 := n3_; have HO400 := n4_; have BK362 := n5_; have BK373 := n6_; have BK401 := n7_; have HB := n8_; clear n0_ n1_ n2_ n3_ n4_ n5_ n6_ n7_ n8_; (try clear hb); (try clear hb2); (try clear hk); (try clear hi)))
              go_ret
              exact ⟨by first | rfl | (simp [errW_none, errW_some] <;> rfl) | (simp [*, errW_none, errW_some] <;> rfl), by repeat (first | (with_reducible first | exact HB.out | apply below_alloc | apply pw_below_drewN | apply below_drew1 | refine below_set ?_ GE362.out | refine below_set ?_ GE373.out | refine below_set ?_ GE401.out) | exact HB.out)⟩
             ·rw [if_neg c70] at H
              have c70b0 : (t403 == t388) = false := beq_eq_false_iff_ne.mpr c70
              have c70b1 : (t403 != t388) = true := bne_iff_ne.mpr c70
              exact absurd ((Option.some.inj H).trans HLAW.out) (by decide)
           ·replace c67 := Bool.eq_false_iff.mpr c67
            subst c67
            have H1 : (some false) = some r := by rw [if_neg (show ¬ (false = true) by decide)] at H; exact H
            clear H
            have H := H1
            clear H1
            exact absurd ((Option.some.inj H).trans HLAW.out) (by decide)
          ·rw [if_neg c62] at H
           have c62b0 : (t390 == t388) = false := beq_eq_false_iff_ne.mpr c62
           have c62b1 : (t390 != t388) = true := bne_iff_ne.mpr c62
           exact absurd ((Option.some.inj H).trans HLAW.out) (by decide)
     ·replace c21 := Bool.eq_false_iff.mpr c21
      subst c21
      have H1 : (some false) = some r := by rw [if_neg (show ¬ (false = true) by decide)] at H; exact H
      clear H
      have H := H1
      clear H1
      exact absurd ((Option.some.inj H).trans HLAW.out) (by decide)
    ·replace c18 := Bool.eq_false_iff.mpr c18
     subst c18
     have H1 : (some false) = some r := by rw [if_neg (show ¬ (false = true) by decide)] at H; exact H
     clear H
     have H := H1
     clear H1
     exact absurd ((Option.some.inj H).trans HLAW.out) (by decide)
   ·replace c15 := Bool.eq_false_iff.mpr c15
    subst c15
    have H1 : (some false) = some r := by rw [if_neg (show ¬ (false = true) by decide)] at H; exact H
    clear H
    have H := H1
    clear H1
    exact absurd ((Option.some.inj H).trans HLAW.out) (by decide)
end Go.Proofs.Ytjngmhngedecdaa.P
end
section
set_option linter.unusedVariables false
namespace Go.Proofs.Ytjngmhngedecdaa.P
open Go.RowKit Go.Proofs.YtjngmhngedecdaaW.PrintWords Go.Proofs.YtjngmhngedecdaaW.PrintLast
namespace UFnExactApplyHunks
def G89 (x : S89) : Prop := (((Lit.int .i64 (x.f0)).wf = true) ∧ (((Lit.int .i64 (x.f1)).wf = true) ∧ ((x.f2).length ≤ 9223372036854775807 ∧ ∀ y ∈ (x.f2), y.size ≤ 9223372036854775807)))
def Pure : Prop := ∀ (l0 : List ByteArray) (l1 : List S89), (l0.length ≤ 9223372036854775807 ∧ ∀ x ∈ l0, x.size ≤ 9223372036854775807) → (l1.length ≤ 9223372036854775807 ∧ ∀ x ∈ l1, G89 x) → ∃ k, laws_FnExactApplyHunks.f k l0 l1 = some true
end UFnExactApplyHunks
end Go.Proofs.Ytjngmhngedecdaa.P
end
section
set_option linter.unusedVariables false
set_option linter.unusedSimpArgs false
namespace Go.Proofs.Ytjngmhngedecdaa.P
open Go.RowKit Go.Proofs.YtjngmhngedecdaaW.PrintWords Go.Proofs.YtjngmhngedecdaaW.PrintLast
theorem wid {x : Int} (h0 : -9223372036854775808 ≤ x) (h1 : x ≤ 9223372036854775807) : wrap64 x = x := by
  unfold wrap64
  omega
theorem wsucc {i n : Nat} (h : i < n) (hn : n ≤ 9223372036854775807) : wrap64 ((i : Int) + 1) = ((i + 1 : Nat) : Int) := by
  rw [wid (by omega) (by omega)]
  rfl
theorem Ev_if {α : Type} {c : Prop} [Decidable c] {a b : Nat → Option α} {r : α} (hp : c → Ev a r) (hn : ¬ c → Ev b r) : Ev (fun k => if c then a k else b k) r := by
  by_cases h : c
  · exact (hp h).congr (fun k => if_pos h)
  · exact (hn h).congr (fun k => if_neg h)
theorem Ev_pos {α : Type} {c : Prop} [Decidable c] {a b : Nat → Option α} {r : α} (hc : c) (h : Ev a r) : Ev (fun k => if c then a k else b k) r := h.congr (fun k => if_pos hc)
theorem Ev_neg {α : Type} {c : Prop} [Decidable c] {a b : Nat → Option α} {r : α} (hc : ¬ c) (h : Ev b r) : Ev (fun k => if c then a k else b k) r := h.congr (fun k => if_neg hc)
theorem Ev_call {α β : Type} {g : Nat → Option α} {f : Nat → α → Option β} {a : α} {r : β} (h : Ev g a) (k : Ev (fun n => f n a) r) : Ev (fun n => (g n).bind (f n)) r := Ev.bind h k
theorem Ev_const {α β : Type} {g : Option α} {f : Nat → α → Option β} {a : α} {r : β} (h : g = some a) (k : Ev (fun n => f n a) r) : Ev (fun n => g.bind (f n)) r :=
  Ev.bind (g := fun _ => g) ⟨0, fun _ _ => h⟩ k
theorem Ev_eq {α : Type} {g : Nat → Option α} {r r' : α} (h : Ev g r) (e : r = r') : Ev g r' := e ▸ h
theorem Ev_val {α : Type} {r r' : α} (h : r = r') : Ev (fun _ => some r) r' := ⟨0, fun _ _ => by rw [h]⟩
theorem rd_nat {α : Type} (d : α) {xs : List α} {i : Nat} (h : i < xs.length) : rdOf d xs (i : Int) = xs[i] := by
  unfold rdOf
  rw [Int.toNat_natCast, List.getD_eq_getElem?_getD, List.getElem?_eq_getElem h]
  rfl
theorem rdi_nat {xs : List Int} {i : Nat} (h : i < xs.length) : rd xs (i : Int) = xs[i] := by
  unfold rd
  rw [Int.toNat_natCast, List.getD_eq_getElem?_getD, List.getElem?_eq_getElem h]
  rfl
theorem bt_nat {s : ByteArray} {i : Nat} (h : i < s.data.toList.length) : bt s (i : Int) = ((s.data.toList[i]).toNat : Int) := by
  have h' : i < s.size := by simpa using h
  unfold bt
  rw [dif_pos (by rw [Int.toNat_natCast]; exact h')]
  simp [ByteArray.getElem_eq_getElem_data]
theorem data_eq {a b : ByteArray} : a.toList = b.toList ↔ a = b := by
  rw [ByteArray.toList_eq, ByteArray.toList_eq]
  constructor
  · intro h
    cases a
    cases b
    simpa using h
  · rintro rfl
    rfl
theorem toList_nil {a : ByteArray} : a.toList = ([] : List UInt8) ↔ a.data.toList = [] := by rw [ByteArray.toList_eq]
theorem size_data (a : ByteArray) : a.data.toList.length = a.size := by simp
theorem drop_at {α : Type} {xs : List α} {i : Nat} (h : i < xs.length) : xs.drop i = xs[i] :: xs.drop (i + 1) := List.drop_eq_getElem_cons h
def total : List ByteArray → Nat
  | [] => 0
  | x :: l => x.size + total l
end Go.Proofs.Ytjngmhngedecdaa.P
end
section
set_option linter.unusedVariables false
set_option linter.unusedSimpArgs false
namespace Go.Proofs.Ytjngmhngedecdaa.P
open Go.RowKit
theorem index_low (l : List UInt8) (c : UInt8) : -1 ≤ Lib.indexByte l c := by
  induction l with
  | nil => simp [Lib.indexByte]
  | cons b l ih =>
    unfold Lib.indexByte
    split
    · omega
    · split
      · omega
      · omega
theorem index_mem (l : List UInt8) (c : UInt8) : Lib.indexByte l c ≥ 0 ↔ c ∈ l := by
  induction l with
  | nil => simp [Lib.indexByte]
  | cons b l ih =>
    have hl := index_low l c
    unfold Lib.indexByte
    by_cases h : b = c
    · subst h
      simp
    · have h2 : (b == c) = false := by simpa using h
      rw [h2, List.mem_cons]
      have h3 : ¬ c = b := fun e => h e.symm
      by_cases h4 : Lib.indexByte l c = -1
      · have h5 : (Lib.indexByte l c == -1) = true := by simpa using h4
        rw [h5]
        have : ¬ c ∈ l := fun hm => by have := ih.2 hm; omega
        simp [h3, this]
      · have h5 : (Lib.indexByte l c == -1) = false := by simpa using h4
        rw [h5]
        have : c ∈ l := ih.1 (by omega)
        simp [this]
        omega
def lineEnd : List UInt8 → Nat
  | [] => 0
  | c :: l => if c = 10 then 0 else lineEnd l + 1
theorem lineEnd_le (l : List UInt8) : lineEnd l ≤ l.length := by
  induction l with
  | nil => simp [lineEnd]
  | cons c l ih =>
    unfold lineEnd
    split
    · omega
    · simp
      omega
theorem lineEnd_mem (l : List UInt8) : lineEnd l < l.length ↔ 10 ∈ l := by
  induction l with
  | nil => simp [lineEnd]
  | cons c l ih =>
    unfold lineEnd
    by_cases h : c = 10
    · subst h
      simp
    · rw [if_neg h, List.length_cons, List.mem_cons]
      have h2 : ¬ (10 : UInt8) = c := fun e => h e.symm
      simp only [h2, false_or]
      rw [← ih]
      omega
theorem lineEnd_early (l : List UInt8) : lineEnd l < l.length - 1 ↔ 10 ∈ l.dropLast := by
  induction l with
  | nil => simp [lineEnd]
  | cons c l ih =>
    cases l with
    | nil =>
      simp [lineEnd]
    | cons d l =>
      unfold lineEnd
      by_cases h : c = 10
      · subst h
        simp
      · rw [if_neg h, List.dropLast_cons_cons, List.mem_cons]
        have h2 : ¬ (10 : UInt8) = c := fun e => h e.symm
        simp only [h2, false_or]
        rw [← ih]
        simp only [List.length_cons]
        omega
theorem suffix_last (l : List UInt8) : Lib.hasSuffix l [10] = true ↔ ∃ r, l = r ++ [10] := by
  unfold Lib.hasSuffix
  rw [List.isSuffixOf_iff_suffix]
  constructor
  · rintro ⟨r, h⟩
    exact ⟨r, h.symm⟩
  · rintro ⟨r, h⟩
    exact ⟨r, h.symm⟩
theorem suffix_iff (l : List UInt8) (h : ¬ 10 ∈ l.dropLast) : Lib.hasSuffix l [10] = true ↔ 10 ∈ l := by
  rw [suffix_last]
  constructor
  · rintro ⟨r, rfl⟩
    simp
  · intro hm
    have hne : l ≠ [] := by
      rintro rfl
      simp at hm
    have e := List.dropLast_concat_getLast hne
    rw [← e] at hm
    rcases List.mem_append.1 hm with h1 | h1
    · exact absurd h1 h
    · refine ⟨l.dropLast, ?_⟩
      have h2 : (10 : UInt8) = l.getLast hne := by simpa using h1
      rw [h2]
      exact e.symm
end Go.Proofs.Ytjngmhngedecdaa.P
end
section
set_option linter.unusedVariables false
set_option linter.unusedSimpArgs false
namespace Go.Proofs.Ytjngmhngedecdaa.P
open Go.RowKit Go.Proofs.YtjngmhngedecdaaW.PrintWords Go.Proofs.YtjngmhngedecdaaW.PrintLast
theorem ended_loop (s : ByteArray) (hs : s.size ≤ 9223372036854775807) : ∀ (d i : Nat), s.size - i = d → i ≤ s.size → Ev (fun k => spec_l1Ended.l0 k s (i : Int)) (((i + lineEnd (s.data.toList.drop i) : Nat)) : Int) := by
  intro d
  induction d with
  | zero =>
    intro i hd hi
    refine Ev.step (fun k => by rw [spec_l1Ended.l0]) (Ev_neg (by omega) (Ev_val ?_))
    rw [List.drop_eq_nil_of_le (by rw [size_data]; omega)]
    simp only [lineEnd]
    omega
  | succ d ih =>
    intro i hd hi
    have hlt : i < s.data.toList.length := by rw [size_data]; omega
    refine Ev.step (fun k => by rw [spec_l1Ended.l0]) (Ev_pos (by omega) (Ev_pos (by omega) ?_))
    rw [bt_nat hlt, drop_at hlt, wsucc (n := s.size) (by omega) hs]
    refine Ev_if (fun h => Ev_val ?_) (fun h => Ev_eq (ih (i + 1) (by omega) (by omega)) ?_)
    · have : s.data.toList[i] = 10 := by
        apply UInt8.toNat_inj.1
        have h2 : s.data.toList[i].toNat = 10 := by omega
        exact h2
      rw [lineEnd, if_pos this]
      rfl
    · have : ¬ s.data.toList[i] = 10 := fun e => h (by rw [e]; rfl)
      rw [lineEnd, if_neg this]
      omega
theorem ended_tells (s : ByteArray) (hs : s.size ≤ 9223372036854775807) : Ev (fun k => spec_l1Ended.f k s) ((lineEnd s.data.toList : Nat) : Int) := by
  unfold spec_l1Ended.f
  have h := ended_loop s hs _ 0 rfl (by omega)
  rw [List.drop_zero, Nat.zero_add] at h
  exact h
def lineBad (s : List UInt8) (last : Bool) : Bool := decide (s = [] ∨ 10 ∈ s.dropLast ∨ (¬ 10 ∈ s ∧ last = false))
def linesBad : List ByteArray → Bool
  | [] => false
  | x :: r => lineBad x.data.toList (decide (r = [])) || linesBad r
theorem lb_go {x : ByteArray} {r : List ByteArray} (h : lineBad x.data.toList (decide (r = [])) = false) : (if linesBad r then (1 : Int) else 0) = if linesBad (x :: r) then 1 else 0 := by
  unfold linesBad
  rw [h, Bool.false_or]
  cases r <;> rfl
theorem lb_end {x : ByteArray} {r : List ByteArray} (h : lineBad x.data.toList (decide (r = [])) = true) : (1 : Int) = if linesBad (x :: r) then 1 else 0 := by
  unfold linesBad
  rw [h, Bool.true_or]
  rfl
def LF (xs : List ByteArray) : Int := if xs.length > 100 ∨ total xs > 2000 then 2 else if linesBad xs then 1 else 0
theorem slf_loop1 (xs : List ByteArray) (hx : ∀ x ∈ xs, x.size ≤ 9223372036854775807) (hl : xs.length ≤ 9223372036854775807) : ∀ (d i : Nat), xs.length - i = d → i ≤ xs.length →
    Ev (fun k => spec_LinesFault.l1 k xs (i : Int)) (if linesBad (xs.drop i) then 1 else 0) := by
  intro d
  induction d with
  | zero =>
    intro i hd hi
    refine Ev.step (fun k => by rw [spec_LinesFault.l1]) (Ev_neg (by omega) (Ev_val ?_))
    rw [List.drop_eq_nil_of_le (by omega)]
    rfl
  | succ d ih =>
    intro i hd hi
    have hlt : i < xs.length := by omega
    have hs := hx xs[i] (List.getElem_mem hlt)
    refine Ev.step (fun k => by rw [spec_LinesFault.l1]) (Ev_pos (by omega) (Ev_pos (by omega) ?_))
    rw [rd_nat _ hlt, drop_at hlt, wsucc hlt hl]
    refine Ev_call (ended_tells _ hs) ?_
    have hle := lineEnd_le xs[i].data.toList
    rw [size_data] at hle
    have hrest : xs.drop (i + 1) = [] ↔ i + 1 = xs.length := by
      rw [List.drop_eq_nil_iff]
      omega
    refine Ev_if (fun h => Ev_val ?_) (fun h => ?_)
    · have h2 := toList_nil.1 h
      exact lb_end (by simp [lineBad, h2])
    have hne : ¬ xs[i].data.toList = [] := fun e => h (toList_nil.2 e)
    have h0 : xs[i].data.toList.length ≠ 0 := fun e => hne (List.length_eq_zero_iff.1 e)
    rw [size_data] at h0
    rw [wid (by omega) (by omega)]
    have hearly := lineEnd_early xs[i].data.toList
    rw [size_data] at hearly
    have hmem := lineEnd_mem xs[i].data.toList
    rw [size_data] at hmem
    refine Ev_if (fun h => Ev_val ?_) (fun h => ?_)
    · have h2 : 10 ∈ xs[i].data.toList.dropLast := hearly.1 (by omega)
      exact lb_end (by simp [lineBad, h2])
    have hn2 : ¬ 10 ∈ xs[i].data.toList.dropLast := fun e => h (by have := hearly.2 e; omega)
    have go : (¬ 10 ∈ xs[i].data.toList → i + 1 = xs.length) → Ev (fun k => spec_LinesFault.l1 k xs ((i + 1 : Nat) : Int)) (if linesBad (xs[i] :: xs.drop (i + 1)) then 1 else 0) := by
      intro hg
      refine Ev_eq (ih (i + 1) (by omega) (by omega)) ?_
      have : lineBad xs[i].data.toList (decide (xs.drop (i + 1) = [])) = false := by
        unfold lineBad
        rw [decide_eq_false_iff_not]
        rintro (h1 | h1 | ⟨h1, h2⟩)
        · exact hne h1
        · exact hn2 h1
        · rw [decide_eq_false_iff_not, hrest] at h2
          exact h2 (hg h1)
      exact lb_go this
    refine Ev_if (fun h => ?_) (fun h => ?_)
    · have hno : ¬ 10 ∈ xs[i].data.toList := fun e => by have := hmem.2 e; omega
      rw [wid (by omega) (by omega)]
      refine Ev_if (fun h3 => Ev_val ?_) (fun h3 => go (fun _ => by omega))
      have : lineBad xs[i].data.toList (decide (xs.drop (i + 1) = [])) = true := by
        unfold lineBad
        rw [decide_eq_true_iff]
        refine .inr (.inr ⟨hno, ?_⟩)
        rw [decide_eq_false_iff_not, hrest]
        omega
      exact lb_end this
    · exact go (fun hno => absurd (hmem.1 (by omega)) hno)
theorem slf_loop0 (xs : List ByteArray) (hx : ∀ x ∈ xs, x.size ≤ 9223372036854775807) (hl : xs.length ≤ 9223372036854775807) (hb : total xs ≤ 9223372036854775807) : ∀ (d i n : Nat), xs.length - i = d → i ≤ xs.length → n + total (xs.drop i) = total xs →
    Ev (fun k => spec_LinesFault.l0 k xs (n : Int) (i : Int)) (LF xs) := by
  intro d
  induction d with
  | zero =>
    intro i n hd hi hn
    rw [List.drop_eq_nil_of_le (by omega)] at hn
    simp only [total, Nat.add_zero] at hn
    refine Ev.step (fun k => by rw [spec_LinesFault.l0]) (Ev_neg (by omega) ?_)
    have body : ∀ b : Bool, b = decide (xs.length > 100 ∨ total xs > 2000) → Ev (fun k => spec_LinesFault.j1 k xs b) (LF xs) := by
      intro b hb2
      refine Ev.step (fun k => by rw [spec_LinesFault.j1]) ?_
      unfold LF
      rw [hb2]
      refine Ev_if (fun h => Ev_val ?_) (fun h => ?_)
      · rw [if_pos (of_decide_eq_true h)]
      · rw [if_neg (fun e => h (decide_eq_true e))]
        have := slf_loop1 xs hx hl _ 0 rfl (by omega)
        rw [List.drop_zero] at this
        exact this
    refine Ev_if (fun h => body _ ?_) (fun h => body _ ?_)
    · symm
      rw [decide_eq_true_iff]
      exact .inl (by omega)
    · rw [decide_eq_decide]
      omega
  | succ d ih =>
    intro i n hd hi hn
    have hlt : i < xs.length := by omega
    rw [drop_at hlt] at hn
    simp only [total] at hn
    refine Ev.step (fun k => by rw [spec_LinesFault.l0]) (Ev_pos (by omega) (Ev_pos (by omega) ?_))
    rw [rd_nat _ hlt, wsucc hlt hl, wid (by omega) (by omega), show (n : Int) + (xs[i].size : Int) = ((n + xs[i].size : Nat) : Int) by omega]
    exact ih (i + 1) (n + xs[i].size) (by omega) (by omega) (by omega)
theorem slf_tells (xs : List ByteArray) (hx : ∀ x ∈ xs, x.size ≤ 9223372036854775807) (hl : xs.length ≤ 9223372036854775807) (hb : total xs ≤ 9223372036854775807) : Ev (fun k => spec_LinesFault.f k xs) (LF xs) := by
  unfold spec_LinesFault.f
  exact slf_loop0 xs hx hl hb _ 0 0 rfl (by omega) (by simp)
theorem isLine_tells (s : ByteArray) (hs : s.size ≤ 9223372036854775807) : impl_isLine.f s = some (decide (¬ (s.data.toList = [] ∨ 10 ∈ s.data.toList.dropLast))) := by
  unfold impl_isLine.f
  by_cases h : s.data.toList = []
  · rw [if_pos (toList_nil.2 h)]
    simp [h]
  · have h0 : s.data.toList.length ≠ 0 := fun e => h (List.length_eq_zero_iff.1 e)
    rw [size_data] at h0
    rw [if_neg (fun e => h (toList_nil.1 e)), wid (by omega) (by omega), if_pos (by omega), if_pos (by omega)]
    have he : (s.extract 0 ((s.size : Int) - 1).toNat).data.toList = s.data.toList.dropLast := by
      rw [← ByteArray.toList_eq, Lib.extract_toList, List.drop_zero, List.dropLast_eq_take, size_data]
      congr 1
      omega
    unfold strings_Contains.f
    simp only [Option.bind_some]
    rw [he]
    congr 1
    have hi := index_mem s.data.toList.dropLast 10
    by_cases hm : 10 ∈ s.data.toList.dropLast
    · have : (0 : Int) ≤ Lib.indexByte s.data.toList.dropLast 10 := hi.2 hm
      simp [hm, this]
    · have : ¬ (0 : Int) ≤ Lib.indexByte s.data.toList.dropLast 10 := fun e => hm (hi.1 e)
      simp only [this, hm, h]
      simp
theorem isWhole_tells (s : ByteArray) (hs : s.size ≤ 9223372036854775807) : impl_isWhole.f s = some (Lib.hasSuffix s.data.toList [10]) := by
  unfold impl_isWhole.f strings_HasSuffix.f
  rw [if_pos hs]
  rfl
theorem ilf_loop (xs : List ByteArray) (hx : ∀ x ∈ xs, x.size ≤ 9223372036854775807) (hl : xs.length ≤ 9223372036854775807) : ∀ (d i : Nat), xs.length - i = d → i ≤ xs.length →
    Ev (fun k => impl_LinesFault.l0 k xs xs (xs.length : Int) (i : Int)) (if linesBad (xs.drop i) then 1 else 0) := by
  intro d
  induction d with
  | zero =>
    intro i hd hi
    refine Ev.step (fun k => by rw [impl_LinesFault.l0]) (Ev_neg (by omega) (Ev_val ?_))
    rw [List.drop_eq_nil_of_le (by omega)]
    rfl
  | succ d ih =>
    intro i hd hi
    have hlt : i < xs.length := by omega
    have hs := hx xs[i] (List.getElem_mem hlt)
    have hrest : xs.drop (i + 1) = [] ↔ i + 1 = xs.length := by
      rw [List.drop_eq_nil_iff]
      omega
    refine Ev.step (fun k => by rw [impl_LinesFault.l0]) (Ev_pos (by omega) (Ev_pos (by omega) (Ev_pos (by omega) ?_)))
    rw [rd_nat _ hlt, drop_at hlt, wsucc hlt hl]
    refine Ev_const (isLine_tells _ hs) ?_
    refine Ev_if (fun h => ?_) (fun h => Ev_val ?_)
    · have h := of_decide_eq_true h
      have hne : ¬ xs[i].data.toList = [] := fun e => h (.inl e)
      have hn2 : ¬ 10 ∈ xs[i].data.toList.dropLast := fun e => h (.inr e)
      have go : (¬ 10 ∈ xs[i].data.toList → i + 1 = xs.length) → Ev (fun k => impl_LinesFault.l0 k xs xs (xs.length : Int) ((i + 1 : Nat) : Int)) (if linesBad (xs[i] :: xs.drop (i + 1)) then 1 else 0) := by
        intro hg
        refine Ev_eq (ih (i + 1) (by omega) (by omega)) ?_
        have : lineBad xs[i].data.toList (decide (xs.drop (i + 1) = [])) = false := by
          unfold lineBad
          rw [decide_eq_false_iff_not]
          rintro (h1 | h1 | ⟨h1, h2⟩)
          · exact hne h1
          · exact hn2 h1
          · rw [decide_eq_false_iff_not, hrest] at h2
            exact h2 (hg h1)
        exact lb_go this
      have hsuf := suffix_iff _ hn2
      refine Ev_const (isWhole_tells _ hs) (Ev_if (fun h3 => go (fun hno => absurd (hsuf.1 h3) hno)) (fun h3 => ?_))
      rw [wid (by omega) (by omega)]
      refine Ev_if (fun h4 => go (fun _ => by omega)) (fun h4 => Ev_val ?_)
      have : lineBad xs[i].data.toList (decide (xs.drop (i + 1) = [])) = true := by
        unfold lineBad
        rw [decide_eq_true_iff]
        refine .inr (.inr ⟨fun e => h3 (hsuf.2 e), ?_⟩)
        rw [decide_eq_false_iff_not, hrest]
        omega
      exact lb_end this
    · have h2 : xs[i].data.toList = [] ∨ 10 ∈ xs[i].data.toList.dropLast := Classical.byContradiction (fun e => h (decide_eq_true e))
      have : lineBad xs[i].data.toList (decide (xs.drop (i + 1) = [])) = true := by
        unfold lineBad
        rw [decide_eq_true_iff]
        rcases h2 with h2 | h2
        · exact .inl h2
        · exact .inr (.inl h2)
      exact lb_end this
theorem join_flat (xs : List ByteArray) : Lib.join (xs.map (·.data.toList)) [] = (xs.map (·.data.toList)).flatten := by
  unfold Lib.join
  induction xs with
  | nil => rfl
  | cons x l ih =>
    cases l with
    | nil => simp [List.intercalate]
    | cons y l =>
      simp only [List.map_cons, List.intercalate, List.intersperse, List.flatten_cons, List.nil_append] at ih ⊢
      rw [ih]
theorem join_all (xs : List ByteArray) : (Lib.join (xs.map (·.data.toList)) []).length = total xs := by
  rw [join_flat]
  induction xs with
  | nil => rfl
  | cons x l ih =>
    rw [List.map_cons, List.flatten_cons, List.length_append, ih, size_data]
    rfl
theorem ilf_tells (xs : List ByteArray) (hx : ∀ x ∈ xs, x.size ≤ 9223372036854775807) (hl : xs.length ≤ 140737488355328) (hb : total xs ≤ 140737488355328) : Ev (fun k => impl_LinesFault.f k xs) (LF xs) := by
  unfold impl_LinesFault.f
  have body : ∀ b : Bool, b = decide (xs.length > 100 ∨ total xs > 2000) → Ev (fun k => impl_LinesFault.j0 k xs b) (LF xs) := by
    intro b hb2
    refine Ev.step (fun k => by rw [impl_LinesFault.j0]) ?_
    unfold LF
    rw [hb2]
    refine Ev_if (fun h => Ev_val ?_) (fun h => ?_)
    · rw [if_pos (of_decide_eq_true h)]
    · rw [if_neg (fun e => h (decide_eq_true e))]
      have := ilf_loop xs hx (by omega) _ 0 rfl (by omega)
      rw [List.drop_zero] at this
      exact this
  refine Ev_if (fun h => body _ ?_) (fun h => ?_)
  · symm
    rw [decide_eq_true_iff]
    exact .inl (by omega)
  · have hj := join_all xs
    refine Ev_const (a := ⟨(Lib.join (xs.map (·.data.toList)) []).toArray⟩) ?_ (body _ ?_)
    · unfold strings_Join.f
      exact if_pos ⟨hl, by show (Lib.join _ []).length ≤ _; omega⟩
    · rw [decide_eq_decide]
      have : ((⟨(Lib.join (xs.map (·.data.toList)) []).toArray⟩ : ByteArray).size) = total xs := by
        rw [← hj]
        simp [ByteArray.size]
      rw [this]
      omega
end Go.Proofs.Ytjngmhngedecdaa.P
end
section
namespace Go.Proofs.Ytjngmhngedecdaa.P
open Go.RowKit
theorem wsucc' {i : Nat} (hn : i < 9223372036854775807) : wrap64 ((i : Int) + 1) = ((i + 1 : Nat) : Int) := by
  rw [wid (by omega) (by omega)]
  omega
end Go.Proofs.Ytjngmhngedecdaa.P
end
section
set_option linter.unusedVariables false
namespace Go.Proofs.Ytjngmhngedecdaa.P
open Go.RowKit Go.Proofs.YtjngmhngedecdaaW.PrintWords Go.Proofs.YtjngmhngedecdaaW.PrintLast
theorem in_tells (x y z : Int) : spec_l1In.f x y z = some (decide (y ≤ x ∧ x ≤ z)) := by
  unfold spec_l1In.f
  split
  · rename_i h
    have h2 : y ≤ x := by omega
    simp [h2]
  · rename_i h
    have h2 : ¬ y ≤ x := by omega
    simp [h2]
theorem within_tells (x y z : Int) : impl_within.f x y z = some (decide (y ≤ x ∧ x ≤ z)) := by
  unfold impl_within.f
  split
  · rename_i h
    have h2 : y ≤ x := by omega
    simp [h2]
  · rename_i h
    have h2 : ¬ y ≤ x := by omega
    simp [h2]
end Go.Proofs.Ytjngmhngedecdaa.P
end
section
namespace Go.Proofs.Ytjngmhngedecdaa.P
open Go.RowKit Go.Proofs.YtjngmhngedecdaaW.PrintWords Go.Proofs.YtjngmhngedecdaaW.PrintLast Go.Proofs.YtjngmhngedecdaaW.PrintMore
attribute [local go_sem] max2_int min2_int max_two min_two max_three min_three max_four min_four
end Go.Proofs.Ytjngmhngedecdaa.P
end
section
namespace Go.Proofs.Ytjngmhngedecdaa.P
open Go.RowKit Go.Proofs.YtjngmhngedecdaaW.PrintWords Go.Proofs.YtjngmhngedecdaaW.PrintLast Go.Proofs.YtjngmhngedecdaaW.PrintMore
attribute [local go_sem] max2_int min2_int max_two min_two max_three min_three max_four min_four
end Go.Proofs.Ytjngmhngedecdaa.P
end
section
namespace Go.Proofs.Ytjngmhngedecdaa.P
open Go.RowKit Go.Proofs.YtjngmhngedecdaaW.PrintWords Go.Proofs.YtjngmhngedecdaaW.PrintLast Go.Proofs.YtjngmhngedecdaaW.PrintMore
attribute [local go_sem] max2_int min2_int max_two min_two max_three min_three max_four min_four
end Go.Proofs.Ytjngmhngedecdaa.P
end
section
set_option linter.unusedVariables false
set_option linter.unusedSimpArgs false
namespace Go.Proofs.Ytjngmhngedecdaa.P
open Go.RowKit Go.Proofs.YtjngmhngedecdaaW.PrintWords Go.Proofs.YtjngmhngedecdaaW.PrintLast
theorem sz_loop (xs : List ByteArray) (hx : ∀ x ∈ xs, x.size ≤ 9223372036854775807) (hl : xs.length ≤ 9223372036854775807) : ∀ (d i : Nat) (n : Int), xs.length - i = d → i ≤ xs.length → 0 ≤ n → n ≤ 1048576 →
    ∃ r, Ev (fun k => laws_szStringS.l0 k xs n (i : Int)) r ∧ (r < 0 ∨ (0 ≤ r ∧ r ≤ n ∧ (total (xs.drop i) : Int) = n - r)) := by
  intro d
  induction d with
  | zero =>
    intro i n hd hi h0 h1
    have : i = xs.length := by omega
    subst this
    refine ⟨n, Ev.step (fun k => by rw [laws_szStringS.l0]) (Ev_neg (by omega) (Ev.now _)), .inr ⟨h0, Int.le_refl _, ?_⟩⟩
    rw [List.drop_length]
    simp [total]
  | succ d ih =>
    intro i n hd hi h0 h1
    have hlt : i < xs.length := by omega
    have hs := hx xs[i] (List.getElem_mem hlt)
    by_cases hc : n - (xs[i].size : Int) < 0
    · refine ⟨-1, Ev.step (fun k => by rw [laws_szStringS.l0]) (Ev_pos (by omega) (Ev_pos (by omega) ?_)), .inl (by omega)⟩
      rw [rd_nat _ hlt, wid (by omega) (by omega)]
      exact Ev_pos hc (Ev.now _)
    · obtain ⟨r, hr, hp⟩ := ih (i + 1) (n - (xs[i].size : Int)) (by omega) (by omega) (by omega) (by omega)
      refine ⟨r, Ev.step (fun k => by rw [laws_szStringS.l0]) (Ev_pos (by omega) (Ev_pos (by omega) ?_)), ?_⟩
      · rw [rd_nat _ hlt, wid (by omega) (by omega), wsucc hlt hl]
        exact Ev_neg hc hr
      · rcases hp with hp | ⟨h2, h3, h4⟩
        · exact .inl hp
        · refine .inr ⟨h2, by omega, ?_⟩
          rw [drop_at hlt]
          simp only [total]
          omega
theorem sz_tells (xs : List ByteArray) (hg : xs.length ≤ 9223372036854775807 ∧ ∀ x ∈ xs, x.size ≤ 9223372036854775807) (n : Int) (h0 : 0 ≤ n) (h1 : n ≤ 1048576) :
    ∃ r, Ev (fun k => laws_szStringS.f k xs n) r ∧ (r < 0 ∨ (0 ≤ r ∧ r ≤ n ∧ (xs.length : Int) + (total xs : Int) = n - r)) := by
  by_cases hc : n - (xs.length : Int) < 0
  · refine ⟨-1, ?_, .inl (by omega)⟩
    unfold laws_szStringS.f
    rw [wid (by omega) (by omega)]
    exact Ev_pos hc (Ev.now _)
  · obtain ⟨r, hr, hp⟩ := sz_loop xs hg.2 hg.1 _ 0 (n - (xs.length : Int)) rfl (by omega) (by omega) (by omega)
    refine ⟨r, ?_, ?_⟩
    · unfold laws_szStringS.f
      rw [wid (by omega) (by omega)]
      exact Ev_neg hc hr
    · rcases hp with hp | ⟨h2, h3, h4⟩
      · exact .inl hp
      · rw [List.drop_zero] at h4
        exact .inr ⟨h2, by omega, by omega⟩
theorem to_loop (xs : List ByteArray) (hl : xs.length ≤ 9223372036854775807) : ∀ (d i : Nat) (ys : List ByteArray), xs.length - i = d → i ≤ xs.length → ys.length = xs.length →
    Ev (fun k => laws_toStringS.l0 k xs ys (i : Int)) (ys.take i ++ xs.drop i) := by
  intro d
  induction d with
  | zero =>
    intro i ys hd hi hy
    have : i = xs.length := by omega
    subst this
    refine Ev.step (fun k => by rw [laws_toStringS.l0]) (Ev_neg (by omega) (Ev_val ?_))
    rw [List.drop_length, List.append_nil, ← hy, List.take_length]
  | succ d ih =>
    intro i ys hd hi hy
    have hlt : i < xs.length := by omega
    refine Ev.step (fun k => by rw [laws_toStringS.l0]) (Ev_pos (by omega) (Ev_pos (by omega) (Ev_pos (by omega) ?_)))
    rw [rd_nat _ hlt, wsucc hlt hl, Int.toNat_natCast]
    have h := ih (i + 1) (ys.set i xs[i]) (by omega) (by omega) (by rw [List.length_set]; exact hy)
    refine Ev_eq h ?_
    rw [drop_at hlt, List.take_succ_eq_append_getElem (by rw [List.length_set]; omega), List.getElem_set_self, List.take_set_of_le (by omega), List.append_assoc]
    rfl
theorem to_tells (xs : List ByteArray) (hl : xs.length ≤ 17592186044416) : Ev (fun k => laws_toStringS.f k xs) xs := by
  unfold laws_toStringS.f
  refine Ev_pos (by omega) (Ev_pos (by rw [Int.toNat_natCast]; exact hl) ?_)
  have h := to_loop xs (by omega) _ 0 (List.replicate ((xs.length : Int) : Int).toNat (⟨#[]⟩ : ByteArray)) rfl (by omega) (by simp)
  exact Ev_eq h (by simp)
theorem eq_loop (xs : List ByteArray) (hl : xs.length ≤ 9223372036854775807) : ∀ (d i : Nat), xs.length - i = d → i ≤ xs.length → Ev (fun k => laws_eqStringS.l0 k xs xs (i : Int)) true := by
  intro d
  induction d with
  | zero => intro i hd hi; exact Ev.step (fun k => by rw [laws_eqStringS.l0]) (Ev_neg (by omega) (Ev.now _))
  | succ d ih =>
    intro i hd hi
    have hlt : i < xs.length := by omega
    refine Ev.step (fun k => by rw [laws_eqStringS.l0]) (Ev_pos (by omega) (Ev_pos (by omega) (Ev_pos (by omega) (Ev_pos rfl ?_))))
    rw [wsucc hlt hl]
    exact ih (i + 1) (by omega) (by omega)
theorem eq_tells (xs : List ByteArray) (hl : xs.length ≤ 9223372036854775807) : Ev (fun k => laws_eqStringS.f k xs xs) true := by
  unfold laws_eqStringS.f
  exact Ev_pos rfl (eq_loop xs hl _ 0 rfl (by omega))
end Go.Proofs.Ytjngmhngedecdaa.P
end
section
namespace Go.Proofs.Ytjngmhngedecdaa.P
open Go.RowKit Go.Proofs.YtjngmhngedecdaaW.PrintWords Go.Proofs.YtjngmhngedecdaaW.PrintLast Go.Proofs.YtjngmhngedecdaaW.PrintMore
attribute [local go_sem] max2_int min2_int max_two min_two max_three min_three max_four min_four
end Go.Proofs.Ytjngmhngedecdaa.P
end
section
namespace Go.Proofs.Ytjngmhngedecdaa.P
open Go.RowKit Go.Proofs.YtjngmhngedecdaaW.PrintWords Go.Proofs.YtjngmhngedecdaaW.PrintLast Go.Proofs.YtjngmhngedecdaaW.PrintMore
attribute [local go_sem] max2_int min2_int max_two min_two max_three min_three max_four min_four
end Go.Proofs.Ytjngmhngedecdaa.P
end
section
set_option linter.unusedVariables false
set_option linter.unusedSimpArgs false
namespace Go.Proofs.Ytjngmhngedecdaa.P
open Go.RowKit Go.Proofs.YtjngmhngedecdaaW.PrintWords Go.Proofs.YtjngmhngedecdaaW.PrintLast
def Small (xs : List ByteArray) : Prop := (∀ x ∈ xs, x.size ≤ 9223372036854775807) ∧ xs.length ≤ 1048576 ∧ total xs ≤ 1048576
theorem Small.slf {xs : List ByteArray} (h : Small xs) : Ev (fun k => spec_LinesFault.f k xs) (LF xs) := slf_tells xs h.1 (by have := h.2.1; omega) (by have := h.2.2; omega)
theorem Small.ilf {xs : List ByteArray} (h : Small xs) : Ev (fun k => impl_LinesFault.f k xs) (LF xs) := ilf_tells xs h.1 (by have := h.2.1; omega) (by have := h.2.2; omega)
theorem LF_zero {xs : List ByteArray} (h : LF xs = 0) : xs.length ≤ 100 ∧ total xs ≤ 2000 ∧ linesBad xs = false := by
  unfold LF at h
  split at h
  · omega
  · rename_i h1
    split at h
    · omega
    · rename_i h2
      exact ⟨by omega, by omega, by simpa using h2⟩
def firstOf : List Int → Int
  | [] => 0
  | c :: l => if c = 0 then firstOf l else c
theorem first_loop (xs : List Int) (hl : xs.length ≤ 9223372036854775807) : ∀ (d i : Nat), xs.length - i = d → i ≤ xs.length → Ev (fun k => impl_firstCode.l0 k xs (xs.length : Int) (i : Int)) (firstOf (xs.drop i)) := by
  intro d
  induction d with
  | zero =>
    intro i hd hi
    refine Ev.step (fun k => by rw [impl_firstCode.l0]) (Ev_neg (by omega) (Ev_val ?_))
    rw [List.drop_eq_nil_of_le (by omega)]
    rfl
  | succ d ih =>
    intro i hd hi
    have hlt : i < xs.length := by omega
    refine Ev.step (fun k => by rw [impl_firstCode.l0]) (Ev_pos (by omega) (Ev_pos (by omega) (Ev_pos (by omega) ?_)))
    rw [rdi_nat hlt, drop_at hlt, wsucc hlt hl, firstOf]
    refine Ev_if (fun h => ?_) (fun h => ?_)
    · rw [if_pos h]
      exact ih (i + 1) (by omega) (by omega)
    · rw [if_neg h]
      exact Ev.now _
theorem first_tells (xs : List Int) (hl : xs.length ≤ 9223372036854775807) : Ev (fun k => impl_firstCode.f k xs) (firstOf xs) := by
  unfold impl_firstCode.f
  have := first_loop xs hl _ 0 rfl (by omega)
  rw [List.drop_zero] at this
  exact this
end Go.Proofs.Ytjngmhngedecdaa.P
end
section
set_option linter.unusedVariables false
set_option linter.unusedSimpArgs false
namespace Go.Proofs.Ytjngmhngedecdaa.P
open Go.RowKit Go.Proofs.YtjngmhngedecdaaW.PrintWords Go.Proofs.YtjngmhngedecdaaW.PrintLast
theorem Small.to {xs : List ByteArray} (h : Small xs) : Ev (fun k => laws_toStringS.f k xs) xs := to_tells xs (by have := h.2.1; omega)
theorem Small.eq {xs : List ByteArray} (h : Small xs) : Ev (fun k => laws_eqStringS.f k xs xs) true := eq_tells xs (by have := h.2.1; omega)
end Go.Proofs.Ytjngmhngedecdaa.P
end
section
set_option linter.unusedVariables false
namespace Go.Proofs.Ytjngmhngedecdaa.P
def GL (l : List ByteArray) : Prop := l.length ≤ 9223372036854775807 ∧ ∀ x ∈ l, x.size ≤ 9223372036854775807
def lw (l : List ByteArray) : Nat := l.length + total l
theorem lw_small {x : List ByteArray} (h : ∀ a ∈ x, a.size ≤ 9223372036854775807) (hw : lw x ≤ 1048576) : Small x := ⟨h, by unfold lw at hw; omega, by unfold lw at hw; omega⟩
end Go.Proofs.Ytjngmhngedecdaa.P
end
section
set_option linter.unusedVariables false
set_option linter.unusedSimpArgs false
namespace Go.Proofs.Ytjngmhngedecdaa.P
open Go.RowKit Go.Proofs.YtjngmhngedecdaaW.PrintWords Go.Proofs.YtjngmhngedecdaaW.PrintLast
def mk (s : ByteArray) : Int := bt s 0
def tl (s : ByteArray) : List UInt8 := s.data.toList.drop 1
def hbad (s : ByteArray) : Prop := s.size < 2 ∨ ¬ (mk s = 32 ∨ mk s = 45 ∨ mk s = 43) ∨ 10 ∈ (tl s).dropLast
instance (s : ByteArray) : Decidable (hbad s) := by unfold hbad; infer_instance
theorem tl_ext (s : ByteArray) : (s.extract 1 s.size).data.toList = tl s := by
  rw [← ByteArray.toList_eq, Lib.extract_toList]
  unfold tl
  rw [List.take_of_length_le (by rw [List.length_drop, size_data]; omega)]
theorem tl_len (s : ByteArray) : (tl s).length = s.size - 1 := by
  unfold tl
  rw [List.length_drop, size_data]
theorem ext_size (s : ByteArray) : (s.extract 1 s.size).size = s.size - 1 := by
  rw [← size_data, tl_ext, tl_len]
theorem sline_j (s : ByteArray) (hs : s.size ≤ 9223372036854775807) (h2 : ¬ s.size < 2) (b : Bool) : Ev (fun k => spec_l3Line.j0 k s b) (if b = true ∨ 10 ∈ (tl s).dropLast then 1 else 0) := by
  refine Ev.step (fun k => by rw [spec_l3Line.j0]) (Ev_if (fun h => Ev_val ?_) (fun h => Ev_pos (by omega) ?_))
  · rw [if_pos (.inl h)]
  · refine Ev_call (ended_tells _ (by rw [ext_size]; omega)) ?_
    rw [tl_ext, wid (by omega) (by omega)]
    have e := lineEnd_early (tl s)
    rw [tl_len] at e
    refine Ev_if (fun g => Ev_val ?_) (fun g => Ev_val ?_)
    · rw [if_pos (.inr (e.1 (by omega)))]
    · rw [if_neg]
      rintro (e2 | e2)
      · exact h e2
      · have := e.2 e2
        omega
theorem sline_tells (s : ByteArray) (hs : s.size ≤ 9223372036854775807) : Ev (fun k => spec_l3Line.f k s) (if hbad s then 1 else 0) := by
  unfold spec_l3Line.f
  refine Ev_if (fun h => ?_) (fun h => ?_)
  · rw [if_pos (.inl (by omega))]
    exact Ev.step (fun k => by rw [spec_l3Line.j0]) (Ev_pos rfl (Ev.now _))
  · have h2 : ¬ s.size < 2 := by omega
    have go : ∀ b : Bool, (b = true ↔ ¬ (mk s = 32 ∨ mk s = 45 ∨ mk s = 43)) → Ev (fun k => spec_l3Line.j0 k s b) (if hbad s then 1 else 0) := by
      intro b hb
      refine Ev_eq (sline_j s hs h2 b) ?_
      have : (b = true ∨ 10 ∈ (tl s).dropLast) ↔ hbad s := by
        unfold hbad
        rw [hb]
        constructor
        · exact fun e => .inr e
        · rintro (e | e)
          · exact absurd e h2
          · exact e
      by_cases g : hbad s
      · rw [if_pos g, if_pos (this.2 g)]
      · rw [if_neg g, if_neg (fun e => g (this.1 e))]
    refine Ev_pos (by omega) (Ev_if (fun a => go _ ?_) (fun a => Ev_if (fun b => go _ ?_) (fun b => go _ ?_)))
    · have : mk s = 32 := a
      simp [this]
    · have : mk s = 45 := b
      simp [this]
    · have a' : ¬ mk s = 32 := a
      have b' : ¬ mk s = 45 := b
      show (mk s != 43) = true ↔ _
      simp [a', b']
def HB (l : List ByteArray) : Bool := l.any (fun s => decide (hbad s))
theorem HB_cons (s : ByteArray) (l : List ByteArray) : HB (s :: l) = (decide (hbad s) || HB l) := rfl
theorem slines_loop (a b : Int) (l : List ByteArray) (hg : GL l) : ∀ (d i : Nat), l.length - i = d → i ≤ l.length → Ev (fun k => spec_l3Lines.l0 k (i : Int) a b l) (if HB (l.drop i) = true then 1 else 0) := by
  intro d
  induction d with
  | zero =>
    intro i hd hi
    refine Ev.step (fun k => by rw [spec_l3Lines.l0]) (Ev_neg (by omega) (Ev_val ?_))
    rw [List.drop_eq_nil_of_le (by omega)]
    rfl
  | succ d ih =>
    intro i hd hi
    have hlt : i < l.length := by omega
    refine Ev.step (fun k => by rw [spec_l3Lines.l0]) (Ev_pos (by omega) (Ev_pos (by omega) ?_))
    rw [rd_nat _ hlt, wsucc hlt hg.1, drop_at hlt, HB_cons]
    refine Ev_call (sline_tells _ (hg.2 _ (List.getElem_mem hlt))) ?_
    by_cases h : hbad l[i]
    · rw [if_pos h, decide_eq_true h, Bool.true_or, if_pos rfl]
      exact Ev_neg (by omega) (Ev.now _)
    · rw [if_neg h, decide_eq_false h, Bool.false_or]
      exact Ev_pos rfl (ih (i + 1) (by omega) (by omega))
theorem slines_tells (a b : Int) {l : List ByteArray} (hg : GL l) : Ev (fun k => spec_l3Lines.f k a b l) (if HB l = true then 1 else 0) := by
  have := slines_loop a b l hg _ 0 rfl (by omega)
  rw [List.drop_zero] at this
  exact this
def hA : List ByteArray → Nat
  | [] => 0
  | s :: l => (if mk s = 43 then 0 else 1) + hA l
def hB : List ByteArray → Nat
  | [] => 0
  | s :: l => (if mk s = 45 then 0 else 1) + hB l
def hS : List ByteArray → Nat
  | [] => 0
  | s :: l => (if mk s = 32 then 1 else 0) + hS l
theorem hA_le : ∀ l, hA l ≤ l.length := by
  intro l
  induction l with
  | nil => simp [hA]
  | cons s l ih => simp only [hA, List.length_cons]; split <;> omega
theorem hB_le : ∀ l, hB l ≤ l.length := by
  intro l
  induction l with
  | nil => simp [hB]
  | cons s l ih => simp only [hB, List.length_cons]; split <;> omega
theorem hS_le : ∀ l, hS l ≤ l.length := by
  intro l
  induction l with
  | nil => simp [hS]
  | cons s l ih => simp only [hS, List.length_cons]; split <;> omega
theorem HB_at {l : List ByteArray} (h : HB l = false) {i : Nat} (hi : i < l.length) : ¬ hbad l[i] := by
  unfold HB at h
  rw [List.any_eq_false] at h
  have := h l[i] (List.getElem_mem hi)
  simpa using this
theorem good_pos {s : ByteArray} (h : ¬ hbad s) : 0 < s.size := by
  unfold hbad at h
  omega
theorem ssizes_loop (a b : Int) (l : List ByteArray) (hl : l.length ≤ 1048576) (hg : HB l = false) : ∀ (d i x y : Nat), l.length - i = d → i ≤ l.length → x ≤ i → y ≤ i → Ev (fun k => spec_l3Sizes.l0 k (x : Int) (y : Int) (i : Int) a b l) (((x + hA (l.drop i) : Nat) : Int), ((y + hB (l.drop i) : Nat) : Int)) := by
  intro d
  induction d with
  | zero =>
    intro i x y hd hi hx hy
    refine Ev.step (fun k => by rw [spec_l3Sizes.l0]) (Ev_neg (by omega) (Ev_val ?_))
    rw [List.drop_eq_nil_of_le (by omega)]
    rfl
  | succ d ih =>
    intro i x y hd hi hx hy
    have hlt : i < l.length := by omega
    have hp := good_pos (HB_at hg hlt)
    refine Ev.step (fun k => by rw [spec_l3Sizes.l0]) (Ev_pos (by omega) (Ev_pos (by omega) ?_))
    rw [rd_nat _ hlt, wsucc hlt (by omega), drop_at hlt, wsucc' (i := x) (by omega), wsucc' (i := y) (by omega)]
    simp only [hA, hB]
    refine Ev_pos (by omega) (Ev_if (fun h => ?_) (fun h => ?_))
    · have h' : mk l[i] = 43 := h
      have h'' : ¬ mk l[i] = 45 := by rw [h']; omega
      rw [if_pos h', if_neg h'']
      exact Ev_neg h'' (Ev_eq (ih (i + 1) x (y + 1) (by omega) (by omega) (by omega) (by omega)) (by congr 2 <;> omega))
    · have h' : ¬ mk l[i] = 43 := h
      rw [if_neg h']
      refine Ev_if (fun g => ?_) (fun g => ?_)
      · have g' : mk l[i] = 45 := g
        rw [if_pos g']
        exact Ev_eq (ih (i + 1) (x + 1) y (by omega) (by omega) (by omega) (by omega)) (by congr 2 <;> omega)
      · have g' : ¬ mk l[i] = 45 := g
        rw [if_neg g']
        exact Ev_eq (ih (i + 1) (x + 1) (y + 1) (by omega) (by omega) (by omega) (by omega)) (by congr 2 <;> omega)
theorem ssizes_tells (a b : Int) {l : List ByteArray} (hl : l.length ≤ 1048576) (hg : HB l = false) : Ev (fun k => spec_l3Sizes.f k a b l) (((hA l : Nat) : Int), ((hB l : Nat) : Int)) := by
  have := ssizes_loop a b l hl hg _ 0 0 0 rfl (by omega) (by omega) (by omega)
  rw [List.drop_zero, Nat.zero_add, Nat.zero_add] at this
  exact this
theorem isizes_loop (l : List ByteArray) (hl : l.length ≤ 1048576) (hx : ∀ x ∈ l, x.size ≤ 9223372036854775807) : ∀ (d i x y : Nat), l.length - i = d → i ≤ l.length → x ≤ i → y ≤ i → Ev (fun k => impl_sizesOf.l0 k (x : Int) (y : Int) l (l.length : Int) (i : Int)) (if HB (l.drop i) = true then (0, 0, false) else (((x + hA (l.drop i) : Nat) : Int), ((y + hB (l.drop i) : Nat) : Int), true)) := by
  intro d
  induction d with
  | zero =>
    intro i x y hd hi hx hy
    refine Ev.step (fun k => by rw [impl_sizesOf.l0]) (Ev_neg (by omega) (Ev_val ?_))
    rw [List.drop_eq_nil_of_le (by omega)]
    rfl
  | succ d ih =>
    intro i x y hd hi hx' hy'
    have hlt : i < l.length := by omega
    have hsz := hx l[i] (List.getElem_mem hlt)
    refine Ev.step (fun k => by rw [impl_sizesOf.l0]) (Ev_pos (by omega) (Ev_pos (by omega) (Ev_pos (by omega) ?_)))
    rw [rd_nat _ hlt, drop_at hlt, HB_cons]
    have bad : hbad l[i] → ∀ b : Bool, b = true → Ev (fun k => impl_sizesOf.j1 k (x : Int) (y : Int) l[i] l (l.length : Int) (i : Int) b) (if (decide (hbad l[i]) || HB (l.drop (i + 1))) = true then (0, 0, false) else (((x + hA (l[i] :: l.drop (i + 1)) : Nat) : Int), ((y + hB (l[i] :: l.drop (i + 1)) : Nat) : Int), true)) := by
      intro h b hb
      rw [decide_eq_true h, Bool.true_or, if_pos rfl]
      exact Ev.step (fun k => by rw [impl_sizesOf.j1]) (Ev_pos hb (Ev.now _))
    refine Ev_if (fun h => ?_) (fun h => ?_)
    · refine bad (.inl ?_) _ rfl
      have := toList_nil.1 h
      rw [← size_data, this]
      exact Nat.zero_lt_two
    · have hne : 0 < l[i].size := by
        have h0 : l[i].data.toList.length ≠ 0 := fun e => h (toList_nil.2 (List.length_eq_zero_iff.1 e))
        rw [size_data] at h0
        omega
      refine Ev_pos (by omega) (Ev_const (isLine_tells _ (by rw [ext_size]; omega)) ?_)
      rw [tl_ext]
      by_cases hb : tl l[i] = [] ∨ 10 ∈ (tl l[i]).dropLast
      · refine bad ?_ _ (by simp [hb])
        rcases hb with hb | hb
        · left
          have := congrArg List.length hb
          rw [tl_len] at this
          simp at this
          omega
        · exact .inr (.inr hb)
      · have hs2 : ¬ l[i].size < 2 := by
          intro e
          apply hb
          left
          apply List.length_eq_zero_iff.1
          rw [tl_len]
          omega
        rw [show (!decide (¬ (tl l[i] = [] ∨ 10 ∈ (tl l[i]).dropLast))) = false by simp [hb]]
        refine Ev.step (fun k => by rw [impl_sizesOf.j1]) (Ev_neg (by simp) (Ev_pos (by omega) ?_))
        rw [wsucc hlt (by omega), wsucc' (i := x) (by omega), wsucc' (i := y) (by omega)]
        have good : (mk l[i] = 32 ∨ mk l[i] = 45 ∨ mk l[i] = 43) → decide (hbad l[i]) = false := by
          intro e
          apply decide_eq_false
          rintro (e2 | e2 | e2)
          · exact hs2 e2
          · exact e2 e
          · exact hb (.inr e2)
        simp only [hA, hB]
        refine Ev_if (fun g => ?_) (fun g => Ev_if (fun g2 => ?_) (fun g2 => Ev_if (fun g3 => ?_) (fun g3 => Ev_val ?_)))
        · have g' : mk l[i] = 32 := g
          rw [good (.inl g'), Bool.false_or, if_neg (show ¬ mk l[i] = 43 by rw [g']; omega), if_neg (show ¬ mk l[i] = 45 by rw [g']; omega)]
          refine Ev_eq (ih (i + 1) (x + 1) (y + 1) (by omega) (by omega) (by omega) (by omega)) ?_
          rw [Nat.add_assoc, Nat.add_assoc]
        · have g' : mk l[i] = 45 := g2
          rw [good (.inr (.inl g')), Bool.false_or, if_neg (show ¬ mk l[i] = 43 by rw [g']; omega), if_pos g']
          refine Ev_eq (ih (i + 1) (x + 1) y (by omega) (by omega) (by omega) (by omega)) ?_
          rw [Nat.add_assoc, Nat.zero_add]
        · have g' : mk l[i] = 43 := g3
          rw [good (.inr (.inr g')), Bool.false_or, if_pos g', if_neg (show ¬ mk l[i] = 45 by rw [g']; omega)]
          refine Ev_eq (ih (i + 1) x (y + 1) (by omega) (by omega) (by omega) (by omega)) ?_
          rw [Nat.add_assoc, Nat.zero_add]
        · have : hbad l[i] := .inr (.inl (by rintro (e | e | e); exact g e; exact g2 e; exact g3 e))
          rw [decide_eq_true this, Bool.true_or, if_pos rfl]
theorem isizes_tells (a b : Int) {l : List ByteArray} (hl : l.length ≤ 1048576) (hx : ∀ x ∈ l, x.size ≤ 9223372036854775807) : Ev (fun k => impl_sizesOf.f k a b l) (if HB l = true then (0, 0, false) else (((hA l : Nat) : Int), ((hB l : Nat) : Int), true)) := by
  have := isizes_loop l hl hx _ 0 0 0 rfl (by omega) (by omega) (by omega)
  rw [List.drop_zero, Nat.zero_add, Nat.zero_add] at this
  exact this
theorem toh_tells (a b : Int) {l : List ByteArray} (h : Small l) : Ev (fun k => laws_toHunk.f k a b l) (a, b, l) := by
  unfold laws_toHunk.f
  exact Ev_call h.to (Ev.now _)
theorem eqh_tells (a b : Int) {l : List ByteArray} (h : Small l) : Ev (fun k => laws_eqHunk.f k a b l a b l) true := by
  unfold laws_eqHunk.f
  exact Ev_pos rfl (Ev_pos rfl (Ev_call h.eq (Ev_pos rfl (Ev.now _))))
theorem szh_tells (a b : Int) (x : List ByteArray) (gx : GL x) (n : Int) (h0 : 0 ≤ n) (h1 : n ≤ 1048576) :
    ∃ r, Ev (fun k => laws_szHunk.f k a b x n) r ∧ (r < 0 ∨ (0 ≤ r ∧ r ≤ n ∧ ((lw x : Nat) : Int) = n - r)) := by
  obtain ⟨r1, e1, p1⟩ := sz_tells x gx n h0 h1
  rcases p1 with p1 | ⟨a1, b1, c1⟩
  · refine ⟨-1, ?_, .inl (by omega)⟩
    unfold laws_szHunk.f
    exact Ev_call e1 (Ev_pos p1 (Ev.now _))
  · refine ⟨r1, ?_, .inr ⟨a1, by omega, by unfold lw; omega⟩⟩
    unfold laws_szHunk.f
    exact Ev_call e1 (Ev_neg (by omega) (Ev.now _))
end Go.Proofs.Ytjngmhngedecdaa.P
end
section
set_option linter.unusedVariables false
set_option linter.unusedSimpArgs false
namespace Go.Proofs.Ytjngmhngedecdaa.P
open Go.RowKit Go.Proofs.YtjngmhngedecdaaW.PrintWords Go.Proofs.YtjngmhngedecdaaW.PrintLast
theorem rdh_nat {l : List S90} {i : Nat} (h : i < l.length) : rd_T90 l (i : Int) = l[i] := by
  unfold rd_T90
  rw [Int.toNat_natCast, List.getD_eq_getElem?_getD, List.getElem?_eq_getElem h]
  rfl
theorem rdg_nat {l : List S89} {i : Nat} (h : i < l.length) : rd_T89 l (i : Int) = l[i] := by
  unfold rd_T89
  rw [Int.toNat_natCast, List.getD_eq_getElem?_getD, List.getElem?_eq_getElem h]
  rfl
def hw : List S90 → Nat
  | [] => 0
  | c :: l => lw c.f2 + hw l
theorem hw_at : ∀ (l : List S90) (i : Nat) (h : i < l.length), lw l[i].f2 ≤ hw l := by
  intro l
  induction l with
  | nil => intro i h; exact absurd h (by simp)
  | cons c l ih =>
    intro i h
    cases i with
    | zero => simp only [List.getElem_cons_zero, hw]; omega
    | succ i => simp only [List.getElem_cons_succ, hw]; have := ih i (by simpa using h); omega
def SmallH (l : List S90) : Prop := (∀ c ∈ l, ∀ a ∈ c.f2, a.size ≤ 9223372036854775807) ∧ l.length ≤ 1048576 ∧ hw l ≤ 1048576
theorem SmallH.at {l : List S90} (h : SmallH l) {i : Nat} (hi : i < l.length) : Small l[i].f2 :=
  lw_small (h.1 l[i] (List.getElem_mem hi)) (by have := hw_at l i hi; have := h.2.2; omega)
theorem ichanges_loop (l : List ByteArray) (hl : l.length ≤ 1048576) (hg : HB l = false) : ∀ (d i : Nat), l.length - i = d → i ≤ l.length → Ev (fun k => impl_Hunk_changes.l0 k l (l.length : Int) (i : Int)) (decide (hS (l.drop i) ≠ (l.drop i).length)) := by
  intro d
  induction d with
  | zero =>
    intro i hd hi
    refine Ev.step (fun k => by rw [impl_Hunk_changes.l0]) (Ev_neg (by omega) (Ev_val ?_))
    rw [List.drop_eq_nil_of_le (by omega)]
    rfl
  | succ d ih =>
    intro i hd hi
    have hlt : i < l.length := by omega
    have hp := good_pos (HB_at hg hlt)
    refine Ev.step (fun k => by rw [impl_Hunk_changes.l0]) (Ev_pos (by omega) (Ev_pos (by omega) (Ev_pos (by omega) ?_)))
    rw [rd_nat _ hlt, wsucc hlt (by omega), drop_at hlt]
    refine Ev_pos (by omega) (Ev_if (fun h => ?_) (fun h => Ev_val ?_))
    · have h' : mk l[i] = 32 := h
      refine Ev_eq (ih (i + 1) (by omega) (by omega)) ?_
      rw [decide_eq_decide]
      simp only [hS, if_pos h', List.length_cons]
      omega
    · have h' : ¬ mk l[i] = 32 := h
      have := hS_le (l.drop (i + 1))
      symm
      apply decide_eq_true
      simp only [hS, if_neg h', List.length_cons]
      omega
theorem ichanges_tells (a b : Int) {l : List ByteArray} (hl : l.length ≤ 1048576) (hg : HB l = false) : Ev (fun k => impl_Hunk_changes.f k a b l) (decide (hS l ≠ l.length)) := by
  have := ichanges_loop l hl hg _ 0 rfl (by omega)
  rw [List.drop_zero] at this
  exact this
def HF : List S90 → Int → Int → Int
  | [], _, _ => 0
  | h :: l, i, j => if h.f2.length > 200 then 2 else if HB h.f2 = true ∨ hS h.f2 = h.f2.length then 1 else if ¬ ((0 ≤ h.f0 ∧ h.f0 ≤ 100) ∧ (0 ≤ h.f1 ∧ h.f1 ≤ 100)) then 3 else if h.f0 < i ∨ h.f0 - i ≠ h.f1 - j then 1 else HF l (h.f0 + hA h.f2) (h.f1 + hB h.f2)
theorem HF_cons (h : S90) (l : List S90) (i j : Int) : HF (h :: l) i j = if h.f2.length > 200 then 2 else if HB h.f2 = true ∨ hS h.f2 = h.f2.length then 1 else if ¬ ((0 ≤ h.f0 ∧ h.f0 ≤ 100) ∧ (0 ≤ h.f1 ∧ h.f1 ≤ 100)) then 3 else if h.f0 < i ∨ h.f0 - i ≠ h.f1 - j then 1 else HF l (h.f0 + hA h.f2) (h.f1 + hB h.f2) := rfl
theorem shf_tail (l : List S90) (i j : Int) (n : Nat) (hi0 : 0 ≤ i) (hi1 : i ≤ 300) (hj0 : 0 ≤ j) (hj1 : j ≤ 300) (h : S90) (h2 : h.f2.length ≤ 200) {r : Int}
    (nx : ∀ i' j', 0 ≤ i' → i' ≤ 300 → 0 ≤ j' → j' ≤ 300 → i' = h.f0 + hA h.f2 → j' = h.f1 + hB h.f2 → Ev (fun k => spec_l3Fault.l0 k l i' j' ((n + 1 : Nat) : Int)) r) (hn : n ≤ 1048576) :
    ∀ (d m x : Nat), h.f2.length - m = d → m ≤ h.f2.length → HB h.f2 = false → x ≤ m →
    Ev (fun k => spec_l3Fault.l1 k l i j (n : Int) ((hA h.f2 : Nat) : Int) ((hB h.f2 : Nat) : Int) (x : Int) (m : Int) h.f0 h.f1 h.f2)
      (if x + hS (h.f2.drop m) = h.f2.length then 1 else if ¬ ((0 ≤ h.f0 ∧ h.f0 ≤ 100) ∧ (0 ≤ h.f1 ∧ h.f1 ≤ 100)) then 3 else if h.f0 < i ∨ h.f0 - i ≠ h.f1 - j then 1 else r) := by
  intro d
  induction d with
  | zero =>
    intro m x hd hm hg hx
    refine Ev.step (fun k => by rw [spec_l3Fault.l1]) (Ev_neg (by omega) ?_)
    have e : hS (h.f2.drop m) = 0 := by rw [List.drop_eq_nil_of_le (by omega)]; rfl
    rw [e]
    refine Ev_if (fun g => Ev_val ?_) (fun g => ?_)
    · rw [if_pos (by omega)]
    · rw [if_neg (by omega)]
      have bad : ∀ b : Bool, b = true → ¬ ((0 ≤ h.f0 ∧ h.f0 ≤ 100) ∧ (0 ≤ h.f1 ∧ h.f1 ≤ 100)) → Ev (fun k => spec_l3Fault.j2 k l i j (n : Int) ((hA h.f2 : Nat) : Int) ((hB h.f2 : Nat) : Int) b h.f0 h.f1 h.f2) (if ¬ ((0 ≤ h.f0 ∧ h.f0 ≤ 100) ∧ (0 ≤ h.f1 ∧ h.f1 ≤ 100)) then 3 else if h.f0 < i ∨ h.f0 - i ≠ h.f1 - j then 1 else r) := by
        intro b hb hn
        rw [if_pos hn]
        exact Ev.step (fun k => by rw [spec_l3Fault.j2]) (Ev_pos hb (Ev.now _))
      refine Ev_const (in_tells _ _ _) (Ev_if (fun h1 => ?_) (fun h1 => bad _ rfl (fun e => h1 (decide_eq_true e.1))))
      refine Ev_const (in_tells _ _ _) ?_
      by_cases hr : 0 ≤ h.f1 ∧ h.f1 ≤ 100
      · have h0 := of_decide_eq_true h1
        rw [decide_eq_true hr, if_neg (fun e => e ⟨h0, hr⟩)]
        have la := hA_le h.f2
        have lb := hB_le h.f2
        refine Ev.step (fun k => by rw [spec_l3Fault.j2]) (Ev_neg (by simp) (Ev_if (fun g1 => Ev_val ?_) (fun g1 => ?_)))
        · rw [if_pos (.inl g1)]
        · rw [wid (x := h.f0 - i) (by omega) (by omega), wid (x := h.f1 - j) (by omega) (by omega), wid (x := h.f0 + _) (by omega) (by omega), wid (x := h.f1 + _) (by omega) (by omega), wsucc' (by omega)]
          refine Ev_if (fun g2 => ?_) (fun g2 => Ev_val ?_)
          · rw [if_neg (by rintro (e | e); exact g1 e; exact e g2)]
            exact nx _ _ (by omega) (by omega) (by omega) (by omega) rfl rfl
          · rw [if_pos (.inr g2)]
      · rw [decide_eq_false hr]
        exact bad _ rfl (fun e => hr e.2)
  | succ d ih =>
    intro m x hd hm hg hx
    have hlt : m < h.f2.length := by omega
    have hp := good_pos (HB_at hg hlt)
    refine Ev.step (fun k => by rw [spec_l3Fault.l1]) (Ev_pos (by omega) (Ev_pos (by omega) ?_))
    rw [rd_nat _ hlt, wsucc hlt (by omega), drop_at hlt, wsucc' (i := x) (by omega)]
    refine Ev_pos (by omega) (Ev_if (fun g => ?_) (fun g => ?_))
    · have g' : mk h.f2[m] = 32 := g
      have e : x + hS (h.f2[m] :: h.f2.drop (m + 1)) = (x + 1) + hS (h.f2.drop (m + 1)) := by simp only [hS, if_pos g']; omega
      rw [e]
      exact ih (m + 1) (x + 1) (by omega) (by omega) hg (by omega)
    · have g' : ¬ mk h.f2[m] = 32 := g
      have e : x + hS (h.f2[m] :: h.f2.drop (m + 1)) = x + hS (h.f2.drop (m + 1)) := by simp only [hS, if_neg g']; omega
      rw [e]
      exact ih (m + 1) x (by omega) (by omega) hg (by omega)
theorem shf_loop {l : List S90} (hl : SmallH l) : ∀ (d n : Nat) (i j : Int), l.length - n = d → n ≤ l.length → 0 ≤ i → i ≤ 300 → 0 ≤ j → j ≤ 300 → Ev (fun k => spec_l3Fault.l0 k l i j (n : Int)) (HF (l.drop n) i j) := by
  intro d
  induction d with
  | zero =>
    intro n i j hd hn _ _ _ _
    refine Ev.step (fun k => by rw [spec_l3Fault.l0]) (Ev_neg (by omega) (Ev_val ?_))
    rw [List.drop_eq_nil_of_le (by omega)]
    rfl
  | succ d ih =>
    intro n i j hd hn hi0 hi1 hj0 hj1
    have hlt : n < l.length := by omega
    have hs := hl.at hlt
    have hll := hl.2.1
    refine Ev.step (fun k => by rw [spec_l3Fault.l0]) (Ev_pos (by omega) (Ev_pos (by omega) ?_))
    rw [rdh_nat hlt, drop_at hlt, HF_cons]
    refine Ev_if (fun h => Ev_val ?_) (fun h => ?_)
    · rw [if_pos (by omega)]
    · rw [if_neg (by omega)]
      refine Ev_call (slines_tells _ _ ⟨by have := hs.2.1; omega, hs.1⟩) ?_
      by_cases hb : HB l[n].f2 = true
      · rw [if_pos hb, if_pos (.inl hb)]
        exact Ev_neg (by omega) (Ev.now _)
      · have hg : HB l[n].f2 = false := by simpa using hb
        rw [if_neg hb]
        refine Ev_pos rfl (Ev_call (ssizes_tells _ _ hs.2.1 hg) ?_)
        have e := shf_tail l i j n hi0 hi1 hj0 hj1 l[n] (by omega) (r := HF (l.drop (n + 1)) (l[n].f0 + hA l[n].f2) (l[n].f1 + hB l[n].f2))
          (fun i' j' a0 a1 b0 b1 ei ej => by rw [← ei, ← ej]; exact ih (n + 1) i' j' (by omega) (by omega) a0 a1 b0 b1) (by omega) _ 0 0 rfl (by omega) hg (by omega)
        refine Ev_eq e ?_
        rw [List.drop_zero, Nat.zero_add]
        by_cases hq : hS l[n].f2 = l[n].f2.length
        · rw [if_pos hq, if_pos (.inr hq)]
        · rw [if_neg hq, if_neg (show ¬ (HB l[n].f2 = true ∨ hS l[n].f2 = l[n].f2.length) by rintro (e | e); exact hb e; exact hq e)]
def HKF (l : List S90) : Int := if l.length > 100 then 2 else HF l 0 0
theorem shf_tells {l : List S90} (hl : SmallH l) : Ev (fun k => spec_HunksFault.f k l) (HKF l) := by
  unfold spec_HunksFault.f HKF
  refine Ev_if (fun h => Ev_val ?_) (fun h => ?_)
  · rw [if_pos (by omega)]
  · rw [if_neg (by omega)]
    have := shf_loop hl _ 0 0 0 rfl (by omega) (by omega) (by omega) (by omega) (by omega)
    rw [List.drop_zero] at this
    exact Ev_call (by unfold spec_l3Fault.f; exact this) (Ev.now _)
theorem ihf_loop {l : List S90} (hl : SmallH l) : ∀ (d n : Nat) (i j : Int), l.length - n = d → n ≤ l.length → 0 ≤ i → i ≤ 300 → 0 ≤ j → j ≤ 300 → Ev (fun k => impl_HunksFault.l0 k i j l (l.length : Int) (n : Int)) (HF (l.drop n) i j) := by
  intro d
  induction d with
  | zero =>
    intro n i j hd hn _ _ _ _
    refine Ev.step (fun k => by rw [impl_HunksFault.l0]) (Ev_neg (by omega) (Ev_val ?_))
    rw [List.drop_eq_nil_of_le (by omega)]
    rfl
  | succ d ih =>
    intro n i j hd hn hi0 hi1 hj0 hj1
    have hlt : n < l.length := by omega
    have hs := hl.at hlt
    have hll := hl.2.1
    refine Ev.step (fun k => by rw [impl_HunksFault.l0]) (Ev_pos (by omega) (Ev_pos (by omega) (Ev_pos (by omega) ?_)))
    rw [rdh_nat hlt, drop_at hlt, HF_cons]
    refine Ev_if (fun h => Ev_val ?_) (fun h => ?_)
    · rw [if_pos (by omega)]
    · rw [if_neg (by omega)]
      refine Ev_call (isizes_tells _ _ hs.2.1 hs.1) ?_
      have bad1 : ∀ x y : Int, HB l[n].f2 = true ∨ hS l[n].f2 = l[n].f2.length → ∀ b : Bool, b = true → Ev (fun k => impl_HunksFault.j1 k i j x y l (l.length : Int) (n : Int) b l[n].f0 l[n].f1 l[n].f2)
          (if HB l[n].f2 = true ∨ hS l[n].f2 = l[n].f2.length then 1 else if ¬ ((0 ≤ l[n].f0 ∧ l[n].f0 ≤ 100) ∧ (0 ≤ l[n].f1 ∧ l[n].f1 ≤ 100)) then 3 else if l[n].f0 < i ∨ l[n].f0 - i ≠ l[n].f1 - j then 1 else HF (l.drop (n + 1)) (l[n].f0 + hA l[n].f2) (l[n].f1 + hB l[n].f2)) := by
        intro x y h b hb
        rw [if_pos h]
        exact Ev.step (fun k => by rw [impl_HunksFault.j1]) (Ev_pos hb (Ev.now _))
      by_cases hb : HB l[n].f2 = true
      · rw [if_pos hb]
        exact Ev_neg (by simp) (bad1 _ _ (.inl hb) _ rfl)
      · have hg : HB l[n].f2 = false := by simpa using hb
        rw [if_neg hb]
        refine Ev_pos rfl (Ev_call (ichanges_tells _ _ hs.2.1 hg) ?_)
        by_cases hq : hS l[n].f2 = l[n].f2.length
        · exact bad1 _ _ (.inr hq) _ (by simp [hq])
        · rw [if_neg (by rintro (e | e); exact hb e; exact hq e)]
          refine Ev.step (fun k => by rw [impl_HunksFault.j1]) (Ev_neg (by simp [hq]) ?_)
          have bad : ∀ x y : Int, ∀ b : Bool, b = true → ¬ ((0 ≤ l[n].f0 ∧ l[n].f0 ≤ 100) ∧ (0 ≤ l[n].f1 ∧ l[n].f1 ≤ 100)) → Ev (fun k => impl_HunksFault.j2 k i j x y l (l.length : Int) (n : Int) b l[n].f0 l[n].f1 l[n].f2) (if ¬ ((0 ≤ l[n].f0 ∧ l[n].f0 ≤ 100) ∧ (0 ≤ l[n].f1 ∧ l[n].f1 ≤ 100)) then 3 else if l[n].f0 < i ∨ l[n].f0 - i ≠ l[n].f1 - j then 1 else HF (l.drop (n + 1)) (l[n].f0 + hA l[n].f2) (l[n].f1 + hB l[n].f2)) := by
            intro x y b hb hn
            rw [if_pos hn]
            exact Ev.step (fun k => by rw [impl_HunksFault.j2]) (Ev_pos hb (Ev.now _))
          refine Ev_const (within_tells _ _ _) (Ev_if (fun h1 => ?_) (fun h1 => bad _ _ _ rfl (fun e => h1 (decide_eq_true e.1))))
          refine Ev_const (within_tells _ _ _) ?_
          by_cases hr : 0 ≤ l[n].f1 ∧ l[n].f1 ≤ 100
          · have h0 := of_decide_eq_true h1
            rw [decide_eq_true hr, if_neg (fun e => e ⟨h0, hr⟩)]
            have la := hA_le l[n].f2
            have lb := hB_le l[n].f2
            refine Ev.step (fun k => by rw [impl_HunksFault.j2]) (Ev_neg (by simp) (Ev_if (fun g1 => Ev_val ?_) (fun g1 => ?_)))
            · rw [if_pos (.inl g1)]
            · rw [wid (x := l[n].f0 - i) (by omega) (by omega), wid (x := l[n].f1 - j) (by omega) (by omega), wid (x := l[n].f0 + ((hA l[n].f2 : Nat) : Int)) (by omega) (by omega), wid (x := l[n].f1 + ((hB l[n].f2 : Nat) : Int)) (by omega) (by omega), wsucc' (by omega)]
              refine Ev_if (fun g2 => ?_) (fun g2 => Ev_val ?_)
              · rw [if_neg (by rintro (e | e); exact g1 e; exact e g2.symm)]
                exact ih (n + 1) _ _ (by omega) (by omega) (by omega) (by omega) (by omega) (by omega)
              · rw [if_pos (.inr (fun e => g2 e.symm))]
          · rw [decide_eq_false hr]
            exact bad _ _ _ rfl (fun e => hr e.2)
theorem ihf_tells {l : List S90} (hl : SmallH l) : Ev (fun k => impl_HunksFault.f k l) (HKF l) := by
  unfold impl_HunksFault.f HKF
  refine Ev_if (fun h => Ev_val ?_) (fun h => ?_)
  · rw [if_pos (by omega)]
  · rw [if_neg (by omega)]
    have := ihf_loop hl _ 0 0 0 rfl (by omega) (by omega) (by omega) (by omega) (by omega)
    rw [List.drop_zero] at this
    exact this
def ch3 (x : S89) : S90 := ⟨x.f0, x.f1, x.f2⟩
theorem szhs_loop (xs : List S89) (hg : ∀ c ∈ xs, GL c.f2) (hl : xs.length ≤ 9223372036854775807) : ∀ (d i : Nat) (n : Int), xs.length - i = d → i ≤ xs.length → 0 ≤ n → n ≤ 1048576 →
    ∃ r, Ev (fun k => laws_szHunkS.l0 k xs n (i : Int)) r ∧ (r < 0 ∨ (0 ≤ r ∧ r ≤ n ∧ (hw ((xs.drop i).map ch3) : Int) = n - r)) := by
  intro d
  induction d with
  | zero =>
    intro i n hd hi h0 h1
    refine ⟨n, Ev.step (fun k => by rw [laws_szHunkS.l0]) (Ev_neg (by omega) (Ev.now _)), .inr ⟨h0, Int.le_refl _, ?_⟩⟩
    rw [List.drop_eq_nil_of_le (by omega)]
    simp [hw]
  | succ d ih =>
    intro i n hd hi h0 h1
    have hlt : i < xs.length := by omega
    have g := hg xs[i] (List.getElem_mem hlt)
    obtain ⟨r, e, p⟩ := szh_tells xs[i].f0 xs[i].f1 xs[i].f2 g n h0 h1
    rcases p with p | ⟨a1, b1, c1⟩
    · refine ⟨-1, Ev.step (fun k => by rw [laws_szHunkS.l0]) (Ev_pos (by omega) (Ev_pos (by omega) ?_)), .inl (by omega)⟩
      rw [rdg_nat hlt]
      exact Ev_call e (Ev_pos p (Ev.now _))
    · obtain ⟨r2, hr, hp⟩ := ih (i + 1) r (by omega) (by omega) a1 (by omega)
      refine ⟨r2, Ev.step (fun k => by rw [laws_szHunkS.l0]) (Ev_pos (by omega) (Ev_pos (by omega) ?_)), ?_⟩
      · rw [rdg_nat hlt, wsucc hlt hl]
        exact Ev_call e (Ev_neg (by omega) hr)
      · rcases hp with hp | ⟨h2, h3, h4⟩
        · exact .inl hp
        · refine .inr ⟨h2, by omega, ?_⟩
          rw [drop_at hlt]
          simp only [List.map_cons, hw, ch3]
          omega
theorem guard_hunks (xs : List S89) (hg : ∀ c ∈ xs, GL c.f2) (hl : xs.length ≤ 9223372036854775807) (n : Int) (h0 : 0 ≤ n) (h1 : n ≤ 1048576) {F : Nat → Int → Option Bool}
    (h : ∀ r, 0 ≤ r → r ≤ n → SmallH (xs.map ch3) → Ev (fun k => F k r) true) : Ev (fun k => (laws_szHunkS.f k xs n).bind fun t => (if t < 0 then (some true) else F k t)) true := by
  by_cases hc : n - (xs.length : Int) < 0
  · refine Ev_call (a := -1) ?_ (Ev_pos (by omega) (Ev.now _))
    unfold laws_szHunkS.f
    rw [wid (by omega) (by omega)]
    exact Ev_pos hc (Ev.now _)
  · obtain ⟨r, hr, hp⟩ := szhs_loop xs hg hl _ 0 (n - (xs.length : Int)) rfl (by omega) (by omega) (by omega)
    refine Ev_call (a := r) ?_ ?_
    · unfold laws_szHunkS.f
      rw [wid (by omega) (by omega)]
      exact Ev_neg hc hr
    · rcases hp with hp | ⟨h2, h3, h4⟩
      · exact Ev_pos hp (Ev.now _)
      · rw [List.drop_zero] at h4
        refine Ev_neg (by omega) (h r h2 (by omega) ⟨?_, by rw [List.length_map]; omega, by omega⟩)
        intro c hc
        obtain ⟨x, hx, rfl⟩ := List.mem_map.1 hc
        exact (hg x hx).2
theorem tohs_loop (xs : List S89) (hs : SmallH (xs.map ch3)) : ∀ (d i : Nat) (ys : List S90), xs.length - i = d → i ≤ xs.length → ys.length = xs.length →
    Ev (fun k => laws_toHunkS.l0 k xs ys (i : Int)) (ys.take i ++ (xs.drop i).map ch3) := by
  have hl := hs.2.1
  rw [List.length_map] at hl
  intro d
  induction d with
  | zero =>
    intro i ys hd hi hy
    refine Ev.step (fun k => by rw [laws_toHunkS.l0]) (Ev_neg (by omega) (Ev_val ?_))
    rw [List.drop_eq_nil_of_le (show xs.length ≤ i by omega), List.map_nil, List.append_nil, List.take_of_length_le (by omega)]
  | succ d ih =>
    intro i ys hd hi hy
    have hlt : i < xs.length := by omega
    have hk := hs.at (i := i) (by rw [List.length_map]; exact hlt)
    rw [List.getElem_map] at hk
    refine Ev.step (fun k => by rw [laws_toHunkS.l0]) (Ev_pos (by omega) (Ev_pos (by omega) ?_))
    rw [rdg_nat hlt, wsucc hlt (by omega)]
    refine Ev_call (toh_tells _ _ hk) (Ev_pos (by omega) ?_)
    rw [Int.toNat_natCast]
    refine Ev_eq (ih (i + 1) (ys.set i (ch3 xs[i])) (by omega) (by omega) (by rw [List.length_set]; exact hy)) ?_
    rw [drop_at hlt, List.map_cons, List.take_succ_eq_append_getElem (by rw [List.length_set]; omega), List.getElem_set_self, List.take_set_of_le (by omega), List.append_assoc]
    rfl
theorem tohs_tells {xs : List S89} (hs : SmallH (xs.map ch3)) : Ev (fun k => laws_toHunkS.f k xs) (xs.map ch3) := by
  have hl := hs.2.1
  rw [List.length_map] at hl
  unfold laws_toHunkS.f
  refine Ev_pos (by omega) (Ev_pos (by rw [Int.toNat_natCast]; omega) ?_)
  have h := tohs_loop xs hs _ 0 (List.replicate ((xs.length : Int) : Int).toNat z90) rfl (by omega) (by simp)
  exact Ev_eq h (by simp)
theorem eqhs_loop (xs : List S90) (hs : SmallH xs) : ∀ (d i : Nat), xs.length - i = d → i ≤ xs.length → Ev (fun k => laws_eqHunkS.l0 k xs xs (i : Int)) true := by
  have hl := hs.2.1
  intro d
  induction d with
  | zero => intro i hd hi; exact Ev.step (fun k => by rw [laws_eqHunkS.l0]) (Ev_neg (by omega) (Ev.now _))
  | succ d ih =>
    intro i hd hi
    have hlt : i < xs.length := by omega
    have hk := hs.at hlt
    refine Ev.step (fun k => by rw [laws_eqHunkS.l0]) (Ev_pos (by omega) (Ev_pos (by omega) (Ev_pos (by omega) ?_)))
    rw [rdh_nat hlt, wsucc hlt (by omega)]
    exact Ev_call (eqh_tells _ _ hk) (Ev_pos rfl (ih (i + 1) (by omega) (by omega)))
theorem eqhs_tells {xs : List S90} (hs : SmallH xs) : Ev (fun k => laws_eqHunkS.f k xs xs) true := by
  unfold laws_eqHunkS.f
  exact Ev_pos rfl (eqhs_loop xs hs _ 0 rfl (by omega))
end Go.Proofs.Ytjngmhngedecdaa.P
end
section
set_option linter.unusedVariables false
set_option linter.unusedSimpArgs false
namespace Go.Proofs.Ytjngmhngedecdaa.P
open Go.RowKit Go.Proofs.YtjngmhngedecdaaW.PrintWords Go.Proofs.YtjngmhngedecdaaW.PrintLast
theorem mtext_loop : ∀ (n : Nat) (s : ByteArray), n + s.size ≤ 4611686018427387904 → ∃ t, Ev (fun k => laws_markText.l0 k (n : Int) s) t := by
  intro n
  induction n using Nat.strongRecOn with
  | _ n ih =>
    intro s hs
    by_cases h : n = 0
    · subst h
      exact ⟨_, Ev.step (fun k => by rw [laws_markText.l0]) (Ev_neg (by omega) (Ev_pos (by omega) (Ev.now _)))⟩
    · have hq : Int.tdiv (n : Int) 10 = ((n / 10 : Nat) : Int) := by
        rw [Int.tdiv_eq_ediv_of_nonneg (by omega)]
        omega
      have hsz : (strOfNums [(wrap64 (48 + (Int.tmod (n : Int) 10))) % 256] ++ s).size = 1 + s.size := by
        rw [ByteArray.size_append, strOfNums_size]
        rfl
      obtain ⟨t, ht⟩ := ih (n / 10) (by omega) (strOfNums [(wrap64 (48 + (Int.tmod (n : Int) 10))) % 256] ++ s) (by rw [hsz]; omega)
      refine ⟨t, Ev.step (fun k => by rw [laws_markText.l0]) (Ev_pos (by omega) ?_)⟩
      refine Ev_const rfl ?_
      refine Ev_pos (by rw [strOfNums_size]; simp; omega) ?_
      rw [hq, wid (by omega) (by omega)]
      exact ht
theorem mtext_some (n : Nat) (hn : n ≤ 4611686018427387904) : ∃ t, Ev (fun k => laws_markText.f k (n : Int)) t := by
  unfold laws_markText.f
  by_cases h : n = 0
  · subst h
    exact ⟨_, Ev_pos (by omega) (Ev.now _)⟩
  · obtain ⟨t, ht⟩ := mtext_loop n (⟨#[]⟩ : ByteArray) (by simp [ByteArray.size]; exact hn)
    exact ⟨t, Ev_neg (by omega) ht⟩
noncomputable def mtx (n : Nat) : ByteArray := @Classical.epsilon ByteArray ⟨⟨#[]⟩⟩ (fun t => Ev (fun k => laws_markText.f k (n : Int)) t)
theorem mtx_tells (n : Nat) (hn : n ≤ 4611686018427387904) : Ev (fun k => laws_markText.f k (n : Int)) (mtx n) := @Classical.epsilon_spec _ _ (mtext_some n hn)
noncomputable def mks : Nat → Nat → List ByteArray
  | _, 0 => []
  | n, d + 1 => mtx n :: mks (n + 1) d
theorem mks_length : ∀ (d n : Nat), (mks n d).length = d
  | 0, _ => rfl
  | d + 1, n => by rw [mks, List.length_cons, mks_length d (n + 1)]
theorem mark_loop (L : Nat) (hL : L ≤ 1000000000) : ∀ (d i n : Nat) (x : List ByteArray), L - i = d → i ≤ L → x.length = L → n + d ≤ 4611686018427387904 →
    Ev (fun k => laws_markStringS.l0 k x (n : Int) (i : Int)) (((n + d : Nat) : Int), x.take i ++ mks n d) := by
  intro d
  induction d with
  | zero =>
    intro i n x hd hi hx hn
    refine Ev.step (fun k => by rw [laws_markStringS.l0]) (Ev_neg (by omega) (Ev_val ?_))
    rw [mks, List.append_nil, List.take_of_length_le (by omega)]
    rfl
  | succ d ih =>
    intro i n x hd hi hx hn
    refine Ev.step (fun k => by rw [laws_markStringS.l0]) (Ev_pos (by omega) ?_)
    refine Ev_call (mtx_tells n (by omega)) ?_
    refine Ev_pos (by omega) ?_
    rw [wsucc' (i := n) (by omega), wsucc' (i := i) (by omega), Int.toNat_natCast]
    refine Ev_eq (ih (i + 1) (n + 1) (x.set i (mtx n)) (by omega) (by omega) (by rw [List.length_set]; exact hx) (by omega)) ?_
    rw [mks, List.take_succ_eq_append_getElem (by rw [List.length_set]; omega), List.getElem_set_self, List.take_set_of_le (by omega), List.append_assoc, show n + 1 + d = n + (d + 1) by omega]
    rfl
theorem mark_tells (x : List ByteArray) (n : Nat) (hx : x.length ≤ 1000000000) (hn : n ≤ 4611686017427387904) : Ev (fun k => laws_markStringS.f k x (n : Int)) (((n + x.length : Nat) : Int), mks n x.length) := by
  unfold laws_markStringS.f
  have h := mark_loop x.length hx _ 0 n x rfl (by omega) rfl (by omega)
  rw [List.take_zero, List.nil_append, Nat.sub_zero] at h
  exact h
theorem held_loop : ∀ (d n : Nat) (p : List ByteArray), p.length + d ≤ 1000000000 → n + d ≤ 4611686018427387904 → Ev (fun k => laws_heldStringS.l0 k (p ++ mks n d) (n : Int) (p.length : Int)) ((n + d : Nat) : Int) := by
  intro d
  induction d with
  | zero =>
    intro n p hp hn
    refine Ev.step (fun k => by rw [laws_heldStringS.l0]) ?_
    exact Ev_neg (by rw [mks, List.append_nil]; omega) (Ev.now _)
  | succ d ih =>
    intro n p hp hn
    have hl : (p ++ mks n (d + 1)).length = p.length + (d + 1) := by rw [List.length_append, mks_length]
    refine Ev.step (fun k => by rw [laws_heldStringS.l0]) (Ev_pos (by omega) (Ev_pos (by omega) ?_))
    refine Ev_call (mtx_tells n (by omega)) ?_
    have hg : rdOf ByteArray.empty (p ++ mks n (d + 1)) (p.length : Int) = mtx n := by
      rw [rd_nat _ (by omega), List.getElem_append_right (by omega)]
      simp [mks]
    rw [hg, wsucc' (i := n) (by omega), wsucc' (i := p.length) (by omega)]
    refine Ev_pos rfl ?_
    have h := ih (n + 1) (p ++ [mtx n]) (by simp; omega) (by omega)
    rw [List.append_assoc, List.length_append, List.length_singleton] at h
    rw [show n + (d + 1) = n + 1 + d by omega, mks]
    exact h
theorem held_tells (n d : Nat) (hd : d ≤ 1000000000) (hn : n ≤ 4611686017427387904) : Ev (fun k => laws_heldStringS.f k (mks n d) (n : Int)) ((n + d : Nat) : Int) := by
  unfold laws_heldStringS.f
  exact held_loop d n [] (by simp; exact hd) (by omega)
end Go.Proofs.Ytjngmhngedecdaa.P
end
section
namespace Go.Proofs.Ytjngmhngedecdaa.P
open Go.RowKit Go.Proofs.YtjngmhngedecdaaW.PrintWords Go.Proofs.YtjngmhngedecdaaW.PrintLast Go.Proofs.YtjngmhngedecdaaW.PrintMore
attribute [local go_sem] max2_int min2_int max_two min_two max_three min_three max_four min_four
end Go.Proofs.Ytjngmhngedecdaa.P
end
section
set_option linter.unusedVariables false
set_option linter.unusedSimpArgs false
namespace Go.Proofs.Ytjngmhngedecdaa.P
open Go.RowKit Go.Proofs.YtjngmhngedecdaaW.PrintWords Go.Proofs.YtjngmhngedecdaaW.PrintLast
theorem HF_good : ∀ (l : List S90) (i j : Int), HF l i j = 0 → ∀ c ∈ l, c.f2.length ≤ 200 ∧ HB c.f2 = false ∧ (0 ≤ c.f0 ∧ c.f0 ≤ 100) ∧ (0 ≤ c.f1 ∧ c.f1 ≤ 100) := by
  intro l
  induction l with
  | nil => intro i j h c hc; exact absurd hc (by simp)
  | cons x l ih =>
    intro i j h c hc
    rw [HF_cons] at h
    split at h
    · cases h
    · split at h
      · cases h
      · split at h
        · cases h
        · split at h
          · cases h
          · rename_i h1 h2 h3 h4
            rcases List.mem_cons.1 hc with rfl | hc
            · exact ⟨by omega, by cases e : HB c.f2 with
                | false => rfl
                | true => exact absurd (.inl e) h2, by omega, by omega⟩
            · exact ih _ _ h c hc
theorem HKF_good {l : List S90} (h : HKF l = 0) : l.length ≤ 100 ∧ ∀ c ∈ l, c.f2.length ≤ 200 ∧ HB c.f2 = false ∧ (0 ≤ c.f0 ∧ c.f0 ≤ 100) ∧ (0 ≤ c.f1 ∧ c.f1 ≤ 100) := by
  unfold HKF at h
  split at h
  · cases h
  · exact ⟨by omega, HF_good l 0 0 h⟩
noncomputable def mkh : Nat → List S90 → List S90
  | _, [] => []
  | n, c :: l => ⟨(n : Int), ((n + 1 : Nat) : Int), mks (n + 2) c.f2.length⟩ :: mkh (n + 2 + c.f2.length) l
def hs : Nat → List S90 → Nat
  | n, [] => n
  | n, c :: l => hs (n + 2 + c.f2.length) l
theorem hs_ge : ∀ (l : List S90) (n : Nat), n ≤ hs n l := by
  intro l
  induction l with
  | nil => intro n; exact Nat.le_refl _
  | cons c l ih => intro n; rw [hs]; have := ih (n + 2 + c.f2.length); omega
theorem hs_le : ∀ (l : List S90) (n : Nat), (∀ c ∈ l, c.f2.length ≤ 1048576) → hs n l ≤ n + l.length * 1048578 := by
  intro l
  induction l with
  | nil => intro n h; simp [hs]
  | cons c l ih =>
    intro n h
    rw [hs]
    have h1 := h c (by simp)
    have := ih (n + 2 + c.f2.length) (fun x hx => h x (by simp [hx]))
    simp only [List.length_cons]
    omega
theorem set_mid {α : Type} (p : List α) (c v : α) (r : List α) : (p ++ c :: r).set p.length v = p ++ v :: r := by
  rw [List.set_append_right _ _ (Nat.le_refl _), Nat.sub_self]
  rfl
theorem rdh_mid (p : List S90) (c : S90) (r : List S90) : rd_T90 (p ++ c :: r) (p.length : Int) = c := by
  rw [rdh_nat (by simp)]
  simp
theorem markhs_loop : ∀ (l p : List S90) (n : Nat), p.length + l.length ≤ 1048576 → (∀ c ∈ l, c.f2.length ≤ 1048576) → hs n l ≤ 4611686017427387000 →
    Ev (fun k => laws_markHunkS.l0 k (p ++ l) (n : Int) (p.length : Int)) (((hs n l : Nat) : Int), p ++ mkh n l) := by
  intro l
  induction l with
  | nil =>
    intro p n hp hc hn
    refine Ev.step (fun k => by rw [laws_markHunkS.l0]) ?_
    refine Ev_neg (by rw [List.append_nil]; omega) (Ev_val ?_)
    rw [hs, mkh]
  | cons c l ih =>
    intro p n hp hc hn
    have h0 := hs_ge (c :: l) n
    have h1 := hs_ge l (n + 2 + c.f2.length)
    rw [hs] at hn
    have hc0 := hc c (by simp)
    simp only [List.length_cons] at hp
    refine Ev.step (fun k => by rw [laws_markHunkS.l0]) ?_
    refine Ev_pos (by rw [List.length_append, List.length_cons]; omega) (Ev_pos (by omega) ?_)
    refine Ev_const rfl ?_
    rw [Int.toNat_natCast, rdh_mid, set_mid]
    refine Ev_const rfl ?_
    rw [rdh_mid, set_mid, rdh_mid, wsucc' (i := n) (by omega), wsucc' (i := n + 1) (by omega), wsucc' (i := p.length) (by omega)]
    refine Ev_call (mark_tells c.f2 (n + 1 + 1) (by omega) (by omega)) ?_
    rw [set_mid]
    have e := ih (p ++ [⟨(n : Int), ((n + 1 : Nat) : Int), mks (n + 2) c.f2.length⟩]) (n + 2 + c.f2.length) (by simp; omega) (fun x hx => hc x (by simp [hx])) (by omega)
    rw [List.append_assoc, List.length_append, List.append_assoc] at e
    exact e
end Go.Proofs.Ytjngmhngedecdaa.P
end
section
set_option linter.unusedVariables false
set_option linter.unusedSimpArgs false
namespace Go.Proofs.Ytjngmhngedecdaa.P
open Go.RowKit Go.Proofs.YtjngmhngedecdaaW.PrintWords Go.Proofs.YtjngmhngedecdaaW.PrintLast
def tlB (s : ByteArray) : ByteArray := s.extract 1 s.size
def apL (a : List ByteArray) : List ByteArray → List ByteArray → Nat → Option (List ByteArray × Nat)
  | [], o, at_ => some (o, at_)
  | s :: l, o, at_ => if mk s = 43 then apL a l (o ++ [tlB s]) at_ else if h : at_ < a.length then (if a[at_] = tlB s then (if mk s = 45 then apL a l o (at_ + 1) else apL a l (o ++ [tlB s]) (at_ + 1)) else none) else none
def RLh (y : List ByteArray) : Int × List ByteArray := if LF y = 0 then (0, y) else (LF y, [])
def apH (a : List ByteArray) : List S90 → List ByteArray → Nat → Int × List ByteArray
  | [], o, at_ => RLh (o ++ a.drop at_)
  | h :: r, o, at_ => if h.f0 > (a.length : Int) then (6, []) else match apL a h.f2 (o ++ (a.take h.f0.toNat).drop at_) h.f0.toNat with
    | none => (6, [])
    | some p => apH a r p.1 p.2
def Bd (o : List ByteArray) : Prop := ∀ x ∈ o, x.size ≤ 1048576
theorem Bd.app {x y : List ByteArray} (h : Bd x) (g : Bd y) : Bd (x ++ y) := fun s hs => (List.mem_append.1 hs).elim (h s) (g s)
theorem Bd.total : ∀ {l : List ByteArray}, Bd l → total l ≤ 1048576 * l.length := by
  intro l
  induction l with
  | nil => intro _; exact Nat.zero_le _
  | cons a l ih =>
    intro h
    have h1 := h a (by simp)
    have h2 := ih (fun x hx => h x (by simp [hx]))
    rw [_root_.Go.Proofs.Ytjngmhngedecdaa.P.total, List.length_cons]
    omega
theorem size_le_total : ∀ (l : List ByteArray), ∀ x ∈ l, x.size ≤ total l := by
  intro l
  induction l with
  | nil => intro x hx; exact absurd hx (by simp)
  | cons a l ih =>
    intro x hx
    rw [total]
    rcases List.mem_cons.1 hx with rfl | hx
    · omega
    · have := ih x hx; omega
theorem Small.bd {l : List ByteArray} (h : Small l) : Bd l := fun x hx => by have := size_le_total l x hx; have := h.2.2; omega
theorem tlB_size (s : ByteArray) : (tlB s).size ≤ s.size := by
  unfold tlB
  rw [ext_size]
  omega
theorem apL_some (a : List ByteArray) : ∀ (l o : List ByteArray) (n : Nat) (o' : List ByteArray) (n' : Nat), apL a l o n = some (o', n') → n ≤ a.length → n' = n + hA l ∧ o'.length ≤ o.length + l.length ∧ n' ≤ a.length ∧ (Bd o → Bd l → Bd o') := by
  intro l
  induction l with
  | nil =>
    intro o n o' n' h hn
    rw [apL] at h
    injection h with h
    injection h with h1 h2
    subst h1 h2
    exact ⟨by simp [hA], by simp, hn, fun h _ => h⟩
  | cons s l ih =>
    intro o n o' n' h hn
    have one : Bd (s :: l) → Bd [tlB s] := fun h x hx => by
      rw [List.mem_singleton.1 hx]
      exact Nat.le_trans (tlB_size s) (h s (by simp))
    have rest : Bd (s :: l) → Bd l := fun h x hx => h x (by simp [hx])
    rw [apL] at h
    split at h
    · rename_i hm
      obtain ⟨e1, e2, e3, e4⟩ := ih _ _ _ _ h hn
      refine ⟨by rw [hA, if_pos hm]; omega, by rw [List.length_append, List.length_singleton] at e2; rw [List.length_cons]; omega, e3, fun h1 h2 => e4 (h1.app (one h2)) (rest h2)⟩
    · rename_i hm
      split at h
      · rename_i hlt
        split at h
        · split at h
          · obtain ⟨e1, e2, e3, e4⟩ := ih _ _ _ _ h (by omega)
            refine ⟨by rw [hA, if_neg hm]; omega, by rw [List.length_cons]; omega, e3, fun h1 h2 => e4 h1 (rest h2)⟩
          · obtain ⟨e1, e2, e3, e4⟩ := ih _ _ _ _ h (by omega)
            refine ⟨by rw [hA, if_neg hm]; omega, by rw [List.length_append, List.length_singleton] at e2; rw [List.length_cons]; omega, e3, fun h1 h2 => e4 (h1.app (one h2)) (rest h2)⟩
        · cases h
      · cases h
theorem bne_lists {x y : ByteArray} : (x.toList != y.toList) = true ↔ x ≠ y := by
  rw [bne_iff_ne, ne_eq, ne_eq, data_eq]
theorem sap_line {a : List ByteArray} {x : List S90} {i : Nat} {l : List ByteArray} (ha : a.length ≤ 100) (hl : l.length ≤ 200) (hg : HB l = false) (hz : ∀ s ∈ l, s.size ≤ 1048576) (f0 f1 : Int) {R : Int × List ByteArray} :
    ∀ (d j n : Nat) (o : List ByteArray), l.length - j = d → j ≤ l.length → n ≤ a.length → o.length ≤ 60000 + j →
    (apL a (l.drop j) o n = none → R = (6, [])) →
    (∀ o' n', apL a (l.drop j) o n = some (o', n') → Ev (fun k => spec_ApplyHunks.l0 k a x o' (n' : Int) (wrap64 ((i : Int) + 1))) R) →
    Ev (fun k => spec_ApplyHunks.l1 k a x o (n : Int) (i : Int) (j : Int) f0 f1 l) R := by
  intro d
  induction d with
  | zero =>
    intro j n o hd hj hn ho h1 h2
    rw [List.drop_eq_nil_of_le (by omega)] at h1 h2
    refine Ev.step (fun k => by rw [spec_ApplyHunks.l1]) ?_
    exact Ev_neg (by omega) (h2 o n rfl)
  | succ d ih =>
    intro j n o hd hj hn ho h1 h2
    have hlt : j < l.length := by omega
    have hb := HB_at hg hlt
    have hp := good_pos hb
    have hs := hz l[j] (List.getElem_mem hlt)
    have he := ext_size l[j]
    rw [drop_at hlt, apL] at h1 h2
    refine Ev.step (fun k => by rw [spec_ApplyHunks.l1]) ?_
    refine Ev_pos (by omega) (Ev_pos (by omega) ?_)
    rw [rd_nat _ hlt]
    refine Ev_pos (by omega) (Ev_pos (by omega) ?_)
    by_cases m43 : mk l[j] = 43
    · rw [if_pos m43] at h1 h2
      have m45 : ¬ bt l[j] 0 = 45 := fun e => by unfold mk at m43; omega
      rw [wsucc hlt (by omega)]
      exact Ev_pos m43 (Ev_neg m45 (Ev_pos (by omega) (ih (j + 1) n (o ++ [tlB l[j]]) (by omega) (by omega) hn (by rw [List.length_append, List.length_singleton]; omega) h1 h2)))
    · rw [if_neg m43] at h1 h2
      refine Ev_neg m43 ?_
      by_cases hat : n < a.length
      · rw [dif_pos hat] at h1 h2
        refine Ev_neg (by omega) (Ev_pos (by omega) (Ev_pos (by omega) ?_))
        rw [rd_nat _ hat]
        by_cases eq : a[n] = tlB l[j]
        · rw [if_pos eq] at h1 h2
          have hne : ¬ ((a[n].toList != (l[j].extract 1 l[j].size).toList) = true) := fun e => (bne_lists.1 e) eq
          refine Ev.step (fun k => by rw [spec_ApplyHunks.j2]) ?_
          refine Ev_neg hne (Ev_pos (by omega) (Ev_pos (by omega) ?_))
          rw [rd_nat _ hlt, wsucc hlt (by omega), wsucc hat (by omega)]
          refine Ev_pos (by omega) ?_
          by_cases m45 : mk l[j] = 45
          · rw [if_pos m45] at h1 h2
            exact Ev_pos m45 (ih (j + 1) (n + 1) o (by omega) (by omega) (by omega) (by omega) h1 h2)
          · rw [if_neg m45] at h1 h2
            exact Ev_neg m45 (Ev_pos (by omega) (ih (j + 1) (n + 1) (o ++ [tlB l[j]]) (by omega) (by omega) (by omega) (by rw [List.length_append, List.length_singleton]; omega) h1 h2))
        · rw [if_neg eq] at h1 h2
          have hne : (a[n].toList != (l[j].extract 1 l[j].size).toList) = true := bne_lists.2 eq
          refine Ev.step (fun k => by rw [spec_ApplyHunks.j2]) ?_
          exact Ev_pos hne (Ev_val (h1 rfl).symm)
      · rw [dif_neg hat] at h1 h2
        refine Ev_pos (by omega) ?_
        refine Ev.step (fun k => by rw [spec_ApplyHunks.j2]) ?_
        exact Ev_pos rfl (Ev_val (h1 rfl).symm)
theorem iap_line {a : List ByteArray} {x : List S90} {i : Nat} {l : List ByteArray} (ha : a.length ≤ 100) (hl : l.length ≤ 200) (hg : HB l = false) (hz : ∀ s ∈ l, s.size ≤ 1048576) {R : Int × List ByteArray} :
    ∀ (d j n : Nat) (o : List ByteArray), l.length - j = d → j ≤ l.length → n ≤ a.length → o.length ≤ 60000 + j →
    (apL a (l.drop j) o n = none → R = (6, [])) →
    (∀ o' n', apL a (l.drop j) o n = some (o', n') → Ev (fun k => impl_ApplyHunks.l0 k a o' (n' : Int) x (x.length : Int) (wrap64 ((i : Int) + 1))) R) →
    Ev (fun k => impl_ApplyHunks.l1 k a o (n : Int) x (x.length : Int) (i : Int) l (l.length : Int) (j : Int)) R := by
  intro d
  induction d with
  | zero =>
    intro j n o hd hj hn ho h1 h2
    rw [List.drop_eq_nil_of_le (by omega)] at h1 h2
    refine Ev.step (fun k => by rw [impl_ApplyHunks.l1]) ?_
    exact Ev_neg (by omega) (h2 o n rfl)
  | succ d ih =>
    intro j n o hd hj hn ho h1 h2
    have hlt : j < l.length := by omega
    have hb := HB_at hg hlt
    have hp := good_pos hb
    have hs := hz l[j] (List.getElem_mem hlt)
    have he := ext_size l[j]
    rw [drop_at hlt, apL] at h1 h2
    refine Ev.step (fun k => by rw [impl_ApplyHunks.l1]) ?_
    refine Ev_pos (by omega) (Ev_pos (by omega) (Ev_pos (by omega) ?_))
    rw [rd_nat _ hlt]
    refine Ev_pos (by omega) ?_
    by_cases m43 : mk l[j] = 43
    · rw [if_pos m43] at h1 h2
      have m45 : ¬ bt l[j] 0 = 45 := fun e => by unfold mk at m43; omega
      rw [wsucc hlt (by omega)]
      exact Ev_pos m43 (Ev_neg m45 (Ev_pos (by omega) (Ev_pos (by omega) (ih (j + 1) n (o ++ [tlB l[j]]) (by omega) (by omega) hn (by rw [List.length_append, List.length_singleton]; omega) h1 h2))))
    · rw [if_neg m43] at h1 h2
      refine Ev_neg m43 ?_
      by_cases hat : n < a.length
      · rw [dif_pos hat] at h1 h2
        refine Ev_neg (by omega) (Ev_pos (by omega) (Ev_pos (by omega) (Ev_pos (by omega) ?_)))
        rw [rd_nat _ hat]
        by_cases eq : a[n] = tlB l[j]
        · rw [if_pos eq] at h1 h2
          have hne : ¬ ((a[n].toList != (l[j].extract 1 l[j].size).toList) = true) := fun e => (bne_lists.1 e) eq
          refine Ev.step (fun k => by rw [impl_ApplyHunks.j2]) ?_
          refine Ev_neg hne (Ev_pos (by omega) ?_)
          rw [wsucc hlt (by omega), wsucc hat (by omega)]
          by_cases m45 : mk l[j] = 45
          · rw [if_pos m45] at h1 h2
            exact Ev_pos m45 (ih (j + 1) (n + 1) o (by omega) (by omega) (by omega) (by omega) h1 h2)
          · rw [if_neg m45] at h1 h2
            exact Ev_neg m45 (Ev_pos (by omega) (Ev_pos (by omega) (ih (j + 1) (n + 1) (o ++ [tlB l[j]]) (by omega) (by omega) (by omega) (by rw [List.length_append, List.length_singleton]; omega) h1 h2)))
        · rw [if_neg eq] at h1 h2
          have hne : (a[n].toList != (l[j].extract 1 l[j].size).toList) = true := bne_lists.2 eq
          refine Ev.step (fun k => by rw [impl_ApplyHunks.j2]) ?_
          exact Ev_pos hne (Ev_val (h1 rfl).symm)
      · rw [dif_neg hat] at h1 h2
        refine Ev_pos (by omega) ?_
        refine Ev.step (fun k => by rw [impl_ApplyHunks.j2]) ?_
        exact Ev_pos rfl (Ev_val (h1 rfl).symm)
theorem srl_tells {y : List ByteArray} (h : Bd y) (hl : y.length ≤ 100000) : Ev (fun k => spec_LinesFault.f k y) (LF y) :=
  slf_tells y (fun x hx => by have := h x hx; omega) (by omega) (by have := h.total; omega)
theorem irl_tells {y : List ByteArray} (h : Bd y) (hl : y.length ≤ 100000) : Ev (fun k => impl_LinesFault.f k y) (LF y) :=
  ilf_tells y (fun x hx => by have := h x hx; omega) (by omega) (by have := h.total; omega)
theorem cut_len (a : List ByteArray) (i j : Nat) : ((a.take i).drop j).length ≤ a.length := by
  rw [List.length_drop, List.length_take]
  omega
theorem cut_bd {a : List ByteArray} (h : Bd a) (i j : Nat) : Bd ((a.take i).drop j) := fun x hx => h x (List.mem_of_mem_take (List.mem_of_mem_drop hx))
theorem HF_next {h : S90} {l : List S90} {i j : Int} (e : HF (h :: l) i j = 0) : i ≤ h.f0 ∧ h.f0 ≤ 100 ∧ 0 ≤ h.f0 ∧ h.f2.length ≤ 200 ∧ HB h.f2 = false ∧ HF l (h.f0 + hA h.f2) (h.f1 + hB h.f2) = 0 := by
  have hg := HF_good _ _ _ e h (by simp)
  rw [HF_cons] at e
  split at e
  · cases e
  · split at e
    · cases e
    · split at e
      · cases e
      · split at e
        · cases e
        · rename_i h4
          exact ⟨by omega, hg.2.2.1.2, hg.2.2.1.1, hg.1, hg.2.1, e⟩
theorem sap_loop {a : List ByteArray} {x : List S90} (ha : a.length ≤ 100) (hba : Bd a) (hx : x.length ≤ 100) (hbx : ∀ c ∈ x, Bd c.f2) : ∀ (d i n : Nat) (q : Int) (o : List ByteArray), x.length - i = d → i ≤ x.length → n ≤ a.length → o.length ≤ i * 300 → Bd o → HF (x.drop i) (n : Int) q = 0 →
    Ev (fun k => spec_ApplyHunks.l0 k a x o (n : Int) (i : Int)) (apH a (x.drop i) o n) := by
  intro d
  induction d with
  | zero =>
    intro i n q o hd hi hn ho hb hf
    have hdl : (a.drop n).length ≤ a.length := by rw [List.length_drop]; omega
    refine Ev.step (fun k => by rw [spec_ApplyHunks.l0]) ?_
    refine Ev_neg (by omega) (Ev_pos (by omega) (Ev_pos (by omega) ?_))
    rw [Int.toNat_natCast]
    refine Ev_pos (by omega) (Ev_const rfl ?_)
    rw [List.drop_eq_nil_of_le (show x.length ≤ i by omega), apH]
    unfold RLh
    refine Ev_call (srl_tells (hb.app (fun s hs => hba s (List.mem_of_mem_drop hs))) (by rw [List.length_append]; omega)) (Ev_if (fun h => ?_) (fun h => ?_))
    · rw [if_pos h]; exact Ev.now _
    · rw [if_neg h]; exact Ev.now _
  | succ d ih =>
    intro i n q o hd hi hn ho hb hf
    have hlt : i < x.length := by omega
    rw [drop_at hlt] at hf ⊢
    obtain ⟨h1, h2, h3, h4, h5, h6⟩ := HF_next hf
    have hbl := hbx x[i] (List.getElem_mem hlt)
    refine Ev.step (fun k => by rw [spec_ApplyHunks.l0]) ?_
    refine Ev_pos (by omega) (Ev_pos (by omega) ?_)
    rw [rdh_nat hlt, apH]
    refine Ev_if (fun hc => by rw [if_pos hc]; exact Ev.now _) (fun hc => ?_)
    rw [if_neg hc]
    have hcl := cut_len a x[i].f0.toNat n
    refine Ev_pos (by omega) (Ev_pos h1 (Ev_pos (by omega) ?_))
    rw [Int.toNat_natCast]
    refine Ev_pos (by omega) ?_
    obtain ⟨g, hgq⟩ : ∃ g : Nat, x[i].f0 = (g : Int) := ⟨x[i].f0.toNat, by omega⟩
    rw [hgq] at h6 ⊢
    rw [Int.toNat_natCast]
    rw [hgq, Int.toNat_natCast] at hcl
    have hbo : Bd (o ++ (a.take g).drop n) := hb.app (cut_bd hba _ _)
    refine sap_line (i := i) ha h4 h5 hbl _ _ _ 0 g _ rfl (by omega) (by omega) (by rw [List.length_append]; omega) (fun e => ?_) (fun o' n' e => ?_)
    · rw [List.drop_zero] at e
      rw [e]
    · rw [List.drop_zero] at e
      rw [e]
      obtain ⟨e1, e2, e3, e4⟩ := apL_some a _ _ _ _ _ e (by omega)
      rw [wsucc hlt (by omega)]
      refine ih (i + 1) n' (x[i].f1 + hB x[i].f2) o' (by omega) (by omega) e3 (by rw [List.length_append] at e2; omega) (e4 hbo hbl) ?_
      rw [e1]
      exact h6
theorem iap_loop {a : List ByteArray} {x : List S90} (ha : a.length ≤ 100) (hba : Bd a) (hx : x.length ≤ 100) (hbx : ∀ c ∈ x, Bd c.f2) : ∀ (d i n : Nat) (q : Int) (o : List ByteArray), x.length - i = d → i ≤ x.length → n ≤ a.length → o.length ≤ i * 300 → Bd o → HF (x.drop i) (n : Int) q = 0 →
    Ev (fun k => impl_ApplyHunks.l0 k a o (n : Int) x (x.length : Int) (i : Int)) (apH a (x.drop i) o n) := by
  intro d
  induction d with
  | zero =>
    intro i n q o hd hi hn ho hb hf
    have hdl : (a.drop n).length ≤ a.length := by rw [List.length_drop]; omega
    refine Ev.step (fun k => by rw [impl_ApplyHunks.l0]) ?_
    refine Ev_neg (by omega) (Ev_pos (by omega) (Ev_pos (by omega) ?_))
    rw [Int.toNat_natCast]
    refine Ev_pos (by omega) ?_
    rw [List.drop_eq_nil_of_le (show x.length ≤ i by omega), apH]
    refine Ev_call (a := RLh (o ++ a.drop n)) ?_ (Ev.now _)
    unfold impl_rightLines.f RLh
    refine Ev_call (irl_tells (hb.app (fun s hs => hba s (List.mem_of_mem_drop hs))) (by rw [List.length_append]; omega)) (Ev_if (fun h => ?_) (fun h => ?_))
    · rw [if_pos h]; exact Ev.now _
    · rw [if_neg h]; exact Ev.now _
  | succ d ih =>
    intro i n q o hd hi hn ho hb hf
    have hlt : i < x.length := by omega
    rw [drop_at hlt] at hf ⊢
    obtain ⟨h1, h2, h3, h4, h5, h6⟩ := HF_next hf
    have hbl := hbx x[i] (List.getElem_mem hlt)
    refine Ev.step (fun k => by rw [impl_ApplyHunks.l0]) ?_
    refine Ev_pos (by omega) (Ev_pos (by omega) (Ev_pos (by omega) ?_))
    rw [rdh_nat hlt, apH]
    refine Ev_if (fun hc => by rw [if_pos hc]; exact Ev.now _) (fun hc => ?_)
    rw [if_neg hc]
    have hcl := cut_len a x[i].f0.toNat n
    refine Ev_pos (by omega) (Ev_pos h1 (Ev_pos (by omega) ?_))
    rw [Int.toNat_natCast]
    refine Ev_pos (by omega) ?_
    obtain ⟨g, hgq⟩ : ∃ g : Nat, x[i].f0 = (g : Int) := ⟨x[i].f0.toNat, by omega⟩
    rw [hgq] at h6 ⊢
    rw [Int.toNat_natCast]
    rw [hgq, Int.toNat_natCast] at hcl
    have hbo : Bd (o ++ (a.take g).drop n) := hb.app (cut_bd hba _ _)
    refine iap_line (i := i) ha h4 h5 hbl _ 0 g _ rfl (by omega) (by omega) (by rw [List.length_append]; omega) (fun e => ?_) (fun o' n' e => ?_)
    · rw [List.drop_zero] at e
      rw [e]
    · rw [List.drop_zero] at e
      rw [e]
      obtain ⟨e1, e2, e3, e4⟩ := apL_some a _ _ _ _ _ e (by omega)
      rw [wsucc hlt (by omega)]
      refine ih (i + 1) n' (x[i].f1 + hB x[i].f2) o' (by omega) (by omega) e3 (by rw [List.length_append] at e2; omega) (e4 hbo hbl) ?_
      rw [e1]
      exact h6
def APH (a : List ByteArray) (x : List S90) : Int × List ByteArray := if LF a = 0 then (if HKF x = 0 then apH a x [] 0 else (HKF x, [])) else (LF a, [])
theorem ap_hyp {a : List ByteArray} {x : List S90} (ha : Small a) (hs : SmallH x) (h1 : LF a = 0) (h2 : HKF x = 0) : a.length ≤ 100 ∧ Bd a ∧ x.length ≤ 100 ∧ (∀ c ∈ x, Bd c.f2) ∧ HF x 0 0 = 0 := by
  refine ⟨(LF_zero h1).1, ha.bd, (HKF_good h2).1, fun c hc => ?_, ?_⟩
  · obtain ⟨i, hi, rfl⟩ := List.mem_iff_getElem.1 hc
    exact (hs.at hi).bd
  · unfold HKF at h2
    split at h2
    · cases h2
    · exact h2
theorem sap_tells {a : List ByteArray} {x : List S90} (ha : Small a) (hs : SmallH x) : Ev (fun k => spec_ApplyHunks.f k a x) (APH a x) := by
  unfold spec_ApplyHunks.f APH
  refine Ev_call ha.slf (Ev_if (fun h => ?_) (fun h => by rw [if_neg h]; exact Ev.now _))
  rw [if_pos h]
  refine Ev_call (shf_tells hs) (Ev_if (fun h2 => ?_) (fun h2 => by rw [if_neg h2]; exact Ev.now _))
  rw [if_pos h2]
  obtain ⟨g1, g2, g3, g4, g5⟩ := ap_hyp ha hs h h2
  have := sap_loop g1 g2 g3 g4 _ 0 0 0 [] rfl (by omega) (by omega) (by simp) (fun x hx => absurd hx (by simp)) g5
  rw [List.drop_zero] at this
  exact this
theorem iap_tells {a : List ByteArray} {x : List S90} (ha : Small a) (hs : SmallH x) : Ev (fun k => impl_ApplyHunks.f k a x) (APH a x) := by
  unfold impl_ApplyHunks.f APH
  refine Ev_call ha.ilf (Ev_call (ihf_tells hs) (Ev_call (first_tells _ (by simp)) ?_))
  by_cases h : LF a = 0
  · rw [if_pos h]
    have e : firstOf [LF a, HKF x] = HKF x := by
      simp only [firstOf]
      rw [if_pos h]
      split <;> omega
    rw [e]
    refine Ev_if (fun h2 => ?_) (fun h2 => by rw [if_neg h2]; exact Ev.now _)
    rw [if_pos h2]
    obtain ⟨g1, g2, g3, g4, g5⟩ := ap_hyp ha hs h h2
    have := iap_loop g1 g2 g3 g4 _ 0 0 0 [] rfl (by omega) (by omega) (by simp) (fun x hx => absurd hx (by simp)) g5
    rw [List.drop_zero] at this
    exact this
  · rw [if_neg h]
    have e : firstOf [LF a, HKF x] = LF a := by
      simp only [firstOf]
      rw [if_neg h]
    rw [e]
    exact Ev_neg h (Ev.now _)
theorem RLh_len (y : List ByteArray) : (RLh y).2.length ≤ 100 := by
  unfold RLh
  split
  · exact (LF_zero (by assumption)).1
  · simp
theorem apH_len (a : List ByteArray) : ∀ (x : List S90) (o : List ByteArray) (n : Nat), (apH a x o n).2.length ≤ 100 := by
  intro x
  induction x with
  | nil => intro o n; exact RLh_len _
  | cons h x ih =>
    intro o n
    rw [apH]
    split
    · simp
    · split
      · simp
      · exact ih _ _
theorem APH_len (a : List ByteArray) (x : List S90) : (APH a x).2.length ≤ 100 := by
  unfold APH
  split
  · split
    · exact apH_len _ _ _ _
    · simp
  · simp
end Go.Proofs.Ytjngmhngedecdaa.P
end
section
set_option linter.unusedVariables false
namespace Go.Proofs.Ytjngmhngedecdaa.P.VFnExactApplyHunks
open Go.RowKit Go.Proofs.YtjngmhngedecdaaW.PrintWords Go.Proofs.YtjngmhngedecdaaW.PrintLast
theorem proof : UFnExactApplyHunks.Pure := by
  intro l0 l1 g0 g1
  apply Ev.rounds
  unfold laws_FnExactApplyHunks.f
  obtain ⟨r, hr, hp⟩ := sz_tells l0 g0 1048576 (by omega) (by omega)
  refine Ev_call hr ?_
  rcases hp with hp | ⟨h0, h1, h2⟩
  · exact Ev_pos hp (Ev.now _)
  refine Ev_neg (by omega) ?_
  refine guard_hunks l1 (fun c hc => (g1.2 c hc).2.2) g1.1 r h0 h1 (fun r2 _ _ hs => ?_)
  have ha : Small l0 := ⟨g0.2, by omega, by omega⟩
  have t0 := to_tells l0 (by omega)
  have tc := tohs_tells hs
  have hn := APH_len l0 (l1.map ch3)
  have heq : Ev (fun k => laws_eqLinesResult.f k (APH l0 (l1.map ch3)).1 (APH l0 (l1.map ch3)).2 (APH l0 (l1.map ch3)).1 (APH l0 (l1.map ch3)).2) true := by
    unfold laws_eqLinesResult.f
    exact Ev_pos rfl (Ev_call (eq_tells _ (by omega)) (Ev_pos rfl (Ev.now _)))
  have hc : ∀ c ∈ l1.map ch3, c.f2.length ≤ 1048576 := fun c hc => by
    obtain ⟨i, hi, rfl⟩ := List.mem_iff_getElem.1 hc
    exact (hs.at hi).2.1
  have hmk : Ev (fun k => laws_markHunkS.f k (l1.map ch3) (((1 + l0.length : Nat) : Int))) (((_root_.Go.Proofs.Ytjngmhngedecdaa.P.hs (1 + l0.length) (l1.map ch3) : Nat) : Int), mkh (1 + l0.length) (l1.map ch3)) := by
    unfold laws_markHunkS.f
    have b1 := hs_le (l1.map ch3) (1 + l0.length) hc
    have b2 := hs.2.1
    exact markhs_loop (l1.map ch3) [] (1 + l0.length) (by simp only [List.length_nil]; omega) hc (by have : (l1.map ch3).length * 1048578 ≤ 1048576 * 1048578 := Nat.mul_le_mul_right _ b2; omega)
  refine Ev_call t0 (Ev_call tc (Ev_call (sap_tells ha hs) (Ev_call t0 (Ev_call tc (Ev_call (iap_tells ha hs) (Ev_call heq (Ev_pos rfl ?_)))))))
  refine Ev_call t0 (Ev_call (eq_tells l0 (by omega)) (Ev_pos rfl (Ev_call tc (Ev_call (eqhs_tells hs) (Ev_pos rfl ?_)))))
  refine Ev_call (mark_tells l0 1 (by omega) (by omega)) (Ev_call hmk (Ev_neg (by omega) (Ev_call heq ?_)))
  refine Ev.step (fun k => by rw [laws_FnExactApplyHunks.j0]) ?_
  refine Ev_neg (by simp) ?_
  have hm : Ev (fun k => laws_markLinesResult.f k (APH l0 (l1.map ch3)).1 (APH l0 (l1.map ch3)).2 1) (((1 + (APH l0 (l1.map ch3)).2.length : Nat) : Int), mks 1 (APH l0 (l1.map ch3)).2.length) := by
    unfold laws_markLinesResult.f
    exact Ev_call (mark_tells _ 1 (by omega) (by omega)) (Ev.now _)
  have hh : Ev (fun k => laws_heldLinesResult.f k (APH l0 (l1.map ch3)).1 (mks 1 (APH l0 (l1.map ch3)).2.length) 1) ((1 + (APH l0 (l1.map ch3)).2.length : Nat) : Int) := by
    unfold laws_heldLinesResult.f
    exact Ev_call (held_tells 1 _ (by omega) (by omega)) (Ev_neg (by omega) (Ev.now _))
  refine Ev_call hm (Ev_call hh (Ev_neg (by omega) (Ev_pos rfl ?_)))
  refine Ev_call t0 (Ev_call tc (Ev_call (iap_tells ha hs) (Ev_call heq (Ev_pos rfl ?_))))
  exact Ev_call hh (Ev_neg (by omega) (Ev_pos rfl (Ev.now _)))
end Go.Proofs.Ytjngmhngedecdaa.P.VFnExactApplyHunks
end
section
set_option linter.unusedVariables false
set_option linter.unusedSimpArgs false
namespace Go.Proofs.Ytjngmhngedecdaa.O
open Go.RowKit Go.ChangeShapes Go.WideShapes Go.Proofs.YtjngmhngedecdaaW.PrintWords
def Opens {α : Type} (P : Program) (t : TypeId) (d : Kd α) (G : α → Prop) : Prop :=
  P.cellsOf t = d.sz ∧ ∀ {H : Type} {enc : TypeId × Value → H} {w : World} {base : Nat} {spare : Nat → Bool} {held : Bool} {fuel : Nat} {cs : List Value} {x : DataW H × List MemPlace},
    DataW.trod enc P w base spare held fuel t cs = some x → ∃ a, d.K w a cs ∧ G a
theorem list_of {α : Type} {Q : Nat → α → Prop} : ∀ n : Nat, (∀ j, j < n → ∃ p, Q j p) → ∃ xs : List α, xs.length = n ∧ ∀ j p, xs[j]? = some p → Q j p
  | 0, _ => ⟨[], rfl, fun j p h => by simp at h⟩
  | n + 1, h => by
    obtain ⟨xs, hl, hx⟩ := list_of n (fun j hj => h j (Nat.lt_succ_of_lt hj))
    obtain ⟨p, hp⟩ := h n (Nat.lt_succ_self n)
    refine ⟨xs ++ [p], by simp [hl], fun j q hq => ?_⟩
    rcases Nat.lt_or_ge j xs.length with hj | hj
    · rw [List.getElem?_append_left hj] at hq
      exact hx j q hq
    · have hj' : j = xs.length := by
        have := (List.getElem?_eq_some_iff.1 hq).1
        rw [List.length_append, List.length_singleton] at this
        omega
      subst hj'
      have e : p = q := by simpa using hq
      subst e
      rw [hl]
      exact hp
theorem cells_get {w : World} {base : Nat} {a : Addr} {n : Nat} {cs : List Value} (h : w.cells? base a n = some cs) : cs.length = n ∧ ∀ i u, cs[i]? = some u → w.cell? (a.add i) = some u := by
  unfold World.cells? at h
  split at h
  · have hl := mapM_some_length h
    rw [List.length_range] at hl
    refine ⟨hl, fun i u hu => ?_⟩
    have hi : i < n := by
      have := (List.getElem?_eq_some_iff.1 hu).1
      omega
    have := mapM_some_get h i i (by simp [hi])
    rw [this, hu]
  · simp at h
theorem opens_int {P : Program} {t : TypeId} {k : IntKind} (ht : P.underlying t = some (.int k)) (hc : P.cellsOf t = 1) : Opens P t (Kd.int k) (fun x => (Lit.int k x).wf = true) :=
  ⟨hc, fun h => by
    obtain ⟨n, rfl, _, hw⟩ := DataW.trod_int ht h
    exact ⟨n, rfl, hw⟩⟩
theorem opens_string {P : Program} {t : TypeId} (ht : P.underlying t = some .string) (hc : P.cellsOf t = 1) : Opens P t Kd.string (fun s => s.size ≤ 9223372036854775807) :=
  ⟨hc, fun h => by
    obtain ⟨s, rfl, _, hw⟩ := DataW.trod_string ht h
    exact ⟨s, rfl, hw⟩⟩
theorem opens_slice {α : Type} {P : Program} {t e : TypeId} {d : Kd α} {G : α → Prop} (ht : P.underlying t = some (.slice e)) (hc : P.cellsOf t = 1) (he : Opens P e d G) :
    Opens P t (Kd.slice e d) (fun l => l.length ≤ 9223372036854775807 ∧ ∀ x ∈ l, G x) := by
  refine ⟨hc, fun {H enc w base spare held fuel cs x} h => ?_⟩
  rcases DataW.trod_slice ht h with ⟨rfl, _⟩ | ⟨a, len, cap, elems, rest, n, _, rfl, _, hb, hl, hm, hlen, hel, _, _⟩
  · exact ⟨[], ⟨none, 0, rfl, Nat.le_refl _, rfl, by simp, fun hp => absurd hp (by simp)⟩, by simp, by simp⟩
  · have hcap : cap ≤ 9223372036854775807 := hm
    obtain ⟨xs, hxl, hx⟩ := list_of (Q := fun j p => (∃ c : List Value, c.length = d.sz ∧ d.K w p c ∧ ∀ i u, c[i]? = some u → w.cell? (a.add (j * d.sz + i)) = some u) ∧ G p) len (fun j hj => by
      have h1 := hel j hj
      rw [List.getElem?_eq_getElem (by omega), Option.bind_eq_some_iff] at h1
      obtain ⟨cs', hcs, hy⟩ := h1
      obtain ⟨p, hK, hG⟩ := he.2 hy
      obtain ⟨hcl, hcell⟩ := cells_get hcs
      refine ⟨p, ⟨cs', by rw [hcl, he.1], hK, fun i u hu => ?_⟩, hG⟩
      have := hcell i u hu
      rw [he.1] at this
      rw [← Addr.add_add]
      exact this)
    have hlen2 : xs.length ≤ cap := by omega
    refine ⟨xs, ⟨some a, cap, ?_, hlen2, rfl, by omega, fun _ => ⟨a, rfl, fun j p hj => (hx j p hj).1⟩⟩, by omega, fun y hy => ?_⟩
    · rw [hxl]
    · obtain ⟨j, hj⟩ := List.getElem?_of_mem hy
      exact (hx j y hj).2
def OpensTail {α : Type} (P : Program) (fs : List Field) (off : Nat) (d : Kd α) (G : α → Prop) : Prop :=
  ∀ {H : Type} {enc : TypeId × Value → H} {w : World} {base : Nat} {spare : Nat → Bool} {held : Bool} {fuel : Nat} {cs : List Value},
    (∀ f ∈ fs, ∃ y, DataW.trod enc P w base spare held fuel f.type ((cs.drop f.offset).take (P.cellsOf f.type)) = some y) → cs.length = off + d.sz → ∃ a, d.K w a (cs.drop off) ∧ G a
theorem tail_one {α : Type} {P : Program} {f : Field} {off : Nat} {d : Kd α} {G : α → Prop} (ho : f.offset = off) (h : Opens P f.type d G) : OpensTail P [f] off d G := by
  intro H enc w base spare held fuel cs hy hl
  obtain ⟨y, hy⟩ := hy f (List.mem_singleton.2 rfl)
  obtain ⟨a, hK, hG⟩ := h.2 hy
  refine ⟨a, ?_, hG⟩
  rw [ho, h.1, List.take_of_length_le (by rw [List.length_drop]; omega)] at hK
  exact hK
theorem tail_cons {α β : Type} {P : Program} {f : Field} {fs : List Field} {off off2 : Nat} {d : Kd α} {d2 : Kd β} {G : α → Prop} {G2 : β → Prop} (ho : f.offset = off) (h : Opens P f.type d G) (ho2 : off2 = off + d.sz) (h2 : OpensTail P fs off2 d2 G2) :
    OpensTail P (f :: fs) off (Kd.pair d d2) (fun x => G x.1 ∧ G2 x.2) := by
  intro H enc w base spare held fuel cs hy hl
  obtain ⟨y, hy1⟩ := hy f List.mem_cons_self
  obtain ⟨a, hK, hG⟩ := h.2 hy1
  have hl' : cs.length = off2 + d2.sz := by rw [hl, ho2]; exact (Nat.add_assoc _ _ _).symm
  obtain ⟨b, hK2, hG2⟩ := h2 (fun f' hf' => hy f' (List.mem_cons_of_mem _ hf')) hl'
  refine ⟨(a, b), ⟨(cs.drop off).take d.sz, (cs.drop off).drop d.sz, (List.take_append_drop _ _).symm, ?_, ?_⟩, hG, hG2⟩
  · rw [ho, h.1] at hK
    exact hK
  · rw [List.drop_drop, ← ho2]
    exact hK2
theorem opens_struct {α β : Type} {P : Program} {t : TypeId} {fs : Array Field} {d : Kd α} {f : β → α} {g : α → β} {G : α → Prop} (ht : P.underlying t = some (.struct fs)) (hc : P.cellsOf t = d.sz) (hfg : ∀ a, f (g a) = a) (h : OpensTail P fs.toList 0 d G) :
    Opens P t (Kd.iso d f) (fun b => G (f b)) := by
  refine ⟨hc, fun {H enc w base spare held fuel cs x} hx => ?_⟩
  obtain ⟨xs, n, rfl, _, hl, hxl, hf⟩ := DataW.trod_struct ht hx
  obtain ⟨a, hK, hG⟩ := h (enc := enc) (w := w) (base := base) (spare := spare) (held := held) (fuel := n) (cs := cs) (fun f' hf' => by
    obtain ⟨i, hi⟩ := List.getElem?_of_mem hf'
    have hi' : fs[i]? = some f' := by simpa using hi
    have hlt : i < fs.size := (Array.getElem?_eq_some_iff.1 hi').1
    exact ⟨xs[i]'(by omega), by rw [hf i f' hi', List.getElem?_eq_getElem]⟩) (by rw [hl, hc, Nat.zero_add])
  refine ⟨g a, ?_, ?_⟩
  · show d.K w (f (g a)) cs
    rw [hfg]
    simpa using hK
  · show G (f (g a))
    rw [hfg]
    exact hG
end Go.Proofs.Ytjngmhngedecdaa.O
end
namespace Go.Proofs.Ytjngmhngedecdaa.fnExactApplyHunks
open Go.ChangeShapes Go.WideShapes Go.ChangeAt Go.RowKit
open Go.ChangeMaps (open_string shut_string)
open Go.Proofs.Ytjngmhngedecdaa.P Go.Proofs.Ytjngmhngedecdaa.P.UFnExactApplyHunks Go.Proofs.YtjngmhngedecdaaW.PrintWords
set_option linter.unusedVariables false
theorem own : ownKnob Try.prog.godebug = none := by kernel_rfl
theorem laidOut : laidOutB Try.prog = true := by kernel_rfl
set_option maxRecDepth 100000 in
theorem opens89 : O.Opens Try.prog 89 k89 (fun x => G89 x) := by
  have h := O.opens_struct (P := Try.prog) (t := 89) (f := fun x : S89 => (x.f0, x.f1, x.f2)) (g := fun a => (⟨a.1, a.2.1, a.2.2⟩ : S89)) Try.underlying89 (by kernel_rfl) (fun _ => rfl) (O.tail_cons rfl (O.opens_int Try.underlying2 (by kernel_rfl)) rfl (O.tail_cons rfl (O.opens_int Try.underlying2 (by kernel_rfl)) rfl (O.tail_one rfl (O.opens_slice Try.underlying34 (by kernel_rfl) (O.opens_string Try.underlying9 (by kernel_rfl))))))
  exact h
set_option maxRecDepth 100000 in
theorem lifted (os : Os) (started : os.Started) (H : Type) (enc : TypeId × Value → H) :
    ReturnsInHanded {} Try.checked os 4 .any (Rows.fnExactApplyHunksSpec.pre6 enc Try.prog Try.f4 Rows.fnExactApplyHunksRow.domain false) (Rows.fnExactApplyHunksSpec.post enc Try.prog Try.f4 false true false false) := by
  refine returnsInHanded_of_change_sized (C := Try.checked) own started (by kernel_rfl) Try.func4
    (ChangeSpec.witness6 (enc := enc) (C := Try.checked) false ⟨#[], #[.slice none 0 0, .slice none 0 0], []⟩ 8 (by kernel_rfl) (by kernel_rfl) (by kernel_rfl) (by kernel_rfl)) ?_
  intro W base args ds gs before hval0 hW hcnd hsz0 _
  have hval : ∀ (j : Nat) t v, Try.f4.params[j]? = some t → args[j]? = some v → Value.okWide Try.prog W .any base t v := hval0
  have hW' := hW
  obtain ⟨p, q, hA0, hV, rfl, hfz, hnd⟩ := hW
  have hA : DataW.TrodAll enc Try.prog W 0 (fun _ => true) true Try.f4.params.toList args.toList ds p := hA0
  rw [Try.params4] at hA hval
  obtain ⟨v0, vs0, d0, ds0, p0, q0, hargs, rfl, rfl, h0, r0⟩ := trodAll_cons hA
  obtain ⟨v1, vs1, d1, ds1, p1, q1, rfl, rfl, rfl, h1, r1⟩ := trodAll_cons r0
  obtain ⟨rfl, rfl, rfl⟩ := trodAll_nil r1
  obtain rfl : args = #[v0, v1] := by cases args; simp_all
  obtain ⟨rfl, rfl⟩ := trodVars_none hV
  have k0_ := h0
  have lt0 : ∀ x ∈ p0, x.block < W.heap.size := by obtain ⟨m, hm⟩ := k0_; exact DataW.trod_lt m _ _ _ hm
  obtain ⟨b0, len0, cap0, rfl⟩ := okWide_slice Try.underlying34 (hval 0 34 v0 rfl rfl)
  obtain ⟨fuel0, hf0⟩ := h0
  obtain ⟨l0, ⟨A0, c0, hcs0, hc0, hr0⟩, g0⟩ := (O.opens_slice Try.underlying34 (by kernel_rfl) (O.opens_string Try.underlying9 (by kernel_rfl))).2 hf0
  simp [Value.cells] at hcs0
  obtain ⟨rfl, rfl, rfl⟩ := hcs0
  have k1_ := h1
  have lt1 : ∀ x ∈ p1, x.block < W.heap.size := by obtain ⟨m, hm⟩ := k1_; exact DataW.trod_lt m _ _ _ hm
  obtain ⟨b1, len1, cap1, rfl⟩ := okWide_slice Try.underlying22 (hval 1 22 v1 rfl rfl)
  obtain ⟨fuel1, hf1⟩ := h1
  obtain ⟨l1, ⟨A1, c1, hcs1, hc1, hr1⟩, g1⟩ := (O.opens_slice Try.underlying22 (by kernel_rfl) opens89).2 hf1
  simp [Value.cells] at hcs1
  obtain ⟨rfl, rfl, rfl⟩ := hcs1
  clear hA0 hval0 hsz0
  obtain ⟨k, h⟩ := VFnExactApplyHunks.proof l0 l1 g0 g1
  refine (laws_FnExactApplyHunks.calls k _ _ l0 _ _ l1 true W hr0 hc0 hr1 hc1 h rfl).mono fun e W' hend => ?_
  obtain ⟨rfl, hbel⟩ := hend
  have bel : Below W.heap.size W W' := hbel
  exact ⟨_, rfl, _, _, _, [], _, [], hW', trodAll_mk1 (shut_bool Try.underlying4 _), (trodAll_cons_mk (Below.trod laidOut (by kernel_rfl) (of_decide_eq_true (by kernel_rfl)) k0_ bel lt0) (trodAll_cons_mk (Below.trod laidOut (by kernel_rfl) (of_decide_eq_true (by kernel_rfl)) k1_ bel lt1) trodAll_mk0)), rfl, bel.frame _, fun h => by cases h⟩
theorem over : Rows.fnExactApplyHunksRow.holds Try.pinned (OpenSpec.ofChange Rows.fnExactApplyHunksSpec) :=
  OpenClaim.holds_of_wide 4 Try.f4 rfl rfl rfl rfl rfl rfl rfl ⟨rfl, rfl, rfl, rfl, rfl⟩ rfl rfl rfl rfl rfl (by kernel_rfl) Try.func4 (by kernel_rfl)
    (of_decide_eq_true (by kernel_rfl)) (by unfold Func.isWrapper; first | (rw [if_pos (by decide +kernel)]; kernel_rfl) | (rw [if_neg (by decide +kernel)]; exact ⟨rfl, rfl⟩))
    (fun os started H enc _ => lifted os started H enc)
theorem proved : Rows.FnExactApplyHunksSaid := over
#print axioms proved
end Go.Proofs.Ytjngmhngedecdaa.fnExactApplyHunks
namespace Go.Proofs.Ytjngmhngedecdaa
theorem fnExactApplyHunks_holds : Rows.FnExactApplyHunksSaid := fnExactApplyHunks.proved
end Go.Proofs.Ytjngmhngedecdaa
