/- FnExactWeaveChanges: the law of the program holds at every input: the Go function returns true, and its arguments read afterwards as before.
Conditions: none beyond the given statement's own (what can be read as data, of a size that memory bears). -/
import Derived.Lib.Strings
import Derived.Lib.Bytealg
import Derived.Laws.BytesArg
import Derived.SliceStrings
import Derived.DataReads
import Derived.DataElems
import Derived.Test.YtihbalbcocfnfaaRows
import Derived.WalkKit
import Derived.ProofKit
import Derived.OpenShut
import Derived.ShutString
import Derived.ChangeOld
import Derived.Below
import Derived.SizedLaws
import Derived.Carry
import Derived.Test.YtihbalbcocfnfaaCFnExactWeaveChanges1
import Derived.Test.YtihbalbcocfnfaaCFnExactWeaveChanges2
import Derived.Test.YtihbalbcocfnfaaCFnExactWeaveChanges3
section
namespace Go.Proofs.Ytihbalbcocfnfaa.P
open Go.RowKit Go.Proofs.YtihbalbcocfnfaaW.PrintWords Go.Proofs.YtihbalbcocfnfaaW.PrintLast Go.Proofs.YtihbalbcocfnfaaW.PrintMore
set_option linter.unusedVariables false
set_option linter.unusedSimpArgs false
def laws_FnExactWeaveChanges.j0 : Nat → List ByteArray → List ByteArray → List (S73) → Bool → Int → List ByteArray → Int → List ByteArray → Option (Bool)
 | 0, _, _, _, _, _, _, _, _ => none
 | k + 1, x0, x1, x2, x84, x606000, x606001, x620000, x620001 => if x84 = true then (some false) else ((laws_markLinesResult.f k x620000 x620001 1).bind fun bt640 => ((laws_heldLinesResult.f k x620000 bt640.2 1).bind fun t642 => (if t642 < 0 then (some false) else (if t642 = bt640.1 then ((laws_toStringS.f k x0).bind fun t643 => ((laws_toStringS.f k x1).bind fun t646 => ((laws_toChangeS.f k x2).bind fun t649 => ((impl_WeaveChanges.f k t643 t646 t649).bind fun bt652 => ((laws_eqLinesResult.f k bt652.1 bt652.2 x606000 x606001).bind fun t657 => (if t657 = true then ((laws_heldLinesResult.f k x620000 bt640.2 1).bind fun t658 => (if t658 < 0 then (some false) else (if t658 = bt640.1 then (some true) else (some false)))) else (some false))))))) else (some false)))))
def laws_FnExactWeaveChanges.f (k : Nat) (l0 : List ByteArray) (l1 : List ByteArray) (l2 : List (S73)) : Option (Bool) := (laws_szStringS.f k l0 1048576).bind fun t589 => (if t589 < 0 then (some true) else ((laws_szStringS.f k l1 t589).bind fun t590 => (if t590 < 0 then (some true) else ((laws_szChangeS.f l2 t590).bind fun t591 => (if t591 < 0 then (some true) else ((laws_toStringS.f k l0).bind fun t592 => ((laws_toStringS.f k l1).bind fun t595 => ((laws_toChangeS.f k l2).bind fun t598 => ((spec_WeaveChanges.f k t592 t595 t598).bind fun bt601 => ((laws_toStringS.f k l0).bind fun t606 => ((laws_toStringS.f k l1).bind fun t609 => ((laws_toChangeS.f k l2).bind fun t612 => ((impl_WeaveChanges.f k t606 t609 t612).bind fun bt615 => ((laws_eqLinesResult.f k bt615.1 bt615.2 bt601.1 bt601.2).bind fun t620 => (if t620 = true then ((laws_toStringS.f k l0).bind fun t621 => ((laws_eqStringS.f k t606 t621).bind fun t624 => (if t624 = true then ((laws_toStringS.f k l1).bind fun t625 => ((laws_eqStringS.f k t609 t625).bind fun t628 => (if t628 = true then ((laws_toChangeS.f k l2).bind fun t629 => ((laws_eqChangeS.f k t612 t629).bind fun t632 => (if t632 = true then ((laws_markStringS.f k t606 1).bind fun bt633 => ((laws_markStringS.f k t609 bt633.1).bind fun bt635 => ((laws_markChangeS.f k t612 bt635.1).bind fun bt637 => (if bt637.1 < 0 then (laws_FnExactWeaveChanges.j0 k l0 l1 l2 true bt601.1 bt601.2 bt615.1 bt615.2) else ((laws_eqLinesResult.f k bt615.1 bt615.2 bt601.1 bt601.2).bind fun t639 => (laws_FnExactWeaveChanges.j0 k l0 l1 l2 (!t639) bt601.1 bt601.2 bt615.1 bt615.2)))))) else (some false)))) else (some false)))) else (some false)))) else (some false))))))))))))))))
set_option maxHeartbeats 8000000 in
set_option maxRecDepth 100000 in
theorem laws_FnExactWeaveChanges.calls (k : Nat) (A0 : Option Addr) (c0 : Nat) (l0 : List ByteArray) (A1 : Option Addr) (c1 : Nat) (l1 : List ByteArray) (A2 : Option Addr) (c2 : Nat) (l2 : List (S73)) (r : Bool) (w : World) (hr0 : Kd.C Kd.string w A0 l0.length l0) (hc0 : l0.length ≤ c0) (hr1 : Kd.C Kd.string w A1 l1.length l1) (hc1 : l1.length ≤ c1) (hr2 : Kd.C k73 w A2 l2.length l2) (hc2 : l2.length ≤ c2) (h : laws_FnExactWeaveChanges.f k l0 l1 l2 = some r) (hlaw : r = true) :
  Calls Try.prog 8 #[.slice A0 l0.length c0, .slice A1 l1.length c1, .slice A2 l2.length c2] w fun e w' => e = .returned (.bool r) ∧ Below w.heap.size w w' := by
 have hu49 := Try.underlying49
 have HR0 := Aside0.mk hr0
 have HC0 := Aside0.mk hc0
 clear hr0 hc0
 have HR1 := Aside0.mk hr1
 have HC1 := Aside0.mk hc1
 clear hr1 hc1
 have HR2 := Aside0.mk hr2
 have HC2 := Aside0.mk hc2
 clear hr2 hc2
 have HB := Aside0.mk (Below.refl w.heap.size w)
 have HLAW := Aside0.mk hlaw
 clear hlaw
 have H : ((laws_szStringS.f k l0 1048576).bind fun t589 => (if t589 < 0 then (some true) else ((laws_szStringS.f k l1 t589).bind fun t590 => (if t590 < 0 then (some true) else ((laws_szChangeS.f l2 t590).bind fun t591 => (if t591 < 0 then (some true) else ((laws_toStringS.f k l0).bind fun t592 => ((laws_toStringS.f k l1).bind fun t595 => ((laws_toChangeS.f k l2).bind fun t598 => ((spec_WeaveChanges.f k t592 t595 t598).bind fun bt601 => ((laws_toStringS.f k l0).bind fun t606 => ((laws_toStringS.f k l1).bind fun t609 => ((laws_toChangeS.f k l2).bind fun t612 => ((impl_WeaveChanges.f k t606 t609 t612).bind fun bt615 => ((laws_eqLinesResult.f k bt615.1 bt615.2 bt601.1 bt601.2).bind fun t620 => (if t620 = true then ((laws_toStringS.f k l0).bind fun t621 => ((laws_eqStringS.f k t606 t621).bind fun t624 => (if t624 = true then ((laws_toStringS.f k l1).bind fun t625 => ((laws_eqStringS.f k t609 t625).bind fun t628 => (if t628 = true then ((laws_toChangeS.f k l2).bind fun t629 => ((laws_eqChangeS.f k t612 t629).bind fun t632 => (if t632 = true then ((laws_markStringS.f k t606 1).bind fun bt633 => ((laws_markStringS.f k t609 bt633.1).bind fun bt635 => ((laws_markChangeS.f k t612 bt635.1).bind fun bt637 => (if bt637.1 < 0 then (laws_FnExactWeaveChanges.j0 k l0 l1 l2 true bt601.1 bt601.2 bt615.1 bt615.2) else ((laws_eqLinesResult.f k bt615.1 bt615.2 bt601.1 bt601.2).bind fun t639 => (laws_FnExactWeaveChanges.j0 k l0 l1 l2 (!t639) bt601.1 bt601.2 bt615.1 bt615.2)))))) else (some false)))) else (some false)))) else (some false)))) else (some false))))))))))))))))) = some r := h
 clear h
 replace H := Option.bind_eq_some_iff.mp H
 obtain ⟨t589, A40, H⟩ := H
 replace H : (if t589 < 0 then (some true) else ((laws_szStringS.f k l1 t589).bind fun t590 => (if t590 < 0 then (some true) else ((laws_szChangeS.f l2 t590).bind fun t591 => (if t591 < 0 then (some true) else ((laws_toStringS.f k l0).bind fun t592 => ((laws_toStringS.f k l1).bind fun t595 => ((laws_toChangeS.f k l2).bind fun t598 => ((spec_WeaveChanges.f k t592 t595 t598).bind fun bt601 => ((laws_toStringS.f k l0).bind fun t606 => ((laws_toStringS.f k l1).bind fun t609 => ((laws_toChangeS.f k l2).bind fun t612 => ((impl_WeaveChanges.f k t606 t609 t612).bind fun bt615 => ((laws_eqLinesResult.f k bt615.1 bt615.2 bt601.1 bt601.2).bind fun t620 => (if t620 = true then ((laws_toStringS.f k l0).bind fun t621 => ((laws_eqStringS.f k t606 t621).bind fun t624 => (if t624 = true then ((laws_toStringS.f k l1).bind fun t625 => ((laws_eqStringS.f k t609 t625).bind fun t628 => (if t628 = true then ((laws_toChangeS.f k l2).bind fun t629 => ((laws_eqChangeS.f k t612 t629).bind fun t632 => (if t632 = true then ((laws_markStringS.f k t606 1).bind fun bt633 => ((laws_markStringS.f k t609 bt633.1).bind fun bt635 => ((laws_markChangeS.f k t612 bt635.1).bind fun bt637 => (if bt637.1 < 0 then (laws_FnExactWeaveChanges.j0 k l0 l1 l2 true bt601.1 bt601.2 bt615.1 bt615.2) else ((laws_eqLinesResult.f k bt615.1 bt615.2 bt601.1 bt601.2).bind fun t639 => (laws_FnExactWeaveChanges.j0 k l0 l1 l2 (!t639) bt601.1 bt601.2 bt615.1 bt615.2)))))) else (some false)))) else (some false)))) else (some false)))) else (some false)))))))))))))))) = some r := H
 have A4 := Aside0.mk A40
 clear A40
 by_cases c5 : t589 < 0
 ·rw [if_pos c5] at H
  have c5b0 : decide (t589 < 0) = true := decide_eq_true c5
  clear c5
  obtain rfl := Option.some.inj H
  go_enter Try.func8, Try.ntmps8
  go_wp2_with (first | ((with_reducible refine gate_callee (f := 13) rfl ?_); refine goesL_ (some 19) rfl rfl Try.func13 (by kernel_rfl) rfl #[.slice A0 l0.length c0, .int .i64 1048576] rfl (by (try simp only [List.map_toArray, List.map_cons, List.map_nil]); first | done | rfl | (simp only [List.length_drop, List.length_take]; rfl)) ?_; (with_reducible refine (laws_szStringS.calls k _ _ l0 1048576 t589 _ ?side1 ?side2 A4.out).mono ?_); (case side1 => repeat (first | exact HR0.out | (with_reducible refine Kd.C_alloc ?_ _) | (with_reducible refine Kd.C_drewN ?_ _) | (with_reducible refine Kd.C_drew ?_))); (case side2 => exact HC0.out); rintro e w' ⟨rfl, ⟨nd, rfl⟩⟩; refine ⟨_, rfl, ?_⟩))
  go_ret
  exact ⟨by first | rfl | (simp [errW_none, errW_some] <;> rfl) | (simp [*, errW_none, errW_some] <;> rfl), by repeat (first | (with_reducible first | exact HB.out | apply below_alloc | apply pw_below_drewN | apply below_drew1) | exact HB.out)⟩
 ·rw [if_neg c5] at H
  have c5b0 : decide (t589 < 0) = false := decide_eq_false c5
  clear c5
  replace H := Option.bind_eq_some_iff.mp H
  obtain ⟨t590, A60, H⟩ := H
  replace H : (if t590 < 0 then (some true) else ((laws_szChangeS.f l2 t590).bind fun t591 => (if t591 < 0 then (some true) else ((laws_toStringS.f k l0).bind fun t592 => ((laws_toStringS.f k l1).bind fun t595 => ((laws_toChangeS.f k l2).bind fun t598 => ((spec_WeaveChanges.f k t592 t595 t598).bind fun bt601 => ((laws_toStringS.f k l0).bind fun t606 => ((laws_toStringS.f k l1).bind fun t609 => ((laws_toChangeS.f k l2).bind fun t612 => ((impl_WeaveChanges.f k t606 t609 t612).bind fun bt615 => ((laws_eqLinesResult.f k bt615.1 bt615.2 bt601.1 bt601.2).bind fun t620 => (if t620 = true then ((laws_toStringS.f k l0).bind fun t621 => ((laws_eqStringS.f k t606 t621).bind fun t624 => (if t624 = true then ((laws_toStringS.f k l1).bind fun t625 => ((laws_eqStringS.f k t609 t625).bind fun t628 => (if t628 = true then ((laws_toChangeS.f k l2).bind fun t629 => ((laws_eqChangeS.f k t612 t629).bind fun t632 => (if t632 = true then ((laws_markStringS.f k t606 1).bind fun bt633 => ((laws_markStringS.f k t609 bt633.1).bind fun bt635 => ((laws_markChangeS.f k t612 bt635.1).bind fun bt637 => (if bt637.1 < 0 then (laws_FnExactWeaveChanges.j0 k l0 l1 l2 true bt601.1 bt601.2 bt615.1 bt615.2) else ((laws_eqLinesResult.f k bt615.1 bt615.2 bt601.1 bt601.2).bind fun t639 => (laws_FnExactWeaveChanges.j0 k l0 l1 l2 (!t639) bt601.1 bt601.2 bt615.1 bt615.2)))))) else (some false)))) else (some false)))) else (some false)))) else (some false)))))))))))))) = some r := H
  have A6 := Aside0.mk A60
  clear A60
  by_cases c7 : t590 < 0
  ·rw [if_pos c7] at H
   have c7b0 : decide (t590 < 0) = true := decide_eq_true c7
   clear c7
   obtain rfl := Option.some.inj H
   go_enter Try.func8, Try.ntmps8
   go_wp2_with (first | ((with_reducible refine gate_callee (f := 13) rfl ?_); refine goesL_ (some 19) rfl rfl Try.func13 (by kernel_rfl) rfl #[.slice A0 l0.length c0, .int .i64 1048576] rfl (by (try simp only [List.map_toArray, List.map_cons, List.map_nil]); first | done | rfl | (simp only [List.length_drop, List.length_take]; rfl)) ?_; (with_reducible refine (laws_szStringS.calls k _ _ l0 1048576 t589 _ ?side1 ?side2 A4.out).mono ?_); (case side1 => repeat (first | exact HR0.out | (with_reducible refine Kd.C_alloc ?_ _) | (with_reducible refine Kd.C_drewN ?_ _) | (with_reducible refine Kd.C_drew ?_))); (case side2 => exact HC0.out); rintro e w' ⟨rfl, ⟨nd, rfl⟩⟩; refine ⟨_, rfl, ?_⟩) | ((with_reducible refine gate_callee (f := 13) rfl ?_); refine goesL_ (some 24) rfl rfl Try.func13 (by kernel_rfl) rfl #[.slice A1 l1.length c1, .int .i64 t589] rfl (by (try simp only [List.map_toArray, List.map_cons, List.map_nil]); first | done | rfl | (simp only [List.length_drop, List.length_take]; rfl)) ?_; (with_reducible refine (laws_szStringS.calls k _ _ l1 t589 t590 _ ?side1 ?side2 A6.out).mono ?_); (case side1 => repeat (first | exact HR1.out | (with_reducible refine Kd.C_alloc ?_ _) | (with_reducible refine Kd.C_drewN ?_ _) | (with_reducible refine Kd.C_drew ?_))); (case side2 => exact HC1.out); rintro e w' ⟨rfl, ⟨nd, rfl⟩⟩; refine ⟨_, rfl, ?_⟩))
   go_ret
   exact ⟨by first | rfl | (simp [errW_none, errW_some] <;> rfl) | (simp [*, errW_none, errW_some] <;> rfl), by repeat (first | (with_reducible first | exact HB.out | apply below_alloc | apply pw_below_drewN | apply below_drew1) | exact HB.out)⟩
  ·rw [if_neg c7] at H
   have c7b0 : decide (t590 < 0) = false := decide_eq_false c7
   clear c7
   replace H := Option.bind_eq_some_iff.mp H
   obtain ⟨t591, A80, H⟩ := H
   replace H : (if t591 < 0 then (some true) else ((laws_toStringS.f k l0).bind fun t592 => ((laws_toStringS.f k l1).bind fun t595 => ((laws_toChangeS.f k l2).bind fun t598 => ((spec_WeaveChanges.f k t592 t595 t598).bind fun bt601 => ((laws_toStringS.f k l0).bind fun t606 => ((laws_toStringS.f k l1).bind fun t609 => ((laws_toChangeS.f k l2).bind fun t612 => ((impl_WeaveChanges.f k t606 t609 t612).bind fun bt615 => ((laws_eqLinesResult.f k bt615.1 bt615.2 bt601.1 bt601.2).bind fun t620 => (if t620 = true then ((laws_toStringS.f k l0).bind fun t621 => ((laws_eqStringS.f k t606 t621).bind fun t624 => (if t624 = true then ((laws_toStringS.f k l1).bind fun t625 => ((laws_eqStringS.f k t609 t625).bind fun t628 => (if t628 = true then ((laws_toChangeS.f k l2).bind fun t629 => ((laws_eqChangeS.f k t612 t629).bind fun t632 => (if t632 = true then ((laws_markStringS.f k t606 1).bind fun bt633 => ((laws_markStringS.f k t609 bt633.1).bind fun bt635 => ((laws_markChangeS.f k t612 bt635.1).bind fun bt637 => (if bt637.1 < 0 then (laws_FnExactWeaveChanges.j0 k l0 l1 l2 true bt601.1 bt601.2 bt615.1 bt615.2) else ((laws_eqLinesResult.f k bt615.1 bt615.2 bt601.1 bt601.2).bind fun t639 => (laws_FnExactWeaveChanges.j0 k l0 l1 l2 (!t639) bt601.1 bt601.2 bt615.1 bt615.2)))))) else (some false)))) else (some false)))) else (some false)))) else (some false)))))))))))) = some r := H
   have A8 := Aside0.mk A80
   clear A80
   by_cases c9 : t591 < 0
   ·rw [if_pos c9] at H
    have c9b0 : decide (t591 < 0) = true := decide_eq_true c9
    clear c9
    obtain rfl := Option.some.inj H
    go_enter Try.func8, Try.ntmps8
    go_wp2_with (first | ((with_reducible refine gate_callee (f := 13) rfl ?_); refine goesL_ (some 19) rfl rfl Try.func13 (by kernel_rfl) rfl #[.slice A0 l0.length c0, .int .i64 1048576] rfl (by (try simp only [List.map_toArray, List.map_cons, List.map_nil]); first | done | rfl | (simp only [List.length_drop, List.length_take]; rfl)) ?_; (with_reducible refine (laws_szStringS.calls k _ _ l0 1048576 t589 _ ?side1 ?side2 A4.out).mono ?_); (case side1 => repeat (first | exact HR0.out | (with_reducible refine Kd.C_alloc ?_ _) | (with_reducible refine Kd.C_drewN ?_ _) | (with_reducible refine Kd.C_drew ?_))); (case side2 => exact HC0.out); rintro e w' ⟨rfl, ⟨nd, rfl⟩⟩; refine ⟨_, rfl, ?_⟩) | ((with_reducible refine gate_callee (f := 13) rfl ?_); refine goesL_ (some 24) rfl rfl Try.func13 (by kernel_rfl) rfl #[.slice A1 l1.length c1, .int .i64 t589] rfl (by (try simp only [List.map_toArray, List.map_cons, List.map_nil]); first | done | rfl | (simp only [List.length_drop, List.length_take]; rfl)) ?_; (with_reducible refine (laws_szStringS.calls k _ _ l1 t589 t590 _ ?side1 ?side2 A6.out).mono ?_); (case side1 => repeat (first | exact HR1.out | (with_reducible refine Kd.C_alloc ?_ _) | (with_reducible refine Kd.C_drewN ?_ _) | (with_reducible refine Kd.C_drew ?_))); (case side2 => exact HC1.out); rintro e w' ⟨rfl, ⟨nd, rfl⟩⟩; refine ⟨_, rfl, ?_⟩) | ((with_reducible refine gate_callee (f := 24) rfl ?_); refine goesL_ (some 29) rfl rfl Try.func24 (by kernel_rfl) rfl #[.slice A2 l2.length c2, .int .i64 t590] rfl (by (try simp only [List.map_toArray, List.map_cons, List.map_nil]); first | done | rfl | (simp only [List.length_drop, List.length_take]; rfl)) ?_; (with_reducible refine (laws_szChangeS.calls _ _ l2 t590 t591 _ ?side1 ?side2 A8.out).mono ?_); (case side1 => repeat (first | exact HR2.out | (with_reducible refine Kd.C_alloc ?_ _) | (with_reducible refine Kd.C_drewN ?_ _) | (with_reducible refine Kd.C_drew ?_))); (case side2 => exact HC2.out); rintro e w' ⟨rfl, ⟨nd, rfl⟩⟩; refine ⟨_, rfl, ?_⟩))
    go_ret
    exact ⟨by first | rfl | (simp [errW_none, errW_some] <;> rfl) | (simp [*, errW_none, errW_some] <;> rfl), by repeat (first | (with_reducible first | exact HB.out | apply below_alloc | apply pw_below_drewN | apply below_drew1) | exact HB.out)⟩
   ·rw [if_neg c9] at H
    have c9b0 : decide (t591 < 0) = false := decide_eq_false c9
    clear c9
    replace H := Option.bind_eq_some_iff.mp H
    obtain ⟨t592, A100, H⟩ := H
    replace H : ((laws_toStringS.f k l1).bind fun t595 => ((laws_toChangeS.f k l2).bind fun t598 => ((spec_WeaveChanges.f k t592 t595 t598).bind fun bt601 => ((laws_toStringS.f k l0).bind fun t606 => ((laws_toStringS.f k l1).bind fun t609 => ((laws_toChangeS.f k l2).bind fun t612 => ((impl_WeaveChanges.f k t606 t609 t612).bind fun bt615 => ((laws_eqLinesResult.f k bt615.1 bt615.2 bt601.1 bt601.2).bind fun t620 => (if t620 = true then ((laws_toStringS.f k l0).bind fun t621 => ((laws_eqStringS.f k t606 t621).bind fun t624 => (if t624 = true then ((laws_toStringS.f k l1).bind fun t625 => ((laws_eqStringS.f k t609 t625).bind fun t628 => (if t628 = true then ((laws_toChangeS.f k l2).bind fun t629 => ((laws_eqChangeS.f k t612 t629).bind fun t632 => (if t632 = true then ((laws_markStringS.f k t606 1).bind fun bt633 => ((laws_markStringS.f k t609 bt633.1).bind fun bt635 => ((laws_markChangeS.f k t612 bt635.1).bind fun bt637 => (if bt637.1 < 0 then (laws_FnExactWeaveChanges.j0 k l0 l1 l2 true bt601.1 bt601.2 bt615.1 bt615.2) else ((laws_eqLinesResult.f k bt615.1 bt615.2 bt601.1 bt601.2).bind fun t639 => (laws_FnExactWeaveChanges.j0 k l0 l1 l2 (!t639) bt601.1 bt601.2 bt615.1 bt615.2)))))) else (some false)))) else (some false)))) else (some false)))) else (some false)))))))))) = some r := H
    have A10 := Aside0.mk A100
    clear A100
    replace H := Option.bind_eq_some_iff.mp H
    obtain ⟨t595, A110, H⟩ := H
    replace H : ((laws_toChangeS.f k l2).bind fun t598 => ((spec_WeaveChanges.f k t592 t595 t598).bind fun bt601 => ((laws_toStringS.f k l0).bind fun t606 => ((laws_toStringS.f k l1).bind fun t609 => ((laws_toChangeS.f k l2).bind fun t612 => ((impl_WeaveChanges.f k t606 t609 t612).bind fun bt615 => ((laws_eqLinesResult.f k bt615.1 bt615.2 bt601.1 bt601.2).bind fun t620 => (if t620 = true then ((laws_toStringS.f k l0).bind fun t621 => ((laws_eqStringS.f k t606 t621).bind fun t624 => (if t624 = true then ((laws_toStringS.f k l1).bind fun t625 => ((laws_eqStringS.f k t609 t625).bind fun t628 => (if t628 = true then ((laws_toChangeS.f k l2).bind fun t629 => ((laws_eqChangeS.f k t612 t629).bind fun t632 => (if t632 = true then ((laws_markStringS.f k t606 1).bind fun bt633 => ((laws_markStringS.f k t609 bt633.1).bind fun bt635 => ((laws_markChangeS.f k t612 bt635.1).bind fun bt637 => (if bt637.1 < 0 then (laws_FnExactWeaveChanges.j0 k l0 l1 l2 true bt601.1 bt601.2 bt615.1 bt615.2) else ((laws_eqLinesResult.f k bt615.1 bt615.2 bt601.1 bt601.2).bind fun t639 => (laws_FnExactWeaveChanges.j0 k l0 l1 l2 (!t639) bt601.1 bt601.2 bt615.1 bt615.2)))))) else (some false)))) else (some false)))) else (some false)))) else (some false))))))))) = some r := H
    have A11 := Aside0.mk A110
    clear A110
    replace H := Option.bind_eq_some_iff.mp H
    obtain ⟨t598, A120, H⟩ := H
    replace H : ((spec_WeaveChanges.f k t592 t595 t598).bind fun bt601 => ((laws_toStringS.f k l0).bind fun t606 => ((laws_toStringS.f k l1).bind fun t609 => ((laws_toChangeS.f k l2).bind fun t612 => ((impl_WeaveChanges.f k t606 t609 t612).bind fun bt615 => ((laws_eqLinesResult.f k bt615.1 bt615.2 bt601.1 bt601.2).bind fun t620 => (if t620 = true then ((laws_toStringS.f k l0).bind fun t621 => ((laws_eqStringS.f k t606 t621).bind fun t624 => (if t624 = true then ((laws_toStringS.f k l1).bind fun t625 => ((laws_eqStringS.f k t609 t625).bind fun t628 => (if t628 = true then ((laws_toChangeS.f k l2).bind fun t629 => ((laws_eqChangeS.f k t612 t629).bind fun t632 => (if t632 = true then ((laws_markStringS.f k t606 1).bind fun bt633 => ((laws_markStringS.f k t609 bt633.1).bind fun bt635 => ((laws_markChangeS.f k t612 bt635.1).bind fun bt637 => (if bt637.1 < 0 then (laws_FnExactWeaveChanges.j0 k l0 l1 l2 true bt601.1 bt601.2 bt615.1 bt615.2) else ((laws_eqLinesResult.f k bt615.1 bt615.2 bt601.1 bt601.2).bind fun t639 => (laws_FnExactWeaveChanges.j0 k l0 l1 l2 (!t639) bt601.1 bt601.2 bt615.1 bt615.2)))))) else (some false)))) else (some false)))) else (some false)))) else (some false)))))))) = some r := H
    have A12 := Aside0.mk A120
    clear A120
    replace H := Option.bind_eq_some_iff.mp H
    obtain ⟨⟨t601, t602⟩, A130, H⟩ := H
    replace H : ((laws_toStringS.f k l0).bind fun t606 => ((laws_toStringS.f k l1).bind fun t609 => ((laws_toChangeS.f k l2).bind fun t612 => ((impl_WeaveChanges.f k t606 t609 t612).bind fun bt615 => ((laws_eqLinesResult.f k bt615.1 bt615.2 t601 t602).bind fun t620 => (if t620 = true then ((laws_toStringS.f k l0).bind fun t621 => ((laws_eqStringS.f k t606 t621).bind fun t624 => (if t624 = true then ((laws_toStringS.f k l1).bind fun t625 => ((laws_eqStringS.f k t609 t625).bind fun t628 => (if t628 = true then ((laws_toChangeS.f k l2).bind fun t629 => ((laws_eqChangeS.f k t612 t629).bind fun t632 => (if t632 = true then ((laws_markStringS.f k t606 1).bind fun bt633 => ((laws_markStringS.f k t609 bt633.1).bind fun bt635 => ((laws_markChangeS.f k t612 bt635.1).bind fun bt637 => (if bt637.1 < 0 then (laws_FnExactWeaveChanges.j0 k l0 l1 l2 true t601 t602 bt615.1 bt615.2) else ((laws_eqLinesResult.f k bt615.1 bt615.2 t601 t602).bind fun t639 => (laws_FnExactWeaveChanges.j0 k l0 l1 l2 (!t639) t601 t602 bt615.1 bt615.2)))))) else (some false)))) else (some false)))) else (some false)))) else (some false))))))) = some r := H
    have A13 := Aside0.mk A130
    clear A130
    replace H := Option.bind_eq_some_iff.mp H
    obtain ⟨t606, A140, H⟩ := H
    replace H : ((laws_toStringS.f k l1).bind fun t609 => ((laws_toChangeS.f k l2).bind fun t612 => ((impl_WeaveChanges.f k t606 t609 t612).bind fun bt615 => ((laws_eqLinesResult.f k bt615.1 bt615.2 t601 t602).bind fun t620 => (if t620 = true then ((laws_toStringS.f k l0).bind fun t621 => ((laws_eqStringS.f k t606 t621).bind fun t624 => (if t624 = true then ((laws_toStringS.f k l1).bind fun t625 => ((laws_eqStringS.f k t609 t625).bind fun t628 => (if t628 = true then ((laws_toChangeS.f k l2).bind fun t629 => ((laws_eqChangeS.f k t612 t629).bind fun t632 => (if t632 = true then ((laws_markStringS.f k t606 1).bind fun bt633 => ((laws_markStringS.f k t609 bt633.1).bind fun bt635 => ((laws_markChangeS.f k t612 bt635.1).bind fun bt637 => (if bt637.1 < 0 then (laws_FnExactWeaveChanges.j0 k l0 l1 l2 true t601 t602 bt615.1 bt615.2) else ((laws_eqLinesResult.f k bt615.1 bt615.2 t601 t602).bind fun t639 => (laws_FnExactWeaveChanges.j0 k l0 l1 l2 (!t639) t601 t602 bt615.1 bt615.2)))))) else (some false)))) else (some false)))) else (some false)))) else (some false)))))) = some r := H
    have A14 := Aside0.mk A140
    clear A140
    replace H := Option.bind_eq_some_iff.mp H
    obtain ⟨t609, A150, H⟩ := H
    replace H : ((laws_toChangeS.f k l2).bind fun t612 => ((impl_WeaveChanges.f k t606 t609 t612).bind fun bt615 => ((laws_eqLinesResult.f k bt615.1 bt615.2 t601 t602).bind fun t620 => (if t620 = true then ((laws_toStringS.f k l0).bind fun t621 => ((laws_eqStringS.f k t606 t621).bind fun t624 => (if t624 = true then ((laws_toStringS.f k l1).bind fun t625 => ((laws_eqStringS.f k t609 t625).bind fun t628 => (if t628 = true then ((laws_toChangeS.f k l2).bind fun t629 => ((laws_eqChangeS.f k t612 t629).bind fun t632 => (if t632 = true then ((laws_markStringS.f k t606 1).bind fun bt633 => ((laws_markStringS.f k t609 bt633.1).bind fun bt635 => ((laws_markChangeS.f k t612 bt635.1).bind fun bt637 => (if bt637.1 < 0 then (laws_FnExactWeaveChanges.j0 k l0 l1 l2 true t601 t602 bt615.1 bt615.2) else ((laws_eqLinesResult.f k bt615.1 bt615.2 t601 t602).bind fun t639 => (laws_FnExactWeaveChanges.j0 k l0 l1 l2 (!t639) t601 t602 bt615.1 bt615.2)))))) else (some false)))) else (some false)))) else (some false)))) else (some false))))) = some r := H
    have A15 := Aside0.mk A150
    clear A150
    replace H := Option.bind_eq_some_iff.mp H
    obtain ⟨t612, A160, H⟩ := H
    replace H : ((impl_WeaveChanges.f k t606 t609 t612).bind fun bt615 => ((laws_eqLinesResult.f k bt615.1 bt615.2 t601 t602).bind fun t620 => (if t620 = true then ((laws_toStringS.f k l0).bind fun t621 => ((laws_eqStringS.f k t606 t621).bind fun t624 => (if t624 = true then ((laws_toStringS.f k l1).bind fun t625 => ((laws_eqStringS.f k t609 t625).bind fun t628 => (if t628 = true then ((laws_toChangeS.f k l2).bind fun t629 => ((laws_eqChangeS.f k t612 t629).bind fun t632 => (if t632 = true then ((laws_markStringS.f k t606 1).bind fun bt633 => ((laws_markStringS.f k t609 bt633.1).bind fun bt635 => ((laws_markChangeS.f k t612 bt635.1).bind fun bt637 => (if bt637.1 < 0 then (laws_FnExactWeaveChanges.j0 k l0 l1 l2 true t601 t602 bt615.1 bt615.2) else ((laws_eqLinesResult.f k bt615.1 bt615.2 t601 t602).bind fun t639 => (laws_FnExactWeaveChanges.j0 k l0 l1 l2 (!t639) t601 t602 bt615.1 bt615.2)))))) else (some false)))) else (some false)))) else (some false)))) else (some false)))) = some r := H
    have A16 := Aside0.mk A160
    clear A160
    replace H := Option.bind_eq_some_iff.mp H
    obtain ⟨⟨t615, t616⟩, A170, H⟩ := H
    replace H : ((laws_eqLinesResult.f k t615 t616 t601 t602).bind fun t620 => (if t620 = true then ((laws_toStringS.f k l0).bind fun t621 => ((laws_eqStringS.f k t606 t621).bind fun t624 => (if t624 = true then ((laws_toStringS.f k l1).bind fun t625 => ((laws_eqStringS.f k t609 t625).bind fun t628 => (if t628 = true then ((laws_toChangeS.f k l2).bind fun t629 => ((laws_eqChangeS.f k t612 t629).bind fun t632 => (if t632 = true then ((laws_markStringS.f k t606 1).bind fun bt633 => ((laws_markStringS.f k t609 bt633.1).bind fun bt635 => ((laws_markChangeS.f k t612 bt635.1).bind fun bt637 => (if bt637.1 < 0 then (laws_FnExactWeaveChanges.j0 k l0 l1 l2 true t601 t602 t615 t616) else ((laws_eqLinesResult.f k t615 t616 t601 t602).bind fun t639 => (laws_FnExactWeaveChanges.j0 k l0 l1 l2 (!t639) t601 t602 t615 t616)))))) else (some false)))) else (some false)))) else (some false)))) else (some false))) = some r := H
    have A17 := Aside0.mk A170
    clear A170
    replace H := Option.bind_eq_some_iff.mp H
    obtain ⟨t620, A180, H⟩ := H
    replace H : (if t620 = true then ((laws_toStringS.f k l0).bind fun t621 => ((laws_eqStringS.f k t606 t621).bind fun t624 => (if t624 = true then ((laws_toStringS.f k l1).bind fun t625 => ((laws_eqStringS.f k t609 t625).bind fun t628 => (if t628 = true then ((laws_toChangeS.f k l2).bind fun t629 => ((laws_eqChangeS.f k t612 t629).bind fun t632 => (if t632 = true then ((laws_markStringS.f k t606 1).bind fun bt633 => ((laws_markStringS.f k t609 bt633.1).bind fun bt635 => ((laws_markChangeS.f k t612 bt635.1).bind fun bt637 => (if bt637.1 < 0 then (laws_FnExactWeaveChanges.j0 k l0 l1 l2 true t601 t602 t615 t616) else ((laws_eqLinesResult.f k t615 t616 t601 t602).bind fun t639 => (laws_FnExactWeaveChanges.j0 k l0 l1 l2 (!t639) t601 t602 t615 t616)))))) else (some false)))) else (some false)))) else (some false)))) else (some false)) = some r := H
    have A18 := Aside0.mk A180
    clear A180
    by_cases c19 : t620 = true
    ·subst c19
     have H1 : ((laws_toStringS.f k l0).bind fun t621 => ((laws_eqStringS.f k t606 t621).bind fun t624 => (if t624 = true then ((laws_toStringS.f k l1).bind fun t625 => ((laws_eqStringS.f k t609 t625).bind fun t628 => (if t628 = true then ((laws_toChangeS.f k l2).bind fun t629 => ((laws_eqChangeS.f k t612 t629).bind fun t632 => (if t632 = true then ((laws_markStringS.f k t606 1).bind fun bt633 => ((laws_markStringS.f k t609 bt633.1).bind fun bt635 => ((laws_markChangeS.f k t612 bt635.1).bind fun bt637 => (if bt637.1 < 0 then (laws_FnExactWeaveChanges.j0 k l0 l1 l2 true t601 t602 t615 t616) else ((laws_eqLinesResult.f k t615 t616 t601 t602).bind fun t639 => (laws_FnExactWeaveChanges.j0 k l0 l1 l2 (!t639) t601 t602 t615 t616)))))) else (some false)))) else (some false)))) else (some false)))) = some r := by rw [if_pos rfl] at H; exact H
     clear H
     have H := H1
     clear H1
     replace H := Option.bind_eq_some_iff.mp H
     obtain ⟨t621, A200, H⟩ := H
     replace H : ((laws_eqStringS.f k t606 t621).bind fun t624 => (if t624 = true then ((laws_toStringS.f k l1).bind fun t625 => ((laws_eqStringS.f k t609 t625).bind fun t628 => (if t628 = true then ((laws_toChangeS.f k l2).bind fun t629 => ((laws_eqChangeS.f k t612 t629).bind fun t632 => (if t632 = true then ((laws_markStringS.f k t606 1).bind fun bt633 => ((laws_markStringS.f k t609 bt633.1).bind fun bt635 => ((laws_markChangeS.f k t612 bt635.1).bind fun bt637 => (if bt637.1 < 0 then (laws_FnExactWeaveChanges.j0 k l0 l1 l2 true t601 t602 t615 t616) else ((laws_eqLinesResult.f k t615 t616 t601 t602).bind fun t639 => (laws_FnExactWeaveChanges.j0 k l0 l1 l2 (!t639) t601 t602 t615 t616)))))) else (some false)))) else (some false)))) else (some false))) = some r := H
     have A20 := Aside0.mk A200
     clear A200
     replace H := Option.bind_eq_some_iff.mp H
     obtain ⟨t624, A210, H⟩ := H
     replace H : (if t624 = true then ((laws_toStringS.f k l1).bind fun t625 => ((laws_eqStringS.f k t609 t625).bind fun t628 => (if t628 = true then ((laws_toChangeS.f k l2).bind fun t629 => ((laws_eqChangeS.f k t612 t629).bind fun t632 => (if t632 = true then ((laws_markStringS.f k t606 1).bind fun bt633 => ((laws_markStringS.f k t609 bt633.1).bind fun bt635 => ((laws_markChangeS.f k t612 bt635.1).bind fun bt637 => (if bt637.1 < 0 then (laws_FnExactWeaveChanges.j0 k l0 l1 l2 true t601 t602 t615 t616) else ((laws_eqLinesResult.f k t615 t616 t601 t602).bind fun t639 => (laws_FnExactWeaveChanges.j0 k l0 l1 l2 (!t639) t601 t602 t615 t616)))))) else (some false)))) else (some false)))) else (some false)) = some r := H
     have A21 := Aside0.mk A210
     clear A210
     by_cases c22 : t624 = true
     ·subst c22
      have H1 : ((laws_toStringS.f k l1).bind fun t625 => ((laws_eqStringS.f k t609 t625).bind fun t628 => (if t628 = true then ((laws_toChangeS.f k l2).bind fun t629 => ((laws_eqChangeS.f k t612 t629).bind fun t632 => (if t632 = true then ((laws_markStringS.f k t606 1).bind fun bt633 => ((laws_markStringS.f k t609 bt633.1).bind fun bt635 => ((laws_markChangeS.f k t612 bt635.1).bind fun bt637 => (if bt637.1 < 0 then (laws_FnExactWeaveChanges.j0 k l0 l1 l2 true t601 t602 t615 t616) else ((laws_eqLinesResult.f k t615 t616 t601 t602).bind fun t639 => (laws_FnExactWeaveChanges.j0 k l0 l1 l2 (!t639) t601 t602 t615 t616)))))) else (some false)))) else (some false)))) = some r := by rw [if_pos rfl] at H; exact H
      clear H
      have H := H1
      clear H1
      replace H := Option.bind_eq_some_iff.mp H
      obtain ⟨t625, A230, H⟩ := H
      replace H : ((laws_eqStringS.f k t609 t625).bind fun t628 => (if t628 = true then ((laws_toChangeS.f k l2).bind fun t629 => ((laws_eqChangeS.f k t612 t629).bind fun t632 => (if t632 = true then ((laws_markStringS.f k t606 1).bind fun bt633 => ((laws_markStringS.f k t609 bt633.1).bind fun bt635 => ((laws_markChangeS.f k t612 bt635.1).bind fun bt637 => (if bt637.1 < 0 then (laws_FnExactWeaveChanges.j0 k l0 l1 l2 true t601 t602 t615 t616) else ((laws_eqLinesResult.f k t615 t616 t601 t602).bind fun t639 => (laws_FnExactWeaveChanges.j0 k l0 l1 l2 (!t639) t601 t602 t615 t616)))))) else (some false)))) else (some false))) = some r := H
      have A23 := Aside0.mk A230
      clear A230
      replace H := Option.bind_eq_some_iff.mp H
      obtain ⟨t628, A240, H⟩ := H
      replace H : (if t628 = true then ((laws_toChangeS.f k l2).bind fun t629 => ((laws_eqChangeS.f k t612 t629).bind fun t632 => (if t632 = true then ((laws_markStringS.f k t606 1).bind fun bt633 => ((laws_markStringS.f k t609 bt633.1).bind fun bt635 => ((laws_markChangeS.f k t612 bt635.1).bind fun bt637 => (if bt637.1 < 0 then (laws_FnExactWeaveChanges.j0 k l0 l1 l2 true t601 t602 t615 t616) else ((laws_eqLinesResult.f k t615 t616 t601 t602).bind fun t639 => (laws_FnExactWeaveChanges.j0 k l0 l1 l2 (!t639) t601 t602 t615 t616)))))) else (some false)))) else (some false)) = some r := H
      have A24 := Aside0.mk A240
      clear A240
      by_cases c25 : t628 = true
      ·subst c25
       have H1 : ((laws_toChangeS.f k l2).bind fun t629 => ((laws_eqChangeS.f k t612 t629).bind fun t632 => (if t632 = true then ((laws_markStringS.f k t606 1).bind fun bt633 => ((laws_markStringS.f k t609 bt633.1).bind fun bt635 => ((laws_markChangeS.f k t612 bt635.1).bind fun bt637 => (if bt637.1 < 0 then (laws_FnExactWeaveChanges.j0 k l0 l1 l2 true t601 t602 t615 t616) else ((laws_eqLinesResult.f k t615 t616 t601 t602).bind fun t639 => (laws_FnExactWeaveChanges.j0 k l0 l1 l2 (!t639) t601 t602 t615 t616)))))) else (some false)))) = some r := by rw [if_pos rfl] at H; exact H
       clear H
       have H := H1
       clear H1
       replace H := Option.bind_eq_some_iff.mp H
       obtain ⟨t629, A260, H⟩ := H
       replace H : ((laws_eqChangeS.f k t612 t629).bind fun t632 => (if t632 = true then ((laws_markStringS.f k t606 1).bind fun bt633 => ((laws_markStringS.f k t609 bt633.1).bind fun bt635 => ((laws_markChangeS.f k t612 bt635.1).bind fun bt637 => (if bt637.1 < 0 then (laws_FnExactWeaveChanges.j0 k l0 l1 l2 true t601 t602 t615 t616) else ((laws_eqLinesResult.f k t615 t616 t601 t602).bind fun t639 => (laws_FnExactWeaveChanges.j0 k l0 l1 l2 (!t639) t601 t602 t615 t616)))))) else (some false))) = some r := H
       have A26 := Aside0.mk A260
       clear A260
       replace H := Option.bind_eq_some_iff.mp H
       obtain ⟨t632, A270, H⟩ := H
       replace H : (if t632 = true then ((laws_markStringS.f k t606 1).bind fun bt633 => ((laws_markStringS.f k t609 bt633.1).bind fun bt635 => ((laws_markChangeS.f k t612 bt635.1).bind fun bt637 => (if bt637.1 < 0 then (laws_FnExactWeaveChanges.j0 k l0 l1 l2 true t601 t602 t615 t616) else ((laws_eqLinesResult.f k t615 t616 t601 t602).bind fun t639 => (laws_FnExactWeaveChanges.j0 k l0 l1 l2 (!t639) t601 t602 t615 t616)))))) else (some false)) = some r := H
       have A27 := Aside0.mk A270
       clear A270
       by_cases c28 : t632 = true
       ·subst c28
        have H1 : ((laws_markStringS.f k t606 1).bind fun bt633 => ((laws_markStringS.f k t609 bt633.1).bind fun bt635 => ((laws_markChangeS.f k t612 bt635.1).bind fun bt637 => (if bt637.1 < 0 then (laws_FnExactWeaveChanges.j0 k l0 l1 l2 true t601 t602 t615 t616) else ((laws_eqLinesResult.f k t615 t616 t601 t602).bind fun t639 => (laws_FnExactWeaveChanges.j0 k l0 l1 l2 (!t639) t601 t602 t615 t616)))))) = some r := by rw [if_pos rfl] at H; exact H
        clear H
        have H := H1
        clear H1
        replace H := Option.bind_eq_some_iff.mp H
        obtain ⟨⟨t633, t634⟩, A290, H⟩ := H
        replace H : ((laws_markStringS.f k t609 t633).bind fun bt635 => ((laws_markChangeS.f k t612 bt635.1).bind fun bt637 => (if bt637.1 < 0 then (laws_FnExactWeaveChanges.j0 k l0 l1 l2 true t601 t602 t615 t616) else ((laws_eqLinesResult.f k t615 t616 t601 t602).bind fun t639 => (laws_FnExactWeaveChanges.j0 k l0 l1 l2 (!t639) t601 t602 t615 t616))))) = some r := H
        have A29 := Aside0.mk A290
        clear A290
        replace H := Option.bind_eq_some_iff.mp H
        obtain ⟨⟨t635, t636⟩, A300, H⟩ := H
        replace H : ((laws_markChangeS.f k t612 t635).bind fun bt637 => (if bt637.1 < 0 then (laws_FnExactWeaveChanges.j0 k l0 l1 l2 true t601 t602 t615 t616) else ((laws_eqLinesResult.f k t615 t616 t601 t602).bind fun t639 => (laws_FnExactWeaveChanges.j0 k l0 l1 l2 (!t639) t601 t602 t615 t616)))) = some r := H
        have A30 := Aside0.mk A300
        clear A300
        replace H := Option.bind_eq_some_iff.mp H
        obtain ⟨⟨t637, t638⟩, A310, H⟩ := H
        replace H : (if t637 < 0 then (laws_FnExactWeaveChanges.j0 k l0 l1 l2 true t601 t602 t615 t616) else ((laws_eqLinesResult.f k t615 t616 t601 t602).bind fun t639 => (laws_FnExactWeaveChanges.j0 k l0 l1 l2 (!t639) t601 t602 t615 t616))) = some r := H
        have A31 := Aside0.mk A310
        clear A310
        have HC32 := Aside0.mk H
        clear H
        go_enter Try.func8, Try.ntmps8
        go_upto_region 28 with (first | ((with_reducible refine gate_callee (f := 13) rfl ?_); refine goesL_ (some 19) rfl rfl Try.func13 (by kernel_rfl) rfl #[.slice A0 l0.length c0, .int .i64 1048576] rfl (by (try simp only [List.map_toArray, List.map_cons, List.map_nil]); first | done | rfl | (simp only [List.length_drop, List.length_take]; rfl)) ?_; (with_reducible refine (laws_szStringS.calls k _ _ l0 1048576 t589 _ ?side1 ?side2 A4.out).mono ?_); (case side1 => repeat (first | exact HR0.out | (with_reducible refine Kd.C_alloc ?_ _) | (with_reducible refine Kd.C_drewN ?_ _) | (with_reducible refine Kd.C_drew ?_))); (case side2 => exact HC0.out); rintro e w' ⟨rfl, ⟨nd, rfl⟩⟩; refine ⟨_, rfl, ?_⟩) | ((with_reducible refine gate_callee (f := 13) rfl ?_); refine goesL_ (some 24) rfl rfl Try.func13 (by kernel_rfl) rfl #[.slice A1 l1.length c1, .int .i64 t589] rfl (by (try simp only [List.map_toArray, List.map_cons, List.map_nil]); first | done | rfl | (simp only [List.length_drop, List.length_take]; rfl)) ?_; (with_reducible refine (laws_szStringS.calls k _ _ l1 t589 t590 _ ?side1 ?side2 A6.out).mono ?_); (case side1 => repeat (first | exact HR1.out | (with_reducible refine Kd.C_alloc ?_ _) | (with_reducible refine Kd.C_drewN ?_ _) | (with_reducible refine Kd.C_drew ?_))); (case side2 => exact HC1.out); rintro e w' ⟨rfl, ⟨nd, rfl⟩⟩; refine ⟨_, rfl, ?_⟩) | ((with_reducible refine gate_callee (f := 24) rfl ?_); refine goesL_ (some 29) rfl rfl Try.func24 (by kernel_rfl) rfl #[.slice A2 l2.length c2, .int .i64 t590] rfl (by (try simp only [List.map_toArray, List.map_cons, List.map_nil]); first | done | rfl | (simp only [List.length_drop, List.length_take]; rfl)) ?_; (with_reducible refine (laws_szChangeS.calls _ _ l2 t590 t591 _ ?side1 ?side2 A8.out).mono ?_); (case side1 => repeat (first | exact HR2.out | (with_reducible refine Kd.C_alloc ?_ _) | (with_reducible refine Kd.C_drewN ?_ _) | (with_reducible refine Kd.C_drew ?_))); (case side2 => exact HC2.out); rintro e w' ⟨rfl, ⟨nd, rfl⟩⟩; refine ⟨_, rfl, ?_⟩) | ((with_reducible refine gate_callee (f := 15) rfl ?_); refine goesL_ (some 33) rfl rfl Try.func15 (by kernel_rfl) rfl #[.slice A0 l0.length c0] rfl (by (try simp only [List.map_toArray, List.map_cons, List.map_nil]); first | done | rfl | (simp only [List.length_drop, List.length_take]; rfl)) ?_; (with_reducible refine (laws_toStringS.calls k _ _ l0 t592 _ ?side1 ?side2 A10.out).mono ?_); (case side1 => repeat (first | exact HR0.out | (with_reducible refine Kd.C_alloc ?_ _) | (with_reducible refine Kd.C_drewN ?_ _) | (with_reducible refine Kd.C_drew ?_))); (case side2 => exact HC0.out); rintro e w33 ⟨v593, rfl, ho0, hb⟩; refine ⟨_, rfl, ?_⟩; have n0_ := Aside0.mk (Kd.R_lower ho0 (below_size (by repeat (first | (with_reducible first | exact HB.out | apply below_alloc | apply pw_below_drewN | apply below_drew1) | exact HB.out)))); have n1_ := Aside0.mk (below_step (by repeat (first | (with_reducible first | exact HB.out | apply below_alloc | apply pw_below_drewN | apply below_drew1) | exact HB.out)) hb); clear HB; have HO594 := n0_; have HB := n1_; clear n0_ n1_; (try clear hb); (try clear hb2); (try clear hk); (try clear hi); (try clear ho0)) | ((with_reducible refine gate_callee (f := 15) rfl ?_); refine goesL_ (some 35) rfl rfl Try.func15 (by kernel_rfl) rfl #[.slice A1 l1.length c1] rfl (by (try simp only [List.map_toArray, List.map_cons, List.map_nil]); first | done | rfl | (simp only [List.length_drop, List.length_take]; rfl)) ?_; (with_reducible refine (laws_toStringS.calls k _ _ l1 t595 _ ?side1 ?side2 A11.out).mono ?_); (case side1 => repeat (first | exact (Kd.C_below HR1.out HB.out) | (with_reducible refine Kd.C_alloc ?_ _) | (with_reducible refine Kd.C_drewN ?_ _) | (with_reducible refine Kd.C_drew ?_))); (case side2 => exact HC1.out); rintro e w34 ⟨v596, rfl, ho0, hb⟩; refine ⟨_, rfl, ?_⟩; have n0_ := Aside0.mk (Kd.R_elder' (by (with_reducible repeat (first | apply Kd.R_alloc | apply Kd.R_drewN | apply Kd.R_drew)); exact HO594.out) (Kd.R_base ho0) hb); have n1_ := Aside0.mk (Kd.R_lower (Kd.R_new' ho0 (Kd.R_lt (by (with_reducible repeat (first | apply Kd.R_alloc | apply Kd.R_drewN | apply Kd.R_drew)); exact HO594.out))) (below_size (by repeat (first | (with_reducible first | exact HB.out | apply below_alloc | apply pw_below_drewN | apply below_drew1) | exact HB.out)))); have n2_ := Aside0.mk (below_step (by repeat (first | (with_reducible first | exact HB.out | apply below_alloc | apply pw_below_drewN | apply below_drew1) | exact HB.out)) hb); clear HO594; clear HB; have HO594 := n0_; have HO597 := n1_; have HB := n2_; clear n0_ n1_ n2_; (try clear hb); (try clear hb2); (try clear hk); (try clear hi); (try clear ho0)) | ((with_reducible refine gate_callee (f := 26) rfl ?_); refine goesL_ (some 37) rfl rfl Try.func26 (by kernel_rfl) rfl #[.slice A2 l2.length c2] rfl (by (try simp only [List.map_toArray, List.map_cons, List.map_nil]); first | done | rfl | (simp only [List.length_drop, List.length_take]; rfl)) ?_; (with_reducible refine (laws_toChangeS.calls k _ _ l2 t598 _ ?side1 ?side2 A12.out).mono ?_); (case side1 => repeat (first | exact (Kd.C_below HR2.out HB.out) | (with_reducible refine Kd.C_alloc ?_ _) | (with_reducible refine Kd.C_drewN ?_ _) | (with_reducible refine Kd.C_drew ?_))); (case side2 => exact HC2.out); rintro e w35 ⟨v599, rfl, ho0, hb⟩; refine ⟨_, rfl, ?_⟩; have n0_ := Aside0.mk (Kd.R_below (by (with_reducible repeat (first | apply Kd.R_alloc | apply Kd.R_drewN | apply Kd.R_drew)); exact HO594.out) hb); have n1_ := Aside0.mk (Kd.R_below (by (with_reducible repeat (first | apply Kd.R_alloc | apply Kd.R_drewN | apply Kd.R_drew)); exact HO597.out) hb); have n2_ := Aside0.mk (Kd.R_lower ho0 (below_size (by repeat (first | (with_reducible first | exact HB.out | apply below_alloc | apply pw_below_drewN | apply below_drew1) | exact HB.out)))); have n3_ := Aside0.mk (below_step (by repeat (first | (with_reducible first | exact HB.out | apply below_alloc | apply pw_below_drewN | apply below_drew1) | exact HB.out)) hb); clear HO594; clear HO597; clear HB; have HO594 := n0_; have HO597 := n1_; have HO600 := n2_; have HB := n3_; clear n0_ n1_ n2_ n3_; (try clear hb); (try clear hb2); (try clear hk); (try clear hi); (try clear ho0); obtain ⟨Ao36, co36, eo36⟩ := Kd.R_slice HO594.out; subst eo36; obtain ⟨Ao37, co37, eo37⟩ := Kd.R_slice HO597.out; subst eo37; obtain ⟨Ao38, co38, eo38⟩ := Kd.R_slice HO600.out; subst eo38) | ((with_reducible refine gate_callee (f := 35) rfl ?_); refine goesL_ (some 38) rfl rfl Try.func35 (by kernel_rfl) rfl #[.slice Ao36 t592.length co36, .slice Ao37 t595.length co37, .slice Ao38 t598.length co38] rfl (by (try simp only [List.map_toArray, List.map_cons, List.map_nil]); first | done | rfl | (simp only [List.length_drop, List.length_take]; rfl)) ?_; (with_reducible refine (spec_WeaveChanges.calls k _ _ t592 _ _ t595 _ _ t598 t601 t602 _ ?side1 ?side2 ?side3 ?side4 ?side5 ?side6 A13.out).mono ?_); (case side1 => repeat (first | exact (Kd.R_reads' HO594.out).2.2 | (with_reducible refine Kd.C_alloc ?_ _) | (with_reducible refine Kd.C_drewN ?_ _) | (with_reducible refine Kd.C_drew ?_))); (case side2 => exact (Kd.R_reads' HO594.out).2.1); (case side3 => repeat (first | exact (Kd.R_reads' HO597.out).2.2 | (with_reducible refine Kd.C_alloc ?_ _) | (with_reducible refine Kd.C_drewN ?_ _) | (with_reducible refine Kd.C_drew ?_))); (case side4 => exact (Kd.R_reads' HO597.out).2.1); (case side5 => repeat (first | exact (Kd.R_reads' HO600.out).2.2 | (with_reducible refine Kd.C_alloc ?_ _) | (with_reducible refine Kd.C_drewN ?_ _) | (with_reducible refine Kd.C_drew ?_))); (case side6 => exact (Kd.R_reads' HO600.out).2.1); rintro e w39 ⟨v603, rfl, ho0, hb⟩; refine ⟨_, rfl, ?_⟩; have n0_ := Aside0.mk (Kd.R_elder' (by (with_reducible repeat (first | apply Kd.R_alloc | apply Kd.R_drewN | apply Kd.R_drew)); exact HO594.out) (Kd.R_base ho0) hb); have n1_ := Aside0.mk (Kd.R_elder' (by (with_reducible repeat (first | apply Kd.R_alloc | apply Kd.R_drewN | apply Kd.R_drew)); exact HO597.out) (Kd.R_base ho0) hb); have n2_ := Aside0.mk (Kd.R_below (by (with_reducible repeat (first | apply Kd.R_alloc | apply Kd.R_drewN | apply Kd.R_drew)); exact HO600.out) hb); have n3_ := Aside0.mk (Kd.R_lower (Kd.R_new' (Kd.R_new' ho0 (Kd.R_lt (by (with_reducible repeat (first | apply Kd.R_alloc | apply Kd.R_drewN | apply Kd.R_drew)); exact HO594.out))) (Kd.R_lt (by (with_reducible repeat (first | apply Kd.R_alloc | apply Kd.R_drewN | apply Kd.R_drew)); exact HO597.out))) (below_size (by repeat (first | (with_reducible first | exact HB.out | apply below_alloc | apply pw_below_drewN | apply below_drew1) | exact HB.out)))); have n4_ := Aside0.mk (below_step (by repeat (first | (with_reducible first | exact HB.out | apply below_alloc | apply pw_below_drewN | apply below_drew1) | exact HB.out)) hb); clear HO594; clear HO597; clear HO600; clear HB; have HO594 := n0_; have HO597 := n1_; have HO600 := n2_; have HO604 := n3_; have HB := n4_; clear n0_ n1_ n2_ n3_ n4_; (try clear hb); (try clear hb2); (try clear hk); (try clear hi); (try clear ho0)) | ((with_reducible refine gate_dst (N := 8) rfl ?_); refine box_event ?hg (N := 8) ?hd (cs := #[.int .i64 0, .slice none 0 0]) (t := 49) ?hr ?_; (case hd => rfl); (case hg => rfl); (case hr => first | (go_simp; done) | (go_simp; rfl)); intro gb605 hg w40 hbox hb; have n0_ := Aside0.mk (Kd.R_below (by (with_reducible repeat (first | apply Kd.R_alloc | apply Kd.R_drewN | apply Kd.R_drew)); exact HO594.out) hb); have n1_ := Aside0.mk (Kd.R_below (by (with_reducible repeat (first | apply Kd.R_alloc | apply Kd.R_drewN | apply Kd.R_drew)); exact HO597.out) hb); have n2_ := Aside0.mk (Kd.R_below (by (with_reducible repeat (first | apply Kd.R_alloc | apply Kd.R_drewN | apply Kd.R_drew)); exact HO600.out) hb); have n3_ := Aside0.mk (Kd.R_below (by (with_reducible repeat (first | apply Kd.R_alloc | apply Kd.R_drewN | apply Kd.R_drew)); exact HO604.out) hb); have n4_ := Aside0.mk (below_step (by repeat (first | (with_reducible first | exact HB.out | apply below_alloc | apply pw_below_drewN | apply below_drew1) | exact HB.out)) hb); have n5_ := Aside0.mk (hbox); have n6_ := Aside0.mk ((by rw [hg]; exact (below_size (by repeat (first | (with_reducible first | exact HB.out | apply below_alloc | apply pw_below_drewN | apply below_drew1) | exact HB.out))) : w.heap.size ≤ gb605)); have n7_ := Aside0.mk ((by rw [hg]; exact (below_size (by repeat (first | (with_reducible first | exact HB.out | apply below_alloc | apply pw_below_drewN | apply below_drew1) | exact HB.out))) : w.heap.size ≤ gb605)); clear HO594; clear HO597; clear HO600; clear HO604; clear HB; have HO594 := n0_; have HO597 := n1_; have HO600 := n2_; have HO604 := n3_; have HB := n4_; have BK605 := n5_; have GW605 := n6_; have GE605 := n7_; clear n0_ n1_ n2_ n3_ n4_ n5_ n6_ n7_; clear hb hbox hg; have hcz41_0 : w40.cell? ⟨gb605, 0, none⟩ = some (.int .i64 0) := (blk_cell BK605.out 0).trans rfl; have hcz41_1 : w40.cell? ⟨gb605, 1, none⟩ = some (.slice none 0 0) := (blk_cell BK605.out 1).trans rfl; have hfz41_0 := blk_frozen BK605.out 0; have hfz41_1 := blk_frozen BK605.out 1; obtain ⟨Ao42, co42, eo42⟩ := Kd.R_slice HO604.out; subst eo42) | ((with_reducible refine gate_callee (f := 15) rfl ?_); refine goesL_ (some 40) rfl rfl Try.func15 (by kernel_rfl) rfl #[.slice A0 l0.length c0] rfl (by (try simp only [List.map_toArray, List.map_cons, List.map_nil]); first | done | rfl | (simp only [List.length_drop, List.length_take]; rfl)) ?_; (with_reducible refine (laws_toStringS.calls k _ _ l0 t606 _ ?side1 ?side2 A14.out).mono ?_); (case side1 => exact Kd.C_below HR0.out (by repeat (first | (with_reducible first | exact HB.out | apply below_alloc | apply pw_below_drewN | apply below_drew1 | refine below_set ?_ GE605.out) | exact HB.out))); (case side2 => exact HC0.out); rintro e w43 ⟨v607, rfl, ho0, hb⟩; refine ⟨_, rfl, ?_⟩; have n0_ := Aside0.mk (Kd.R_elder' (by (with_reducible repeat (first | apply Kd.R_alloc | apply Kd.R_drewN | apply Kd.R_drew)); exact (Kd.R_mono (Kd.R_far (p := ⟨gb605, 1, none⟩) (Kd.R_far (p := ⟨gb605, 0, none⟩) (Kd.R_types HO594.out BK605.out (by decide)) (fun _ hk => hk.2) (.int .i64 t601)) (fun _ hk => hk.2) (.slice Ao42 t602.length co42)) (fun _ h_ => h_.1))) (Kd.R_base ho0) hb); have n1_ := Aside0.mk (Kd.R_elder' (by (with_reducible repeat (first | apply Kd.R_alloc | apply Kd.R_drewN | apply Kd.R_drew)); exact (Kd.R_mono (Kd.R_far (p := ⟨gb605, 1, none⟩) (Kd.R_far (p := ⟨gb605, 0, none⟩) (Kd.R_types HO597.out BK605.out (by decide)) (fun _ hk => hk.2) (.int .i64 t601)) (fun _ hk => hk.2) (.slice Ao42 t602.length co42)) (fun _ h_ => h_.1))) (Kd.R_base ho0) hb); have n2_ := Aside0.mk (Kd.R_below (by (with_reducible repeat (first | apply Kd.R_alloc | apply Kd.R_drewN | apply Kd.R_drew)); exact (Kd.R_mono (Kd.R_far (p := ⟨gb605, 1, none⟩) (Kd.R_far (p := ⟨gb605, 0, none⟩) (Kd.R_types HO600.out BK605.out (by decide)) (fun _ hk => hk.2) (.int .i64 t601)) (fun _ hk => hk.2) (.slice Ao42 t602.length co42)) (fun _ h_ => h_.1))) hb); have n3_ := Aside0.mk (Kd.R_elder' (by (with_reducible repeat (first | apply Kd.R_alloc | apply Kd.R_drewN | apply Kd.R_drew)); exact (Kd.R_mono (Kd.R_far (p := ⟨gb605, 1, none⟩) (Kd.R_far (p := ⟨gb605, 0, none⟩) (Kd.R_types HO604.out BK605.out (by decide)) (fun _ hk => hk.2) (.int .i64 t601)) (fun _ hk => hk.2) (.slice Ao42 t602.length co42)) (fun _ h_ => h_.1))) (Kd.R_base ho0) hb); have n4_ := Aside0.mk (Kd.R_lower (Kd.R_new' (Kd.R_new' (Kd.R_new' ho0 (Kd.R_lt (by (with_reducible repeat (first | apply Kd.R_alloc | apply Kd.R_drewN | apply Kd.R_drew)); exact (Kd.R_mono (Kd.R_far (p := ⟨gb605, 1, none⟩) (Kd.R_far (p := ⟨gb605, 0, none⟩) (Kd.R_types HO594.out BK605.out (by decide)) (fun _ hk => hk.2) (.int .i64 t601)) (fun _ hk => hk.2) (.slice Ao42 t602.length co42)) (fun _ h_ => h_.1))))) (Kd.R_lt (by (with_reducible repeat (first | apply Kd.R_alloc | apply Kd.R_drewN | apply Kd.R_drew)); exact (Kd.R_mono (Kd.R_far (p := ⟨gb605, 1, none⟩) (Kd.R_far (p := ⟨gb605, 0, none⟩) (Kd.R_types HO597.out BK605.out (by decide)) (fun _ hk => hk.2) (.int .i64 t601)) (fun _ hk => hk.2) (.slice Ao42 t602.length co42)) (fun _ h_ => h_.1))))) (Kd.R_lt (by (with_reducible repeat (first | apply Kd.R_alloc | apply Kd.R_drewN | apply Kd.R_drew)); exact (Kd.R_mono (Kd.R_far (p := ⟨gb605, 1, none⟩) (Kd.R_far (p := ⟨gb605, 0, none⟩) (Kd.R_types HO604.out BK605.out (by decide)) (fun _ hk => hk.2) (.int .i64 t601)) (fun _ hk => hk.2) (.slice Ao42 t602.length co42)) (fun _ h_ => h_.1))))) (below_size (by repeat (first | (with_reducible first | exact HB.out | apply below_alloc | apply pw_below_drewN | apply below_drew1 | refine below_set ?_ GE605.out) | exact HB.out)))); have n5_ := Aside0.mk (blk_below (g := gb605) (o := .cells #[.int .i64 t601, .slice Ao42 t602.length co42] 49 (0, 0)) (by (with_reducible repeat (first | refine blk_drewN ?_ _ | refine blk_drew ?_ | refine blk_alloc ?_ _)); refine blk_put (cs := #[.int .i64 t601, .slice none 0 0]) ?_ 1 _ rfl; (with_reducible repeat (first | refine blk_drewN ?_ _ | refine blk_drew ?_ | refine blk_alloc ?_ _)); refine blk_put (cs := #[.int .i64 0, .slice none 0 0]) ?_ 0 _ rfl; (with_reducible repeat (first | refine blk_drewN ?_ _ | refine blk_drew ?_ | refine blk_alloc ?_ _)); exact BK605.out) hb); have n6_ := Aside0.mk (below_step (by repeat (first | (with_reducible first | exact HB.out | apply below_alloc | apply pw_below_drewN | apply below_drew1 | refine below_set ?_ GE605.out) | exact HB.out)) hb); clear HO594; clear HO597; clear HO600; clear HO604; clear BK605; clear HB; have HO594 := n0_; have HO597 := n1_; have HO600 := n2_; have HO604 := n3_; have HO608 := n4_; have BK605 := n5_; have HB := n6_; clear n0_ n1_ n2_ n3_ n4_ n5_ n6_; (try clear hb); (try clear hb2); (try clear hk); (try clear hi); (try clear ho0)) | ((with_reducible refine gate_callee (f := 15) rfl ?_); refine goesL_ (some 42) rfl rfl Try.func15 (by kernel_rfl) rfl #[.slice A1 l1.length c1] rfl (by (try simp only [List.map_toArray, List.map_cons, List.map_nil]); first | done | rfl | (simp only [List.length_drop, List.length_take]; rfl)) ?_; (with_reducible refine (laws_toStringS.calls k _ _ l1 t609 _ ?side1 ?side2 A15.out).mono ?_); (case side1 => repeat (first | exact (Kd.C_below HR1.out HB.out) | (with_reducible refine Kd.C_alloc ?_ _) | (with_reducible refine Kd.C_drewN ?_ _) | (with_reducible refine Kd.C_drew ?_))); (case side2 => exact HC1.out); rintro e w44 ⟨v610, rfl, ho0, hb⟩; refine ⟨_, rfl, ?_⟩; have n0_ := Aside0.mk (Kd.R_elder' (by (with_reducible repeat (first | apply Kd.R_alloc | apply Kd.R_drewN | apply Kd.R_drew)); exact HO594.out) (Kd.R_base ho0) hb); have n1_ := Aside0.mk (Kd.R_elder' (by (with_reducible repeat (first | apply Kd.R_alloc | apply Kd.R_drewN | apply Kd.R_drew)); exact HO597.out) (Kd.R_base ho0) hb); have n2_ := Aside0.mk (Kd.R_below (by (with_reducible repeat (first | apply Kd.R_alloc | apply Kd.R_drewN | apply Kd.R_drew)); exact HO600.out) hb); have n3_ := Aside0.mk (Kd.R_elder' (by (with_reducible repeat (first | apply Kd.R_alloc | apply Kd.R_drewN | apply Kd.R_drew)); exact HO604.out) (Kd.R_base ho0) hb); have n4_ := Aside0.mk (Kd.R_elder' (by (with_reducible repeat (first | apply Kd.R_alloc | apply Kd.R_drewN | apply Kd.R_drew)); exact HO608.out) (Kd.R_base ho0) hb); have n5_ := Aside0.mk (Kd.R_lower (Kd.R_new' (Kd.R_new' (Kd.R_new' (Kd.R_new' ho0 (Kd.R_lt (by (with_reducible repeat (first | apply Kd.R_alloc | apply Kd.R_drewN | apply Kd.R_drew)); exact HO594.out))) (Kd.R_lt (by (with_reducible repeat (first | apply Kd.R_alloc | apply Kd.R_drewN | apply Kd.R_drew)); exact HO597.out))) (Kd.R_lt (by (with_reducible repeat (first | apply Kd.R_alloc | apply Kd.R_drewN | apply Kd.R_drew)); exact HO604.out))) (Kd.R_lt (by (with_reducible repeat (first | apply Kd.R_alloc | apply Kd.R_drewN | apply Kd.R_drew)); exact HO608.out))) (below_size (by repeat (first | (with_reducible first | exact HB.out | apply below_alloc | apply pw_below_drewN | apply below_drew1 | refine below_set ?_ GE605.out) | exact HB.out)))); have n6_ := Aside0.mk (blk_below (g := gb605) (o := .cells #[.int .i64 t601, .slice Ao42 t602.length co42] 49 (0, 0)) (by (with_reducible repeat (first | refine blk_drewN ?_ _ | refine blk_drew ?_ | refine blk_alloc ?_ _)); exact BK605.out) hb); have n7_ := Aside0.mk (below_step (by repeat (first | (with_reducible first | exact HB.out | apply below_alloc | apply pw_below_drewN | apply below_drew1 | refine below_set ?_ GE605.out) | exact HB.out)) hb); clear HO594; clear HO597; clear HO600; clear HO604; clear HO608; clear BK605; clear HB; have HO594 := n0_; have HO597 := n1_; have HO600 := n2_; have HO604 := n3_; have HO608 := n4_; have HO611 := n5_; have BK605 := n6_; have HB := n7_; clear n0_ n1_ n2_ n3_ n4_ n5_ n6_ n7_; (try clear hb); (try clear hb2); (try clear hk); (try clear hi); (try clear ho0)) | ((with_reducible refine gate_callee (f := 26) rfl ?_); refine goesL_ (some 44) rfl rfl Try.func26 (by kernel_rfl) rfl #[.slice A2 l2.length c2] rfl (by (try simp only [List.map_toArray, List.map_cons, List.map_nil]); first | done | rfl | (simp only [List.length_drop, List.length_take]; rfl)) ?_; (with_reducible refine (laws_toChangeS.calls k _ _ l2 t612 _ ?side1 ?side2 A16.out).mono ?_); (case side1 => repeat (first | exact (Kd.C_below HR2.out HB.out) | (with_reducible refine Kd.C_alloc ?_ _) | (with_reducible refine Kd.C_drewN ?_ _) | (with_reducible refine Kd.C_drew ?_))); (case side2 => exact HC2.out); rintro e w45 ⟨v613, rfl, ho0, hb⟩; refine ⟨_, rfl, ?_⟩; have n0_ := Aside0.mk (Kd.R_below (by (with_reducible repeat (first | apply Kd.R_alloc | apply Kd.R_drewN | apply Kd.R_drew)); exact HO594.out) hb); have n1_ := Aside0.mk (Kd.R_below (by (with_reducible repeat (first | apply Kd.R_alloc | apply Kd.R_drewN | apply Kd.R_drew)); exact HO597.out) hb); have n2_ := Aside0.mk (Kd.R_elder' (by (with_reducible repeat (first | apply Kd.R_alloc | apply Kd.R_drewN | apply Kd.R_drew)); exact HO600.out) (Kd.R_base ho0) hb); have n3_ := Aside0.mk (Kd.R_below (by (with_reducible repeat (first | apply Kd.R_alloc | apply Kd.R_drewN | apply Kd.R_drew)); exact HO604.out) hb); have n4_ := Aside0.mk (Kd.R_below (by (with_reducible repeat (first | apply Kd.R_alloc | apply Kd.R_drewN | apply Kd.R_drew)); exact HO608.out) hb); have n5_ := Aside0.mk (Kd.R_below (by (with_reducible repeat (first | apply Kd.R_alloc | apply Kd.R_drewN | apply Kd.R_drew)); exact HO611.out) hb); have n6_ := Aside0.mk (Kd.R_lower (Kd.R_new' ho0 (Kd.R_lt (by (with_reducible repeat (first | apply Kd.R_alloc | apply Kd.R_drewN | apply Kd.R_drew)); exact HO600.out))) (below_size (by repeat (first | (with_reducible first | exact HB.out | apply below_alloc | apply pw_below_drewN | apply below_drew1 | refine below_set ?_ GE605.out) | exact HB.out)))); have n7_ := Aside0.mk (blk_below (g := gb605) (o := .cells #[.int .i64 t601, .slice Ao42 t602.length co42] 49 (0, 0)) (by (with_reducible repeat (first | refine blk_drewN ?_ _ | refine blk_drew ?_ | refine blk_alloc ?_ _)); exact BK605.out) hb); have n8_ := Aside0.mk (below_step (by repeat (first | (with_reducible first | exact HB.out | apply below_alloc | apply pw_below_drewN | apply below_drew1 | refine below_set ?_ GE605.out) | exact HB.out)) hb); clear HO594; clear HO597; clear HO600; clear HO604; clear HO608; clear HO611; clear BK605; clear HB; have HO594 := n0_; have HO597 := n1_; have HO600 := n2_; have HO604 := n3_; have HO608 := n4_; have HO611 := n5_; have HO614 := n6_; have BK605 := n7_; have HB := n8_; clear n0_ n1_ n2_ n3_ n4_ n5_ n6_ n7_ n8_; (try clear hb); (try clear hb2); (try clear hk); (try clear hi); (try clear ho0); obtain ⟨Ao46, co46, eo46⟩ := Kd.R_slice HO608.out; subst eo46; obtain ⟨Ao47, co47, eo47⟩ := Kd.R_slice HO611.out; subst eo47; obtain ⟨Ao48, co48, eo48⟩ := Kd.R_slice HO614.out; subst eo48) | ((with_reducible refine gate_callee (f := 36) rfl ?_); refine goesL_ (some 48) rfl rfl Try.func36 (by kernel_rfl) rfl #[.slice Ao46 t606.length co46, .slice Ao47 t609.length co47, .slice Ao48 t612.length co48] rfl (by (try simp only [List.map_toArray, List.map_cons, List.map_nil]); first | done | rfl | (simp only [List.length_drop, List.length_take]; rfl)) ?_; (with_reducible refine (impl_WeaveChanges.calls k _ _ t606 _ _ t609 _ _ t612 t615 t616 _ ?side1 ?side2 ?side3 ?side4 ?side5 ?side6 A17.out).mono ?_); (case side1 => repeat (first | exact (Kd.R_reads' HO608.out).2.2 | (with_reducible refine Kd.C_alloc ?_ _) | (with_reducible refine Kd.C_drewN ?_ _) | (with_reducible refine Kd.C_drew ?_))); (case side2 => exact (Kd.R_reads' HO608.out).2.1); (case side3 => repeat (first | exact (Kd.R_reads' HO611.out).2.2 | (with_reducible refine Kd.C_alloc ?_ _) | (with_reducible refine Kd.C_drewN ?_ _) | (with_reducible refine Kd.C_drew ?_))); (case side4 => exact (Kd.R_reads' HO611.out).2.1); (case side5 => repeat (first | exact (Kd.R_reads' HO614.out).2.2 | (with_reducible refine Kd.C_alloc ?_ _) | (with_reducible refine Kd.C_drewN ?_ _) | (with_reducible refine Kd.C_drew ?_))); (case side6 => exact (Kd.R_reads' HO614.out).2.1); rintro e w49 ⟨v617, rfl, ho0, hb⟩; refine ⟨_, rfl, ?_⟩; have n0_ := Aside0.mk (Kd.R_elder' (by (with_reducible repeat (first | apply Kd.R_alloc | apply Kd.R_drewN | apply Kd.R_drew)); exact HO594.out) (Kd.R_base ho0) hb); have n1_ := Aside0.mk (Kd.R_elder' (by (with_reducible repeat (first | apply Kd.R_alloc | apply Kd.R_drewN | apply Kd.R_drew)); exact HO597.out) (Kd.R_base ho0) hb); have n2_ := Aside0.mk (Kd.R_below (by (with_reducible repeat (first | apply Kd.R_alloc | apply Kd.R_drewN | apply Kd.R_drew)); exact HO600.out) hb); have n3_ := Aside0.mk (Kd.R_elder' (by (with_reducible repeat (first | apply Kd.R_alloc | apply Kd.R_drewN | apply Kd.R_drew)); exact HO604.out) (Kd.R_base ho0) hb); have n4_ := Aside0.mk (Kd.R_elder' (by (with_reducible repeat (first | apply Kd.R_alloc | apply Kd.R_drewN | apply Kd.R_drew)); exact HO608.out) (Kd.R_base ho0) hb); have n5_ := Aside0.mk (Kd.R_elder' (by (with_reducible repeat (first | apply Kd.R_alloc | apply Kd.R_drewN | apply Kd.R_drew)); exact HO611.out) (Kd.R_base ho0) hb); have n6_ := Aside0.mk (Kd.R_below (by (with_reducible repeat (first | apply Kd.R_alloc | apply Kd.R_drewN | apply Kd.R_drew)); exact HO614.out) hb); have n7_ := Aside0.mk (Kd.R_lower (Kd.R_new' (Kd.R_new' (Kd.R_new' (Kd.R_new' (Kd.R_new' ho0 (Kd.R_lt (by (with_reducible repeat (first | apply Kd.R_alloc | apply Kd.R_drewN | apply Kd.R_drew)); exact HO594.out))) (Kd.R_lt (by (with_reducible repeat (first | apply Kd.R_alloc | apply Kd.R_drewN | apply Kd.R_drew)); exact HO597.out))) (Kd.R_lt (by (with_reducible repeat (first | apply Kd.R_alloc | apply Kd.R_drewN | apply Kd.R_drew)); exact HO604.out))) (Kd.R_lt (by (with_reducible repeat (first | apply Kd.R_alloc | apply Kd.R_drewN | apply Kd.R_drew)); exact HO608.out))) (Kd.R_lt (by (with_reducible repeat (first | apply Kd.R_alloc | apply Kd.R_drewN | apply Kd.R_drew)); exact HO611.out))) (below_size (by repeat (first | (with_reducible first | exact HB.out | apply below_alloc | apply pw_below_drewN | apply below_drew1 | refine below_set ?_ GE605.out) | exact HB.out)))); have n8_ := Aside0.mk (blk_below (g := gb605) (o := .cells #[.int .i64 t601, .slice Ao42 t602.length co42] 49 (0, 0)) (by (with_reducible repeat (first | refine blk_drewN ?_ _ | refine blk_drew ?_ | refine blk_alloc ?_ _)); exact BK605.out) hb); have n9_ := Aside0.mk (below_step (by repeat (first | (with_reducible first | exact HB.out | apply below_alloc | apply pw_below_drewN | apply below_drew1 | refine below_set ?_ GE605.out) | exact HB.out)) hb); clear HO594; clear HO597; clear HO600; clear HO604; clear HO608; clear HO611; clear HO614; clear BK605; clear HB; have HO594 := n0_; have HO597 := n1_; have HO600 := n2_; have HO604 := n3_; have HO608 := n4_; have HO611 := n5_; have HO614 := n6_; have HO618 := n7_; have BK605 := n8_; have HB := n9_; clear n0_ n1_ n2_ n3_ n4_ n5_ n6_ n7_ n8_ n9_; (try clear hb); (try clear hb2); (try clear hk); (try clear hi); (try clear ho0)) | ((with_reducible refine gate_dst (N := 12) rfl ?_); refine box_event ?hg (N := 12) ?hd (cs := #[.int .i64 0, .slice none 0 0]) (t := 49) ?hr ?_; (case hd => rfl); (case hg => rfl); (case hr => first | (go_simp; done) | (go_simp; rfl)); intro gb619 hg w50 hbox hb; have n0_ := Aside0.mk (Kd.R_below (by (with_reducible repeat (first | apply Kd.R_alloc | apply Kd.R_drewN | apply Kd.R_drew)); exact HO594.out) hb); have n1_ := Aside0.mk (Kd.R_below (by (with_reducible repeat (first | apply Kd.R_alloc | apply Kd.R_drewN | apply Kd.R_drew)); exact HO597.out) hb); have n2_ := Aside0.mk (Kd.R_below (by (with_reducible repeat (first | apply Kd.R_alloc | apply Kd.R_drewN | apply Kd.R_drew)); exact HO600.out) hb); have n3_ := Aside0.mk (Kd.R_below (by (with_reducible repeat (first | apply Kd.R_alloc | apply Kd.R_drewN | apply Kd.R_drew)); exact HO604.out) hb); have n4_ := Aside0.mk (Kd.R_below (by (with_reducible repeat (first | apply Kd.R_alloc | apply Kd.R_drewN | apply Kd.R_drew)); exact HO608.out) hb); have n5_ := Aside0.mk (Kd.R_below (by (with_reducible repeat (first | apply Kd.R_alloc | apply Kd.R_drewN | apply Kd.R_drew)); exact HO611.out) hb); have n6_ := Aside0.mk (Kd.R_below (by (with_reducible repeat (first | apply Kd.R_alloc | apply Kd.R_drewN | apply Kd.R_drew)); exact HO614.out) hb); have n7_ := Aside0.mk (Kd.R_below (by (with_reducible repeat (first | apply Kd.R_alloc | apply Kd.R_drewN | apply Kd.R_drew)); exact HO618.out) hb); have n8_ := Aside0.mk (blk_below (g := gb605) (o := .cells #[.int .i64 t601, .slice Ao42 t602.length co42] 49 (0, 0)) (by (with_reducible repeat (first | refine blk_drewN ?_ _ | refine blk_drew ?_ | refine blk_alloc ?_ _)); exact BK605.out) hb); have n9_ := Aside0.mk (below_step (by repeat (first | (with_reducible first | exact HB.out | apply below_alloc | apply pw_below_drewN | apply below_drew1 | refine below_set ?_ GE605.out) | exact HB.out)) hb); have n10_ := Aside0.mk (hbox); have n11_ := Aside0.mk ((by rw [hg]; exact (below_size (by repeat (first | (with_reducible first | exact HB.out | apply below_alloc | apply pw_below_drewN | apply below_drew1 | refine below_set ?_ GE605.out) | exact HB.out))) : w.heap.size ≤ gb619)); have n12_ := Aside0.mk ((by rw [hg]; exact (below_size (by repeat (first | (with_reducible first | exact HB.out | apply below_alloc | apply pw_below_drewN | apply below_drew1 | refine below_set ?_ GE605.out) | exact HB.out))) : w.heap.size ≤ gb619)); have n13_ := Aside0.mk ((by rw [hg]; exact Nat.ne_of_lt (blk_lt (g := gb605) (o := .cells #[.int .i64 t601, .slice Ao42 t602.length co42] 49 (0, 0)) (by (with_reducible repeat (first | refine blk_drewN ?_ _ | refine blk_drew ?_ | refine blk_alloc ?_ _)); exact BK605.out)) : gb605 ≠ gb619)); have n14_ := Aside0.mk ((by rw [hg]; exact Nat.ne_of_gt (blk_lt (g := gb605) (o := .cells #[.int .i64 t601, .slice Ao42 t602.length co42] 49 (0, 0)) (by (with_reducible repeat (first | refine blk_drewN ?_ _ | refine blk_drew ?_ | refine blk_alloc ?_ _)); exact BK605.out)) : gb619 ≠ gb605)); clear HO594; clear HO597; clear HO600; clear HO604; clear HO608; clear HO611; clear HO614; clear HO618; clear BK605; clear HB; have HO594 := n0_; have HO597 := n1_; have HO600 := n2_; have HO604 := n3_; have HO608 := n4_; have HO611 := n5_; have HO614 := n6_; have HO618 := n7_; have BK605 := n8_; have HB := n9_; have BK619 := n10_; have GW619 := n11_; have GE619 := n12_; have NB605_619 := n13_; have NB619_605 := n14_; clear n0_ n1_ n2_ n3_ n4_ n5_ n6_ n7_ n8_ n9_ n10_ n11_ n12_ n13_ n14_; clear hb hbox hg; have hnb51 := NB619_605.out; have hnc51 := NB605_619.out; have hcz52_0 : w50.cell? ⟨gb619, 0, none⟩ = some (.int .i64 0) := (blk_cell BK619.out 0).trans rfl; have hcz52_1 : w50.cell? ⟨gb619, 1, none⟩ = some (.slice none 0 0) := (blk_cell BK619.out 1).trans rfl; have hfz52_0 := blk_frozen BK619.out 0; have hfz52_1 := blk_frozen BK619.out 1; obtain ⟨Ao53, co53, eo53⟩ := Kd.R_slice HO618.out; subst eo53; have hcz54_0 : w50.cell? ⟨gb605, 0, none⟩ = some (.int .i64 t601) := (blk_cell BK605.out 0).trans rfl; have hcz54_1 : w50.cell? ⟨gb605, 1, none⟩ = some (.slice Ao42 t602.length co42) := (blk_cell BK605.out 1).trans rfl; have hfz54_0 := blk_frozen BK605.out 0; have hfz54_1 := blk_frozen BK605.out 1) | ((with_reducible refine gate_callee (f := 37) rfl ?_); refine goesL_ (some 51) rfl rfl Try.func37 (by kernel_rfl) rfl #[.agg #[.int .i64 t615, .slice Ao53 t616.length co53], .agg #[.int .i64 t601, .slice Ao42 t602.length co42]] rfl (by (try simp only [List.map_toArray, List.map_cons, List.map_nil]); first | done | rfl | (simp only [List.length_drop, List.length_take]; rfl)) ?_; (with_reducible refine (laws_eqLinesResult.calls k t615 _ _ t616 t601 _ _ t602 true _ ?side1 ?side2 ?side3 ?side4 A18.out).mono ?_); (case side1 => refine (Kd.R_reads' (e := 9) (base := w.heap.size) (ok := fun k_ => (((((True ∧ some k_ ≠ (.slice Ao36 t592.length co36 : Value).ownBlock) ∧ some k_ ≠ (.slice Ao37 t595.length co37 : Value).ownBlock) ∧ some k_ ≠ (.slice Ao42 t602.length co42 : Value).ownBlock) ∧ some k_ ≠ (.slice Ao46 t606.length co46 : Value).ownBlock) ∧ some k_ ≠ (.slice Ao47 t609.length co47 : Value).ownBlock)) (n := t616.length) (c := co53) ?_).2.2; exact (by (with_reducible repeat (first | apply Kd.R_alloc | apply Kd.R_drewN | apply Kd.R_drew)); exact (Kd.R_mono (Kd.R_far (p := ⟨gb619, 1, none⟩) (Kd.R_far (p := ⟨gb619, 0, none⟩) (Kd.R_types HO618.out BK619.out (by decide)) (fun _ hk => hk.2) (.int .i64 t615)) (fun _ hk => hk.2) (.slice Ao53 t616.length co53)) (fun _ h_ => h_.1)))); (case side2 => exact (Kd.R_reads' HO618.out).2.1); (case side3 => refine (Kd.R_reads' (e := 9) (base := w.heap.size) (ok := fun k_ => (((((True ∧ some k_ ≠ (.slice Ao36 t592.length co36 : Value).ownBlock) ∧ some k_ ≠ (.slice Ao37 t595.length co37 : Value).ownBlock) ∧ some k_ ≠ (.slice Ao46 t606.length co46 : Value).ownBlock) ∧ some k_ ≠ (.slice Ao47 t609.length co47 : Value).ownBlock) ∧ some k_ ≠ (.slice Ao53 t616.length co53 : Value).ownBlock)) (n := t602.length) (c := co42) ?_).2.2; exact (by (with_reducible repeat (first | apply Kd.R_alloc | apply Kd.R_drewN | apply Kd.R_drew)); exact (Kd.R_mono (Kd.R_far (p := ⟨gb619, 1, none⟩) (Kd.R_far (p := ⟨gb619, 0, none⟩) (Kd.R_types HO604.out BK619.out (by decide)) (fun _ hk => hk.2) (.int .i64 t615)) (fun _ hk => hk.2) (.slice Ao53 t616.length co53)) (fun _ h_ => h_.1)))); (case side4 => exact (Kd.R_reads' HO604.out).2.1); rintro e w55 ⟨rfl, hb⟩; refine ⟨_, rfl, ?_⟩; have n0_ := Aside0.mk (Kd.R_below (by (with_reducible repeat (first | apply Kd.R_alloc | apply Kd.R_drewN | apply Kd.R_drew)); exact (Kd.R_mono (Kd.R_far (p := ⟨gb619, 1, none⟩) (Kd.R_far (p := ⟨gb619, 0, none⟩) (Kd.R_types HO594.out BK619.out (by decide)) (fun _ hk => hk.2) (.int .i64 t615)) (fun _ hk => hk.2) (.slice Ao53 t616.length co53)) (fun _ h_ => h_.1))) hb); have n1_ := Aside0.mk (Kd.R_below (by (with_reducible repeat (first | apply Kd.R_alloc | apply Kd.R_drewN | apply Kd.R_drew)); exact (Kd.R_mono (Kd.R_far (p := ⟨gb619, 1, none⟩) (Kd.R_far (p := ⟨gb619, 0, none⟩) (Kd.R_types HO597.out BK619.out (by decide)) (fun _ hk => hk.2) (.int .i64 t615)) (fun _ hk => hk.2) (.slice Ao53 t616.length co53)) (fun _ h_ => h_.1))) hb); have n2_ := Aside0.mk (Kd.R_below (by (with_reducible repeat (first | apply Kd.R_alloc | apply Kd.R_drewN | apply Kd.R_drew)); exact (Kd.R_mono (Kd.R_far (p := ⟨gb619, 1, none⟩) (Kd.R_far (p := ⟨gb619, 0, none⟩) (Kd.R_types HO600.out BK619.out (by decide)) (fun _ hk => hk.2) (.int .i64 t615)) (fun _ hk => hk.2) (.slice Ao53 t616.length co53)) (fun _ h_ => h_.1))) hb); have n3_ := Aside0.mk (Kd.R_below (by (with_reducible repeat (first | apply Kd.R_alloc | apply Kd.R_drewN | apply Kd.R_drew)); exact (Kd.R_mono (Kd.R_far (p := ⟨gb619, 1, none⟩) (Kd.R_far (p := ⟨gb619, 0, none⟩) (Kd.R_types HO604.out BK619.out (by decide)) (fun _ hk => hk.2) (.int .i64 t615)) (fun _ hk => hk.2) (.slice Ao53 t616.length co53)) (fun _ h_ => h_.1))) hb); have n4_ := Aside0.mk (Kd.R_below (by (with_reducible repeat (first | apply Kd.R_alloc | apply Kd.R_drewN | apply Kd.R_drew)); exact (Kd.R_mono (Kd.R_far (p := ⟨gb619, 1, none⟩) (Kd.R_far (p := ⟨gb619, 0, none⟩) (Kd.R_types HO608.out BK619.out (by decide)) (fun _ hk => hk.2) (.int .i64 t615)) (fun _ hk => hk.2) (.slice Ao53 t616.length co53)) (fun _ h_ => h_.1))) hb); have n5_ := Aside0.mk (Kd.R_below (by (with_reducible repeat (first | apply Kd.R_alloc | apply Kd.R_drewN | apply Kd.R_drew)); exact (Kd.R_mono (Kd.R_far (p := ⟨gb619, 1, none⟩) (Kd.R_far (p := ⟨gb619, 0, none⟩) (Kd.R_types HO611.out BK619.out (by decide)) (fun _ hk => hk.2) (.int .i64 t615)) (fun _ hk => hk.2) (.slice Ao53 t616.length co53)) (fun _ h_ => h_.1))) hb); have n6_ := Aside0.mk (Kd.R_below (by (with_reducible repeat (first | apply Kd.R_alloc | apply Kd.R_drewN | apply Kd.R_drew)); exact (Kd.R_mono (Kd.R_far (p := ⟨gb619, 1, none⟩) (Kd.R_far (p := ⟨gb619, 0, none⟩) (Kd.R_types HO614.out BK619.out (by decide)) (fun _ hk => hk.2) (.int .i64 t615)) (fun _ hk => hk.2) (.slice Ao53 t616.length co53)) (fun _ h_ => h_.1))) hb); have n7_ := Aside0.mk (Kd.R_below (by (with_reducible repeat (first | apply Kd.R_alloc | apply Kd.R_drewN | apply Kd.R_drew)); exact (Kd.R_mono (Kd.R_far (p := ⟨gb619, 1, none⟩) (Kd.R_far (p := ⟨gb619, 0, none⟩) (Kd.R_types HO618.out BK619.out (by decide)) (fun _ hk => hk.2) (.int .i64 t615)) (fun _ hk => hk.2) (.slice Ao53 t616.length co53)) (fun _ h_ => h_.1))) hb); have n8_ := Aside0.mk (blk_below (g := gb605) (o := .cells #[.int .i64 t601, .slice Ao42 t602.length co42] 49 (0, 0)) (by (with_reducible repeat (first | refine blk_drewN ?_ _ | refine blk_drew ?_ | refine blk_alloc ?_ _)); refine blk_far ?_ NB605_619.out _; (with_reducible repeat (first | refine blk_drewN ?_ _ | refine blk_drew ?_ | refine blk_alloc ?_ _)); refine blk_far ?_ NB605_619.out _; (with_reducible repeat (first | refine blk_drewN ?_ _ | refine blk_drew ?_ | refine blk_alloc ?_ _)); exact BK605.out) hb); have n9_ := Aside0.mk (blk_below (g := gb619) (o := .cells #[.int .i64 t615, .slice Ao53 t616.length co53] 49 (0, 0)) (by (with_reducible repeat (first | refine blk_drewN ?_ _ | refine blk_drew ?_ | refine blk_alloc ?_ _)); refine blk_put (cs := #[.int .i64 t615, .slice none 0 0]) ?_ 1 _ rfl; (with_reducible repeat (first | refine blk_drewN ?_ _ | refine blk_drew ?_ | refine blk_alloc ?_ _)); refine blk_put (cs := #[.int .i64 0, .slice none 0 0]) ?_ 0 _ rfl; (with_reducible repeat (first | refine blk_drewN ?_ _ | refine blk_drew ?_ | refine blk_alloc ?_ _)); exact BK619.out) hb); have n10_ := Aside0.mk (below_step (by repeat (first | (with_reducible first | exact HB.out | apply below_alloc | apply pw_below_drewN | apply below_drew1 | refine below_set ?_ GE605.out | refine below_set ?_ GE619.out) | exact HB.out)) hb); clear HO594; clear HO597; clear HO600; clear HO604; clear HO608; clear HO611; clear HO614; clear HO618; clear BK605; clear BK619; clear HB; have HO594 := n0_; have HO597 := n1_; have HO600 := n2_; have HO604 := n3_; have HO608 := n4_; have HO611 := n5_; have HO614 := n6_; have HO618 := n7_; have BK605 := n8_; have BK619 := n9_; have HB := n10_; clear n0_ n1_ n2_ n3_ n4_ n5_ n6_ n7_ n8_ n9_ n10_; (try clear hb); (try clear hb2); (try clear hk); (try clear hi)) | ((with_reducible refine gate_callee (f := 15) rfl ?_); refine goesL_ (some 55) rfl rfl Try.func15 (by kernel_rfl) rfl #[.slice A0 l0.length c0] rfl (by (try simp only [List.map_toArray, List.map_cons, List.map_nil]); first | done | rfl | (simp only [List.length_drop, List.length_take]; rfl)) ?_; (with_reducible refine (laws_toStringS.calls k _ _ l0 t621 _ ?side1 ?side2 A20.out).mono ?_); (case side1 => repeat (first | exact (Kd.C_below HR0.out HB.out) | (with_reducible refine Kd.C_alloc ?_ _) | (with_reducible refine Kd.C_drewN ?_ _) | (with_reducible refine Kd.C_drew ?_))); (case side2 => exact HC0.out); rintro e w56 ⟨v622, rfl, ho0, hb⟩; refine ⟨_, rfl, ?_⟩; have n0_ := Aside0.mk (Kd.R_elder' (by (with_reducible repeat (first | apply Kd.R_alloc | apply Kd.R_drewN | apply Kd.R_drew)); exact HO594.out) (Kd.R_base ho0) hb); have n1_ := Aside0.mk (Kd.R_elder' (by (with_reducible repeat (first | apply Kd.R_alloc | apply Kd.R_drewN | apply Kd.R_drew)); exact HO597.out) (Kd.R_base ho0) hb); have n2_ := Aside0.mk (Kd.R_below (by (with_reducible repeat (first | apply Kd.R_alloc | apply Kd.R_drewN | apply Kd.R_drew)); exact HO600.out) hb); have n3_ := Aside0.mk (Kd.R_elder' (by (with_reducible repeat (first | apply Kd.R_alloc | apply Kd.R_drewN | apply Kd.R_drew)); exact HO604.out) (Kd.R_base ho0) hb); have n4_ := Aside0.mk (Kd.R_elder' (by (with_reducible repeat (first | apply Kd.R_alloc | apply Kd.R_drewN | apply Kd.R_drew)); exact HO608.out) (Kd.R_base ho0) hb); have n5_ := Aside0.mk (Kd.R_elder' (by (with_reducible repeat (first | apply Kd.R_alloc | apply Kd.R_drewN | apply Kd.R_drew)); exact HO611.out) (Kd.R_base ho0) hb); have n6_ := Aside0.mk (Kd.R_below (by (with_reducible repeat (first | apply Kd.R_alloc | apply Kd.R_drewN | apply Kd.R_drew)); exact HO614.out) hb); have n7_ := Aside0.mk (Kd.R_elder' (by (with_reducible repeat (first | apply Kd.R_alloc | apply Kd.R_drewN | apply Kd.R_drew)); exact HO618.out) (Kd.R_base ho0) hb); have n8_ := Aside0.mk (Kd.R_lower (Kd.R_new' (Kd.R_new' (Kd.R_new' (Kd.R_new' (Kd.R_new' (Kd.R_new' ho0 (Kd.R_lt (by (with_reducible repeat (first | apply Kd.R_alloc | apply Kd.R_drewN | apply Kd.R_drew)); exact HO594.out))) (Kd.R_lt (by (with_reducible repeat (first | apply Kd.R_alloc | apply Kd.R_drewN | apply Kd.R_drew)); exact HO597.out))) (Kd.R_lt (by (with_reducible repeat (first | apply Kd.R_alloc | apply Kd.R_drewN | apply Kd.R_drew)); exact HO604.out))) (Kd.R_lt (by (with_reducible repeat (first | apply Kd.R_alloc | apply Kd.R_drewN | apply Kd.R_drew)); exact HO608.out))) (Kd.R_lt (by (with_reducible repeat (first | apply Kd.R_alloc | apply Kd.R_drewN | apply Kd.R_drew)); exact HO611.out))) (Kd.R_lt (by (with_reducible repeat (first | apply Kd.R_alloc | apply Kd.R_drewN | apply Kd.R_drew)); exact HO618.out))) (below_size (by repeat (first | (with_reducible first | exact HB.out | apply below_alloc | apply pw_below_drewN | apply below_drew1 | refine below_set ?_ GE605.out | refine below_set ?_ GE619.out) | exact HB.out)))); have n9_ := Aside0.mk (blk_below (g := gb605) (o := .cells #[.int .i64 t601, .slice Ao42 t602.length co42] 49 (0, 0)) (by (with_reducible repeat (first | refine blk_drewN ?_ _ | refine blk_drew ?_ | refine blk_alloc ?_ _)); exact BK605.out) hb); have n10_ := Aside0.mk (blk_below (g := gb619) (o := .cells #[.int .i64 t615, .slice Ao53 t616.length co53] 49 (0, 0)) (by (with_reducible repeat (first | refine blk_drewN ?_ _ | refine blk_drew ?_ | refine blk_alloc ?_ _)); exact BK619.out) hb); have n11_ := Aside0.mk (below_step (by repeat (first | (with_reducible first | exact HB.out | apply below_alloc | apply pw_below_drewN | apply below_drew1 | refine below_set ?_ GE605.out | refine below_set ?_ GE619.out) | exact HB.out)) hb); clear HO594; clear HO597; clear HO600; clear HO604; clear HO608; clear HO611; clear HO614; clear HO618; clear BK605; clear BK619; clear HB; have HO594 := n0_; have HO597 := n1_; have HO600 := n2_; have HO604 := n3_; have HO608 := n4_; have HO611 := n5_; have HO614 := n6_; have HO618 := n7_; have HO623 := n8_; have BK605 := n9_; have BK619 := n10_; have HB := n11_; clear n0_ n1_ n2_ n3_ n4_ n5_ n6_ n7_ n8_ n9_ n10_ n11_; (try clear hb); (try clear hb2); (try clear hk); (try clear hi); (try clear ho0); obtain ⟨Ao57, co57, eo57⟩ := Kd.R_slice HO623.out; subst eo57) | ((with_reducible refine gate_callee (f := 18) rfl ?_); refine goesL_ (some 56) rfl rfl Try.func18 (by kernel_rfl) rfl #[.slice Ao46 t606.length co46, .slice Ao57 t621.length co57] rfl (by (try simp only [List.map_toArray, List.map_cons, List.map_nil]); first | done | rfl | (simp only [List.length_drop, List.length_take]; rfl)) ?_; (with_reducible refine (laws_eqStringS.calls k _ _ t606 _ _ t621 true _ ?side1 ?side2 ?side3 ?side4 A21.out).mono ?_); (case side1 => repeat (first | exact (Kd.R_reads' HO608.out).2.2 | (with_reducible refine Kd.C_alloc ?_ _) | (with_reducible refine Kd.C_drewN ?_ _) | (with_reducible refine Kd.C_drew ?_))); (case side2 => exact (Kd.R_reads' HO608.out).2.1); (case side3 => repeat (first | exact (Kd.R_reads' HO623.out).2.2 | (with_reducible refine Kd.C_alloc ?_ _) | (with_reducible refine Kd.C_drewN ?_ _) | (with_reducible refine Kd.C_drew ?_))); (case side4 => exact (Kd.R_reads' HO623.out).2.1); rintro e w' ⟨rfl, ⟨nd, rfl⟩⟩; refine ⟨_, rfl, ?_⟩) | ((with_reducible refine gate_callee (f := 15) rfl ?_); refine goesL_ (some 60) rfl rfl Try.func15 (by kernel_rfl) rfl #[.slice A1 l1.length c1] rfl (by (try simp only [List.map_toArray, List.map_cons, List.map_nil]); first | done | rfl | (simp only [List.length_drop, List.length_take]; rfl)) ?_; (with_reducible refine (laws_toStringS.calls k _ _ l1 t625 _ ?side1 ?side2 A23.out).mono ?_); (case side1 => repeat (first | exact (Kd.C_below HR1.out (by repeat (first | (with_reducible first | exact HB.out | apply below_alloc | apply pw_below_drewN | apply below_drew1 | refine below_set ?_ GE605.out | refine below_set ?_ GE619.out) | exact HB.out))) | (with_reducible refine Kd.C_alloc ?_ _) | (with_reducible refine Kd.C_drewN ?_ _) | (with_reducible refine Kd.C_drew ?_))); (case side2 => exact HC1.out); rintro e w58 ⟨v626, rfl, ho0, hb⟩; refine ⟨_, rfl, ?_⟩; have n0_ := Aside0.mk (Kd.R_elder' (by (with_reducible repeat (first | apply Kd.R_alloc | apply Kd.R_drewN | apply Kd.R_drew)); exact HO594.out) (Kd.R_base ho0) hb); have n1_ := Aside0.mk (Kd.R_elder' (by (with_reducible repeat (first | apply Kd.R_alloc | apply Kd.R_drewN | apply Kd.R_drew)); exact HO597.out) (Kd.R_base ho0) hb); have n2_ := Aside0.mk (Kd.R_below (by (with_reducible repeat (first | apply Kd.R_alloc | apply Kd.R_drewN | apply Kd.R_drew)); exact HO600.out) hb); have n3_ := Aside0.mk (Kd.R_elder' (by (with_reducible repeat (first | apply Kd.R_alloc | apply Kd.R_drewN | apply Kd.R_drew)); exact HO604.out) (Kd.R_base ho0) hb); have n4_ := Aside0.mk (Kd.R_elder' (by (with_reducible repeat (first | apply Kd.R_alloc | apply Kd.R_drewN | apply Kd.R_drew)); exact HO608.out) (Kd.R_base ho0) hb); have n5_ := Aside0.mk (Kd.R_elder' (by (with_reducible repeat (first | apply Kd.R_alloc | apply Kd.R_drewN | apply Kd.R_drew)); exact HO611.out) (Kd.R_base ho0) hb); have n6_ := Aside0.mk (Kd.R_below (by (with_reducible repeat (first | apply Kd.R_alloc | apply Kd.R_drewN | apply Kd.R_drew)); exact HO614.out) hb); have n7_ := Aside0.mk (Kd.R_elder' (by (with_reducible repeat (first | apply Kd.R_alloc | apply Kd.R_drewN | apply Kd.R_drew)); exact HO618.out) (Kd.R_base ho0) hb); have n8_ := Aside0.mk (Kd.R_elder' (by (with_reducible repeat (first | apply Kd.R_alloc | apply Kd.R_drewN | apply Kd.R_drew)); exact HO623.out) (Kd.R_base ho0) hb); have n9_ := Aside0.mk (Kd.R_lower (Kd.R_new' (Kd.R_new' (Kd.R_new' (Kd.R_new' (Kd.R_new' (Kd.R_new' (Kd.R_new' ho0 (Kd.R_lt (by (with_reducible repeat (first | apply Kd.R_alloc | apply Kd.R_drewN | apply Kd.R_drew)); exact HO594.out))) (Kd.R_lt (by (with_reducible repeat (first | apply Kd.R_alloc | apply Kd.R_drewN | apply Kd.R_drew)); exact HO597.out))) (Kd.R_lt (by (with_reducible repeat (first | apply Kd.R_alloc | apply Kd.R_drewN | apply Kd.R_drew)); exact HO604.out))) (Kd.R_lt (by (with_reducible repeat (first | apply Kd.R_alloc | apply Kd.R_drewN | apply Kd.R_drew)); exact HO608.out))) (Kd.R_lt (by (with_reducible repeat (first | apply Kd.R_alloc | apply Kd.R_drewN | apply Kd.R_drew)); exact HO611.out))) (Kd.R_lt (by (with_reducible repeat (first | apply Kd.R_alloc | apply Kd.R_drewN | apply Kd.R_drew)); exact HO618.out))) (Kd.R_lt (by (with_reducible repeat (first | apply Kd.R_alloc | apply Kd.R_drewN | apply Kd.R_drew)); exact HO623.out))) (below_size (by repeat (first | (with_reducible first | exact HB.out | apply below_alloc | apply pw_below_drewN | apply below_drew1 | refine below_set ?_ GE605.out | refine below_set ?_ GE619.out) | exact HB.out)))); have n10_ := Aside0.mk (blk_below (g := gb605) (o := .cells #[.int .i64 t601, .slice Ao42 t602.length co42] 49 (0, 0)) (by (with_reducible repeat (first | refine blk_drewN ?_ _ | refine blk_drew ?_ | refine blk_alloc ?_ _)); exact BK605.out) hb); have n11_ := Aside0.mk (blk_below (g := gb619) (o := .cells #[.int .i64 t615, .slice Ao53 t616.length co53] 49 (0, 0)) (by (with_reducible repeat (first | refine blk_drewN ?_ _ | refine blk_drew ?_ | refine blk_alloc ?_ _)); exact BK619.out) hb); have n12_ := Aside0.mk (below_step (by repeat (first | (with_reducible first | exact HB.out | apply below_alloc | apply pw_below_drewN | apply below_drew1 | refine below_set ?_ GE605.out | refine below_set ?_ GE619.out) | exact HB.out)) hb); clear HO594; clear HO597; clear HO600; clear HO604; clear HO608; clear HO611; clear HO614; clear HO618; clear HO623; clear BK605; clear BK619; clear HB; have HO594 := n0_; have HO597 := n1_; have HO600 := n2_; have HO604 := n3_; have HO608 := n4_; have HO611 := n5_; have HO614 := n6_; have HO618 := n7_; have HO623 := n8_; have HO627 := n9_; have BK605 := n10_; have BK619 := n11_; have HB := n12_; clear n0_ n1_ n2_ n3_ n4_ n5_ n6_ n7_ n8_ n9_ n10_ n11_ n12_; (try clear hb); (try clear hb2); (try clear hk); (try clear hi); (try clear ho0); obtain ⟨Ao59, co59, eo59⟩ := Kd.R_slice HO627.out; subst eo59) | ((with_reducible refine gate_callee (f := 18) rfl ?_); refine goesL_ (some 61) rfl rfl Try.func18 (by kernel_rfl) rfl #[.slice Ao47 t609.length co47, .slice Ao59 t625.length co59] rfl (by (try simp only [List.map_toArray, List.map_cons, List.map_nil]); first | done | rfl | (simp only [List.length_drop, List.length_take]; rfl)) ?_; (with_reducible refine (laws_eqStringS.calls k _ _ t609 _ _ t625 true _ ?side1 ?side2 ?side3 ?side4 A24.out).mono ?_); (case side1 => repeat (first | exact (Kd.R_reads' HO611.out).2.2 | (with_reducible refine Kd.C_alloc ?_ _) | (with_reducible refine Kd.C_drewN ?_ _) | (with_reducible refine Kd.C_drew ?_))); (case side2 => exact (Kd.R_reads' HO611.out).2.1); (case side3 => repeat (first | exact (Kd.R_reads' HO627.out).2.2 | (with_reducible refine Kd.C_alloc ?_ _) | (with_reducible refine Kd.C_drewN ?_ _) | (with_reducible refine Kd.C_drew ?_))); (case side4 => exact (Kd.R_reads' HO627.out).2.1); rintro e w' ⟨rfl, ⟨nd, rfl⟩⟩; refine ⟨_, rfl, ?_⟩) | ((with_reducible refine gate_callee (f := 26) rfl ?_); refine goesL_ (some 65) rfl rfl Try.func26 (by kernel_rfl) rfl #[.slice A2 l2.length c2] rfl (by (try simp only [List.map_toArray, List.map_cons, List.map_nil]); first | done | rfl | (simp only [List.length_drop, List.length_take]; rfl)) ?_; (with_reducible refine (laws_toChangeS.calls k _ _ l2 t629 _ ?side1 ?side2 A26.out).mono ?_); (case side1 => repeat (first | exact (Kd.C_below HR2.out (by repeat (first | (with_reducible first | exact HB.out | apply below_alloc | apply pw_below_drewN | apply below_drew1 | refine below_set ?_ GE605.out | refine below_set ?_ GE619.out) | exact HB.out))) | (with_reducible refine Kd.C_alloc ?_ _) | (with_reducible refine Kd.C_drewN ?_ _) | (with_reducible refine Kd.C_drew ?_))); (case side2 => exact HC2.out); rintro e w60 ⟨v630, rfl, ho0, hb⟩; refine ⟨_, rfl, ?_⟩; have n0_ := Aside0.mk (Kd.R_below (by (with_reducible repeat (first | apply Kd.R_alloc | apply Kd.R_drewN | apply Kd.R_drew)); exact HO594.out) hb); have n1_ := Aside0.mk (Kd.R_below (by (with_reducible repeat (first | apply Kd.R_alloc | apply Kd.R_drewN | apply Kd.R_drew)); exact HO597.out) hb); have n2_ := Aside0.mk (Kd.R_elder' (by (with_reducible repeat (first | apply Kd.R_alloc | apply Kd.R_drewN | apply Kd.R_drew)); exact HO600.out) (Kd.R_base ho0) hb); have n3_ := Aside0.mk (Kd.R_below (by (with_reducible repeat (first | apply Kd.R_alloc | apply Kd.R_drewN | apply Kd.R_drew)); exact HO604.out) hb); have n4_ := Aside0.mk (Kd.R_below (by (with_reducible repeat (first | apply Kd.R_alloc | apply Kd.R_drewN | apply Kd.R_drew)); exact HO608.out) hb); have n5_ := Aside0.mk (Kd.R_below (by (with_reducible repeat (first | apply Kd.R_alloc | apply Kd.R_drewN | apply Kd.R_drew)); exact HO611.out) hb); have n6_ := Aside0.mk (Kd.R_elder' (by (with_reducible repeat (first | apply Kd.R_alloc | apply Kd.R_drewN | apply Kd.R_drew)); exact HO614.out) (Kd.R_base ho0) hb); have n7_ := Aside0.mk (Kd.R_below (by (with_reducible repeat (first | apply Kd.R_alloc | apply Kd.R_drewN | apply Kd.R_drew)); exact HO618.out) hb); have n8_ := Aside0.mk (Kd.R_below (by (with_reducible repeat (first | apply Kd.R_alloc | apply Kd.R_drewN | apply Kd.R_drew)); exact HO623.out) hb); have n9_ := Aside0.mk (Kd.R_below (by (with_reducible repeat (first | apply Kd.R_alloc | apply Kd.R_drewN | apply Kd.R_drew)); exact HO627.out) hb); have n10_ := Aside0.mk (Kd.R_lower (Kd.R_new' (Kd.R_new' ho0 (Kd.R_lt (by (with_reducible repeat (first | apply Kd.R_alloc | apply Kd.R_drewN | apply Kd.R_drew)); exact HO600.out))) (Kd.R_lt (by (with_reducible repeat (first | apply Kd.R_alloc | apply Kd.R_drewN | apply Kd.R_drew)); exact HO614.out))) (below_size (by repeat (first | (with_reducible first | exact HB.out | apply below_alloc | apply pw_below_drewN | apply below_drew1 | refine below_set ?_ GE605.out | refine below_set ?_ GE619.out) | exact HB.out)))); have n11_ := Aside0.mk (blk_below (g := gb605) (o := .cells #[.int .i64 t601, .slice Ao42 t602.length co42] 49 (0, 0)) (by (with_reducible repeat (first | refine blk_drewN ?_ _ | refine blk_drew ?_ | refine blk_alloc ?_ _)); exact BK605.out) hb); have n12_ := Aside0.mk (blk_below (g := gb619) (o := .cells #[.int .i64 t615, .slice Ao53 t616.length co53] 49 (0, 0)) (by (with_reducible repeat (first | refine blk_drewN ?_ _ | refine blk_drew ?_ | refine blk_alloc ?_ _)); exact BK619.out) hb); have n13_ := Aside0.mk (below_step (by repeat (first | (with_reducible first | exact HB.out | apply below_alloc | apply pw_below_drewN | apply below_drew1 | refine below_set ?_ GE605.out | refine below_set ?_ GE619.out) | exact HB.out)) hb); clear HO594; clear HO597; clear HO600; clear HO604; clear HO608; clear HO611; clear HO614; clear HO618; clear HO623; clear HO627; clear BK605; clear BK619; clear HB; have HO594 := n0_; have HO597 := n1_; have HO600 := n2_; have HO604 := n3_; have HO608 := n4_; have HO611 := n5_; have HO614 := n6_; have HO618 := n7_; have HO623 := n8_; have HO627 := n9_; have HO631 := n10_; have BK605 := n11_; have BK619 := n12_; have HB := n13_; clear n0_ n1_ n2_ n3_ n4_ n5_ n6_ n7_ n8_ n9_ n10_ n11_ n12_ n13_; (try clear hb); (try clear hb2); (try clear hk); (try clear hi); (try clear ho0); obtain ⟨Ao61, co61, eo61⟩ := Kd.R_slice HO631.out; subst eo61) | ((with_reducible refine gate_callee (f := 28) rfl ?_); refine goesL_ (some 66) rfl rfl Try.func28 (by kernel_rfl) rfl #[.slice Ao48 t612.length co48, .slice Ao61 t629.length co61] rfl (by (try simp only [List.map_toArray, List.map_cons, List.map_nil]); first | done | rfl | (simp only [List.length_drop, List.length_take]; rfl)) ?_; (with_reducible refine (laws_eqChangeS.calls k _ _ t612 _ _ t629 true _ ?side1 ?side2 ?side3 ?side4 A27.out).mono ?_); (case side1 => repeat (first | exact (Kd.R_reads' HO614.out).2.2 | (with_reducible refine Kd.C_alloc ?_ _) | (with_reducible refine Kd.C_drewN ?_ _) | (with_reducible refine Kd.C_drew ?_))); (case side2 => exact (Kd.R_reads' HO614.out).2.1); (case side3 => repeat (first | exact (Kd.R_reads' HO631.out).2.2 | (with_reducible refine Kd.C_alloc ?_ _) | (with_reducible refine Kd.C_drewN ?_ _) | (with_reducible refine Kd.C_drew ?_))); (case side4 => exact (Kd.R_reads' HO631.out).2.1); rintro e w62 ⟨rfl, hb⟩; refine ⟨_, rfl, ?_⟩; have n0_ := Aside0.mk (Kd.R_below (by (with_reducible repeat (first | apply Kd.R_alloc | apply Kd.R_drewN | apply Kd.R_drew)); exact HO594.out) hb); have n1_ := Aside0.mk (Kd.R_below (by (with_reducible repeat (first | apply Kd.R_alloc | apply Kd.R_drewN | apply Kd.R_drew)); exact HO597.out) hb); have n2_ := Aside0.mk (Kd.R_below (by (with_reducible repeat (first | apply Kd.R_alloc | apply Kd.R_drewN | apply Kd.R_drew)); exact HO600.out) hb); have n3_ := Aside0.mk (Kd.R_below (by (with_reducible repeat (first | apply Kd.R_alloc | apply Kd.R_drewN | apply Kd.R_drew)); exact HO604.out) hb); have n4_ := Aside0.mk (Kd.R_below (by (with_reducible repeat (first | apply Kd.R_alloc | apply Kd.R_drewN | apply Kd.R_drew)); exact HO608.out) hb); have n5_ := Aside0.mk (Kd.R_below (by (with_reducible repeat (first | apply Kd.R_alloc | apply Kd.R_drewN | apply Kd.R_drew)); exact HO611.out) hb); have n6_ := Aside0.mk (Kd.R_below (by (with_reducible repeat (first | apply Kd.R_alloc | apply Kd.R_drewN | apply Kd.R_drew)); exact HO614.out) hb); have n7_ := Aside0.mk (Kd.R_below (by (with_reducible repeat (first | apply Kd.R_alloc | apply Kd.R_drewN | apply Kd.R_drew)); exact HO618.out) hb); have n8_ := Aside0.mk (Kd.R_below (by (with_reducible repeat (first | apply Kd.R_alloc | apply Kd.R_drewN | apply Kd.R_drew)); exact HO623.out) hb); have n9_ := Aside0.mk (Kd.R_below (by (with_reducible repeat (first | apply Kd.R_alloc | apply Kd.R_drewN | apply Kd.R_drew)); exact HO627.out) hb); have n10_ := Aside0.mk (Kd.R_below (by (with_reducible repeat (first | apply Kd.R_alloc | apply Kd.R_drewN | apply Kd.R_drew)); exact HO631.out) hb); have n11_ := Aside0.mk (blk_below (g := gb605) (o := .cells #[.int .i64 t601, .slice Ao42 t602.length co42] 49 (0, 0)) (by (with_reducible repeat (first | refine blk_drewN ?_ _ | refine blk_drew ?_ | refine blk_alloc ?_ _)); exact BK605.out) hb); have n12_ := Aside0.mk (blk_below (g := gb619) (o := .cells #[.int .i64 t615, .slice Ao53 t616.length co53] 49 (0, 0)) (by (with_reducible repeat (first | refine blk_drewN ?_ _ | refine blk_drew ?_ | refine blk_alloc ?_ _)); exact BK619.out) hb); have n13_ := Aside0.mk (below_step (by repeat (first | (with_reducible first | exact HB.out | apply below_alloc | apply pw_below_drewN | apply below_drew1 | refine below_set ?_ GE605.out | refine below_set ?_ GE619.out) | exact HB.out)) hb); clear HO594; clear HO597; clear HO600; clear HO604; clear HO608; clear HO611; clear HO614; clear HO618; clear HO623; clear HO627; clear HO631; clear BK605; clear BK619; clear HB; have HO594 := n0_; have HO597 := n1_; have HO600 := n2_; have HO604 := n3_; have HO608 := n4_; have HO611 := n5_; have HO614 := n6_; have HO618 := n7_; have HO623 := n8_; have HO627 := n9_; have HO631 := n10_; have BK605 := n11_; have BK619 := n12_; have HB := n13_; clear n0_ n1_ n2_ n3_ n4_ n5_ n6_ n7_ n8_ n9_ n10_ n11_ n12_ n13_; (try clear hb); (try clear hb2); (try clear hk); (try clear hi)) | ((with_reducible refine gate_callee (f := 32) rfl ?_); refine goesL_ (some 70) rfl rfl Try.func32 (by kernel_rfl) rfl #[.slice Ao46 t606.length co46, .int .i64 1] rfl (by (try simp only [List.map_toArray, List.map_cons, List.map_nil]); first | done | rfl | (simp only [List.length_drop, List.length_take]; rfl)) ?_; (with_reducible refine (laws_markStringS.calls k (fun k_ => some k_ = (.slice Ao46 t606.length co46 : Value).ownBlock) (.slice Ao46 t606.length co46) t606 1 t633 t634 w _ ?side1 ?side2 A29.out).mono ?_); (case side1 => repeat (first | (with_reducible first | exact HB.out | apply below_alloc | apply pw_below_drewN | apply below_drew1 | refine below_set ?_ GE605.out | refine below_set ?_ GE619.out) | exact HB.out)); (case side2 => exact Kd.R_tight rfl HO608.out); rintro e w63 ⟨rfl, hy0, hb, hkp⟩; refine ⟨_, rfl, ?_⟩; have n0_ := Aside0.mk (Kd.R_mono (ok' := fun k_ => some k_ ≠ (.slice Ao37 t595.length co37 : Value).ownBlock ∧ some k_ ≠ (.slice Ao42 t602.length co42 : Value).ownBlock ∧ some k_ ≠ (.slice Ao46 t606.length co46 : Value).ownBlock ∧ some k_ ≠ (.slice Ao47 t609.length co47 : Value).ownBlock ∧ some k_ ≠ (.slice Ao53 t616.length co53 : Value).ownBlock ∧ some k_ ≠ (.slice Ao57 t621.length co57 : Value).ownBlock ∧ some k_ ≠ (.slice Ao59 t625.length co59 : Value).ownBlock) (Kd.R_keptB (HO594.out) hkp (fun k_ hk_ hs_ => (hk_.1.1.1.1.2) hs_)) (fun k_ hk_ => ⟨hk_.1.1.1.1.1.1.1.2, hk_.1.1.1.1.1.1.2, hk_.1.1.1.1.1.2, hk_.1.1.1.1.2, hk_.1.1.1.2, hk_.1.1.2, hk_.1.2⟩)); have n1_ := Aside0.mk (Kd.R_mono (ok' := fun k_ => some k_ ≠ (.slice Ao36 t592.length co36 : Value).ownBlock ∧ some k_ ≠ (.slice Ao42 t602.length co42 : Value).ownBlock ∧ some k_ ≠ (.slice Ao46 t606.length co46 : Value).ownBlock ∧ some k_ ≠ (.slice Ao47 t609.length co47 : Value).ownBlock ∧ some k_ ≠ (.slice Ao53 t616.length co53 : Value).ownBlock ∧ some k_ ≠ (.slice Ao57 t621.length co57 : Value).ownBlock ∧ some k_ ≠ (.slice Ao59 t625.length co59 : Value).ownBlock) (Kd.R_keptB (HO597.out) hkp (fun k_ hk_ hs_ => (hk_.1.1.1.1.2) hs_)) (fun k_ hk_ => ⟨hk_.1.1.1.1.1.1.1.2, hk_.1.1.1.1.1.1.2, hk_.1.1.1.1.1.2, hk_.1.1.1.1.2, hk_.1.1.1.2, hk_.1.1.2, hk_.1.2⟩)); have n2_ := Aside0.mk (Kd.R_mono (ok' := fun k_ => some k_ ≠ (.slice Ao48 t612.length co48 : Value).ownBlock ∧ some k_ ≠ (.slice Ao61 t629.length co61 : Value).ownBlock) (Kd.R_keptB ((Kd.R_apart' HO600.out (Kd.R_typed HO608.out) (by decide))) hkp (fun k_ hk_ hs_ => (hk_.2) hs_)) (fun k_ hk_ => ⟨hk_.1.1.1.2, hk_.1.1.2⟩)); have n3_ := Aside0.mk (Kd.R_mono (ok' := fun k_ => some k_ ≠ (.slice Ao36 t592.length co36 : Value).ownBlock ∧ some k_ ≠ (.slice Ao37 t595.length co37 : Value).ownBlock ∧ some k_ ≠ (.slice Ao46 t606.length co46 : Value).ownBlock ∧ some k_ ≠ (.slice Ao47 t609.length co47 : Value).ownBlock ∧ some k_ ≠ (.slice Ao53 t616.length co53 : Value).ownBlock ∧ some k_ ≠ (.slice Ao57 t621.length co57 : Value).ownBlock ∧ some k_ ≠ (.slice Ao59 t625.length co59 : Value).ownBlock) (Kd.R_keptB (HO604.out) hkp (fun k_ hk_ hs_ => (hk_.1.1.1.1.2) hs_)) (fun k_ hk_ => ⟨hk_.1.1.1.1.1.1.1.2, hk_.1.1.1.1.1.1.2, hk_.1.1.1.1.1.2, hk_.1.1.1.1.2, hk_.1.1.1.2, hk_.1.1.2, hk_.1.2⟩)); have n4_ := Aside0.mk (blk_kept (by (with_reducible repeat (first | refine blk_drewN ?_ _ | refine blk_drew ?_ | refine blk_alloc ?_ _)); exact BK605.out) hkp (fun hs_ => (fun e_ => (Kd.R_ne HO608.out BK605.out (by decide)) e_) hs_)); have n5_ := Aside0.mk (Kd.R_reok rfl hy0 (fun k_ e_ => HO608.out.1 k_ e_)); have n6_ := Aside0.mk (Kd.R_mono (ok' := fun k_ => some k_ ≠ (.slice Ao36 t592.length co36 : Value).ownBlock ∧ some k_ ≠ (.slice Ao37 t595.length co37 : Value).ownBlock ∧ some k_ ≠ (.slice Ao42 t602.length co42 : Value).ownBlock ∧ some k_ ≠ (.slice Ao46 t606.length co46 : Value).ownBlock ∧ some k_ ≠ (.slice Ao53 t616.length co53 : Value).ownBlock ∧ some k_ ≠ (.slice Ao57 t621.length co57 : Value).ownBlock ∧ some k_ ≠ (.slice Ao59 t625.length co59 : Value).ownBlock) (Kd.R_keptB (HO611.out) hkp (fun k_ hk_ hs_ => (hk_.1.1.1.2) hs_)) (fun k_ hk_ => ⟨hk_.1.1.1.1.1.1.1.2, hk_.1.1.1.1.1.1.2, hk_.1.1.1.1.1.2, hk_.1.1.1.1.2, hk_.1.1.1.2, hk_.1.1.2, hk_.1.2⟩)); have n7_ := Aside0.mk (Kd.R_mono (ok' := fun k_ => some k_ ≠ (.slice Ao38 t598.length co38 : Value).ownBlock ∧ some k_ ≠ (.slice Ao61 t629.length co61 : Value).ownBlock) (Kd.R_keptB ((Kd.R_apart' HO614.out (Kd.R_typed HO608.out) (by decide))) hkp (fun k_ hk_ hs_ => (hk_.2) hs_)) (fun k_ hk_ => ⟨hk_.1.1.1.2, hk_.1.1.2⟩)); have n8_ := Aside0.mk (Kd.R_mono (ok' := fun k_ => some k_ ≠ (.slice Ao36 t592.length co36 : Value).ownBlock ∧ some k_ ≠ (.slice Ao37 t595.length co37 : Value).ownBlock ∧ some k_ ≠ (.slice Ao42 t602.length co42 : Value).ownBlock ∧ some k_ ≠ (.slice Ao46 t606.length co46 : Value).ownBlock ∧ some k_ ≠ (.slice Ao47 t609.length co47 : Value).ownBlock ∧ some k_ ≠ (.slice Ao57 t621.length co57 : Value).ownBlock ∧ some k_ ≠ (.slice Ao59 t625.length co59 : Value).ownBlock) (Kd.R_keptB (HO618.out) hkp (fun k_ hk_ hs_ => (hk_.1.1.1.2) hs_)) (fun k_ hk_ => ⟨hk_.1.1.1.1.1.1.1.2, hk_.1.1.1.1.1.1.2, hk_.1.1.1.1.1.2, hk_.1.1.1.1.2, hk_.1.1.1.2, hk_.1.1.2, hk_.1.2⟩)); have n9_ := Aside0.mk (blk_kept (by (with_reducible repeat (first | refine blk_drewN ?_ _ | refine blk_drew ?_ | refine blk_alloc ?_ _)); exact BK619.out) hkp (fun hs_ => (fun e_ => (Kd.R_ne HO608.out BK619.out (by decide)) e_) hs_)); have n10_ := Aside0.mk (Kd.R_mono (ok' := fun k_ => some k_ ≠ (.slice Ao36 t592.length co36 : Value).ownBlock ∧ some k_ ≠ (.slice Ao37 t595.length co37 : Value).ownBlock ∧ some k_ ≠ (.slice Ao42 t602.length co42 : Value).ownBlock ∧ some k_ ≠ (.slice Ao46 t606.length co46 : Value).ownBlock ∧ some k_ ≠ (.slice Ao47 t609.length co47 : Value).ownBlock ∧ some k_ ≠ (.slice Ao53 t616.length co53 : Value).ownBlock ∧ some k_ ≠ (.slice Ao59 t625.length co59 : Value).ownBlock) (Kd.R_keptB (HO623.out) hkp (fun k_ hk_ hs_ => (hk_.1.1.1.2) hs_)) (fun k_ hk_ => ⟨hk_.1.1.1.1.1.1.1.2, hk_.1.1.1.1.1.1.2, hk_.1.1.1.1.1.2, hk_.1.1.1.1.2, hk_.1.1.1.2, hk_.1.1.2, hk_.1.2⟩)); have n11_ := Aside0.mk (Kd.R_mono (ok' := fun k_ => some k_ ≠ (.slice Ao36 t592.length co36 : Value).ownBlock ∧ some k_ ≠ (.slice Ao37 t595.length co37 : Value).ownBlock ∧ some k_ ≠ (.slice Ao42 t602.length co42 : Value).ownBlock ∧ some k_ ≠ (.slice Ao46 t606.length co46 : Value).ownBlock ∧ some k_ ≠ (.slice Ao47 t609.length co47 : Value).ownBlock ∧ some k_ ≠ (.slice Ao53 t616.length co53 : Value).ownBlock ∧ some k_ ≠ (.slice Ao57 t621.length co57 : Value).ownBlock) (Kd.R_keptB (HO627.out) hkp (fun k_ hk_ hs_ => (hk_.1.1.1.2) hs_)) (fun k_ hk_ => ⟨hk_.1.1.1.1.1.1.1.2, hk_.1.1.1.1.1.1.2, hk_.1.1.1.1.1.2, hk_.1.1.1.1.2, hk_.1.1.1.2, hk_.1.1.2, hk_.1.2⟩)); have n12_ := Aside0.mk (Kd.R_mono (ok' := fun k_ => some k_ ≠ (.slice Ao38 t598.length co38 : Value).ownBlock ∧ some k_ ≠ (.slice Ao48 t612.length co48 : Value).ownBlock) (Kd.R_keptB ((Kd.R_apart' HO631.out (Kd.R_typed HO608.out) (by decide))) hkp (fun k_ hk_ hs_ => (hk_.2) hs_)) (fun k_ hk_ => ⟨hk_.1.1.1.2, hk_.1.1.2⟩)); have n13_ := Aside0.mk (hb); clear HO594; clear HO597; clear HO600; clear HO604; clear BK605; clear HO608; clear HO611; clear HO614; clear HO618; clear BK619; clear HO623; clear HO627; clear HO631; clear HB; have HO594 := n0_; have HO597 := n1_; have HO600 := n2_; have HO604 := n3_; have BK605 := n4_; have HO608 := n5_; have HO611 := n6_; have HO614 := n7_; have HO618 := n8_; have BK619 := n9_; have HO623 := n10_; have HO627 := n11_; have HO631 := n12_; have HB := n13_; clear n0_ n1_ n2_ n3_ n4_ n5_ n6_ n7_ n8_ n9_ n10_ n11_ n12_ n13_; (try clear hb); (try clear hkp); (try clear hy0)) | ((with_reducible refine gate_callee (f := 32) rfl ?_); refine goesL_ (some 73) rfl rfl Try.func32 (by kernel_rfl) rfl #[.slice Ao47 t609.length co47, .int .i64 t633] rfl (by (try simp only [List.map_toArray, List.map_cons, List.map_nil]); first | done | rfl | (simp only [List.length_drop, List.length_take]; rfl)) ?_; (with_reducible refine (laws_markStringS.calls k (fun k_ => some k_ = (.slice Ao47 t609.length co47 : Value).ownBlock) (.slice Ao47 t609.length co47) t609 t633 t635 t636 w _ ?side1 ?side2 A30.out).mono ?_); (case side1 => repeat (first | (with_reducible first | exact HB.out | apply below_alloc | apply pw_below_drewN | apply below_drew1 | refine below_set ?_ GE605.out | refine below_set ?_ GE619.out) | exact HB.out)); (case side2 => exact Kd.R_tight rfl HO611.out); rintro e w64 ⟨rfl, hy0, hb, hkp⟩; refine ⟨_, rfl, ?_⟩; have n0_ := Aside0.mk (Kd.R_mono (ok' := fun k_ => some k_ ≠ (.slice Ao37 t595.length co37 : Value).ownBlock ∧ some k_ ≠ (.slice Ao42 t602.length co42 : Value).ownBlock ∧ some k_ ≠ (.slice Ao46 t606.length co46 : Value).ownBlock ∧ some k_ ≠ (.slice Ao47 t609.length co47 : Value).ownBlock ∧ some k_ ≠ (.slice Ao53 t616.length co53 : Value).ownBlock ∧ some k_ ≠ (.slice Ao57 t621.length co57 : Value).ownBlock ∧ some k_ ≠ (.slice Ao59 t625.length co59 : Value).ownBlock) (Kd.R_keptB (HO594.out) hkp (fun k_ hk_ hs_ => (hk_.2.2.2.1) hs_)) (fun k_ hk_ => ⟨hk_.1.1, hk_.1.2.1, hk_.1.2.2.1, hk_.1.2.2.2.1, hk_.1.2.2.2.2.1, hk_.1.2.2.2.2.2.1, hk_.1.2.2.2.2.2.2⟩)); have n1_ := Aside0.mk (Kd.R_mono (ok' := fun k_ => some k_ ≠ (.slice Ao36 t592.length co36 : Value).ownBlock ∧ some k_ ≠ (.slice Ao42 t602.length co42 : Value).ownBlock ∧ some k_ ≠ (.slice Ao46 t606.length co46 : Value).ownBlock ∧ some k_ ≠ (.slice Ao47 t609.length co47 : Value).ownBlock ∧ some k_ ≠ (.slice Ao53 t616.length co53 : Value).ownBlock ∧ some k_ ≠ (.slice Ao57 t621.length co57 : Value).ownBlock ∧ some k_ ≠ (.slice Ao59 t625.length co59 : Value).ownBlock) (Kd.R_keptB (HO597.out) hkp (fun k_ hk_ hs_ => (hk_.2.2.2.1) hs_)) (fun k_ hk_ => ⟨hk_.1.1, hk_.1.2.1, hk_.1.2.2.1, hk_.1.2.2.2.1, hk_.1.2.2.2.2.1, hk_.1.2.2.2.2.2.1, hk_.1.2.2.2.2.2.2⟩)); have n2_ := Aside0.mk (Kd.R_mono (ok' := fun k_ => some k_ ≠ (.slice Ao48 t612.length co48 : Value).ownBlock ∧ some k_ ≠ (.slice Ao61 t629.length co61 : Value).ownBlock) (Kd.R_keptB ((Kd.R_apart' HO600.out (Kd.R_typed HO611.out) (by decide))) hkp (fun k_ hk_ hs_ => (hk_.2) hs_)) (fun k_ hk_ => ⟨hk_.1.1.1, hk_.1.1.2⟩)); have n3_ := Aside0.mk (Kd.R_mono (ok' := fun k_ => some k_ ≠ (.slice Ao36 t592.length co36 : Value).ownBlock ∧ some k_ ≠ (.slice Ao37 t595.length co37 : Value).ownBlock ∧ some k_ ≠ (.slice Ao46 t606.length co46 : Value).ownBlock ∧ some k_ ≠ (.slice Ao47 t609.length co47 : Value).ownBlock ∧ some k_ ≠ (.slice Ao53 t616.length co53 : Value).ownBlock ∧ some k_ ≠ (.slice Ao57 t621.length co57 : Value).ownBlock ∧ some k_ ≠ (.slice Ao59 t625.length co59 : Value).ownBlock) (Kd.R_keptB (HO604.out) hkp (fun k_ hk_ hs_ => (hk_.2.2.2.1) hs_)) (fun k_ hk_ => ⟨hk_.1.1, hk_.1.2.1, hk_.1.2.2.1, hk_.1.2.2.2.1, hk_.1.2.2.2.2.1, hk_.1.2.2.2.2.2.1, hk_.1.2.2.2.2.2.2⟩)); have n4_ := Aside0.mk (blk_kept (by (with_reducible repeat (first | refine blk_drewN ?_ _ | refine blk_drew ?_ | refine blk_alloc ?_ _)); exact BK605.out) hkp (fun hs_ => (fun e_ => (Kd.R_ne HO611.out BK605.out (by decide)) e_) hs_)); have n5_ := Aside0.mk (Kd.R_mono (ok' := fun k_ => some k_ ≠ (.slice Ao36 t592.length co36 : Value).ownBlock ∧ some k_ ≠ (.slice Ao37 t595.length co37 : Value).ownBlock ∧ some k_ ≠ (.slice Ao42 t602.length co42 : Value).ownBlock ∧ some k_ ≠ (.slice Ao47 t609.length co47 : Value).ownBlock ∧ some k_ ≠ (.slice Ao53 t616.length co53 : Value).ownBlock ∧ some k_ ≠ (.slice Ao57 t621.length co57 : Value).ownBlock ∧ some k_ ≠ (.slice Ao59 t625.length co59 : Value).ownBlock) (Kd.R_keptB (HO608.out) hkp (fun k_ hk_ hs_ => (hk_.1.1.1.2) hs_)) (fun k_ hk_ => ⟨hk_.1.1.1.1.1.1.1.2, hk_.1.1.1.1.1.1.2, hk_.1.1.1.1.1.2, hk_.1.1.1.1.2, hk_.1.1.1.2, hk_.1.1.2, hk_.1.2⟩)); have n6_ := Aside0.mk (Kd.R_reok rfl hy0 (fun k_ e_ => HO611.out.1 k_ e_)); have n7_ := Aside0.mk (Kd.R_mono (ok' := fun k_ => some k_ ≠ (.slice Ao38 t598.length co38 : Value).ownBlock ∧ some k_ ≠ (.slice Ao61 t629.length co61 : Value).ownBlock) (Kd.R_keptB ((Kd.R_apart' HO614.out (Kd.R_typed HO611.out) (by decide))) hkp (fun k_ hk_ hs_ => (hk_.2) hs_)) (fun k_ hk_ => ⟨hk_.1.1.1, hk_.1.1.2⟩)); have n8_ := Aside0.mk (Kd.R_mono (ok' := fun k_ => some k_ ≠ (.slice Ao36 t592.length co36 : Value).ownBlock ∧ some k_ ≠ (.slice Ao37 t595.length co37 : Value).ownBlock ∧ some k_ ≠ (.slice Ao42 t602.length co42 : Value).ownBlock ∧ some k_ ≠ (.slice Ao46 t606.length co46 : Value).ownBlock ∧ some k_ ≠ (.slice Ao47 t609.length co47 : Value).ownBlock ∧ some k_ ≠ (.slice Ao57 t621.length co57 : Value).ownBlock ∧ some k_ ≠ (.slice Ao59 t625.length co59 : Value).ownBlock) (Kd.R_keptB (HO618.out) hkp (fun k_ hk_ hs_ => (hk_.2.2.2.2.1) hs_)) (fun k_ hk_ => ⟨hk_.1.1, hk_.1.2.1, hk_.1.2.2.1, hk_.1.2.2.2.1, hk_.1.2.2.2.2.1, hk_.1.2.2.2.2.2.1, hk_.1.2.2.2.2.2.2⟩)); have n9_ := Aside0.mk (blk_kept (by (with_reducible repeat (first | refine blk_drewN ?_ _ | refine blk_drew ?_ | refine blk_alloc ?_ _)); exact BK619.out) hkp (fun hs_ => (fun e_ => (Kd.R_ne HO611.out BK619.out (by decide)) e_) hs_)); have n10_ := Aside0.mk (Kd.R_mono (ok' := fun k_ => some k_ ≠ (.slice Ao36 t592.length co36 : Value).ownBlock ∧ some k_ ≠ (.slice Ao37 t595.length co37 : Value).ownBlock ∧ some k_ ≠ (.slice Ao42 t602.length co42 : Value).ownBlock ∧ some k_ ≠ (.slice Ao46 t606.length co46 : Value).ownBlock ∧ some k_ ≠ (.slice Ao47 t609.length co47 : Value).ownBlock ∧ some k_ ≠ (.slice Ao53 t616.length co53 : Value).ownBlock ∧ some k_ ≠ (.slice Ao59 t625.length co59 : Value).ownBlock) (Kd.R_keptB (HO623.out) hkp (fun k_ hk_ hs_ => (hk_.2.2.2.2.1) hs_)) (fun k_ hk_ => ⟨hk_.1.1, hk_.1.2.1, hk_.1.2.2.1, hk_.1.2.2.2.1, hk_.1.2.2.2.2.1, hk_.1.2.2.2.2.2.1, hk_.1.2.2.2.2.2.2⟩)); have n11_ := Aside0.mk (Kd.R_mono (ok' := fun k_ => some k_ ≠ (.slice Ao36 t592.length co36 : Value).ownBlock ∧ some k_ ≠ (.slice Ao37 t595.length co37 : Value).ownBlock ∧ some k_ ≠ (.slice Ao42 t602.length co42 : Value).ownBlock ∧ some k_ ≠ (.slice Ao46 t606.length co46 : Value).ownBlock ∧ some k_ ≠ (.slice Ao47 t609.length co47 : Value).ownBlock ∧ some k_ ≠ (.slice Ao53 t616.length co53 : Value).ownBlock ∧ some k_ ≠ (.slice Ao57 t621.length co57 : Value).ownBlock) (Kd.R_keptB (HO627.out) hkp (fun k_ hk_ hs_ => (hk_.2.2.2.2.1) hs_)) (fun k_ hk_ => ⟨hk_.1.1, hk_.1.2.1, hk_.1.2.2.1, hk_.1.2.2.2.1, hk_.1.2.2.2.2.1, hk_.1.2.2.2.2.2.1, hk_.1.2.2.2.2.2.2⟩)); have n12_ := Aside0.mk (Kd.R_mono (ok' := fun k_ => some k_ ≠ (.slice Ao38 t598.length co38 : Value).ownBlock ∧ some k_ ≠ (.slice Ao48 t612.length co48 : Value).ownBlock) (Kd.R_keptB ((Kd.R_apart' HO631.out (Kd.R_typed HO611.out) (by decide))) hkp (fun k_ hk_ hs_ => (hk_.2) hs_)) (fun k_ hk_ => ⟨hk_.1.1.1, hk_.1.1.2⟩)); have n13_ := Aside0.mk (hb); clear HO594; clear HO597; clear HO600; clear HO604; clear BK605; clear HO608; clear HO611; clear HO614; clear HO618; clear BK619; clear HO623; clear HO627; clear HO631; clear HB; have HO594 := n0_; have HO597 := n1_; have HO600 := n2_; have HO604 := n3_; have BK605 := n4_; have HO608 := n5_; have HO611 := n6_; have HO614 := n7_; have HO618 := n8_; have BK619 := n9_; have HO623 := n10_; have HO627 := n11_; have HO631 := n12_; have HB := n13_; clear n0_ n1_ n2_ n3_ n4_ n5_ n6_ n7_ n8_ n9_ n10_ n11_ n12_ n13_; (try clear hb); (try clear hkp); (try clear hy0)) | ((with_reducible refine gate_callee (f := 38) rfl ?_); refine goesL_ (some 76) rfl rfl Try.func38 (by kernel_rfl) rfl #[.slice Ao48 t612.length co48, .int .i64 t635] rfl (by (try simp only [List.map_toArray, List.map_cons, List.map_nil]); first | done | rfl | (simp only [List.length_drop, List.length_take]; rfl)) ?_; (with_reducible refine (laws_markChangeS.calls k (fun k_ => some k_ = (.slice Ao48 t612.length co48 : Value).ownBlock) (.slice Ao48 t612.length co48) t612 t635 t637 t638 w _ ?side1 ?side2 A31.out).mono ?_); (case side1 => repeat (first | (with_reducible first | exact HB.out | apply below_alloc | apply pw_below_drewN | apply below_drew1 | refine below_set ?_ GE605.out | refine below_set ?_ GE619.out) | exact HB.out)); (case side2 => exact Kd.R_tight rfl HO614.out); rintro e w65 ⟨rfl, hy0, hb, hkp⟩; refine ⟨_, rfl, ?_⟩; have n0_ := Aside0.mk (Kd.R_mono (ok' := fun k_ => some k_ ≠ (.slice Ao37 t595.length co37 : Value).ownBlock ∧ some k_ ≠ (.slice Ao42 t602.length co42 : Value).ownBlock ∧ some k_ ≠ (.slice Ao46 t606.length co46 : Value).ownBlock ∧ some k_ ≠ (.slice Ao47 t609.length co47 : Value).ownBlock ∧ some k_ ≠ (.slice Ao53 t616.length co53 : Value).ownBlock ∧ some k_ ≠ (.slice Ao57 t621.length co57 : Value).ownBlock ∧ some k_ ≠ (.slice Ao59 t625.length co59 : Value).ownBlock) (Kd.R_keptB ((Kd.R_apart' HO594.out (Kd.R_typed HO614.out) (by decide))) hkp (fun k_ hk_ hs_ => (hk_.2) hs_)) (fun k_ hk_ => ⟨hk_.1.1.1, hk_.1.1.2.1, hk_.1.1.2.2.1, hk_.1.1.2.2.2.1, hk_.1.1.2.2.2.2.1, hk_.1.1.2.2.2.2.2.1, hk_.1.1.2.2.2.2.2.2⟩)); have n1_ := Aside0.mk (Kd.R_mono (ok' := fun k_ => some k_ ≠ (.slice Ao36 t592.length co36 : Value).ownBlock ∧ some k_ ≠ (.slice Ao42 t602.length co42 : Value).ownBlock ∧ some k_ ≠ (.slice Ao46 t606.length co46 : Value).ownBlock ∧ some k_ ≠ (.slice Ao47 t609.length co47 : Value).ownBlock ∧ some k_ ≠ (.slice Ao53 t616.length co53 : Value).ownBlock ∧ some k_ ≠ (.slice Ao57 t621.length co57 : Value).ownBlock ∧ some k_ ≠ (.slice Ao59 t625.length co59 : Value).ownBlock) (Kd.R_keptB ((Kd.R_apart' HO597.out (Kd.R_typed HO614.out) (by decide))) hkp (fun k_ hk_ hs_ => (hk_.2) hs_)) (fun k_ hk_ => ⟨hk_.1.1.1, hk_.1.1.2.1, hk_.1.1.2.2.1, hk_.1.1.2.2.2.1, hk_.1.1.2.2.2.2.1, hk_.1.1.2.2.2.2.2.1, hk_.1.1.2.2.2.2.2.2⟩)); have n2_ := Aside0.mk (Kd.R_mono (ok' := fun k_ => some k_ ≠ (.slice Ao48 t612.length co48 : Value).ownBlock ∧ some k_ ≠ (.slice Ao61 t629.length co61 : Value).ownBlock) (Kd.R_keptB (HO600.out) hkp (fun k_ hk_ hs_ => (hk_.1) hs_)) (fun k_ hk_ => ⟨hk_.1.1, hk_.1.2⟩)); have n3_ := Aside0.mk (Kd.R_mono (ok' := fun k_ => some k_ ≠ (.slice Ao36 t592.length co36 : Value).ownBlock ∧ some k_ ≠ (.slice Ao37 t595.length co37 : Value).ownBlock ∧ some k_ ≠ (.slice Ao46 t606.length co46 : Value).ownBlock ∧ some k_ ≠ (.slice Ao47 t609.length co47 : Value).ownBlock ∧ some k_ ≠ (.slice Ao53 t616.length co53 : Value).ownBlock ∧ some k_ ≠ (.slice Ao57 t621.length co57 : Value).ownBlock ∧ some k_ ≠ (.slice Ao59 t625.length co59 : Value).ownBlock) (Kd.R_keptB ((Kd.R_apart' HO604.out (Kd.R_typed HO614.out) (by decide))) hkp (fun k_ hk_ hs_ => (hk_.2) hs_)) (fun k_ hk_ => ⟨hk_.1.1.1, hk_.1.1.2.1, hk_.1.1.2.2.1, hk_.1.1.2.2.2.1, hk_.1.1.2.2.2.2.1, hk_.1.1.2.2.2.2.2.1, hk_.1.1.2.2.2.2.2.2⟩)); have n4_ := Aside0.mk (blk_kept (by (with_reducible repeat (first | refine blk_drewN ?_ _ | refine blk_drew ?_ | refine blk_alloc ?_ _)); exact BK605.out) hkp (fun hs_ => (fun e_ => (Kd.R_ne HO614.out BK605.out (by decide)) e_) hs_)); have n5_ := Aside0.mk (Kd.R_mono (ok' := fun k_ => some k_ ≠ (.slice Ao36 t592.length co36 : Value).ownBlock ∧ some k_ ≠ (.slice Ao37 t595.length co37 : Value).ownBlock ∧ some k_ ≠ (.slice Ao42 t602.length co42 : Value).ownBlock ∧ some k_ ≠ (.slice Ao47 t609.length co47 : Value).ownBlock ∧ some k_ ≠ (.slice Ao53 t616.length co53 : Value).ownBlock ∧ some k_ ≠ (.slice Ao57 t621.length co57 : Value).ownBlock ∧ some k_ ≠ (.slice Ao59 t625.length co59 : Value).ownBlock) (Kd.R_keptB ((Kd.R_apart' HO608.out (Kd.R_typed HO614.out) (by decide))) hkp (fun k_ hk_ hs_ => (hk_.2) hs_)) (fun k_ hk_ => ⟨hk_.1.1.1, hk_.1.1.2.1, hk_.1.1.2.2.1, hk_.1.1.2.2.2.1, hk_.1.1.2.2.2.2.1, hk_.1.1.2.2.2.2.2.1, hk_.1.1.2.2.2.2.2.2⟩)); have n6_ := Aside0.mk (Kd.R_mono (ok' := fun k_ => some k_ ≠ (.slice Ao36 t592.length co36 : Value).ownBlock ∧ some k_ ≠ (.slice Ao37 t595.length co37 : Value).ownBlock ∧ some k_ ≠ (.slice Ao42 t602.length co42 : Value).ownBlock ∧ some k_ ≠ (.slice Ao46 t606.length co46 : Value).ownBlock ∧ some k_ ≠ (.slice Ao53 t616.length co53 : Value).ownBlock ∧ some k_ ≠ (.slice Ao57 t621.length co57 : Value).ownBlock ∧ some k_ ≠ (.slice Ao59 t625.length co59 : Value).ownBlock) (Kd.R_keptB ((Kd.R_apart' HO611.out (Kd.R_typed HO614.out) (by decide))) hkp (fun k_ hk_ hs_ => (hk_.2) hs_)) (fun k_ hk_ => ⟨hk_.1.1.1, hk_.1.1.2.1, hk_.1.1.2.2.1, hk_.1.1.2.2.2.1, hk_.1.1.2.2.2.2.1, hk_.1.1.2.2.2.2.2.1, hk_.1.1.2.2.2.2.2.2⟩)); have n7_ := Aside0.mk (Kd.R_reok rfl hy0 (fun k_ e_ => HO614.out.1 k_ e_)); have n8_ := Aside0.mk (Kd.R_mono (ok' := fun k_ => some k_ ≠ (.slice Ao36 t592.length co36 : Value).ownBlock ∧ some k_ ≠ (.slice Ao37 t595.length co37 : Value).ownBlock ∧ some k_ ≠ (.slice Ao42 t602.length co42 : Value).ownBlock ∧ some k_ ≠ (.slice Ao46 t606.length co46 : Value).ownBlock ∧ some k_ ≠ (.slice Ao47 t609.length co47 : Value).ownBlock ∧ some k_ ≠ (.slice Ao57 t621.length co57 : Value).ownBlock ∧ some k_ ≠ (.slice Ao59 t625.length co59 : Value).ownBlock) (Kd.R_keptB ((Kd.R_apart' HO618.out (Kd.R_typed HO614.out) (by decide))) hkp (fun k_ hk_ hs_ => (hk_.2) hs_)) (fun k_ hk_ => ⟨hk_.1.1.1, hk_.1.1.2.1, hk_.1.1.2.2.1, hk_.1.1.2.2.2.1, hk_.1.1.2.2.2.2.1, hk_.1.1.2.2.2.2.2.1, hk_.1.1.2.2.2.2.2.2⟩)); have n9_ := Aside0.mk (blk_kept (by (with_reducible repeat (first | refine blk_drewN ?_ _ | refine blk_drew ?_ | refine blk_alloc ?_ _)); exact BK619.out) hkp (fun hs_ => (fun e_ => (Kd.R_ne HO614.out BK619.out (by decide)) e_) hs_)); have n10_ := Aside0.mk (Kd.R_mono (ok' := fun k_ => some k_ ≠ (.slice Ao36 t592.length co36 : Value).ownBlock ∧ some k_ ≠ (.slice Ao37 t595.length co37 : Value).ownBlock ∧ some k_ ≠ (.slice Ao42 t602.length co42 : Value).ownBlock ∧ some k_ ≠ (.slice Ao46 t606.length co46 : Value).ownBlock ∧ some k_ ≠ (.slice Ao47 t609.length co47 : Value).ownBlock ∧ some k_ ≠ (.slice Ao53 t616.length co53 : Value).ownBlock ∧ some k_ ≠ (.slice Ao59 t625.length co59 : Value).ownBlock) (Kd.R_keptB ((Kd.R_apart' HO623.out (Kd.R_typed HO614.out) (by decide))) hkp (fun k_ hk_ hs_ => (hk_.2) hs_)) (fun k_ hk_ => ⟨hk_.1.1.1, hk_.1.1.2.1, hk_.1.1.2.2.1, hk_.1.1.2.2.2.1, hk_.1.1.2.2.2.2.1, hk_.1.1.2.2.2.2.2.1, hk_.1.1.2.2.2.2.2.2⟩)); have n11_ := Aside0.mk (Kd.R_mono (ok' := fun k_ => some k_ ≠ (.slice Ao36 t592.length co36 : Value).ownBlock ∧ some k_ ≠ (.slice Ao37 t595.length co37 : Value).ownBlock ∧ some k_ ≠ (.slice Ao42 t602.length co42 : Value).ownBlock ∧ some k_ ≠ (.slice Ao46 t606.length co46 : Value).ownBlock ∧ some k_ ≠ (.slice Ao47 t609.length co47 : Value).ownBlock ∧ some k_ ≠ (.slice Ao53 t616.length co53 : Value).ownBlock ∧ some k_ ≠ (.slice Ao57 t621.length co57 : Value).ownBlock) (Kd.R_keptB ((Kd.R_apart' HO627.out (Kd.R_typed HO614.out) (by decide))) hkp (fun k_ hk_ hs_ => (hk_.2) hs_)) (fun k_ hk_ => ⟨hk_.1.1.1, hk_.1.1.2.1, hk_.1.1.2.2.1, hk_.1.1.2.2.2.1, hk_.1.1.2.2.2.2.1, hk_.1.1.2.2.2.2.2.1, hk_.1.1.2.2.2.2.2.2⟩)); have n12_ := Aside0.mk (Kd.R_mono (ok' := fun k_ => some k_ ≠ (.slice Ao38 t598.length co38 : Value).ownBlock ∧ some k_ ≠ (.slice Ao48 t612.length co48 : Value).ownBlock) (Kd.R_keptB (HO631.out) hkp (fun k_ hk_ hs_ => (hk_.2) hs_)) (fun k_ hk_ => ⟨hk_.1.1, hk_.1.2⟩)); have n13_ := Aside0.mk (hb); clear HO594; clear HO597; clear HO600; clear HO604; clear BK605; clear HO608; clear HO611; clear HO614; clear HO618; clear BK619; clear HO623; clear HO627; clear HO631; clear HB; have HO594 := n0_; have HO597 := n1_; have HO600 := n2_; have HO604 := n3_; have BK605 := n4_; have HO608 := n5_; have HO611 := n6_; have HO614 := n7_; have HO618 := n8_; have BK619 := n9_; have HO623 := n10_; have HO627 := n11_; have HO631 := n12_; have HB := n13_; clear n0_ n1_ n2_ n3_ n4_ n5_ n6_ n7_ n8_ n9_ n10_ n11_ n12_ n13_; (try clear hb); (try clear hkp); (try clear hy0)))
        (try simp only [Act.put, List.setIfInBounds_toArray, List.set_cons_zero, List.set_cons_succ])
        go_cut [84] (fun v84 wc => ∃ (kq : Nat) (x84_31 : Bool), v84 = .bool x84_31 ∧ Aside0 (laws_FnExactWeaveChanges.j0 kq l0 l1 l2 x84_31 t601 t602 t615 t616 = some r) ∧ Aside0 (kq ≤ k) ∧ Aside0 (Kd.R Kd.string 9 wc w.heap.size (fun k_ => some k_ ≠ ((.slice Ao53 t616.length co53) : Value).ownBlock) (.slice Ao42 t602.length co42) t602) ∧ Aside0 (Kd.R Kd.string 9 wc w.heap.size (fun k_ => some k_ ≠ ((.slice Ao42 t602.length co42) : Value).ownBlock) (.slice Ao53 t616.length co53) t616) ∧ Aside0 (wc.heap[gb605]? = some (.cells #[.int .i64 t601, (.slice Ao42 t602.length co42)] 49 (0, 0))) ∧ Aside0 (wc.heap[gb619]? = some (.cells #[.int .i64 t615, (.slice Ao53 t616.length co53)] 49 (0, 0))) ∧ Aside0 (Below w.heap.size w wc))
        case first =>
         have H := HC32.out
         clear HC32
         by_cases c66 : t637 < 0
         ·rw [if_pos c66] at H
          have c66b0 : decide (t637 < 0) = true := decide_eq_true c66
          clear c66
          (first | rw [c66b0] | (simp only [i64_w, i32_w]; rw [c66b0]) | skip)
          have H' := Aside0.mk H
          clear H
          go_wp2
          go_meet
          case rel => exact ⟨_, (true), (by first | rfl | (simp; done) | (simp [*]; done)), H', ⟨by first | omega | exact Nat.le_refl _⟩, ⟨by (with_reducible repeat (first | apply Kd.R_alloc | apply Kd.R_drewN | apply Kd.R_drew)); exact Kd.R_mono HO604.out (fun _ hk => hk.2.2.2.2.1)⟩, ⟨by (with_reducible repeat (first | apply Kd.R_alloc | apply Kd.R_drewN | apply Kd.R_drew)); exact Kd.R_mono HO618.out (fun _ hk => hk.2.2.1)⟩, ⟨by (with_reducible repeat (first | refine blk_drewN ?_ _ | refine blk_drew ?_ | refine blk_alloc ?_ _)); exact BK605.out⟩, ⟨by (with_reducible repeat (first | refine blk_drewN ?_ _ | refine blk_drew ?_ | refine blk_alloc ?_ _)); exact BK619.out⟩, ⟨by repeat (first | (with_reducible first | exact HB.out | apply below_alloc | apply pw_below_drewN | apply below_drew1 | refine below_set ?_ GE605.out | refine below_set ?_ GE619.out) | exact HB.out)⟩⟩
         ·rw [if_neg c66] at H
          have c66b0 : decide (t637 < 0) = false := decide_eq_false c66
          clear c66
          (first | rw [c66b0] | (simp only [i64_w, i32_w]; rw [c66b0]) | skip)
          replace H := Option.bind_eq_some_iff.mp H
          obtain ⟨t639, A670, H⟩ := H
          replace H : (laws_FnExactWeaveChanges.j0 k l0 l1 l2 (!t639) t601 t602 t615 t616) = some r := H
          have A67 := Aside0.mk A670
          clear A670
          have H' := Aside0.mk H
          clear H
          have hnb68 := NB619_605.out
          have hnc68 := NB605_619.out
          have hcz69_0 : w65.cell? ⟨gb619, 0, none⟩ = some (.int .i64 t615) := (blk_cell BK619.out 0).trans rfl
          have hcz69_1 : w65.cell? ⟨gb619, 1, none⟩ = some (.slice Ao53 t616.length co53) := (blk_cell BK619.out 1).trans rfl
          have hfz69_0 := blk_frozen BK619.out 0
          have hfz69_1 := blk_frozen BK619.out 1
          have hcz70_0 : w65.cell? ⟨gb605, 0, none⟩ = some (.int .i64 t601) := (blk_cell BK605.out 0).trans rfl
          have hcz70_1 : w65.cell? ⟨gb605, 1, none⟩ = some (.slice Ao42 t602.length co42) := (blk_cell BK605.out 1).trans rfl
          have hfz70_0 := blk_frozen BK605.out 0
          have hfz70_1 := blk_frozen BK605.out 1
          go_wp2_with (first | (go_at_call 37; (with_reducible refine (laws_eqLinesResult.calls k t615 _ _ t616 t601 _ _ t602 t639 _ ?side1 ?side2 ?side3 ?side4 A67.out).mono ?_); (case side1 => repeat (first | exact (Kd.R_reads' HO618.out).2.2 | (with_reducible refine Kd.C_alloc ?_ _) | (with_reducible refine Kd.C_drewN ?_ _) | (with_reducible refine Kd.C_drew ?_))); (case side2 => exact (Kd.R_reads' HO618.out).2.1); (case side3 => repeat (first | exact (Kd.R_reads' HO604.out).2.2 | (with_reducible refine Kd.C_alloc ?_ _) | (with_reducible refine Kd.C_drewN ?_ _) | (with_reducible refine Kd.C_drew ?_))); (case side4 => exact (Kd.R_reads' HO604.out).2.1); rintro e w71 ⟨rfl, hb⟩; have n0_ := Aside0.mk (Kd.R_below (by (with_reducible repeat (first | apply Kd.R_alloc | apply Kd.R_drewN | apply Kd.R_drew)); exact HO594.out) hb); have n1_ := Aside0.mk (Kd.R_below (by (with_reducible repeat (first | apply Kd.R_alloc | apply Kd.R_drewN | apply Kd.R_drew)); exact HO597.out) hb); have n2_ := Aside0.mk (Kd.R_below (by (with_reducible repeat (first | apply Kd.R_alloc | apply Kd.R_drewN | apply Kd.R_drew)); exact HO600.out) hb); have n3_ := Aside0.mk (Kd.R_below (by (with_reducible repeat (first | apply Kd.R_alloc | apply Kd.R_drewN | apply Kd.R_drew)); exact HO604.out) hb); have n4_ := Aside0.mk (Kd.R_below (by (with_reducible repeat (first | apply Kd.R_alloc | apply Kd.R_drewN | apply Kd.R_drew)); exact HO608.out) hb); have n5_ := Aside0.mk (Kd.R_below (by (with_reducible repeat (first | apply Kd.R_alloc | apply Kd.R_drewN | apply Kd.R_drew)); exact HO611.out) hb); have n6_ := Aside0.mk (Kd.R_below (by (with_reducible repeat (first | apply Kd.R_alloc | apply Kd.R_drewN | apply Kd.R_drew)); exact HO614.out) hb); have n7_ := Aside0.mk (Kd.R_below (by (with_reducible repeat (first | apply Kd.R_alloc | apply Kd.R_drewN | apply Kd.R_drew)); exact HO618.out) hb); have n8_ := Aside0.mk (Kd.R_below (by (with_reducible repeat (first | apply Kd.R_alloc | apply Kd.R_drewN | apply Kd.R_drew)); exact HO623.out) hb); have n9_ := Aside0.mk (Kd.R_below (by (with_reducible repeat (first | apply Kd.R_alloc | apply Kd.R_drewN | apply Kd.R_drew)); exact HO627.out) hb); have n10_ := Aside0.mk (Kd.R_below (by (with_reducible repeat (first | apply Kd.R_alloc | apply Kd.R_drewN | apply Kd.R_drew)); exact HO631.out) hb); have n11_ := Aside0.mk (blk_below (g := gb605) (o := .cells #[.int .i64 t601, .slice Ao42 t602.length co42] 49 (0, 0)) (by (with_reducible repeat (first | refine blk_drewN ?_ _ | refine blk_drew ?_ | refine blk_alloc ?_ _)); exact BK605.out) hb); have n12_ := Aside0.mk (blk_below (g := gb619) (o := .cells #[.int .i64 t615, .slice Ao53 t616.length co53] 49 (0, 0)) (by (with_reducible repeat (first | refine blk_drewN ?_ _ | refine blk_drew ?_ | refine blk_alloc ?_ _)); exact BK619.out) hb); have n13_ := Aside0.mk (below_step (by repeat (first | (with_reducible first | exact HB.out | apply below_alloc | apply pw_below_drewN | apply below_drew1 | refine below_set ?_ GE605.out | refine below_set ?_ GE619.out) | exact HB.out)) hb); clear HO594; clear HO597; clear HO600; clear HO604; clear HO608; clear HO611; clear HO614; clear HO618; clear HO623; clear HO627; clear HO631; clear BK605; clear BK619; clear HB; have HO594 := n0_; have HO597 := n1_; have HO600 := n2_; have HO604 := n3_; have HO608 := n4_; have HO611 := n5_; have HO614 := n6_; have HO618 := n7_; have HO623 := n8_; have HO627 := n9_; have HO631 := n10_; have BK605 := n11_; have BK619 := n12_; have HB := n13_; clear n0_ n1_ n2_ n3_ n4_ n5_ n6_ n7_ n8_ n9_ n10_ n11_ n12_ n13_; (try clear hb); (try clear hb2); (try clear hk); (try clear hi)))
          go_meet
          case rel => exact ⟨_, (!t639), (by first | rfl | (simp; done) | (simp [*]; done)), H', ⟨by first | omega | exact Nat.le_refl _⟩, ⟨by (with_reducible repeat (first | apply Kd.R_alloc | apply Kd.R_drewN | apply Kd.R_drew)); exact Kd.R_mono HO604.out (fun _ hk => hk.2.2.2.2.1)⟩, ⟨by (with_reducible repeat (first | apply Kd.R_alloc | apply Kd.R_drewN | apply Kd.R_drew)); exact Kd.R_mono HO618.out (fun _ hk => hk.2.2.1)⟩, ⟨by (with_reducible repeat (first | refine blk_drewN ?_ _ | refine blk_drew ?_ | refine blk_alloc ?_ _)); exact BK605.out⟩, ⟨by (with_reducible repeat (first | refine blk_drewN ?_ _ | refine blk_drew ?_ | refine blk_alloc ?_ _)); exact BK619.out⟩, ⟨by repeat (first | (with_reducible first | exact HB.out | apply below_alloc | apply pw_below_drewN | apply below_drew1 | refine below_set ?_ GE605.out | refine below_set ?_ GE619.out) | exact HB.out)⟩⟩
        case rest =>
         clear HC32
         try clear c1
         try clear c2
         try clear p2
         try clear c3
         try clear c5
         try clear c5b0
         try clear c6
         try clear c7
         try clear c7b0
         try clear c8
         try clear c9
         try clear c9b0
         try clear c13
         try clear c15
         try clear c18
         try clear c19
         try clear c22
         try clear c24
         try clear c25
         try clear c26
         try clear c28
         try clear c32
         try clear c35
         try clear c36
         try clear c37
         try clear c38
         try clear c51
         try clear c66
         try clear c66b0
         try clear c68
         try clear hcz41_0
         try clear hcz41_1
         try clear hcz52_0
         try clear hcz52_1
         try clear hcz54_0
         try clear hcz54_1
         try clear hcz69_0
         try clear hcz69_1
         try clear hcz70_0
         try clear hcz70_1
         try clear hfz41_0
         try clear hfz41_1
         try clear hfz52_0
         try clear hfz52_1
         try clear hfz54_0
         try clear hfz54_1
         try clear hfz69_0
         try clear hfz69_1
         try clear hfz70_0
         try clear hfz70_1
         obtain ⟨kq, x84_31, rfl, HA, HJ31, HO_606001, HO_620001, BK605, BK619, HB⟩ := hcut
         cases kq with
         | zero => exact absurd HA.out (by simp [laws_FnExactWeaveChanges.j0])
         | succ kj31 =>
          have H := HA.out
          clear HA
          simp only [laws_FnExactWeaveChanges.j0] at H
          by_cases c72 : x84_31 = true
          ·subst c72
           have H1 : (some false) = some r := by rw [if_pos rfl] at H; exact H
           clear H
           have H := H1
           clear H1
           exact absurd ((Option.some.inj H).trans HLAW.out) (by decide)
          ·replace c72 := Bool.eq_false_iff.mpr c72
           subst c72
           have H1 : ((laws_markLinesResult.f kj31 t615 t616 1).bind fun bt640 => ((laws_heldLinesResult.f kj31 t615 bt640.2 1).bind fun t642 => (if t642 < 0 then (some false) else (if t642 = bt640.1 then ((laws_toStringS.f kj31 l0).bind fun t643 => ((laws_toStringS.f kj31 l1).bind fun t646 => ((laws_toChangeS.f kj31 l2).bind fun t649 => ((impl_WeaveChanges.f kj31 t643 t646 t649).bind fun bt652 => ((laws_eqLinesResult.f kj31 bt652.1 bt652.2 t601 t602).bind fun t657 => (if t657 = true then ((laws_heldLinesResult.f kj31 t615 bt640.2 1).bind fun t658 => (if t658 < 0 then (some false) else (if t658 = bt640.1 then (some true) else (some false)))) else (some false))))))) else (some false))))) = some r := by rw [if_neg (show ¬ (false = true) by decide)] at H; exact H
           clear H
           have H := H1
           clear H1
           replace H := Option.bind_eq_some_iff.mp H
           obtain ⟨⟨t640, t641⟩, A730, H⟩ := H
           replace H : ((laws_heldLinesResult.f kj31 t615 t641 1).bind fun t642 => (if t642 < 0 then (some false) else (if t642 = t640 then ((laws_toStringS.f kj31 l0).bind fun t643 => ((laws_toStringS.f kj31 l1).bind fun t646 => ((laws_toChangeS.f kj31 l2).bind fun t649 => ((impl_WeaveChanges.f kj31 t643 t646 t649).bind fun bt652 => ((laws_eqLinesResult.f kj31 bt652.1 bt652.2 t601 t602).bind fun t657 => (if t657 = true then ((laws_heldLinesResult.f kj31 t615 t641 1).bind fun t658 => (if t658 < 0 then (some false) else (if t658 = t640 then (some true) else (some false)))) else (some false))))))) else (some false)))) = some r := H
           have A73 := Aside0.mk A730
           clear A730
           replace H := Option.bind_eq_some_iff.mp H
           obtain ⟨t642, A740, H⟩ := H
           replace H : (if t642 < 0 then (some false) else (if t642 = t640 then ((laws_toStringS.f kj31 l0).bind fun t643 => ((laws_toStringS.f kj31 l1).bind fun t646 => ((laws_toChangeS.f kj31 l2).bind fun t649 => ((impl_WeaveChanges.f kj31 t643 t646 t649).bind fun bt652 => ((laws_eqLinesResult.f kj31 bt652.1 bt652.2 t601 t602).bind fun t657 => (if t657 = true then ((laws_heldLinesResult.f kj31 t615 t641 1).bind fun t658 => (if t658 < 0 then (some false) else (if t658 = t640 then (some true) else (some false)))) else (some false))))))) else (some false))) = some r := H
           have A74 := Aside0.mk A740
           clear A740
           by_cases c75 : t642 < 0
           ·rw [if_pos c75] at H
            have c75b0 : decide (t642 < 0) = true := decide_eq_true c75
            clear c75
            exact absurd ((Option.some.inj H).trans HLAW.out) (by decide)
           ·rw [if_neg c75] at H
            have c75b0 : decide (t642 < 0) = false := decide_eq_false c75
            clear c75
            by_cases c76 : t642 = t640
            ·rw [if_pos c76] at H
             have c76b0 : (t642 == t640) = true := beq_iff_eq.mpr c76
             have c76b1 : (t642 != t640) = false := bne_eq_false_iff_eq.mpr c76
             clear c76
             replace H := Option.bind_eq_some_iff.mp H
             obtain ⟨t643, A770, H⟩ := H
             replace H : ((laws_toStringS.f kj31 l1).bind fun t646 => ((laws_toChangeS.f kj31 l2).bind fun t649 => ((impl_WeaveChanges.f kj31 t643 t646 t649).bind fun bt652 => ((laws_eqLinesResult.f kj31 bt652.1 bt652.2 t601 t602).bind fun t657 => (if t657 = true then ((laws_heldLinesResult.f kj31 t615 t641 1).bind fun t658 => (if t658 < 0 then (some false) else (if t658 = t640 then (some true) else (some false)))) else (some false)))))) = some r := H
             have A77 := Aside0.mk A770
             clear A770
             replace H := Option.bind_eq_some_iff.mp H
             obtain ⟨t646, A780, H⟩ := H
             replace H : ((laws_toChangeS.f kj31 l2).bind fun t649 => ((impl_WeaveChanges.f kj31 t643 t646 t649).bind fun bt652 => ((laws_eqLinesResult.f kj31 bt652.1 bt652.2 t601 t602).bind fun t657 => (if t657 = true then ((laws_heldLinesResult.f kj31 t615 t641 1).bind fun t658 => (if t658 < 0 then (some false) else (if t658 = t640 then (some true) else (some false)))) else (some false))))) = some r := H
             have A78 := Aside0.mk A780
             clear A780
             replace H := Option.bind_eq_some_iff.mp H
             obtain ⟨t649, A790, H⟩ := H
             replace H : ((impl_WeaveChanges.f kj31 t643 t646 t649).bind fun bt652 => ((laws_eqLinesResult.f kj31 bt652.1 bt652.2 t601 t602).bind fun t657 => (if t657 = true then ((laws_heldLinesResult.f kj31 t615 t641 1).bind fun t658 => (if t658 < 0 then (some false) else (if t658 = t640 then (some true) else (some false)))) else (some false)))) = some r := H
             have A79 := Aside0.mk A790
             clear A790
             replace H := Option.bind_eq_some_iff.mp H
             obtain ⟨⟨t652, t653⟩, A800, H⟩ := H
             replace H : ((laws_eqLinesResult.f kj31 t652 t653 t601 t602).bind fun t657 => (if t657 = true then ((laws_heldLinesResult.f kj31 t615 t641 1).bind fun t658 => (if t658 < 0 then (some false) else (if t658 = t640 then (some true) else (some false)))) else (some false))) = some r := H
             have A80 := Aside0.mk A800
             clear A800
             replace H := Option.bind_eq_some_iff.mp H
             obtain ⟨t657, A810, H⟩ := H
             replace H : (if t657 = true then ((laws_heldLinesResult.f kj31 t615 t641 1).bind fun t658 => (if t658 < 0 then (some false) else (if t658 = t640 then (some true) else (some false)))) else (some false)) = some r := H
             have A81 := Aside0.mk A810
             clear A810
             by_cases c82 : t657 = true
             ·subst c82
              have H1 : ((laws_heldLinesResult.f kj31 t615 t641 1).bind fun t658 => (if t658 < 0 then (some false) else (if t658 = t640 then (some true) else (some false)))) = some r := by rw [if_pos rfl] at H; exact H
              clear H
              have H := H1
              clear H1
              replace H := Option.bind_eq_some_iff.mp H
              obtain ⟨t658, A830, H⟩ := H
              replace H : (if t658 < 0 then (some false) else (if t658 = t640 then (some true) else (some false))) = some r := H
              have A83 := Aside0.mk A830
              clear A830
              by_cases c84 : t658 < 0
              ·rw [if_pos c84] at H
               have c84b0 : decide (t658 < 0) = true := decide_eq_true c84
               clear c84
               exact absurd ((Option.some.inj H).trans HLAW.out) (by decide)
              ·rw [if_neg c84] at H
               have c84b0 : decide (t658 < 0) = false := decide_eq_false c84
               clear c84
               by_cases c85 : t658 = t640
               ·rw [if_pos c85] at H
                have c85b0 : (t658 == t640) = true := beq_iff_eq.mpr c85
                have c85b1 : (t658 != t640) = false := bne_eq_false_iff_eq.mpr c85
                clear c85
                obtain rfl := Option.some.inj H
                have hnb86 := NB619_605.out
                have hnc86 := NB605_619.out
                have hcz87_0 : wc.cell? ⟨gb619, 0, none⟩ = some (.int .i64 t615) := (blk_cell BK619.out 0).trans rfl
                have hcz87_1 : wc.cell? ⟨gb619, 1, none⟩ = some (.slice Ao53 t616.length co53) := (blk_cell BK619.out 1).trans rfl
                have hfz87_0 := blk_frozen BK619.out 0
                have hfz87_1 := blk_frozen BK619.out 1
                go_wp2_with (first | ((with_reducible refine gate_callee (f := 39) rfl ?_); refine goesL_ (some 87) rfl rfl Try.func39 (by kernel_rfl) rfl #[.agg #[.int .i64 t615, .slice Ao53 t616.length co53], .int .i64 1] rfl (by (try simp only [List.map_toArray, List.map_cons, List.map_nil]); first | done | rfl | (simp only [List.length_drop, List.length_take]; rfl)) ?_; (with_reducible refine (laws_markLinesResult.calls kj31 t615 (fun k_ => some k_ = (.slice Ao53 t616.length co53 : Value).ownBlock) (.slice Ao53 t616.length co53) t616 1 t640 t641 w _ ?side1 ?side2 A73.out).mono ?_); (case side1 => repeat (first | (with_reducible first | exact HB.out | apply below_alloc | apply pw_below_drewN | apply below_drew1 | refine below_set ?_ GE605.out | refine below_set ?_ GE619.out) | exact HB.out)); (case side2 => exact Kd.R_tight rfl HO_620001.out); rintro e w88 ⟨rfl, hy0, hb, hkp⟩; refine ⟨_, rfl, ?_⟩; have n0_ := Aside0.mk (Kd.R_mono (ok' := fun k_ => some k_ ≠ (.slice Ao53 t616.length co53 : Value).ownBlock) (Kd.R_keptB (HO_606001.out) hkp (fun k_ hk_ hs_ => (hk_) hs_)) (fun k_ hk_ => hk_.1)); have n1_ := Aside0.mk (Kd.R_reok rfl hy0 (fun k_ e_ => HO_620001.out.1 k_ e_)); have n2_ := Aside0.mk (blk_kept (by (with_reducible repeat (first | refine blk_drewN ?_ _ | refine blk_drew ?_ | refine blk_alloc ?_ _)); exact BK605.out) hkp (fun hs_ => (fun e_ => (Kd.R_ne HO_620001.out BK605.out (by decide)) e_) hs_)); have n3_ := Aside0.mk (blk_kept (by (with_reducible repeat (first | refine blk_drewN ?_ _ | refine blk_drew ?_ | refine blk_alloc ?_ _)); exact BK619.out) hkp (fun hs_ => (fun e_ => (Kd.R_ne HO_620001.out BK619.out (by decide)) e_) hs_)); have n4_ := Aside0.mk (hb); clear HO_606001; clear HO_620001; clear BK605; clear BK619; clear HB; have HO_606001 := n0_; have HO_620001 := n1_; have BK605 := n2_; have BK619 := n3_; have HB := n4_; clear n0_ n1_ n2_ n3_ n4_; (try clear hb); (try clear hkp); (try clear hy0); have hcz89_0 : w88.cell? ⟨gb619, 0, none⟩ = some (.int .i64 t615) := (blk_cell BK619.out 0).trans rfl; have hcz89_1 : w88.cell? ⟨gb619, 1, none⟩ = some (.slice Ao53 t616.length co53) := (blk_cell BK619.out 1).trans rfl; have hfz89_0 := blk_frozen BK619.out 0; have hfz89_1 := blk_frozen BK619.out 1) | ((with_reducible refine gate_callee (f := 40) rfl ?_); refine goesL_ (some 90) rfl rfl Try.func40 (by kernel_rfl) rfl #[.agg #[.int .i64 t615, .slice Ao53 t641.length co53], .int .i64 1] rfl (by (try simp only [List.map_toArray, List.map_cons, List.map_nil]); first | done | (rw [show t641.length = t616.length from (Kd.R_reads' HO_620001.out).1.symm] <;> rfl) | rfl | (simp only [List.length_drop, List.length_take]; rfl)) ?_; (with_reducible refine (laws_heldLinesResult.calls kj31 t615 _ _ t641 1 t642 _ ?side1 ?side2 A74.out).mono ?_); (case side1 => repeat (first | exact (Kd.R_reads' HO_620001.out).2.2 | (with_reducible refine Kd.C_alloc ?_ _) | (with_reducible refine Kd.C_drewN ?_ _) | (with_reducible refine Kd.C_drew ?_))); (case side2 => rw [show t641.length = t616.length from (Kd.R_reads' HO_620001.out).1.symm]; exact (Kd.R_reads' HO_620001.out).2.1); rintro e w90 ⟨rfl, hb⟩; refine ⟨_, rfl, ?_⟩; have n0_ := Aside0.mk (Kd.R_below (by (with_reducible repeat (first | apply Kd.R_alloc | apply Kd.R_drewN | apply Kd.R_drew)); exact HO_606001.out) hb); have n1_ := Aside0.mk (Kd.R_below (by (with_reducible repeat (first | apply Kd.R_alloc | apply Kd.R_drewN | apply Kd.R_drew)); exact HO_620001.out) hb); have n2_ := Aside0.mk (blk_below (g := gb605) (o := .cells #[.int .i64 t601, .slice Ao42 t602.length co42] 49 (0, 0)) (by (with_reducible repeat (first | refine blk_drewN ?_ _ | refine blk_drew ?_ | refine blk_alloc ?_ _)); exact BK605.out) hb); have n3_ := Aside0.mk (blk_below (g := gb619) (o := .cells #[.int .i64 t615, .slice Ao53 t616.length co53] 49 (0, 0)) (by (with_reducible repeat (first | refine blk_drewN ?_ _ | refine blk_drew ?_ | refine blk_alloc ?_ _)); exact BK619.out) hb); have n4_ := Aside0.mk (below_step (by repeat (first | (with_reducible first | exact HB.out | apply below_alloc | apply pw_below_drewN | apply below_drew1 | refine below_set ?_ GE605.out | refine below_set ?_ GE619.out) | exact HB.out)) hb); clear HO_606001; clear HO_620001; clear BK605; clear BK619; clear HB; have HO_606001 := n0_; have HO_620001 := n1_; have BK605 := n2_; have BK619 := n3_; have HB := n4_; clear n0_ n1_ n2_ n3_ n4_; (try clear hb); (try clear hb2); (try clear hk); (try clear hi)) | ((with_reducible refine gate_callee (f := 15) rfl ?_); refine goesL_ (some 97) rfl rfl Try.func15 (by kernel_rfl) rfl #[.slice A0 l0.length c0] rfl (by (try simp only [List.map_toArray, List.map_cons, List.map_nil]); first | done | rfl | (simp only [List.length_drop, List.length_take]; rfl)) ?_; (with_reducible refine (laws_toStringS.calls kj31 _ _ l0 t643 _ ?side1 ?side2 A77.out).mono ?_); (case side1 => repeat (first | exact (Kd.C_below HR0.out HB.out) | (with_reducible refine Kd.C_alloc ?_ _) | (with_reducible refine Kd.C_drewN ?_ _) | (with_reducible refine Kd.C_drew ?_))); (case side2 => exact HC0.out); rintro e w91 ⟨v644, rfl, ho0, hb⟩; refine ⟨_, rfl, ?_⟩; have n0_ := Aside0.mk (Kd.R_elder' (by (with_reducible repeat (first | apply Kd.R_alloc | apply Kd.R_drewN | apply Kd.R_drew)); exact HO_606001.out) (Kd.R_base ho0) hb); have n1_ := Aside0.mk (Kd.R_elder' (by (with_reducible repeat (first | apply Kd.R_alloc | apply Kd.R_drewN | apply Kd.R_drew)); exact HO_620001.out) (Kd.R_base ho0) hb); have n2_ := Aside0.mk (Kd.R_lower (Kd.R_new' (Kd.R_new' ho0 (Kd.R_lt (by (with_reducible repeat (first | apply Kd.R_alloc | apply Kd.R_drewN | apply Kd.R_drew)); exact HO_606001.out))) (Kd.R_lt (by (with_reducible repeat (first | apply Kd.R_alloc | apply Kd.R_drewN | apply Kd.R_drew)); exact HO_620001.out))) (below_size (by repeat (first | (with_reducible first | exact HB.out | apply below_alloc | apply pw_below_drewN | apply below_drew1 | refine below_set ?_ GE605.out | refine below_set ?_ GE619.out) | exact HB.out)))); have n3_ := Aside0.mk (blk_below (g := gb605) (o := .cells #[.int .i64 t601, .slice Ao42 t602.length co42] 49 (0, 0)) (by (with_reducible repeat (first | refine blk_drewN ?_ _ | refine blk_drew ?_ | refine blk_alloc ?_ _)); exact BK605.out) hb); have n4_ := Aside0.mk (blk_below (g := gb619) (o := .cells #[.int .i64 t615, .slice Ao53 t616.length co53] 49 (0, 0)) (by (with_reducible repeat (first | refine blk_drewN ?_ _ | refine blk_drew ?_ | refine blk_alloc ?_ _)); exact BK619.out) hb); have n5_ := Aside0.mk (below_step (by repeat (first | (with_reducible first | exact HB.out | apply below_alloc | apply pw_below_drewN | apply below_drew1 | refine below_set ?_ GE605.out | refine below_set ?_ GE619.out) | exact HB.out)) hb); clear HO_606001; clear HO_620001; clear BK605; clear BK619; clear HB; have HO_606001 := n0_; have HO_620001 := n1_; have HO645 := n2_; have BK605 := n3_; have BK619 := n4_; have HB := n5_; clear n0_ n1_ n2_ n3_ n4_ n5_; (try clear hb); (try clear hb2); (try clear hk); (try clear hi); (try clear ho0)) | ((with_reducible refine gate_callee (f := 15) rfl ?_); refine goesL_ (some 99) rfl rfl Try.func15 (by kernel_rfl) rfl #[.slice A1 l1.length c1] rfl (by (try simp only [List.map_toArray, List.map_cons, List.map_nil]); first | done | rfl | (simp only [List.length_drop, List.length_take]; rfl)) ?_; (with_reducible refine (laws_toStringS.calls kj31 _ _ l1 t646 _ ?side1 ?side2 A78.out).mono ?_); (case side1 => repeat (first | exact (Kd.C_below HR1.out HB.out) | (with_reducible refine Kd.C_alloc ?_ _) | (with_reducible refine Kd.C_drewN ?_ _) | (with_reducible refine Kd.C_drew ?_))); (case side2 => exact HC1.out); rintro e w92 ⟨v647, rfl, ho0, hb⟩; refine ⟨_, rfl, ?_⟩; have n0_ := Aside0.mk (Kd.R_elder' (by (with_reducible repeat (first | apply Kd.R_alloc | apply Kd.R_drewN | apply Kd.R_drew)); exact HO_606001.out) (Kd.R_base ho0) hb); have n1_ := Aside0.mk (Kd.R_elder' (by (with_reducible repeat (first | apply Kd.R_alloc | apply Kd.R_drewN | apply Kd.R_drew)); exact HO_620001.out) (Kd.R_base ho0) hb); have n2_ := Aside0.mk (Kd.R_elder' (by (with_reducible repeat (first | apply Kd.R_alloc | apply Kd.R_drewN | apply Kd.R_drew)); exact HO645.out) (Kd.R_base ho0) hb); have n3_ := Aside0.mk (Kd.R_lower (Kd.R_new' (Kd.R_new' (Kd.R_new' ho0 (Kd.R_lt (by (with_reducible repeat (first | apply Kd.R_alloc | apply Kd.R_drewN | apply Kd.R_drew)); exact HO_606001.out))) (Kd.R_lt (by (with_reducible repeat (first | apply Kd.R_alloc | apply Kd.R_drewN | apply Kd.R_drew)); exact HO_620001.out))) (Kd.R_lt (by (with_reducible repeat (first | apply Kd.R_alloc | apply Kd.R_drewN | apply Kd.R_drew)); exact HO645.out))) (below_size (by repeat (first | (with_reducible first | exact HB.out | apply below_alloc | apply pw_below_drewN | apply below_drew1 | refine below_set ?_ GE605.out | refine below_set ?_ GE619.out) | exact HB.out)))); have n4_ := Aside0.mk (blk_below (g := gb605) (o := .cells #[.int .i64 t601, .slice Ao42 t602.length co42] 49 (0, 0)) (by (with_reducible repeat (first | refine blk_drewN ?_ _ | refine blk_drew ?_ | refine blk_alloc ?_ _)); exact BK605.out) hb); have n5_ := Aside0.mk (blk_below (g := gb619) (o := .cells #[.int .i64 t615, .slice Ao53 t616.length co53] 49 (0, 0)) (by (with_reducible repeat (first | refine blk_drewN ?_ _ | refine blk_drew ?_ | refine blk_alloc ?_ _)); exact BK619.out) hb); have n6_ := Aside0.mk (below_step (by repeat (first | (with_reducible first | exact HB.out | apply below_alloc | apply pw_below_drewN | apply below_drew1 | refine below_set ?_ GE605.out | refine below_set ?_ GE619.out) | exact HB.out)) hb); clear HO_606001; clear HO_620001; clear HO645; clear BK605; clear BK619; clear HB; have HO_606001 := n0_; have HO_620001 := n1_; have HO645 := n2_; have HO648 := n3_; have BK605 := n4_; have BK619 := n5_; have HB := n6_; clear n0_ n1_ n2_ n3_ n4_ n5_ n6_; (try clear hb); (try clear hb2); (try clear hk); (try clear hi); (try clear ho0)) | ((with_reducible refine gate_callee (f := 26) rfl ?_); refine goesL_ (some 101) rfl rfl Try.func26 (by kernel_rfl) rfl #[.slice A2 l2.length c2] rfl (by (try simp only [List.map_toArray, List.map_cons, List.map_nil]); first | done | rfl | (simp only [List.length_drop, List.length_take]; rfl)) ?_; (with_reducible refine (laws_toChangeS.calls kj31 _ _ l2 t649 _ ?side1 ?side2 A79.out).mono ?_); (case side1 => repeat (first | exact (Kd.C_below HR2.out HB.out) | (with_reducible refine Kd.C_alloc ?_ _) | (with_reducible refine Kd.C_drewN ?_ _) | (with_reducible refine Kd.C_drew ?_))); (case side2 => exact HC2.out); rintro e w93 ⟨v650, rfl, ho0, hb⟩; refine ⟨_, rfl, ?_⟩; have n0_ := Aside0.mk (Kd.R_below (by (with_reducible repeat (first | apply Kd.R_alloc | apply Kd.R_drewN | apply Kd.R_drew)); exact HO_606001.out) hb); have n1_ := Aside0.mk (Kd.R_below (by (with_reducible repeat (first | apply Kd.R_alloc | apply Kd.R_drewN | apply Kd.R_drew)); exact HO_620001.out) hb); have n2_ := Aside0.mk (Kd.R_below (by (with_reducible repeat (first | apply Kd.R_alloc | apply Kd.R_drewN | apply Kd.R_drew)); exact HO645.out) hb); have n3_ := Aside0.mk (Kd.R_below (by (with_reducible repeat (first | apply Kd.R_alloc | apply Kd.R_drewN | apply Kd.R_drew)); exact HO648.out) hb); have n4_ := Aside0.mk (Kd.R_lower ho0 (below_size (by repeat (first | (with_reducible first | exact HB.out | apply below_alloc | apply pw_below_drewN | apply below_drew1 | refine below_set ?_ GE605.out | refine below_set ?_ GE619.out) | exact HB.out)))); have n5_ := Aside0.mk (blk_below (g := gb605) (o := .cells #[.int .i64 t601, .slice Ao42 t602.length co42] 49 (0, 0)) (by (with_reducible repeat (first | refine blk_drewN ?_ _ | refine blk_drew ?_ | refine blk_alloc ?_ _)); exact BK605.out) hb); have n6_ := Aside0.mk (blk_below (g := gb619) (o := .cells #[.int .i64 t615, .slice Ao53 t616.length co53] 49 (0, 0)) (by (with_reducible repeat (first | refine blk_drewN ?_ _ | refine blk_drew ?_ | refine blk_alloc ?_ _)); exact BK619.out) hb); have n7_ := Aside0.mk (below_step (by repeat (first | (with_reducible first | exact HB.out | apply below_alloc | apply pw_below_drewN | apply below_drew1 | refine below_set ?_ GE605.out | refine below_set ?_ GE619.out) | exact HB.out)) hb); clear HO_606001; clear HO_620001; clear HO645; clear HO648; clear BK605; clear BK619; clear HB; have HO_606001 := n0_; have HO_620001 := n1_; have HO645 := n2_; have HO648 := n3_; have HO651 := n4_; have BK605 := n5_; have BK619 := n6_; have HB := n7_; clear n0_ n1_ n2_ n3_ n4_ n5_ n6_ n7_; (try clear hb); (try clear hb2); (try clear hk); (try clear hi); (try clear ho0); obtain ⟨Ao94, co94, eo94⟩ := Kd.R_slice HO645.out; subst eo94; obtain ⟨Ao95, co95, eo95⟩ := Kd.R_slice HO648.out; subst eo95; obtain ⟨Ao96, co96, eo96⟩ := Kd.R_slice HO651.out; subst eo96) | ((with_reducible refine gate_callee (f := 36) rfl ?_); refine goesL_ (some 102) rfl rfl Try.func36 (by kernel_rfl) rfl #[.slice Ao94 t643.length co94, .slice Ao95 t646.length co95, .slice Ao96 t649.length co96] rfl (by (try simp only [List.map_toArray, List.map_cons, List.map_nil]); first | done | rfl | (simp only [List.length_drop, List.length_take]; rfl)) ?_; (with_reducible refine (impl_WeaveChanges.calls kj31 _ _ t643 _ _ t646 _ _ t649 t652 t653 _ ?side1 ?side2 ?side3 ?side4 ?side5 ?side6 A80.out).mono ?_); (case side1 => repeat (first | exact (Kd.R_reads' HO645.out).2.2 | (with_reducible refine Kd.C_alloc ?_ _) | (with_reducible refine Kd.C_drewN ?_ _) | (with_reducible refine Kd.C_drew ?_))); (case side2 => exact (Kd.R_reads' HO645.out).2.1); (case side3 => repeat (first | exact (Kd.R_reads' HO648.out).2.2 | (with_reducible refine Kd.C_alloc ?_ _) | (with_reducible refine Kd.C_drewN ?_ _) | (with_reducible refine Kd.C_drew ?_))); (case side4 => exact (Kd.R_reads' HO648.out).2.1); (case side5 => repeat (first | exact (Kd.R_reads' HO651.out).2.2 | (with_reducible refine Kd.C_alloc ?_ _) | (with_reducible refine Kd.C_drewN ?_ _) | (with_reducible refine Kd.C_drew ?_))); (case side6 => exact (Kd.R_reads' HO651.out).2.1); rintro e w97 ⟨v654, rfl, ho0, hb⟩; refine ⟨_, rfl, ?_⟩; have n0_ := Aside0.mk (Kd.R_elder' (by (with_reducible repeat (first | apply Kd.R_alloc | apply Kd.R_drewN | apply Kd.R_drew)); exact HO_606001.out) (Kd.R_base ho0) hb); have n1_ := Aside0.mk (Kd.R_elder' (by (with_reducible repeat (first | apply Kd.R_alloc | apply Kd.R_drewN | apply Kd.R_drew)); exact HO_620001.out) (Kd.R_base ho0) hb); have n2_ := Aside0.mk (Kd.R_elder' (by (with_reducible repeat (first | apply Kd.R_alloc | apply Kd.R_drewN | apply Kd.R_drew)); exact HO645.out) (Kd.R_base ho0) hb); have n3_ := Aside0.mk (Kd.R_elder' (by (with_reducible repeat (first | apply Kd.R_alloc | apply Kd.R_drewN | apply Kd.R_drew)); exact HO648.out) (Kd.R_base ho0) hb); have n4_ := Aside0.mk (Kd.R_below (by (with_reducible repeat (first | apply Kd.R_alloc | apply Kd.R_drewN | apply Kd.R_drew)); exact HO651.out) hb); have n5_ := Aside0.mk (Kd.R_lower (Kd.R_new' (Kd.R_new' (Kd.R_new' (Kd.R_new' ho0 (Kd.R_lt (by (with_reducible repeat (first | apply Kd.R_alloc | apply Kd.R_drewN | apply Kd.R_drew)); exact HO_606001.out))) (Kd.R_lt (by (with_reducible repeat (first | apply Kd.R_alloc | apply Kd.R_drewN | apply Kd.R_drew)); exact HO_620001.out))) (Kd.R_lt (by (with_reducible repeat (first | apply Kd.R_alloc | apply Kd.R_drewN | apply Kd.R_drew)); exact HO645.out))) (Kd.R_lt (by (with_reducible repeat (first | apply Kd.R_alloc | apply Kd.R_drewN | apply Kd.R_drew)); exact HO648.out))) (below_size (by repeat (first | (with_reducible first | exact HB.out | apply below_alloc | apply pw_below_drewN | apply below_drew1 | refine below_set ?_ GE605.out | refine below_set ?_ GE619.out) | exact HB.out)))); have n6_ := Aside0.mk (blk_below (g := gb605) (o := .cells #[.int .i64 t601, .slice Ao42 t602.length co42] 49 (0, 0)) (by (with_reducible repeat (first | refine blk_drewN ?_ _ | refine blk_drew ?_ | refine blk_alloc ?_ _)); exact BK605.out) hb); have n7_ := Aside0.mk (blk_below (g := gb619) (o := .cells #[.int .i64 t615, .slice Ao53 t616.length co53] 49 (0, 0)) (by (with_reducible repeat (first | refine blk_drewN ?_ _ | refine blk_drew ?_ | refine blk_alloc ?_ _)); exact BK619.out) hb); have n8_ := Aside0.mk (below_step (by repeat (first | (with_reducible first | exact HB.out | apply below_alloc | apply pw_below_drewN | apply below_drew1 | refine below_set ?_ GE605.out | refine below_set ?_ GE619.out) | exact HB.out)) hb); clear HO_606001; clear HO_620001; clear HO645; clear HO648; clear HO651; clear BK605; clear BK619; clear HB; have HO_606001 := n0_; have HO_620001 := n1_; have HO645 := n2_; have HO648 := n3_; have HO651 := n4_; have HO655 := n5_; have BK605 := n6_; have BK619 := n7_; have HB := n8_; clear n0_ n1_ n2_ n3_ n4_ n5_ n6_ n7_ n8_; (try clear hb); (try clear hb2); (try clear hk); (try clear hi); (try clear ho0)) | ((with_reducible refine gate_dst (N := 16) rfl ?_); refine box_event ?hg (N := 16) ?hd (cs := #[.int .i64 0, .slice none 0 0]) (t := 49) ?hr ?_; (case hd => rfl); (case hg => rfl); (case hr => first | (go_simp; done) | (go_simp; rfl)); intro gb656 hg w98 hbox hb; have n0_ := Aside0.mk (Kd.R_below (by (with_reducible repeat (first | apply Kd.R_alloc | apply Kd.R_drewN | apply Kd.R_drew)); exact HO_606001.out) hb); have n1_ := Aside0.mk (Kd.R_below (by (with_reducible repeat (first | apply Kd.R_alloc | apply Kd.R_drewN | apply Kd.R_drew)); exact HO_620001.out) hb); have n2_ := Aside0.mk (Kd.R_below (by (with_reducible repeat (first | apply Kd.R_alloc | apply Kd.R_drewN | apply Kd.R_drew)); exact HO645.out) hb); have n3_ := Aside0.mk (Kd.R_below (by (with_reducible repeat (first | apply Kd.R_alloc | apply Kd.R_drewN | apply Kd.R_drew)); exact HO648.out) hb); have n4_ := Aside0.mk (Kd.R_below (by (with_reducible repeat (first | apply Kd.R_alloc | apply Kd.R_drewN | apply Kd.R_drew)); exact HO651.out) hb); have n5_ := Aside0.mk (Kd.R_below (by (with_reducible repeat (first | apply Kd.R_alloc | apply Kd.R_drewN | apply Kd.R_drew)); exact HO655.out) hb); have n6_ := Aside0.mk (blk_below (g := gb605) (o := .cells #[.int .i64 t601, .slice Ao42 t602.length co42] 49 (0, 0)) (by (with_reducible repeat (first | refine blk_drewN ?_ _ | refine blk_drew ?_ | refine blk_alloc ?_ _)); exact BK605.out) hb); have n7_ := Aside0.mk (blk_below (g := gb619) (o := .cells #[.int .i64 t615, .slice Ao53 t616.length co53] 49 (0, 0)) (by (with_reducible repeat (first | refine blk_drewN ?_ _ | refine blk_drew ?_ | refine blk_alloc ?_ _)); exact BK619.out) hb); have n8_ := Aside0.mk (below_step (by repeat (first | (with_reducible first | exact HB.out | apply below_alloc | apply pw_below_drewN | apply below_drew1 | refine below_set ?_ GE605.out | refine below_set ?_ GE619.out) | exact HB.out)) hb); have n9_ := Aside0.mk (hbox); have n10_ := Aside0.mk ((by rw [hg]; exact (below_size (by repeat (first | (with_reducible first | exact HB.out | apply below_alloc | apply pw_below_drewN | apply below_drew1 | refine below_set ?_ GE605.out | refine below_set ?_ GE619.out) | exact HB.out))) : w.heap.size ≤ gb656)); have n11_ := Aside0.mk ((by rw [hg]; exact (below_size (by repeat (first | (with_reducible first | exact HB.out | apply below_alloc | apply pw_below_drewN | apply below_drew1 | refine below_set ?_ GE605.out | refine below_set ?_ GE619.out) | exact HB.out))) : w.heap.size ≤ gb656)); have n12_ := Aside0.mk ((by rw [hg]; exact Nat.ne_of_lt (blk_lt (g := gb605) (o := .cells #[.int .i64 t601, .slice Ao42 t602.length co42] 49 (0, 0)) (by (with_reducible repeat (first | refine blk_drewN ?_ _ | refine blk_drew ?_ | refine blk_alloc ?_ _)); exact BK605.out)) : gb605 ≠ gb656)); have n13_ := Aside0.mk ((by rw [hg]; exact Nat.ne_of_gt (blk_lt (g := gb605) (o := .cells #[.int .i64 t601, .slice Ao42 t602.length co42] 49 (0, 0)) (by (with_reducible repeat (first | refine blk_drewN ?_ _ | refine blk_drew ?_ | refine blk_alloc ?_ _)); exact BK605.out)) : gb656 ≠ gb605)); have n14_ := Aside0.mk ((by rw [hg]; exact Nat.ne_of_lt (blk_lt (g := gb619) (o := .cells #[.int .i64 t615, .slice Ao53 t616.length co53] 49 (0, 0)) (by (with_reducible repeat (first | refine blk_drewN ?_ _ | refine blk_drew ?_ | refine blk_alloc ?_ _)); exact BK619.out)) : gb619 ≠ gb656)); have n15_ := Aside0.mk ((by rw [hg]; exact Nat.ne_of_gt (blk_lt (g := gb619) (o := .cells #[.int .i64 t615, .slice Ao53 t616.length co53] 49 (0, 0)) (by (with_reducible repeat (first | refine blk_drewN ?_ _ | refine blk_drew ?_ | refine blk_alloc ?_ _)); exact BK619.out)) : gb656 ≠ gb619)); clear HO_606001; clear HO_620001; clear HO645; clear HO648; clear HO651; clear HO655; clear BK605; clear BK619; clear HB; have HO_606001 := n0_; have HO_620001 := n1_; have HO645 := n2_; have HO648 := n3_; have HO651 := n4_; have HO655 := n5_; have BK605 := n6_; have BK619 := n7_; have HB := n8_; have BK656 := n9_; have GW656 := n10_; have GE656 := n11_; have NB605_656 := n12_; have NB656_605 := n13_; have NB619_656 := n14_; have NB656_619 := n15_; clear n0_ n1_ n2_ n3_ n4_ n5_ n6_ n7_ n8_ n9_ n10_ n11_ n12_ n13_ n14_ n15_; clear hb hbox hg; have hnb99 := NB656_605.out; have hnc99 := NB605_656.out; have hnb100 := NB656_619.out; have hnc100 := NB619_656.out; have hcz101_0 : w98.cell? ⟨gb656, 0, none⟩ = some (.int .i64 0) := (blk_cell BK656.out 0).trans rfl; have hcz101_1 : w98.cell? ⟨gb656, 1, none⟩ = some (.slice none 0 0) := (blk_cell BK656.out 1).trans rfl; have hfz101_0 := blk_frozen BK656.out 0; have hfz101_1 := blk_frozen BK656.out 1; obtain ⟨Ao102, co102, eo102⟩ := Kd.R_slice HO655.out; subst eo102; have hcz103_0 : w98.cell? ⟨gb605, 0, none⟩ = some (.int .i64 t601) := (blk_cell BK605.out 0).trans rfl; have hcz103_1 : w98.cell? ⟨gb605, 1, none⟩ = some (.slice Ao42 t602.length co42) := (blk_cell BK605.out 1).trans rfl; have hfz103_0 := blk_frozen BK605.out 0; have hfz103_1 := blk_frozen BK605.out 1) | ((with_reducible refine gate_callee (f := 37) rfl ?_); refine goesL_ (some 105) rfl rfl Try.func37 (by kernel_rfl) rfl #[.agg #[.int .i64 t652, .slice Ao102 t653.length co102], .agg #[.int .i64 t601, .slice Ao42 t602.length co42]] rfl (by (try simp only [List.map_toArray, List.map_cons, List.map_nil]); first | done | rfl | (simp only [List.length_drop, List.length_take]; rfl)) ?_; (with_reducible refine (laws_eqLinesResult.calls kj31 t652 _ _ t653 t601 _ _ t602 true _ ?side1 ?side2 ?side3 ?side4 A81.out).mono ?_); (case side1 => refine (Kd.R_reads' (e := 9) (base := w.heap.size) (ok := fun k_ => ((((True ∧ some k_ ≠ (.slice Ao42 t602.length co42 : Value).ownBlock) ∧ some k_ ≠ (.slice Ao53 t616.length co53 : Value).ownBlock) ∧ some k_ ≠ (.slice Ao94 t643.length co94 : Value).ownBlock) ∧ some k_ ≠ (.slice Ao95 t646.length co95 : Value).ownBlock)) (n := t653.length) (c := co102) ?_).2.2; exact (by (with_reducible repeat (first | apply Kd.R_alloc | apply Kd.R_drewN | apply Kd.R_drew)); exact (Kd.R_mono (Kd.R_far (p := ⟨gb656, 1, none⟩) (Kd.R_far (p := ⟨gb656, 0, none⟩) (Kd.R_types HO655.out BK656.out (by decide)) (fun _ hk => hk.2) (.int .i64 t652)) (fun _ hk => hk.2) (.slice Ao102 t653.length co102)) (fun _ h_ => h_.1)))); (case side2 => exact (Kd.R_reads' HO655.out).2.1); (case side3 => refine (Kd.R_reads' (e := 9) (base := w.heap.size) (ok := fun k_ => (((some k_ ≠ (.slice Ao53 t616.length co53 : Value).ownBlock ∧ some k_ ≠ (.slice Ao94 t643.length co94 : Value).ownBlock) ∧ some k_ ≠ (.slice Ao95 t646.length co95 : Value).ownBlock) ∧ some k_ ≠ (.slice Ao102 t653.length co102 : Value).ownBlock)) (n := t602.length) (c := co42) ?_).2.2; exact (by (with_reducible repeat (first | apply Kd.R_alloc | apply Kd.R_drewN | apply Kd.R_drew)); exact (Kd.R_mono (Kd.R_far (p := ⟨gb656, 1, none⟩) (Kd.R_far (p := ⟨gb656, 0, none⟩) (Kd.R_types HO_606001.out BK656.out (by decide)) (fun _ hk => hk.2) (.int .i64 t652)) (fun _ hk => hk.2) (.slice Ao102 t653.length co102)) (fun _ h_ => h_.1)))); (case side4 => exact (Kd.R_reads' HO_606001.out).2.1); rintro e w104 ⟨rfl, hb⟩; refine ⟨_, rfl, ?_⟩; have n0_ := Aside0.mk (Kd.R_below (by (with_reducible repeat (first | apply Kd.R_alloc | apply Kd.R_drewN | apply Kd.R_drew)); exact (Kd.R_mono (Kd.R_far (p := ⟨gb656, 1, none⟩) (Kd.R_far (p := ⟨gb656, 0, none⟩) (Kd.R_types HO_606001.out BK656.out (by decide)) (fun _ hk => hk.2) (.int .i64 t652)) (fun _ hk => hk.2) (.slice Ao102 t653.length co102)) (fun _ h_ => h_.1))) hb); have n1_ := Aside0.mk (Kd.R_below (by (with_reducible repeat (first | apply Kd.R_alloc | apply Kd.R_drewN | apply Kd.R_drew)); exact (Kd.R_mono (Kd.R_far (p := ⟨gb656, 1, none⟩) (Kd.R_far (p := ⟨gb656, 0, none⟩) (Kd.R_types HO_620001.out BK656.out (by decide)) (fun _ hk => hk.2) (.int .i64 t652)) (fun _ hk => hk.2) (.slice Ao102 t653.length co102)) (fun _ h_ => h_.1))) hb); have n2_ := Aside0.mk (Kd.R_below (by (with_reducible repeat (first | apply Kd.R_alloc | apply Kd.R_drewN | apply Kd.R_drew)); exact (Kd.R_mono (Kd.R_far (p := ⟨gb656, 1, none⟩) (Kd.R_far (p := ⟨gb656, 0, none⟩) (Kd.R_types HO645.out BK656.out (by decide)) (fun _ hk => hk.2) (.int .i64 t652)) (fun _ hk => hk.2) (.slice Ao102 t653.length co102)) (fun _ h_ => h_.1))) hb); have n3_ := Aside0.mk (Kd.R_below (by (with_reducible repeat (first | apply Kd.R_alloc | apply Kd.R_drewN | apply Kd.R_drew)); exact (Kd.R_mono (Kd.R_far (p := ⟨gb656, 1, none⟩) (Kd.R_far (p := ⟨gb656, 0, none⟩) (Kd.R_types HO648.out BK656.out (by decide)) (fun _ hk => hk.2) (.int .i64 t652)) (fun _ hk => hk.2) (.slice Ao102 t653.length co102)) (fun _ h_ => h_.1))) hb); have n4_ := Aside0.mk (Kd.R_below (by (with_reducible repeat (first | apply Kd.R_alloc | apply Kd.R_drewN | apply Kd.R_drew)); exact (Kd.R_mono (Kd.R_far (p := ⟨gb656, 1, none⟩) (Kd.R_far (p := ⟨gb656, 0, none⟩) (Kd.R_types HO651.out BK656.out (by decide)) (fun _ hk => hk.2) (.int .i64 t652)) (fun _ hk => hk.2) (.slice Ao102 t653.length co102)) (fun _ h_ => h_.1))) hb); have n5_ := Aside0.mk (Kd.R_below (by (with_reducible repeat (first | apply Kd.R_alloc | apply Kd.R_drewN | apply Kd.R_drew)); exact (Kd.R_mono (Kd.R_far (p := ⟨gb656, 1, none⟩) (Kd.R_far (p := ⟨gb656, 0, none⟩) (Kd.R_types HO655.out BK656.out (by decide)) (fun _ hk => hk.2) (.int .i64 t652)) (fun _ hk => hk.2) (.slice Ao102 t653.length co102)) (fun _ h_ => h_.1))) hb); have n6_ := Aside0.mk (blk_below (g := gb605) (o := .cells #[.int .i64 t601, .slice Ao42 t602.length co42] 49 (0, 0)) (by (with_reducible repeat (first | refine blk_drewN ?_ _ | refine blk_drew ?_ | refine blk_alloc ?_ _)); refine blk_far ?_ NB605_656.out _; (with_reducible repeat (first | refine blk_drewN ?_ _ | refine blk_drew ?_ | refine blk_alloc ?_ _)); refine blk_far ?_ NB605_656.out _; (with_reducible repeat (first | refine blk_drewN ?_ _ | refine blk_drew ?_ | refine blk_alloc ?_ _)); exact BK605.out) hb); have n7_ := Aside0.mk (blk_below (g := gb619) (o := .cells #[.int .i64 t615, .slice Ao53 t616.length co53] 49 (0, 0)) (by (with_reducible repeat (first | refine blk_drewN ?_ _ | refine blk_drew ?_ | refine blk_alloc ?_ _)); refine blk_far ?_ NB619_656.out _; (with_reducible repeat (first | refine blk_drewN ?_ _ | refine blk_drew ?_ | refine blk_alloc ?_ _)); refine blk_far ?_ NB619_656.out _; (with_reducible repeat (first | refine blk_drewN ?_ _ | refine blk_drew ?_ | refine blk_alloc ?_ _)); exact BK619.out) hb); have n8_ := Aside0.mk (blk_below (g := gb656) (o := .cells #[.int .i64 t652, .slice Ao102 t653.length co102] 49 (0, 0)) (by (with_reducible repeat (first | refine blk_drewN ?_ _ | refine blk_drew ?_ | refine blk_alloc ?_ _)); refine blk_put (cs := #[.int .i64 t652, .slice none 0 0]) ?_ 1 _ rfl; (with_reducible repeat (first | refine blk_drewN ?_ _ | refine blk_drew ?_ | refine blk_alloc ?_ _)); refine blk_put (cs := #[.int .i64 0, .slice none 0 0]) ?_ 0 _ rfl; (with_reducible repeat (first | refine blk_drewN ?_ _ | refine blk_drew ?_ | refine blk_alloc ?_ _)); exact BK656.out) hb); have n9_ := Aside0.mk (below_step (by repeat (first | (with_reducible first | exact HB.out | apply below_alloc | apply pw_below_drewN | apply below_drew1 | refine below_set ?_ GE605.out | refine below_set ?_ GE619.out | refine below_set ?_ GE656.out) | exact HB.out)) hb); clear HO_606001; clear HO_620001; clear HO645; clear HO648; clear HO651; clear HO655; clear BK605; clear BK619; clear BK656; clear HB; have HO_606001 := n0_; have HO_620001 := n1_; have HO645 := n2_; have HO648 := n3_; have HO651 := n4_; have HO655 := n5_; have BK605 := n6_; have BK619 := n7_; have BK656 := n8_; have HB := n9_; clear n0_ n1_ n2_ n3_ n4_ n5_ n6_ n7_ n8_ n9_; (try clear hb); (try clear hb2); (try clear hk); (try clear hi); have hcz105_0 : w104.cell? ⟨gb619, 0, none⟩ = some (.int .i64 t615) := (blk_cell BK619.out 0).trans rfl; have hcz105_1 : w104.cell? ⟨gb619, 1, none⟩ = some (.slice Ao53 t616.length co53) := (blk_cell BK619.out 1).trans rfl; have hfz105_0 := blk_frozen BK619.out 0; have hfz105_1 := blk_frozen BK619.out 1) | ((with_reducible refine gate_callee (f := 40) rfl ?_); refine goesL_ (some 109) rfl rfl Try.func40 (by kernel_rfl) rfl #[.agg #[.int .i64 t615, .slice Ao53 t641.length co53], .int .i64 1] rfl (by (try simp only [List.map_toArray, List.map_cons, List.map_nil]); first | done | (rw [show t641.length = t616.length from (Kd.R_reads' HO_620001.out).1.symm] <;> rfl) | rfl | (simp only [List.length_drop, List.length_take]; rfl)) ?_; (with_reducible refine (laws_heldLinesResult.calls kj31 t615 _ _ t641 1 t658 _ ?side1 ?side2 A83.out).mono ?_); (case side1 => repeat (first | exact (Kd.R_reads' HO_620001.out).2.2 | (with_reducible refine Kd.C_alloc ?_ _) | (with_reducible refine Kd.C_drewN ?_ _) | (with_reducible refine Kd.C_drew ?_))); (case side2 => rw [show t641.length = t616.length from (Kd.R_reads' HO_620001.out).1.symm]; exact (Kd.R_reads' HO_620001.out).2.1); rintro e w106 ⟨rfl, hb⟩; refine ⟨_, rfl, ?_⟩; have n0_ := Aside0.mk (Kd.R_below (by (with_reducible repeat (first | apply Kd.R_alloc | apply Kd.R_drewN | apply Kd.R_drew)); exact HO_606001.out) hb); have n1_ := Aside0.mk (Kd.R_below (by (with_reducible repeat (first | apply Kd.R_alloc | apply Kd.R_drewN | apply Kd.R_drew)); exact HO_620001.out) hb); have n2_ := Aside0.mk (Kd.R_below (by (with_reducible repeat (first | apply Kd.R_alloc | apply Kd.R_drewN | apply Kd.R_drew)); exact HO645.out) hb); have n3_ := Aside0.mk (Kd.R_below (by (with_reducible repeat (first | apply Kd.R_alloc | apply Kd.R_drewN | apply Kd.R_drew)); exact HO648.out) hb); have n4_ := Aside0.mk (Kd.R_below (by (with_reducible repeat (first | apply Kd.R_alloc | apply Kd.R_drewN | apply Kd.R_drew)); exact HO651.out) hb); have n5_ := Aside0.mk (Kd.R_below (by (with_reducible repeat (first | apply Kd.R_alloc | apply Kd.R_drewN | apply Kd.R_drew)); exact HO655.out) hb); have n6_ := Aside0.mk (blk_below (g := gb605) (o := .cells #[.int .i64 t601, .slice Ao42 t602.length co42] 49 (0, 0)) (by (with_reducible repeat (first | refine blk_drewN ?_ _ | refine blk_drew ?_ | refine blk_alloc ?_ _)); exact BK605.out) hb); have n7_ := Aside0.mk (blk_below (g := gb619) (o := .cells #[.int .i64 t615, .slice Ao53 t616.length co53] 49 (0, 0)) (by (with_reducible repeat (first | refine blk_drewN ?_ _ | refine blk_drew ?_ | refine blk_alloc ?_ _)); exact BK619.out) hb); have n8_ := Aside0.mk (blk_below (g := gb656) (o := .cells #[.int .i64 t652, .slice Ao102 t653.length co102] 49 (0, 0)) (by (with_reducible repeat (first | refine blk_drewN ?_ _ | refine blk_drew ?_ | refine blk_alloc ?_ _)); exact BK656.out) hb); have n9_ := Aside0.mk (below_step (by repeat (first | (with_reducible first | exact HB.out | apply below_alloc | apply pw_below_drewN | apply below_drew1 | refine below_set ?_ GE605.out | refine below_set ?_ GE619.out | refine below_set ?_ GE656.out) | exact HB.out)) hb); clear HO_606001; clear HO_620001; clear HO645; clear HO648; clear HO651; clear HO655; clear BK605; clear BK619; clear BK656; clear HB; have HO_606001 := n0_; have HO_620001 := n1_; have HO645 := n2_; have HO648 := n3_; have HO651 := n4_; have HO655 := n5_; have BK605 := n6_; have BK619 := n7_; have BK656 := n8_; have HB := n9_; clear n0_ n1_ n2_ n3_ n4_ n5_ n6_ n7_ n8_ n9_; (try clear hb); (try clear hb2); (try clear hk); (try clear hi)))
                go_ret
                exact ⟨by first | rfl | (simp [errW_none, errW_some] <;> rfl) | (simp [*, errW_none, errW_some] <;> rfl), by repeat (first | (with_reducible first | exact HB.out | apply below_alloc | apply pw_below_drewN | apply below_drew1 | refine below_set ?_ GE605.out | refine below_set ?_ GE619.out | refine below_set ?_ GE656.out) | exact HB.out)⟩
               ·rw [if_neg c85] at H
                have c85b0 : (t658 == t640) = false := beq_eq_false_iff_ne.mpr c85
                have c85b1 : (t658 != t640) = true := bne_iff_ne.mpr c85
                exact absurd ((Option.some.inj H).trans HLAW.out) (by decide)
             ·replace c82 := Bool.eq_false_iff.mpr c82
              subst c82
              have H1 : (some false) = some r := by rw [if_neg (show ¬ (false = true) by decide)] at H; exact H
              clear H
              have H := H1
              clear H1
              exact absurd ((Option.some.inj H).trans HLAW.out) (by decide)
            ·rw [if_neg c76] at H
             have c76b0 : (t642 == t640) = false := beq_eq_false_iff_ne.mpr c76
             have c76b1 : (t642 != t640) = true := bne_iff_ne.mpr c76
             exact absurd ((Option.some.inj H).trans HLAW.out) (by decide)
       ·replace c28 := Bool.eq_false_iff.mpr c28
        subst c28
        have H1 : (some false) = some r := by rw [if_neg (show ¬ (false = true) by decide)] at H; exact H
        clear H
        have H := H1
        clear H1
        exact absurd ((Option.some.inj H).trans HLAW.out) (by decide)
      ·replace c25 := Bool.eq_false_iff.mpr c25
       subst c25
       have H1 : (some false) = some r := by rw [if_neg (show ¬ (false = true) by decide)] at H; exact H
       clear H
       have H := H1
       clear H1
       exact absurd ((Option.some.inj H).trans HLAW.out) (by decide)
     ·replace c22 := Bool.eq_false_iff.mpr c22
      subst c22
      have H1 : (some false) = some r := by rw [if_neg (show ¬ (false = true) by decide)] at H; exact H
      clear H
      have H := H1
      clear H1
      exact absurd ((Option.some.inj H).trans HLAW.out) (by decide)
    ·replace c19 := Bool.eq_false_iff.mpr c19
     subst c19
     have H1 : (some false) = some r := by rw [if_neg (show ¬ (false = true) by decide)] at H; exact H
     clear H
     have H := H1
     clear H1
     exact absurd ((Option.some.inj H).trans HLAW.out) (by decide)
end Go.Proofs.Ytihbalbcocfnfaa.P
end
section
set_option linter.unusedVariables false
namespace Go.Proofs.Ytihbalbcocfnfaa.P
open Go.RowKit Go.Proofs.YtihbalbcocfnfaaW.PrintWords Go.Proofs.YtihbalbcocfnfaaW.PrintLast
namespace UFnExactWeaveChanges
def G73 (x : S73) : Prop := (((Lit.int .i64 (x.f0)).wf = true) ∧ (((Lit.int .i64 (x.f1)).wf = true) ∧ (((Lit.int .i64 (x.f2)).wf = true) ∧ ((Lit.int .i64 (x.f3)).wf = true))))
def Pure : Prop := ∀ (l0 : List ByteArray) (l1 : List ByteArray) (l2 : List S73), (l0.length ≤ 9223372036854775807 ∧ ∀ x ∈ l0, x.size ≤ 9223372036854775807) → (l1.length ≤ 9223372036854775807 ∧ ∀ x ∈ l1, x.size ≤ 9223372036854775807) → (l2.length ≤ 9223372036854775807 ∧ ∀ x ∈ l2, G73 x) → ∃ k, laws_FnExactWeaveChanges.f k l0 l1 l2 = some true
end UFnExactWeaveChanges
end Go.Proofs.Ytihbalbcocfnfaa.P
end
section
set_option linter.unusedVariables false
set_option linter.unusedSimpArgs false
namespace Go.Proofs.Ytihbalbcocfnfaa.P
open Go.RowKit Go.Proofs.YtihbalbcocfnfaaW.PrintWords Go.Proofs.YtihbalbcocfnfaaW.PrintLast
theorem wid {x : Int} (h0 : -9223372036854775808 ≤ x) (h1 : x ≤ 9223372036854775807) : wrap64 x = x := by
  unfold wrap64
  omega
theorem wsucc {i n : Nat} (h : i < n) (hn : n ≤ 9223372036854775807) : wrap64 ((i : Int) + 1) = ((i + 1 : Nat) : Int) := by
  rw [wid (by omega) (by omega)]
  rfl
theorem Ev_if {α : Type} {c : Prop} [Decidable c] {a b : Nat → Option α} {r : α} (hp : c → Ev a r) (hn : ¬ c → Ev b r) : Ev (fun k => if c then a k else b k) r := by
  by_cases h : c
  · exact (hp h).congr (fun k => if_pos h)
  · exact (hn h).congr (fun k => if_neg h)
theorem Ev_pos {α : Type} {c : Prop} [Decidable c] {a b : Nat → Option α} {r : α} (hc : c) (h : Ev a r) : Ev (fun k => if c then a k else b k) r := h.congr (fun k => if_pos hc)
theorem Ev_neg {α : Type} {c : Prop} [Decidable c] {a b : Nat → Option α} {r : α} (hc : ¬ c) (h : Ev b r) : Ev (fun k => if c then a k else b k) r := h.congr (fun k => if_neg hc)
theorem Ev_call {α β : Type} {g : Nat → Option α} {f : Nat → α → Option β} {a : α} {r : β} (h : Ev g a) (k : Ev (fun n => f n a) r) : Ev (fun n => (g n).bind (f n)) r := Ev.bind h k
theorem Ev_const {α β : Type} {g : Option α} {f : Nat → α → Option β} {a : α} {r : β} (h : g = some a) (k : Ev (fun n => f n a) r) : Ev (fun n => g.bind (f n)) r :=
  Ev.bind (g := fun _ => g) ⟨0, fun _ _ => h⟩ k
theorem Ev_eq {α : Type} {g : Nat → Option α} {r r' : α} (h : Ev g r) (e : r = r') : Ev g r' := e ▸ h
theorem Ev_val {α : Type} {r r' : α} (h : r = r') : Ev (fun _ => some r) r' := ⟨0, fun _ _ => by rw [h]⟩
theorem rd_nat {α : Type} (d : α) {xs : List α} {i : Nat} (h : i < xs.length) : rdOf d xs (i : Int) = xs[i] := by
  unfold rdOf
  rw [Int.toNat_natCast, List.getD_eq_getElem?_getD, List.getElem?_eq_getElem h]
  rfl
theorem rdi_nat {xs : List Int} {i : Nat} (h : i < xs.length) : rd xs (i : Int) = xs[i] := by
  unfold rd
  rw [Int.toNat_natCast, List.getD_eq_getElem?_getD, List.getElem?_eq_getElem h]
  rfl
theorem bt_nat {s : ByteArray} {i : Nat} (h : i < s.data.toList.length) : bt s (i : Int) = ((s.data.toList[i]).toNat : Int) := by
  have h' : i < s.size := by simpa using h
  unfold bt
  rw [dif_pos (by rw [Int.toNat_natCast]; exact h')]
  simp [ByteArray.getElem_eq_getElem_data]
theorem toList_nil {a : ByteArray} : a.toList = ([] : List UInt8) ↔ a.data.toList = [] := by rw [ByteArray.toList_eq]
theorem size_data (a : ByteArray) : a.data.toList.length = a.size := by simp
theorem drop_at {α : Type} {xs : List α} {i : Nat} (h : i < xs.length) : xs.drop i = xs[i] :: xs.drop (i + 1) := List.drop_eq_getElem_cons h
def total : List ByteArray → Nat
  | [] => 0
  | x :: l => x.size + total l
end Go.Proofs.Ytihbalbcocfnfaa.P
end
section
namespace Go.Proofs.Ytihbalbcocfnfaa.P
end Go.Proofs.Ytihbalbcocfnfaa.P
end
section
namespace Go.Proofs.Ytihbalbcocfnfaa.P
end Go.Proofs.Ytihbalbcocfnfaa.P
end
section
set_option linter.unusedVariables false
set_option linter.unusedSimpArgs false
namespace Go.Proofs.Ytihbalbcocfnfaa.P
open Go.RowKit Go.Proofs.YtihbalbcocfnfaaW.PrintWords Go.Proofs.YtihbalbcocfnfaaW.PrintLast
theorem sz_loop (xs : List ByteArray) (hx : ∀ x ∈ xs, x.size ≤ 9223372036854775807) (hl : xs.length ≤ 9223372036854775807) : ∀ (d i : Nat) (n : Int), xs.length - i = d → i ≤ xs.length → 0 ≤ n → n ≤ 1048576 →
    ∃ r, Ev (fun k => laws_szStringS.l0 k xs n (i : Int)) r ∧ (r < 0 ∨ (0 ≤ r ∧ r ≤ n ∧ (total (xs.drop i) : Int) = n - r)) := by
  intro d
  induction d with
  | zero =>
    intro i n hd hi h0 h1
    have : i = xs.length := by omega
    subst this
    refine ⟨n, Ev.step (fun k => by rw [laws_szStringS.l0]) (Ev_neg (by omega) (Ev.now _)), .inr ⟨h0, Int.le_refl _, ?_⟩⟩
    rw [List.drop_length]
    simp [total]
  | succ d ih =>
    intro i n hd hi h0 h1
    have hlt : i < xs.length := by omega
    have hs := hx xs[i] (List.getElem_mem hlt)
    by_cases hc : n - (xs[i].size : Int) < 0
    · refine ⟨-1, Ev.step (fun k => by rw [laws_szStringS.l0]) (Ev_pos (by omega) (Ev_pos (by omega) ?_)), .inl (by omega)⟩
      rw [rd_nat _ hlt, wid (by omega) (by omega)]
      exact Ev_pos hc (Ev.now _)
    · obtain ⟨r, hr, hp⟩ := ih (i + 1) (n - (xs[i].size : Int)) (by omega) (by omega) (by omega) (by omega)
      refine ⟨r, Ev.step (fun k => by rw [laws_szStringS.l0]) (Ev_pos (by omega) (Ev_pos (by omega) ?_)), ?_⟩
      · rw [rd_nat _ hlt, wid (by omega) (by omega), wsucc hlt hl]
        exact Ev_neg hc hr
      · rcases hp with hp | ⟨h2, h3, h4⟩
        · exact .inl hp
        · refine .inr ⟨h2, by omega, ?_⟩
          rw [drop_at hlt]
          simp only [total]
          omega
theorem sz_tells (xs : List ByteArray) (hg : xs.length ≤ 9223372036854775807 ∧ ∀ x ∈ xs, x.size ≤ 9223372036854775807) (n : Int) (h0 : 0 ≤ n) (h1 : n ≤ 1048576) :
    ∃ r, Ev (fun k => laws_szStringS.f k xs n) r ∧ (r < 0 ∨ (0 ≤ r ∧ r ≤ n ∧ (xs.length : Int) + (total xs : Int) = n - r)) := by
  by_cases hc : n - (xs.length : Int) < 0
  · refine ⟨-1, ?_, .inl (by omega)⟩
    unfold laws_szStringS.f
    rw [wid (by omega) (by omega)]
    exact Ev_pos hc (Ev.now _)
  · obtain ⟨r, hr, hp⟩ := sz_loop xs hg.2 hg.1 _ 0 (n - (xs.length : Int)) rfl (by omega) (by omega) (by omega)
    refine ⟨r, ?_, ?_⟩
    · unfold laws_szStringS.f
      rw [wid (by omega) (by omega)]
      exact Ev_neg hc hr
    · rcases hp with hp | ⟨h2, h3, h4⟩
      · exact .inl hp
      · rw [List.drop_zero] at h4
        exact .inr ⟨h2, by omega, by omega⟩
theorem to_loop (xs : List ByteArray) (hl : xs.length ≤ 9223372036854775807) : ∀ (d i : Nat) (ys : List ByteArray), xs.length - i = d → i ≤ xs.length → ys.length = xs.length →
    Ev (fun k => laws_toStringS.l0 k xs ys (i : Int)) (ys.take i ++ xs.drop i) := by
  intro d
  induction d with
  | zero =>
    intro i ys hd hi hy
    have : i = xs.length := by omega
    subst this
    refine Ev.step (fun k => by rw [laws_toStringS.l0]) (Ev_neg (by omega) (Ev_val ?_))
    rw [List.drop_length, List.append_nil, ← hy, List.take_length]
  | succ d ih =>
    intro i ys hd hi hy
    have hlt : i < xs.length := by omega
    refine Ev.step (fun k => by rw [laws_toStringS.l0]) (Ev_pos (by omega) (Ev_pos (by omega) (Ev_pos (by omega) ?_)))
    rw [rd_nat _ hlt, wsucc hlt hl, Int.toNat_natCast]
    have h := ih (i + 1) (ys.set i xs[i]) (by omega) (by omega) (by rw [List.length_set]; exact hy)
    refine Ev_eq h ?_
    rw [drop_at hlt, List.take_succ_eq_append_getElem (by rw [List.length_set]; omega), List.getElem_set_self, List.take_set_of_le (by omega), List.append_assoc]
    rfl
theorem to_tells (xs : List ByteArray) (hl : xs.length ≤ 17592186044416) : Ev (fun k => laws_toStringS.f k xs) xs := by
  unfold laws_toStringS.f
  refine Ev_pos (by omega) (Ev_pos (by rw [Int.toNat_natCast]; exact hl) ?_)
  have h := to_loop xs (by omega) _ 0 (List.replicate ((xs.length : Int) : Int).toNat (⟨#[]⟩ : ByteArray)) rfl (by omega) (by simp)
  exact Ev_eq h (by simp)
theorem eq_loop (xs : List ByteArray) (hl : xs.length ≤ 9223372036854775807) : ∀ (d i : Nat), xs.length - i = d → i ≤ xs.length → Ev (fun k => laws_eqStringS.l0 k xs xs (i : Int)) true := by
  intro d
  induction d with
  | zero => intro i hd hi; exact Ev.step (fun k => by rw [laws_eqStringS.l0]) (Ev_neg (by omega) (Ev.now _))
  | succ d ih =>
    intro i hd hi
    have hlt : i < xs.length := by omega
    refine Ev.step (fun k => by rw [laws_eqStringS.l0]) (Ev_pos (by omega) (Ev_pos (by omega) (Ev_pos (by omega) (Ev_pos rfl ?_))))
    rw [wsucc hlt hl]
    exact ih (i + 1) (by omega) (by omega)
theorem eq_tells (xs : List ByteArray) (hl : xs.length ≤ 9223372036854775807) : Ev (fun k => laws_eqStringS.f k xs xs) true := by
  unfold laws_eqStringS.f
  exact Ev_pos rfl (eq_loop xs hl _ 0 rfl (by omega))
end Go.Proofs.Ytihbalbcocfnfaa.P
end
section
set_option linter.unusedVariables false
set_option linter.unusedSimpArgs false
namespace Go.Proofs.Ytihbalbcocfnfaa.P
open Go.RowKit
theorem index_low (l : List UInt8) (c : UInt8) : -1 ≤ Lib.indexByte l c := by
  induction l with
  | nil => simp [Lib.indexByte]
  | cons b l ih =>
    unfold Lib.indexByte
    split
    · omega
    · split
      · omega
      · omega
theorem index_mem (l : List UInt8) (c : UInt8) : Lib.indexByte l c ≥ 0 ↔ c ∈ l := by
  induction l with
  | nil => simp [Lib.indexByte]
  | cons b l ih =>
    have hl := index_low l c
    unfold Lib.indexByte
    by_cases h : b = c
    · subst h
      simp
    · have h2 : (b == c) = false := by simpa using h
      rw [h2, List.mem_cons]
      have h3 : ¬ c = b := fun e => h e.symm
      by_cases h4 : Lib.indexByte l c = -1
      · have h5 : (Lib.indexByte l c == -1) = true := by simpa using h4
        rw [h5]
        have : ¬ c ∈ l := fun hm => by have := ih.2 hm; omega
        simp [h3, this]
      · have h5 : (Lib.indexByte l c == -1) = false := by simpa using h4
        rw [h5]
        have : c ∈ l := ih.1 (by omega)
        simp [this]
        omega
def lineEnd : List UInt8 → Nat
  | [] => 0
  | c :: l => if c = 10 then 0 else lineEnd l + 1
theorem lineEnd_le (l : List UInt8) : lineEnd l ≤ l.length := by
  induction l with
  | nil => simp [lineEnd]
  | cons c l ih =>
    unfold lineEnd
    split
    · omega
    · simp
      omega
theorem lineEnd_mem (l : List UInt8) : lineEnd l < l.length ↔ 10 ∈ l := by
  induction l with
  | nil => simp [lineEnd]
  | cons c l ih =>
    unfold lineEnd
    by_cases h : c = 10
    · subst h
      simp
    · rw [if_neg h, List.length_cons, List.mem_cons]
      have h2 : ¬ (10 : UInt8) = c := fun e => h e.symm
      simp only [h2, false_or]
      rw [← ih]
      omega
theorem lineEnd_early (l : List UInt8) : lineEnd l < l.length - 1 ↔ 10 ∈ l.dropLast := by
  induction l with
  | nil => simp [lineEnd]
  | cons c l ih =>
    cases l with
    | nil =>
      simp [lineEnd]
    | cons d l =>
      unfold lineEnd
      by_cases h : c = 10
      · subst h
        simp
      · rw [if_neg h, List.dropLast_cons_cons, List.mem_cons]
        have h2 : ¬ (10 : UInt8) = c := fun e => h e.symm
        simp only [h2, false_or]
        rw [← ih]
        simp only [List.length_cons]
        omega
theorem suffix_last (l : List UInt8) : Lib.hasSuffix l [10] = true ↔ ∃ r, l = r ++ [10] := by
  unfold Lib.hasSuffix
  rw [List.isSuffixOf_iff_suffix]
  constructor
  · rintro ⟨r, h⟩
    exact ⟨r, h.symm⟩
  · rintro ⟨r, h⟩
    exact ⟨r, h.symm⟩
theorem suffix_iff (l : List UInt8) (h : ¬ 10 ∈ l.dropLast) : Lib.hasSuffix l [10] = true ↔ 10 ∈ l := by
  rw [suffix_last]
  constructor
  · rintro ⟨r, rfl⟩
    simp
  · intro hm
    have hne : l ≠ [] := by
      rintro rfl
      simp at hm
    have e := List.dropLast_concat_getLast hne
    rw [← e] at hm
    rcases List.mem_append.1 hm with h1 | h1
    · exact absurd h1 h
    · refine ⟨l.dropLast, ?_⟩
      have h2 : (10 : UInt8) = l.getLast hne := by simpa using h1
      rw [h2]
      exact e.symm
end Go.Proofs.Ytihbalbcocfnfaa.P
end
section
set_option linter.unusedVariables false
set_option linter.unusedSimpArgs false
namespace Go.Proofs.Ytihbalbcocfnfaa.P
open Go.RowKit Go.Proofs.YtihbalbcocfnfaaW.PrintWords Go.Proofs.YtihbalbcocfnfaaW.PrintLast
theorem ended_loop (s : ByteArray) (hs : s.size ≤ 9223372036854775807) : ∀ (d i : Nat), s.size - i = d → i ≤ s.size → Ev (fun k => spec_l1Ended.l0 k s (i : Int)) (((i + lineEnd (s.data.toList.drop i) : Nat)) : Int) := by
  intro d
  induction d with
  | zero =>
    intro i hd hi
    refine Ev.step (fun k => by rw [spec_l1Ended.l0]) (Ev_neg (by omega) (Ev_val ?_))
    rw [List.drop_eq_nil_of_le (by rw [size_data]; omega)]
    simp only [lineEnd]
    omega
  | succ d ih =>
    intro i hd hi
    have hlt : i < s.data.toList.length := by rw [size_data]; omega
    refine Ev.step (fun k => by rw [spec_l1Ended.l0]) (Ev_pos (by omega) (Ev_pos (by omega) ?_))
    rw [bt_nat hlt, drop_at hlt, wsucc (n := s.size) (by omega) hs]
    refine Ev_if (fun h => Ev_val ?_) (fun h => Ev_eq (ih (i + 1) (by omega) (by omega)) ?_)
    · have : s.data.toList[i] = 10 := by
        apply UInt8.toNat_inj.1
        have h2 : s.data.toList[i].toNat = 10 := by omega
        exact h2
      rw [lineEnd, if_pos this]
      rfl
    · have : ¬ s.data.toList[i] = 10 := fun e => h (by rw [e]; rfl)
      rw [lineEnd, if_neg this]
      omega
theorem ended_tells (s : ByteArray) (hs : s.size ≤ 9223372036854775807) : Ev (fun k => spec_l1Ended.f k s) ((lineEnd s.data.toList : Nat) : Int) := by
  unfold spec_l1Ended.f
  have h := ended_loop s hs _ 0 rfl (by omega)
  rw [List.drop_zero, Nat.zero_add] at h
  exact h
def lineBad (s : List UInt8) (last : Bool) : Bool := decide (s = [] ∨ 10 ∈ s.dropLast ∨ (¬ 10 ∈ s ∧ last = false))
def linesBad : List ByteArray → Bool
  | [] => false
  | x :: r => lineBad x.data.toList (decide (r = [])) || linesBad r
theorem lb_go {x : ByteArray} {r : List ByteArray} (h : lineBad x.data.toList (decide (r = [])) = false) : (if linesBad r then (1 : Int) else 0) = if linesBad (x :: r) then 1 else 0 := by
  unfold linesBad
  rw [h, Bool.false_or]
  cases r <;> rfl
theorem lb_end {x : ByteArray} {r : List ByteArray} (h : lineBad x.data.toList (decide (r = [])) = true) : (1 : Int) = if linesBad (x :: r) then 1 else 0 := by
  unfold linesBad
  rw [h, Bool.true_or]
  rfl
def LF (xs : List ByteArray) : Int := if xs.length > 100 ∨ total xs > 2000 then 2 else if linesBad xs then 1 else 0
theorem slf_loop1 (xs : List ByteArray) (hx : ∀ x ∈ xs, x.size ≤ 9223372036854775807) (hl : xs.length ≤ 9223372036854775807) : ∀ (d i : Nat), xs.length - i = d → i ≤ xs.length →
    Ev (fun k => spec_LinesFault.l1 k xs (i : Int)) (if linesBad (xs.drop i) then 1 else 0) := by
  intro d
  induction d with
  | zero =>
    intro i hd hi
    refine Ev.step (fun k => by rw [spec_LinesFault.l1]) (Ev_neg (by omega) (Ev_val ?_))
    rw [List.drop_eq_nil_of_le (by omega)]
    rfl
  | succ d ih =>
    intro i hd hi
    have hlt : i < xs.length := by omega
    have hs := hx xs[i] (List.getElem_mem hlt)
    refine Ev.step (fun k => by rw [spec_LinesFault.l1]) (Ev_pos (by omega) (Ev_pos (by omega) ?_))
    rw [rd_nat _ hlt, drop_at hlt, wsucc hlt hl]
    refine Ev_call (ended_tells _ hs) ?_
    have hle := lineEnd_le xs[i].data.toList
    rw [size_data] at hle
    have hrest : xs.drop (i + 1) = [] ↔ i + 1 = xs.length := by
      rw [List.drop_eq_nil_iff]
      omega
    refine Ev_if (fun h => Ev_val ?_) (fun h => ?_)
    · have h2 := toList_nil.1 h
      exact lb_end (by simp [lineBad, h2])
    have hne : ¬ xs[i].data.toList = [] := fun e => h (toList_nil.2 e)
    have h0 : xs[i].data.toList.length ≠ 0 := fun e => hne (List.length_eq_zero_iff.1 e)
    rw [size_data] at h0
    rw [wid (by omega) (by omega)]
    have hearly := lineEnd_early xs[i].data.toList
    rw [size_data] at hearly
    have hmem := lineEnd_mem xs[i].data.toList
    rw [size_data] at hmem
    refine Ev_if (fun h => Ev_val ?_) (fun h => ?_)
    · have h2 : 10 ∈ xs[i].data.toList.dropLast := hearly.1 (by omega)
      exact lb_end (by simp [lineBad, h2])
    have hn2 : ¬ 10 ∈ xs[i].data.toList.dropLast := fun e => h (by have := hearly.2 e; omega)
    have go : (¬ 10 ∈ xs[i].data.toList → i + 1 = xs.length) → Ev (fun k => spec_LinesFault.l1 k xs ((i + 1 : Nat) : Int)) (if linesBad (xs[i] :: xs.drop (i + 1)) then 1 else 0) := by
      intro hg
      refine Ev_eq (ih (i + 1) (by omega) (by omega)) ?_
      have : lineBad xs[i].data.toList (decide (xs.drop (i + 1) = [])) = false := by
        unfold lineBad
        rw [decide_eq_false_iff_not]
        rintro (h1 | h1 | ⟨h1, h2⟩)
        · exact hne h1
        · exact hn2 h1
        · rw [decide_eq_false_iff_not, hrest] at h2
          exact h2 (hg h1)
      exact lb_go this
    refine Ev_if (fun h => ?_) (fun h => ?_)
    · have hno : ¬ 10 ∈ xs[i].data.toList := fun e => by have := hmem.2 e; omega
      rw [wid (by omega) (by omega)]
      refine Ev_if (fun h3 => Ev_val ?_) (fun h3 => go (fun _ => by omega))
      have : lineBad xs[i].data.toList (decide (xs.drop (i + 1) = [])) = true := by
        unfold lineBad
        rw [decide_eq_true_iff]
        refine .inr (.inr ⟨hno, ?_⟩)
        rw [decide_eq_false_iff_not, hrest]
        omega
      exact lb_end this
    · exact go (fun hno => absurd (hmem.1 (by omega)) hno)
theorem slf_loop0 (xs : List ByteArray) (hx : ∀ x ∈ xs, x.size ≤ 9223372036854775807) (hl : xs.length ≤ 9223372036854775807) (hb : total xs ≤ 9223372036854775807) : ∀ (d i n : Nat), xs.length - i = d → i ≤ xs.length → n + total (xs.drop i) = total xs →
    Ev (fun k => spec_LinesFault.l0 k xs (n : Int) (i : Int)) (LF xs) := by
  intro d
  induction d with
  | zero =>
    intro i n hd hi hn
    rw [List.drop_eq_nil_of_le (by omega)] at hn
    simp only [total, Nat.add_zero] at hn
    refine Ev.step (fun k => by rw [spec_LinesFault.l0]) (Ev_neg (by omega) ?_)
    have body : ∀ b : Bool, b = decide (xs.length > 100 ∨ total xs > 2000) → Ev (fun k => spec_LinesFault.j1 k xs b) (LF xs) := by
      intro b hb2
      refine Ev.step (fun k => by rw [spec_LinesFault.j1]) ?_
      unfold LF
      rw [hb2]
      refine Ev_if (fun h => Ev_val ?_) (fun h => ?_)
      · rw [if_pos (of_decide_eq_true h)]
      · rw [if_neg (fun e => h (decide_eq_true e))]
        have := slf_loop1 xs hx hl _ 0 rfl (by omega)
        rw [List.drop_zero] at this
        exact this
    refine Ev_if (fun h => body _ ?_) (fun h => body _ ?_)
    · symm
      rw [decide_eq_true_iff]
      exact .inl (by omega)
    · rw [decide_eq_decide]
      omega
  | succ d ih =>
    intro i n hd hi hn
    have hlt : i < xs.length := by omega
    rw [drop_at hlt] at hn
    simp only [total] at hn
    refine Ev.step (fun k => by rw [spec_LinesFault.l0]) (Ev_pos (by omega) (Ev_pos (by omega) ?_))
    rw [rd_nat _ hlt, wsucc hlt hl, wid (by omega) (by omega), show (n : Int) + (xs[i].size : Int) = ((n + xs[i].size : Nat) : Int) by omega]
    exact ih (i + 1) (n + xs[i].size) (by omega) (by omega) (by omega)
theorem slf_tells (xs : List ByteArray) (hx : ∀ x ∈ xs, x.size ≤ 9223372036854775807) (hl : xs.length ≤ 9223372036854775807) (hb : total xs ≤ 9223372036854775807) : Ev (fun k => spec_LinesFault.f k xs) (LF xs) := by
  unfold spec_LinesFault.f
  exact slf_loop0 xs hx hl hb _ 0 0 rfl (by omega) (by simp)
theorem isLine_tells (s : ByteArray) (hs : s.size ≤ 9223372036854775807) : impl_isLine.f s = some (decide (¬ (s.data.toList = [] ∨ 10 ∈ s.data.toList.dropLast))) := by
  unfold impl_isLine.f
  by_cases h : s.data.toList = []
  · rw [if_pos (toList_nil.2 h)]
    simp [h]
  · have h0 : s.data.toList.length ≠ 0 := fun e => h (List.length_eq_zero_iff.1 e)
    rw [size_data] at h0
    rw [if_neg (fun e => h (toList_nil.1 e)), wid (by omega) (by omega), if_pos (by omega), if_pos (by omega)]
    have he : (s.extract 0 ((s.size : Int) - 1).toNat).data.toList = s.data.toList.dropLast := by
      rw [← ByteArray.toList_eq, Lib.extract_toList, List.drop_zero, List.dropLast_eq_take, size_data]
      congr 1
      omega
    unfold strings_Contains.f
    simp only [Option.bind_some]
    rw [he]
    congr 1
    have hi := index_mem s.data.toList.dropLast 10
    by_cases hm : 10 ∈ s.data.toList.dropLast
    · have : (0 : Int) ≤ Lib.indexByte s.data.toList.dropLast 10 := hi.2 hm
      simp [hm, this]
    · have : ¬ (0 : Int) ≤ Lib.indexByte s.data.toList.dropLast 10 := fun e => hm (hi.1 e)
      simp only [this, hm, h]
      simp
theorem isWhole_tells (s : ByteArray) (hs : s.size ≤ 9223372036854775807) : impl_isWhole.f s = some (Lib.hasSuffix s.data.toList [10]) := by
  unfold impl_isWhole.f strings_HasSuffix.f
  rw [if_pos hs]
  rfl
theorem ilf_loop (xs : List ByteArray) (hx : ∀ x ∈ xs, x.size ≤ 9223372036854775807) (hl : xs.length ≤ 9223372036854775807) : ∀ (d i : Nat), xs.length - i = d → i ≤ xs.length →
    Ev (fun k => impl_LinesFault.l0 k xs xs (xs.length : Int) (i : Int)) (if linesBad (xs.drop i) then 1 else 0) := by
  intro d
  induction d with
  | zero =>
    intro i hd hi
    refine Ev.step (fun k => by rw [impl_LinesFault.l0]) (Ev_neg (by omega) (Ev_val ?_))
    rw [List.drop_eq_nil_of_le (by omega)]
    rfl
  | succ d ih =>
    intro i hd hi
    have hlt : i < xs.length := by omega
    have hs := hx xs[i] (List.getElem_mem hlt)
    have hrest : xs.drop (i + 1) = [] ↔ i + 1 = xs.length := by
      rw [List.drop_eq_nil_iff]
      omega
    refine Ev.step (fun k => by rw [impl_LinesFault.l0]) (Ev_pos (by omega) (Ev_pos (by omega) (Ev_pos (by omega) ?_)))
    rw [rd_nat _ hlt, drop_at hlt, wsucc hlt hl]
    refine Ev_const (isLine_tells _ hs) ?_
    refine Ev_if (fun h => ?_) (fun h => Ev_val ?_)
    · have h := of_decide_eq_true h
      have hne : ¬ xs[i].data.toList = [] := fun e => h (.inl e)
      have hn2 : ¬ 10 ∈ xs[i].data.toList.dropLast := fun e => h (.inr e)
      have go : (¬ 10 ∈ xs[i].data.toList → i + 1 = xs.length) → Ev (fun k => impl_LinesFault.l0 k xs xs (xs.length : Int) ((i + 1 : Nat) : Int)) (if linesBad (xs[i] :: xs.drop (i + 1)) then 1 else 0) := by
        intro hg
        refine Ev_eq (ih (i + 1) (by omega) (by omega)) ?_
        have : lineBad xs[i].data.toList (decide (xs.drop (i + 1) = [])) = false := by
          unfold lineBad
          rw [decide_eq_false_iff_not]
          rintro (h1 | h1 | ⟨h1, h2⟩)
          · exact hne h1
          · exact hn2 h1
          · rw [decide_eq_false_iff_not, hrest] at h2
            exact h2 (hg h1)
        exact lb_go this
      have hsuf := suffix_iff _ hn2
      refine Ev_const (isWhole_tells _ hs) (Ev_if (fun h3 => go (fun hno => absurd (hsuf.1 h3) hno)) (fun h3 => ?_))
      rw [wid (by omega) (by omega)]
      refine Ev_if (fun h4 => go (fun _ => by omega)) (fun h4 => Ev_val ?_)
      have : lineBad xs[i].data.toList (decide (xs.drop (i + 1) = [])) = true := by
        unfold lineBad
        rw [decide_eq_true_iff]
        refine .inr (.inr ⟨fun e => h3 (hsuf.2 e), ?_⟩)
        rw [decide_eq_false_iff_not, hrest]
        omega
      exact lb_end this
    · have h2 : xs[i].data.toList = [] ∨ 10 ∈ xs[i].data.toList.dropLast := Classical.byContradiction (fun e => h (decide_eq_true e))
      have : lineBad xs[i].data.toList (decide (xs.drop (i + 1) = [])) = true := by
        unfold lineBad
        rw [decide_eq_true_iff]
        rcases h2 with h2 | h2
        · exact .inl h2
        · exact .inr (.inl h2)
      exact lb_end this
theorem join_flat (xs : List ByteArray) : Lib.join (xs.map (·.data.toList)) [] = (xs.map (·.data.toList)).flatten := by
  unfold Lib.join
  induction xs with
  | nil => rfl
  | cons x l ih =>
    cases l with
    | nil => simp [List.intercalate]
    | cons y l =>
      simp only [List.map_cons, List.intercalate, List.intersperse, List.flatten_cons, List.nil_append] at ih ⊢
      rw [ih]
theorem join_all (xs : List ByteArray) : (Lib.join (xs.map (·.data.toList)) []).length = total xs := by
  rw [join_flat]
  induction xs with
  | nil => rfl
  | cons x l ih =>
    rw [List.map_cons, List.flatten_cons, List.length_append, ih, size_data]
    rfl
theorem ilf_tells (xs : List ByteArray) (hx : ∀ x ∈ xs, x.size ≤ 9223372036854775807) (hl : xs.length ≤ 140737488355328) (hb : total xs ≤ 140737488355328) : Ev (fun k => impl_LinesFault.f k xs) (LF xs) := by
  unfold impl_LinesFault.f
  have body : ∀ b : Bool, b = decide (xs.length > 100 ∨ total xs > 2000) → Ev (fun k => impl_LinesFault.j0 k xs b) (LF xs) := by
    intro b hb2
    refine Ev.step (fun k => by rw [impl_LinesFault.j0]) ?_
    unfold LF
    rw [hb2]
    refine Ev_if (fun h => Ev_val ?_) (fun h => ?_)
    · rw [if_pos (of_decide_eq_true h)]
    · rw [if_neg (fun e => h (decide_eq_true e))]
      have := ilf_loop xs hx (by omega) _ 0 rfl (by omega)
      rw [List.drop_zero] at this
      exact this
  refine Ev_if (fun h => body _ ?_) (fun h => ?_)
  · symm
    rw [decide_eq_true_iff]
    exact .inl (by omega)
  · have hj := join_all xs
    refine Ev_const (a := ⟨(Lib.join (xs.map (·.data.toList)) []).toArray⟩) ?_ (body _ ?_)
    · unfold strings_Join.f
      exact if_pos ⟨hl, by show (Lib.join _ []).length ≤ _; omega⟩
    · rw [decide_eq_decide]
      have : ((⟨(Lib.join (xs.map (·.data.toList)) []).toArray⟩ : ByteArray).size) = total xs := by
        rw [← hj]
        simp [ByteArray.size]
      rw [this]
      omega
end Go.Proofs.Ytihbalbcocfnfaa.P
end
section
set_option linter.unusedVariables false
set_option linter.unusedSimpArgs false
namespace Go.Proofs.Ytihbalbcocfnfaa.P
open Go.RowKit Go.Proofs.YtihbalbcocfnfaaW.PrintWords Go.Proofs.YtihbalbcocfnfaaW.PrintLast
def Small (xs : List ByteArray) : Prop := (∀ x ∈ xs, x.size ≤ 9223372036854775807) ∧ xs.length ≤ 1048576 ∧ total xs ≤ 1048576
theorem Small.slf {xs : List ByteArray} (h : Small xs) : Ev (fun k => spec_LinesFault.f k xs) (LF xs) := slf_tells xs h.1 (by have := h.2.1; omega) (by have := h.2.2; omega)
theorem Small.ilf {xs : List ByteArray} (h : Small xs) : Ev (fun k => impl_LinesFault.f k xs) (LF xs) := ilf_tells xs h.1 (by have := h.2.1; omega) (by have := h.2.2; omega)
theorem LF_zero {xs : List ByteArray} (h : LF xs = 0) : xs.length ≤ 100 ∧ total xs ≤ 2000 ∧ linesBad xs = false := by
  unfold LF at h
  split at h
  · omega
  · rename_i h1
    split at h
    · omega
    · rename_i h2
      exact ⟨by omega, by omega, by simpa using h2⟩
def LF2 (a b : List ByteArray) : Int := if LF a = 0 then LF b else LF a
theorem LF2_zero {a b : List ByteArray} (h : LF2 a b = 0) : LF a = 0 ∧ LF b = 0 := by
  unfold LF2 at h
  split at h
  · exact ⟨by assumption, h⟩
  · exact absurd h (by assumption)
theorem asked_tells {a b : List ByteArray} (ha : Small a) (hb : Small b) : Ev (fun k => spec_l2Asked.f k a b) (LF2 a b) := by
  unfold spec_l2Asked.f LF2
  refine Ev_call ha.slf (Ev_if (fun h => ?_) (fun h => ?_))
  · rw [if_pos h]
    exact Ev_call hb.slf (Ev.now _)
  · rw [if_neg h]
    exact Ev.now _
def firstOf : List Int → Int
  | [] => 0
  | c :: l => if c = 0 then firstOf l else c
theorem first_loop (xs : List Int) (hl : xs.length ≤ 9223372036854775807) : ∀ (d i : Nat), xs.length - i = d → i ≤ xs.length → Ev (fun k => impl_firstCode.l0 k xs (xs.length : Int) (i : Int)) (firstOf (xs.drop i)) := by
  intro d
  induction d with
  | zero =>
    intro i hd hi
    refine Ev.step (fun k => by rw [impl_firstCode.l0]) (Ev_neg (by omega) (Ev_val ?_))
    rw [List.drop_eq_nil_of_le (by omega)]
    rfl
  | succ d ih =>
    intro i hd hi
    have hlt : i < xs.length := by omega
    refine Ev.step (fun k => by rw [impl_firstCode.l0]) (Ev_pos (by omega) (Ev_pos (by omega) (Ev_pos (by omega) ?_)))
    rw [rdi_nat hlt, drop_at hlt, wsucc hlt hl, firstOf]
    refine Ev_if (fun h => ?_) (fun h => ?_)
    · rw [if_pos h]
      exact ih (i + 1) (by omega) (by omega)
    · rw [if_neg h]
      exact Ev.now _
theorem first_tells (xs : List Int) (hl : xs.length ≤ 9223372036854775807) : Ev (fun k => impl_firstCode.f k xs) (firstOf xs) := by
  unfold impl_firstCode.f
  have := first_loop xs hl _ 0 rfl (by omega)
  rw [List.drop_zero] at this
  exact this
theorem both_tells {a b : List ByteArray} (ha : Small a) (hb : Small b) : Ev (fun k => impl_bothLines.f k a b) (LF2 a b) := by
  unfold impl_bothLines.f LF2
  refine Ev_call ha.ilf (Ev_call hb.ilf (Ev_call (first_tells _ (by simp)) (Ev_val ?_)))
  simp only [firstOf]
  split
  · split <;> omega
  · rfl
end Go.Proofs.Ytihbalbcocfnfaa.P
end
section
set_option linter.unusedVariables false
set_option linter.unusedSimpArgs false
namespace Go.Proofs.Ytihbalbcocfnfaa.P
open Go.RowKit Go.Proofs.YtihbalbcocfnfaaW.PrintWords Go.Proofs.YtihbalbcocfnfaaW.PrintLast
theorem guard_lines (xs : List ByteArray) (hg : xs.length ≤ 9223372036854775807 ∧ ∀ x ∈ xs, x.size ≤ 9223372036854775807) (n : Int) (h0 : 0 ≤ n) (h1 : n ≤ 1048576) {F : Nat → Int → Option Bool}
    (h : ∀ r, 0 ≤ r → r ≤ n → Small xs → Ev (fun k => F k r) true) : Ev (fun k => (laws_szStringS.f k xs n).bind fun t => (if t < 0 then (some true) else F k t)) true := by
  obtain ⟨r, hr, hp⟩ := sz_tells xs hg n h0 h1
  refine Ev_call hr ?_
  rcases hp with hp | ⟨h2, h3, h4⟩
  · exact Ev_pos hp (Ev.now _)
  · exact Ev_neg (by omega) (h r h2 h3 ⟨hg.2, by omega, by omega⟩)
theorem Small.to {xs : List ByteArray} (h : Small xs) : Ev (fun k => laws_toStringS.f k xs) xs := to_tells xs (by have := h.2.1; omega)
theorem Small.eq {xs : List ByteArray} (h : Small xs) : Ev (fun k => laws_eqStringS.f k xs xs) true := eq_tells xs (by have := h.2.1; omega)
end Go.Proofs.Ytihbalbcocfnfaa.P
end
section
namespace Go.Proofs.Ytihbalbcocfnfaa.P
open Go.RowKit
theorem wsucc' {i : Nat} (hn : i < 9223372036854775807) : wrap64 ((i : Int) + 1) = ((i + 1 : Nat) : Int) := by
  rw [wid (by omega) (by omega)]
  omega
end Go.Proofs.Ytihbalbcocfnfaa.P
end
section
set_option linter.unusedVariables false
namespace Go.Proofs.Ytihbalbcocfnfaa.P
open Go.RowKit Go.Proofs.YtihbalbcocfnfaaW.PrintWords Go.Proofs.YtihbalbcocfnfaaW.PrintLast
theorem rdc_nat {l : List S64} {i : Nat} (h : i < l.length) : rd_T64 l (i : Int) = l[i] := by
  unfold rd_T64
  rw [Int.toNat_natCast, List.getD_eq_getElem?_getD, List.getElem?_eq_getElem h]
  rfl
end Go.Proofs.Ytihbalbcocfnfaa.P
end
section
namespace Go.Proofs.Ytihbalbcocfnfaa.P
end Go.Proofs.Ytihbalbcocfnfaa.P
end
section
namespace Go.Proofs.Ytihbalbcocfnfaa.P
end Go.Proofs.Ytihbalbcocfnfaa.P
end
section
namespace Go.Proofs.Ytihbalbcocfnfaa.P
end Go.Proofs.Ytihbalbcocfnfaa.P
end
section
namespace Go.Proofs.Ytihbalbcocfnfaa.P
end Go.Proofs.Ytihbalbcocfnfaa.P
end
section
namespace Go.Proofs.Ytihbalbcocfnfaa.P
end Go.Proofs.Ytihbalbcocfnfaa.P
end
section
namespace Go.Proofs.Ytihbalbcocfnfaa.P
end Go.Proofs.Ytihbalbcocfnfaa.P
end
section
set_option linter.unusedVariables false
set_option linter.unusedSimpArgs false
namespace Go.Proofs.Ytihbalbcocfnfaa.P
open Go.RowKit Go.Proofs.YtihbalbcocfnfaaW.PrintWords Go.Proofs.YtihbalbcocfnfaaW.PrintLast
theorem mtext_loop : ∀ (n : Nat) (s : ByteArray), n + s.size ≤ 4611686018427387904 → ∃ t, Ev (fun k => laws_markText.l0 k (n : Int) s) t := by
  intro n
  induction n using Nat.strongRecOn with
  | _ n ih =>
    intro s hs
    by_cases h : n = 0
    · subst h
      exact ⟨_, Ev.step (fun k => by rw [laws_markText.l0]) (Ev_neg (by omega) (Ev_pos (by omega) (Ev.now _)))⟩
    · have hq : Int.tdiv (n : Int) 10 = ((n / 10 : Nat) : Int) := by
        rw [Int.tdiv_eq_ediv_of_nonneg (by omega)]
        omega
      have hsz : (strOfNums [(wrap64 (48 + (Int.tmod (n : Int) 10))) % 256] ++ s).size = 1 + s.size := by
        rw [ByteArray.size_append, strOfNums_size]
        rfl
      obtain ⟨t, ht⟩ := ih (n / 10) (by omega) (strOfNums [(wrap64 (48 + (Int.tmod (n : Int) 10))) % 256] ++ s) (by rw [hsz]; omega)
      refine ⟨t, Ev.step (fun k => by rw [laws_markText.l0]) (Ev_pos (by omega) ?_)⟩
      refine Ev_const rfl ?_
      refine Ev_pos (by rw [strOfNums_size]; simp; omega) ?_
      rw [hq, wid (by omega) (by omega)]
      exact ht
theorem mtext_some (n : Nat) (hn : n ≤ 4611686018427387904) : ∃ t, Ev (fun k => laws_markText.f k (n : Int)) t := by
  unfold laws_markText.f
  by_cases h : n = 0
  · subst h
    exact ⟨_, Ev_pos (by omega) (Ev.now _)⟩
  · obtain ⟨t, ht⟩ := mtext_loop n (⟨#[]⟩ : ByteArray) (by simp [ByteArray.size]; exact hn)
    exact ⟨t, Ev_neg (by omega) ht⟩
noncomputable def mtx (n : Nat) : ByteArray := @Classical.epsilon ByteArray ⟨⟨#[]⟩⟩ (fun t => Ev (fun k => laws_markText.f k (n : Int)) t)
theorem mtx_tells (n : Nat) (hn : n ≤ 4611686018427387904) : Ev (fun k => laws_markText.f k (n : Int)) (mtx n) := @Classical.epsilon_spec _ _ (mtext_some n hn)
noncomputable def mks : Nat → Nat → List ByteArray
  | _, 0 => []
  | n, d + 1 => mtx n :: mks (n + 1) d
theorem mks_length : ∀ (d n : Nat), (mks n d).length = d
  | 0, _ => rfl
  | d + 1, n => by rw [mks, List.length_cons, mks_length d (n + 1)]
theorem mark_loop (L : Nat) (hL : L ≤ 1000000000) : ∀ (d i n : Nat) (x : List ByteArray), L - i = d → i ≤ L → x.length = L → n + d ≤ 4611686018427387904 →
    Ev (fun k => laws_markStringS.l0 k x (n : Int) (i : Int)) (((n + d : Nat) : Int), x.take i ++ mks n d) := by
  intro d
  induction d with
  | zero =>
    intro i n x hd hi hx hn
    refine Ev.step (fun k => by rw [laws_markStringS.l0]) (Ev_neg (by omega) (Ev_val ?_))
    rw [mks, List.append_nil, List.take_of_length_le (by omega)]
    rfl
  | succ d ih =>
    intro i n x hd hi hx hn
    refine Ev.step (fun k => by rw [laws_markStringS.l0]) (Ev_pos (by omega) ?_)
    refine Ev_call (mtx_tells n (by omega)) ?_
    refine Ev_pos (by omega) ?_
    rw [wsucc' (i := n) (by omega), wsucc' (i := i) (by omega), Int.toNat_natCast]
    refine Ev_eq (ih (i + 1) (n + 1) (x.set i (mtx n)) (by omega) (by omega) (by rw [List.length_set]; exact hx) (by omega)) ?_
    rw [mks, List.take_succ_eq_append_getElem (by rw [List.length_set]; omega), List.getElem_set_self, List.take_set_of_le (by omega), List.append_assoc, show n + 1 + d = n + (d + 1) by omega]
    rfl
theorem mark_tells (x : List ByteArray) (n : Nat) (hx : x.length ≤ 1000000000) (hn : n ≤ 4611686017427387904) : Ev (fun k => laws_markStringS.f k x (n : Int)) (((n + x.length : Nat) : Int), mks n x.length) := by
  unfold laws_markStringS.f
  have h := mark_loop x.length hx _ 0 n x rfl (by omega) rfl (by omega)
  rw [List.take_zero, List.nil_append, Nat.sub_zero] at h
  exact h
theorem held_loop : ∀ (d n : Nat) (p : List ByteArray), p.length + d ≤ 1000000000 → n + d ≤ 4611686018427387904 → Ev (fun k => laws_heldStringS.l0 k (p ++ mks n d) (n : Int) (p.length : Int)) ((n + d : Nat) : Int) := by
  intro d
  induction d with
  | zero =>
    intro n p hp hn
    refine Ev.step (fun k => by rw [laws_heldStringS.l0]) ?_
    exact Ev_neg (by rw [mks, List.append_nil]; omega) (Ev.now _)
  | succ d ih =>
    intro n p hp hn
    have hl : (p ++ mks n (d + 1)).length = p.length + (d + 1) := by rw [List.length_append, mks_length]
    refine Ev.step (fun k => by rw [laws_heldStringS.l0]) (Ev_pos (by omega) (Ev_pos (by omega) ?_))
    refine Ev_call (mtx_tells n (by omega)) ?_
    have hg : rdOf ByteArray.empty (p ++ mks n (d + 1)) (p.length : Int) = mtx n := by
      rw [rd_nat _ (by omega), List.getElem_append_right (by omega)]
      simp [mks]
    rw [hg, wsucc' (i := n) (by omega), wsucc' (i := p.length) (by omega)]
    refine Ev_pos rfl ?_
    have h := ih (n + 1) (p ++ [mtx n]) (by simp; omega) (by omega)
    rw [List.append_assoc, List.length_append, List.length_singleton] at h
    rw [show n + (d + 1) = n + 1 + d by omega, mks]
    exact h
theorem held_tells (n d : Nat) (hd : d ≤ 1000000000) (hn : n ≤ 4611686017427387904) : Ev (fun k => laws_heldStringS.f k (mks n d) (n : Int)) ((n + d : Nat) : Int) := by
  unfold laws_heldStringS.f
  exact held_loop d n [] (by simp; exact hd) (by omega)
end Go.Proofs.Ytihbalbcocfnfaa.P
end
section
namespace Go.Proofs.Ytihbalbcocfnfaa.P
end Go.Proofs.Ytihbalbcocfnfaa.P
end
section
namespace Go.Proofs.Ytihbalbcocfnfaa.P
end Go.Proofs.Ytihbalbcocfnfaa.P
end
section
namespace Go.Proofs.Ytihbalbcocfnfaa.P
end Go.Proofs.Ytihbalbcocfnfaa.P
end
section
namespace Go.Proofs.Ytihbalbcocfnfaa.P
end Go.Proofs.Ytihbalbcocfnfaa.P
end
section
set_option linter.unusedVariables false
set_option linter.unusedSimpArgs false
namespace Go.Proofs.Ytihbalbcocfnfaa.P
open Go.RowKit Go.Proofs.YtihbalbcocfnfaaW.PrintWords Go.Proofs.YtihbalbcocfnfaaW.PrintLast
theorem eqc_loop (xs : List S64) (hl : xs.length ≤ 9223372036854775807) : ∀ (d i : Nat), xs.length - i = d → i ≤ xs.length → Ev (fun k => laws_eqChangeS.l0 k xs xs (i : Int)) true := by
  intro d
  induction d with
  | zero => intro i hd hi; exact Ev.step (fun k => by rw [laws_eqChangeS.l0]) (Ev_neg (by omega) (Ev.now _))
  | succ d ih =>
    intro i hd hi
    have hlt : i < xs.length := by omega
    refine Ev.step (fun k => by rw [laws_eqChangeS.l0]) (Ev_pos (by omega) (Ev_pos (by omega) (Ev_pos (by omega) ?_)))
    refine Ev_const (a := true) (by unfold laws_eqChange.f; rw [if_pos rfl, if_pos rfl, if_pos rfl, if_pos rfl]) (Ev_pos rfl ?_)
    rw [wsucc hlt hl]
    exact ih (i + 1) (by omega) (by omega)
theorem eqc_tells (xs : List S64) (hl : xs.length ≤ 9223372036854775807) : Ev (fun k => laws_eqChangeS.f k xs xs) true := by
  unfold laws_eqChangeS.f
  exact Ev_pos rfl (eqc_loop xs hl _ 0 rfl (by omega))
def mcs : Nat → Nat → List S64
  | _, 0 => []
  | n, d + 1 => ⟨(n : Int), ((n + 1 : Nat) : Int), ((n + 2 : Nat) : Int), ((n + 3 : Nat) : Int)⟩ :: mcs (n + 4) d
theorem setc {x : List S64} {i : Nat} (v : S64) (h : i < x.length) : rd_T64 (x.set i v) (i : Int) = v := by
  rw [rdc_nat (by rw [List.length_set]; exact h), List.getElem_set_self]
theorem markc_loop (L : Nat) (hL : L ≤ 1000000000) : ∀ (d i n : Nat) (x : List S64), L - i = d → i ≤ L → x.length = L → n + 4 * d ≤ 4611686018427387904 →
    Ev (fun k => laws_markChangeS.l0 k x (n : Int) (i : Int)) (((n + 4 * d : Nat) : Int), x.take i ++ mcs n d) := by
  intro d
  induction d with
  | zero =>
    intro i n x hd hi hx hn
    refine Ev.step (fun k => by rw [laws_markChangeS.l0]) (Ev_neg (by omega) (Ev_val ?_))
    rw [mcs, List.append_nil, List.take_of_length_le (by omega)]
    rfl
  | succ d ih =>
    intro i n x hd hi hx hn
    have hlt : i < x.length := by omega
    refine Ev.step (fun k => by rw [laws_markChangeS.l0]) (Ev_pos (by omega) (Ev_pos (by omega) ?_))
    rw [Int.toNat_natCast, wsucc' (i := n) (by omega), wsucc' (i := n + 1) (by omega), wsucc' (i := n + 1 + 1) (by omega), wsucc' (i := n + 1 + 1 + 1) (by omega), wsucc' (i := i) (by omega)]
    have hset : ∀ v, rd_T64 (x.set i v) (i : Int) = v := fun v => setc v hlt
    refine Ev_const rfl ?_
    simp only [hset, List.set_set]
    refine Ev_const rfl ?_
    simp only [hset, List.set_set]
    refine Ev_const rfl ?_
    simp only [hset, List.set_set]
    refine Ev_eq (ih (i + 1) (n + 1 + 1 + 1 + 1) _ (by omega) (by omega) (by rw [List.length_set]; exact hx) (by omega)) ?_
    rw [mcs, List.take_succ_eq_append_getElem (by rw [List.length_set]; omega), List.getElem_set_self, List.take_set_of_le (by omega), List.append_assoc, show n + 1 + 1 + 1 + 1 + 4 * d = n + 4 * (d + 1) by omega]
    rfl
theorem markc_tells (x : List S64) (n : Nat) (hx : x.length ≤ 1000000000) (hn : n ≤ 1000000000) : Ev (fun k => laws_markChangeS.f k x (n : Int)) (((n + 4 * x.length : Nat) : Int), mcs n x.length) := by
  unfold laws_markChangeS.f
  have h := markc_loop x.length hx _ 0 n x rfl (by omega) rfl (by omega)
  rw [List.take_zero, List.nil_append, Nat.sub_zero] at h
  exact h
end Go.Proofs.Ytihbalbcocfnfaa.P
end
section
set_option linter.unusedVariables false
set_option linter.unusedSimpArgs false
namespace Go.Proofs.Ytihbalbcocfnfaa.P
open Go.RowKit Go.Proofs.YtihbalbcocfnfaaW.PrintWords Go.Proofs.YtihbalbcocfnfaaW.PrintLast
def cv (x : S73) : S64 := ⟨x.f0, x.f1, x.f2, x.f3⟩
theorem rdd_nat {l : List S73} {i : Nat} (h : i < l.length) : rd_T73 l (i : Int) = l[i] := by
  unfold rd_T73
  rw [Int.toNat_natCast, List.getD_eq_getElem?_getD, List.getElem?_eq_getElem h]
  rfl
theorem toc_loop (xs : List S73) (hl : xs.length ≤ 9223372036854775807) : ∀ (d i : Nat) (ys : List S64), xs.length - i = d → i ≤ xs.length → ys.length = xs.length →
    Ev (fun k => laws_toChangeS.l0 k xs ys (i : Int)) (ys.take i ++ (xs.drop i).map cv) := by
  intro d
  induction d with
  | zero =>
    intro i ys hd hi hy
    refine Ev.step (fun k => by rw [laws_toChangeS.l0]) (Ev_neg (by omega) (Ev_val ?_))
    rw [List.drop_eq_nil_of_le (show xs.length ≤ i by omega), List.map_nil, List.append_nil, List.take_of_length_le (by omega)]
  | succ d ih =>
    intro i ys hd hi hy
    have hlt : i < xs.length := by omega
    refine Ev.step (fun k => by rw [laws_toChangeS.l0]) (Ev_pos (by omega) (Ev_pos (by omega) ?_))
    refine Ev_const (by unfold laws_toChange.f; rfl) (Ev_pos (by omega) ?_)
    rw [rdd_nat hlt, wsucc hlt hl, Int.toNat_natCast]
    refine Ev_eq (ih (i + 1) (ys.set i (cv xs[i])) (by omega) (by omega) (by rw [List.length_set]; exact hy)) ?_
    rw [drop_at hlt, List.map_cons, List.take_succ_eq_append_getElem (by rw [List.length_set]; omega), List.getElem_set_self, List.take_set_of_le (by omega), List.append_assoc]
    rfl
theorem toc_tells (xs : List S73) (hl : xs.length ≤ 8796093022208) : Ev (fun k => laws_toChangeS.f k xs) (xs.map cv) := by
  unfold laws_toChangeS.f
  refine Ev_pos (by omega) (Ev_pos (by rw [Int.toNat_natCast]; exact hl) ?_)
  have h := toc_loop xs (by omega) _ 0 (List.replicate ((xs.length : Int) : Int).toNat z64) rfl (by omega) (by simp)
  exact Ev_eq h (by simp)
theorem guard_changes (xs : List S73) (hl : xs.length ≤ 9223372036854775807) (n : Int) (h0 : 0 ≤ n) (h1 : n ≤ 1048576) {F : Nat → Int → Option Bool}
    (h : ∀ r, 0 ≤ r → r ≤ n → xs.length ≤ 1048576 → Ev (fun k => F k r) true) : Ev (fun k => (laws_szChangeS.f xs n).bind fun t => (if t < 0 then (some true) else F k t)) true := by
  by_cases hc : n - (xs.length : Int) < 0
  · refine Ev_const (a := -1) ?_ (Ev_pos (by omega) (Ev.now _))
    unfold laws_szChangeS.f
    rw [wid (by omega) (by omega), if_pos hc]
  · refine Ev_const (a := n - (xs.length : Int)) ?_ (Ev_neg (by omega) (h _ (by omega) (by omega) (by omega)))
    unfold laws_szChangeS.f
    rw [wid (by omega) (by omega), if_neg hc]
theorem in_tells (x y z : Int) : spec_l1In.f x y z = some (decide (y ≤ x ∧ x ≤ z)) := by
  unfold spec_l1In.f
  split
  · rename_i h
    have h2 : y ≤ x := by omega
    simp [h2]
  · rename_i h
    have h2 : ¬ y ≤ x := by omega
    simp [h2]
theorem within_tells (x y z : Int) : impl_within.f x y z = some (decide (y ≤ x ∧ x ≤ z)) := by
  unfold impl_within.f
  split
  · rename_i h
    have h2 : y ≤ x := by omega
    simp [h2]
  · rename_i h
    have h2 : ¬ y ≤ x := by omega
    simp [h2]
theorem piece_tells (x y : Int) (l : List ByteArray) (hl : l.length ≤ 1000000) : impl_isPiece.f x y l = some (decide (0 ≤ x ∧ x ≤ (l.length : Int) ∧ 0 ≤ y ∧ y ≤ (l.length : Int) - x)) := by
  unfold impl_isPiece.f
  rw [within_tells, Option.bind_some]
  by_cases h : 0 ≤ x ∧ x ≤ (l.length : Int)
  · rw [if_pos (decide_eq_true h), within_tells, Option.bind_some, wid (by omega) (by omega)]
    congr 1
    rw [decide_eq_decide]
    omega
  · rw [if_neg (fun e => h (of_decide_eq_true e))]
    congr 1
    symm
    rw [decide_eq_false_iff_not]
    omega
def ChIn (la lb : Int) (c : S64) : Prop := 0 ≤ c.f0 ∧ c.f0 ≤ la ∧ 0 ≤ c.f1 ∧ c.f1 ≤ la - c.f0 ∧ 0 ≤ c.f2 ∧ c.f2 ≤ lb ∧ 0 ≤ c.f3 ∧ c.f3 ≤ lb - c.f2
instance (la lb : Int) (c : S64) : Decidable (ChIn la lb c) := by unfold ChIn; infer_instance
def CF (la lb : Int) : List S64 → Int → Int → Bool → Int
  | [], _, _, _ => 0
  | c :: l, i, j, fst => if ¬ ChIn la lb c then 3 else if (c.f1 = 0 ∧ c.f3 = 0) ∨ c.f0 - i ≠ c.f2 - j ∨ c.f0 < i ∨ (fst = false ∧ c.f0 = i) then 1 else CF la lb l (c.f0 + c.f1) (c.f2 + c.f3) false
theorem CF_cons (la lb : Int) (c : S64) (l : List S64) (i j : Int) (fst : Bool) : CF la lb (c :: l) i j fst = if ¬ ChIn la lb c then 3 else if (c.f1 = 0 ∧ c.f3 = 0) ∨ c.f0 - i ≠ c.f2 - j ∨ c.f0 < i ∨ (fst = false ∧ c.f0 = i) then 1 else CF la lb l (c.f0 + c.f1) (c.f2 + c.f3) false := rfl
theorem scf_loop (a b : List ByteArray) (ha : a.length ≤ 1000000) (hb : b.length ≤ 1000000) (l : List S64) (hl : l.length ≤ 1000000000) : ∀ (d n : Nat) (i j : Int), l.length - n = d → n ≤ l.length → 0 ≤ i → i ≤ a.length → 0 ≤ j → j ≤ b.length →
    Ev (fun k => spec_l2Fault.l0 k a b l i j (n : Int)) (CF a.length b.length (l.drop n) i j (decide (n = 0))) := by
  intro d
  induction d with
  | zero =>
    intro n i j hd hn hi hi2 hj hj2
    refine Ev.step (fun k => by rw [spec_l2Fault.l0]) (Ev_neg (by omega) (Ev_val ?_))
    rw [List.drop_eq_nil_of_le (show l.length ≤ n by omega)]
    rfl
  | succ d ih =>
    intro n i j hd hn hi hi2 hj hj2
    have hlt : n < l.length := by omega
    obtain ⟨c, hc⟩ : ∃ c, c = l[n] := ⟨_, rfl⟩
    rw [drop_at hlt, ← hc, CF_cons]
    have bad : ∀ f0 f1 f2 f3, ¬ ChIn a.length b.length c → Ev (fun k => spec_l2Fault.j1 k a b l i j (n : Int) true f0 f1 f2 f3) (if ¬ ChIn a.length b.length c then 3 else if (c.f1 = 0 ∧ c.f3 = 0) ∨ c.f0 - i ≠ c.f2 - j ∨ c.f0 < i ∨ (decide (n = 0) = false ∧ c.f0 = i) then 1 else CF a.length b.length (l.drop (n + 1)) (c.f0 + c.f1) (c.f2 + c.f3) false) := by
      intro f0 f1 f2 f3 h
      rw [if_pos h]
      exact Ev.step (fun k => by rw [spec_l2Fault.j1]) (Ev_pos rfl (Ev.now _))
    refine Ev.step (fun k => by rw [spec_l2Fault.l0]) (Ev_pos (by omega) (Ev_pos (by omega) ?_))
    rw [rdc_nat hlt, ← hc]
    refine Ev_const (in_tells _ _ _) (Ev_if (fun h => ?_) (fun h => bad _ _ _ _ (fun e => h (decide_eq_true ⟨e.1, e.2.1⟩))))
    have h1 := of_decide_eq_true h
    rw [wid (x := (a.length : Int) - c.f0) (by omega) (by omega)]
    refine Ev_const (in_tells _ _ _) (Ev_if (fun h => ?_) (fun h => bad _ _ _ _ (fun e => h (decide_eq_true ⟨e.2.2.1, e.2.2.2.1⟩))))
    have h2 := of_decide_eq_true h
    refine Ev_const (in_tells _ _ _) (Ev_if (fun h => ?_) (fun h => bad _ _ _ _ (fun e => h (decide_eq_true ⟨e.2.2.2.2.1, e.2.2.2.2.2.1⟩))))
    have h3 := of_decide_eq_true h
    rw [wid (x := (b.length : Int) - c.f2) (by omega) (by omega)]
    refine Ev_const (in_tells _ _ _) ?_
    by_cases h4 : 0 ≤ c.f3 ∧ c.f3 ≤ (b.length : Int) - c.f2
    · have hin : ChIn a.length b.length c := ⟨h1.1, h1.2, h2.1, h2.2, h3.1, h3.2, h4.1, h4.2⟩
      rw [decide_eq_true h4, if_neg (fun e => e hin)]
      refine Ev.step (fun k => by rw [spec_l2Fault.j1]) (Ev_neg (by simp) ?_)
      rw [wid (x := c.f0 - i) (by omega) (by omega), wid (x := c.f2 - j) (by omega) (by omega), wid (x := c.f0 + c.f1) (by omega) (by omega), wid (x := c.f2 + c.f3) (by omega) (by omega), wsucc' (by omega)]
      have nx := ih (n + 1) (c.f0 + c.f1) (c.f2 + c.f3) (by omega) (by omega) (by omega) (by omega) (by omega) (by omega)
      rw [show decide (n + 1 = 0) = false from rfl] at nx
      have rest : ¬ (c.f1 = 0 ∧ c.f3 = 0) → Ev (fun k => if c.f0 - i = c.f2 - j then (if c.f0 < i then (some 1) else (if (n : Int) > 0 then (if c.f0 = i then (some 1) else (spec_l2Fault.l0 k a b l (c.f0 + c.f1) (c.f2 + c.f3) ((n + 1 : Nat) : Int))) else (spec_l2Fault.l0 k a b l (c.f0 + c.f1) (c.f2 + c.f3) ((n + 1 : Nat) : Int)))) else (some 1)) (if (c.f1 = 0 ∧ c.f3 = 0) ∨ c.f0 - i ≠ c.f2 - j ∨ c.f0 < i ∨ (decide (n = 0) = false ∧ c.f0 = i) then 1 else CF a.length b.length (l.drop (n + 1)) (c.f0 + c.f1) (c.f2 + c.f3) false) := by
        intro hz
        refine Ev_if (fun g1 => Ev_if (fun g2 => Ev_val ?_) (fun g2 => Ev_if (fun g3 => Ev_if (fun g4 => Ev_val ?_) (fun g4 => ?_)) (fun g3 => ?_))) (fun g1 => Ev_val ?_)
        · rw [if_pos (.inr (.inr (.inl g2)))]
        · rw [if_pos (.inr (.inr (.inr ⟨decide_eq_false (by omega), g4⟩)))]
        · rw [if_neg (by rintro (e | e | e | e); exact hz e; exact e g1; exact g2 e; exact g4 e.2)]
          exact nx
        · rw [if_neg (by rintro (e | e | e | e); exact hz e; exact e g1; exact g2 e; exact absurd (of_decide_eq_false e.1) (by omega))]
          exact nx
        · rw [if_pos (.inr (.inl g1))]
      refine Ev_if (fun g1 => Ev_if (fun g2 => Ev_val ?_) (fun g2 => rest (fun e => g2 e.2))) (fun g1 => rest (fun e => g1 e.1))
      rw [if_pos (.inl ⟨g1, g2⟩)]
    · rw [decide_eq_false h4]
      exact bad _ _ _ _ (fun e => h4 ⟨e.2.2.2.2.2.2.1, e.2.2.2.2.2.2.2⟩)
theorem icf_loop (a b : List ByteArray) (ha : a.length ≤ 1000000) (hb : b.length ≤ 1000000) (l : List S64) (hl : l.length ≤ 1000000000) : ∀ (d n : Nat) (i j : Int), l.length - n = d → n ≤ l.length → 0 ≤ i → i ≤ a.length → 0 ≤ j → j ≤ b.length → (n = 0 → i = 0) →
    Ev (fun k => impl_ChangesFault.l0 k a b i j l (l.length : Int) (n : Int)) (CF a.length b.length (l.drop n) i j (decide (n = 0))) := by
  intro d
  induction d with
  | zero =>
    intro n i j hd hn hi hi2 hj hj2 hz
    refine Ev.step (fun k => by rw [impl_ChangesFault.l0]) (Ev_neg (by omega) (Ev_val ?_))
    rw [List.drop_eq_nil_of_le (show l.length ≤ n by omega)]
    rfl
  | succ d ih =>
    intro n i j hd hn hi hi2 hj hj2 hz
    have hlt : n < l.length := by omega
    obtain ⟨c, hc⟩ : ∃ c, c = l[n] := ⟨_, rfl⟩
    rw [drop_at hlt, ← hc, CF_cons]
    have bad : ∀ f0 f1 f2 f3, ¬ ChIn a.length b.length c → Ev (fun k => impl_ChangesFault.j1 k a b i j (n : Int) l (l.length : Int) (n : Int) true f0 f1 f2 f3) (if ¬ ChIn a.length b.length c then 3 else if (c.f1 = 0 ∧ c.f3 = 0) ∨ c.f0 - i ≠ c.f2 - j ∨ c.f0 < i ∨ (decide (n = 0) = false ∧ c.f0 = i) then 1 else CF a.length b.length (l.drop (n + 1)) (c.f0 + c.f1) (c.f2 + c.f3) false) := by
      intro f0 f1 f2 f3 h
      rw [if_pos h]
      exact Ev.step (fun k => by rw [impl_ChangesFault.j1]) (Ev_pos rfl (Ev.now _))
    refine Ev.step (fun k => by rw [impl_ChangesFault.l0]) (Ev_pos (by omega) (Ev_pos (by omega) (Ev_pos (by omega) ?_)))
    rw [rdc_nat hlt, ← hc]
    refine Ev_const (piece_tells _ _ _ ha) (Ev_if (fun h => ?_) (fun h => bad _ _ _ _ (fun e => h (decide_eq_true ⟨e.1, e.2.1, e.2.2.1, e.2.2.2.1⟩))))
    have h1 := of_decide_eq_true h
    refine Ev_const (piece_tells _ _ _ hb) ?_
    by_cases h4 : 0 ≤ c.f2 ∧ c.f2 ≤ (b.length : Int) ∧ 0 ≤ c.f3 ∧ c.f3 ≤ (b.length : Int) - c.f2
    · have hin : ChIn a.length b.length c := ⟨h1.1, h1.2.1, h1.2.2.1, h1.2.2.2, h4⟩
      rw [decide_eq_true h4, if_neg (fun e => e hin)]
      refine Ev.step (fun k => by rw [impl_ChangesFault.j1]) (Ev_neg (by simp) ?_)
      rw [wid (x := c.f0 - i) (by omega) (by omega), wid (x := c.f2 - j) (by omega) (by omega), wid (x := c.f0 + c.f1) (by omega) (by omega), wid (x := c.f2 + c.f3) (by omega) (by omega), wsucc' (by omega)]
      have nx := ih (n + 1) (c.f0 + c.f1) (c.f2 + c.f3) (by omega) (by omega) (by omega) (by omega) (by omega) (by omega) (by omega)
      rw [show decide (n + 1 = 0) = false from rfl] at nx
      have rest : ¬ (c.f1 = 0 ∧ c.f3 = 0) → Ev (fun k => if (n : Int) > 0 then (if c.f0 ≤ i then (some 1) else (if c.f2 ≤ j then (some 1) else (if c.f0 - i = c.f2 - j then (impl_ChangesFault.l0 k a b (c.f0 + c.f1) (c.f2 + c.f3) l (l.length : Int) ((n + 1 : Nat) : Int)) else (some 1)))) else (if c.f0 - i = c.f2 - j then (impl_ChangesFault.l0 k a b (c.f0 + c.f1) (c.f2 + c.f3) l (l.length : Int) ((n + 1 : Nat) : Int)) else (some 1))) (if (c.f1 = 0 ∧ c.f3 = 0) ∨ c.f0 - i ≠ c.f2 - j ∨ c.f0 < i ∨ (decide (n = 0) = false ∧ c.f0 = i) then 1 else CF a.length b.length (l.drop (n + 1)) (c.f0 + c.f1) (c.f2 + c.f3) false) := by
        intro hz2
        refine Ev_if (fun g0 => Ev_if (fun g1 => Ev_val ?_) (fun g1 => Ev_if (fun g2 => Ev_val ?_) (fun g2 => Ev_if (fun g3 => ?_) (fun g3 => Ev_val ?_)))) (fun g0 => Ev_if (fun g3 => ?_) (fun g3 => Ev_val ?_))
        · by_cases g4 : c.f0 = i
          · rw [if_pos (.inr (.inr (.inr ⟨decide_eq_false (by omega), g4⟩)))]
          · rw [if_pos (.inr (.inr (.inl (by omega))))]
        · rw [if_pos (.inr (.inl (by omega)))]
        · rw [if_neg (by rintro (e | e | e | e); exact hz2 e; exact e g3; omega; omega)]
          exact nx
        · rw [if_pos (.inr (.inl g3))]
        · rw [if_neg (by rintro (e | e | e | e); exact hz2 e; exact e g3; (have := hz (by omega); omega); exact absurd (of_decide_eq_false e.1) (by omega))]
          exact nx
        · rw [if_pos (.inr (.inl g3))]
      refine Ev_if (fun g1 => Ev_if (fun g2 => Ev_val ?_) (fun g2 => rest (fun e => g2 e.2))) (fun g1 => rest (fun e => g1 e.1))
      rw [if_pos (.inl ⟨g1, g2⟩)]
    · rw [decide_eq_false h4]
      exact bad _ _ _ _ (fun e => h4 ⟨e.2.2.2.2.1, e.2.2.2.2.2.1, e.2.2.2.2.2.2.1, e.2.2.2.2.2.2.2⟩)
def CFT (a b : List ByteArray) (l : List S64) : Int := if LF2 a b = 0 then CF a.length b.length l 0 0 true else LF2 a b
theorem scf_tells {a b : List ByteArray} (ha : Small a) (hb : Small b) (l : List S64) (hl : l.length ≤ 1000000000) : Ev (fun k => spec_ChangesFault.f k a b l) (CFT a b l) := by
  unfold spec_ChangesFault.f CFT
  refine Ev_call (asked_tells ha hb) (Ev_if (fun h => ?_) (fun h => ?_))
  · rw [if_pos h]
    have h1 := LF_zero (LF2_zero h).1
    have h2 := LF_zero (LF2_zero h).2
    have e := scf_loop a b (by omega) (by omega) l hl _ 0 0 0 rfl (by omega) (by omega) (by omega) (by omega) (by omega)
    rw [List.drop_zero] at e
    exact Ev_call (by unfold spec_l2Fault.f; exact e) (Ev.now _)
  · rw [if_neg h]
    exact Ev.now _
theorem icf_tells {a b : List ByteArray} (ha : Small a) (hb : Small b) (l : List S64) (hl : l.length ≤ 1000000000) : Ev (fun k => impl_ChangesFault.f k a b l) (CFT a b l) := by
  unfold impl_ChangesFault.f CFT
  refine Ev_call (both_tells ha hb) (Ev_if (fun h => ?_) (fun h => ?_))
  · rw [if_pos h]
    have h1 := LF_zero (LF2_zero h).1
    have h2 := LF_zero (LF2_zero h).2
    have e := icf_loop a b (by omega) (by omega) l hl _ 0 0 0 rfl (by omega) (by omega) (by omega) (by omega) (by omega) (fun _ => rfl)
    rw [List.drop_zero] at e
    exact e
  · rw [if_neg h]
    exact Ev.now _
end Go.Proofs.Ytihbalbcocfnfaa.P
end
section
set_option linter.unusedVariables false
set_option linter.unusedSimpArgs false
namespace Go.Proofs.Ytihbalbcocfnfaa.P
open Go.RowKit Go.Proofs.YtihbalbcocfnfaaW.PrintWords Go.Proofs.YtihbalbcocfnfaaW.PrintLast
theorem total_append (x y : List ByteArray) : total (x ++ y) = total x + total y := by
  induction x with
  | nil => simp [total]
  | cons a l ih => rw [List.cons_append, total, total, ih]; omega
theorem total_drop (x : List ByteArray) (n : Nat) : total (x.drop n) ≤ total x := by
  have h : total x = total (x.take n) + total (x.drop n) := by rw [← total_append, List.take_append_drop]
  omega
theorem total_take (x : List ByteArray) (n : Nat) : total (x.take n) ≤ total x := by
  have h : total x = total (x.take n) + total (x.drop n) := by rw [← total_append, List.take_append_drop]
  omega
structure In3 (x : List ByteArray) (n t : Nat) : Prop where
  each : ∀ s ∈ x, s.size ≤ 9223372036854775807
  many : x.length ≤ n
  all : total x ≤ t
theorem In3.app {x y : List ByteArray} {n t m u : Nat} (h : In3 x n t) (g : In3 y m u) : In3 (x ++ y) (n + m) (t + u) :=
  ⟨fun s hs => (List.mem_append.1 hs).elim (h.each s) (g.each s), by rw [List.length_append]; have := h.many; have := g.many; omega, by rw [total_append]; have := h.all; have := g.all; omega⟩
theorem In3.cut {x : List ByteArray} {n t : Nat} (h : In3 x n t) (i j : Nat) : In3 ((x.take i).drop j) n t :=
  ⟨fun s hs => h.each s (List.mem_of_mem_take (List.mem_of_mem_drop hs)), by simp only [List.length_drop, List.length_take]; have := h.many; omega, Nat.le_trans (total_drop _ _) (Nat.le_trans (total_take _ _) h.all)⟩
theorem In3.rest {x : List ByteArray} {n t : Nat} (h : In3 x n t) (j : Nat) : In3 (x.drop j) n t :=
  ⟨fun s hs => h.each s (List.mem_of_mem_drop hs), by simp only [List.length_drop]; have := h.many; omega, Nat.le_trans (total_drop _ _) h.all⟩
theorem In3.mono {x : List ByteArray} {n t m u : Nat} (h : In3 x n t) (h1 : n ≤ m) (h2 : t ≤ u) : In3 x m u := ⟨h.each, Nat.le_trans h.many h1, Nat.le_trans h.all h2⟩
def WV (a b : List ByteArray) : List S64 → Int → List ByteArray
  | [], i => a.drop i.toNat
  | c :: l, i => (a.take c.f0.toNat).drop i.toNat ++ ((b.take (c.f2 + c.f3).toNat).drop c.f2.toNat ++ WV a b l (c.f0 + c.f1))
theorem WV_cons (a b : List ByteArray) (c : S64) (l : List S64) (i : Int) : WV a b (c :: l) i = (a.take c.f0.toNat).drop i.toNat ++ ((b.take (c.f2 + c.f3).toNat).drop c.f2.toNat ++ WV a b l (c.f0 + c.f1)) := rfl
theorem CF_good {la lb : Int} {c : S64} {l : List S64} {i j : Int} {fst : Bool} (h : CF la lb (c :: l) i j fst = 0) : ChIn la lb c ∧ i ≤ c.f0 ∧ CF la lb l (c.f0 + c.f1) (c.f2 + c.f3) false = 0 := by
  rw [CF_cons] at h
  split at h
  · cases h
  · rename_i h1
    split at h
    · cases h
    · rename_i h2
      refine ⟨Classical.byContradiction h1, ?_, h⟩
      exact Classical.byContradiction fun e => h2 (.inr (.inr (.inl (by omega))))
def RL (x : List ByteArray) : Int × List ByteArray := if LF x = 0 then (0, x) else (LF x, [])
theorem swv_loop (a b : List ByteArray) (l : List S64) (ha : In3 a 1000000 1000000) (hb : In3 b 1000000 1000000) (hl : l.length ≤ 1048576) : ∀ (d n : Nat) (o : List ByteArray) (i j : Int) (fst : Bool), l.length - n = d → n ≤ l.length → 0 ≤ i → i ≤ a.length → CF a.length b.length (l.drop n) i j fst = 0 → In3 o (2000000 * n) (2000000 * n) →
    Ev (fun k => spec_WeaveChanges.l0 k a b l o i (n : Int)) (RL (o ++ WV a b (l.drop n) i)) := by
  have na := ha.many
  have nb := hb.many
  intro d
  induction d with
  | zero =>
    intro n o i j fst hd hn hi hi2 h ho
    have no := ho.many
    rw [List.drop_eq_nil_of_le (show l.length ≤ n by omega)]
    refine Ev.step (fun k => by rw [spec_WeaveChanges.l0]) (Ev_neg (by omega) (Ev_pos (by omega) (Ev_pos (by omega) ?_)))
    refine Ev_pos (by simp only [List.length_drop]; omega) ?_
    refine Ev_const rfl ?_
    have hf := ho.app (ha.rest i.toNat)
    have f1 := hf.many
    have f2 := hf.all
    refine Ev_call (slf_tells _ hf.each (by omega) (by omega)) ?_
    show Ev _ (RL (o ++ a.drop i.toNat))
    unfold RL
    refine Ev_if (fun g => ?_) (fun g => ?_)
    · rw [if_pos g]
      exact Ev.now _
    · rw [if_neg g]
      exact Ev.now _
  | succ d ih =>
    intro n o i j fst hd hn hi hi2 h ho
    have no := ho.many
    have hlt : n < l.length := by omega
    obtain ⟨c, hc⟩ : ∃ c, c = l[n] := ⟨_, rfl⟩
    rw [drop_at hlt, ← hc] at h ⊢
    obtain ⟨⟨c1, c2, c3, c4, c5, c6, c7, c8⟩, h1, h2⟩ := CF_good h
    refine Ev.step (fun k => by rw [spec_WeaveChanges.l0]) (Ev_pos (by omega) (Ev_pos (by omega) (Ev_pos (by omega) ?_)))
    rw [rdc_nat hlt, ← hc, wid (x := c.f2 + c.f3) (by omega) (by omega), wid (x := c.f0 + c.f1) (by omega) (by omega), wsucc' (by omega)]
    have k1 := ha.cut c.f0.toNat i.toNat
    have k2 := hb.cut (c.f2 + c.f3).toNat c.f2.toNat
    have m1 := k1.many
    have m2 := k2.many
    refine Ev_pos (by omega) (Ev_pos (by omega) (Ev_pos (by omega) ?_))
    refine Ev_const rfl ?_
    refine Ev_pos (by omega) (Ev_pos (by omega) (Ev_pos (by omega) (Ev_pos (by rw [List.length_append]; omega) ?_)))
    have e := ih (n + 1) (o ++ (a.take c.f0.toNat).drop i.toNat ++ (b.take (c.f2 + c.f3).toNat).drop c.f2.toNat) (c.f0 + c.f1) (c.f2 + c.f3) false (by omega) (by omega) (by omega) (by omega) h2 (((ho.app k1).app k2).mono (by omega) (by omega))
    rw [List.append_assoc, List.append_assoc, List.append_assoc] at e
    rw [WV_cons, List.append_assoc]
    exact e
theorem iwv_loop (a b : List ByteArray) (l : List S64) (ha : In3 a 1000000 1000000) (hb : In3 b 1000000 1000000) (hl : l.length ≤ 1048576) : ∀ (d n : Nat) (o : List ByteArray) (i j : Int) (fst : Bool), l.length - n = d → n ≤ l.length → 0 ≤ i → i ≤ a.length → CF a.length b.length (l.drop n) i j fst = 0 → In3 o (2000000 * n) (2000000 * n) →
    Ev (fun k => impl_WeaveChanges.l0 k a b o i l (l.length : Int) (n : Int)) (RL (o ++ WV a b (l.drop n) i)) := by
  have na := ha.many
  have nb := hb.many
  intro d
  induction d with
  | zero =>
    intro n o i j fst hd hn hi hi2 h ho
    have no := ho.many
    rw [List.drop_eq_nil_of_le (show l.length ≤ n by omega)]
    refine Ev.step (fun k => by rw [impl_WeaveChanges.l0]) (Ev_neg (by omega) (Ev_pos (by omega) (Ev_pos (by omega) ?_)))
    refine Ev_pos (by simp only [List.length_drop]; omega) ?_
    have hf := ho.app (ha.rest i.toNat)
    have f1 := hf.many
    have f2 := hf.all
    show Ev _ (RL (o ++ a.drop i.toNat))
    refine Ev_call (a := RL (o ++ a.drop i.toNat)) ?_ (Ev.now _)
    unfold impl_rightLines.f RL
    refine Ev_call (ilf_tells _ hf.each (by omega) (by omega)) ?_
    refine Ev_if (fun g => ?_) (fun g => ?_)
    · rw [if_pos g]
      exact Ev.now _
    · rw [if_neg g]
      exact Ev.now _
  | succ d ih =>
    intro n o i j fst hd hn hi hi2 h ho
    have no := ho.many
    have hlt : n < l.length := by omega
    obtain ⟨c, hc⟩ : ∃ c, c = l[n] := ⟨_, rfl⟩
    rw [drop_at hlt, ← hc] at h ⊢
    obtain ⟨⟨c1, c2, c3, c4, c5, c6, c7, c8⟩, h1, h2⟩ := CF_good h
    refine Ev.step (fun k => by rw [impl_WeaveChanges.l0]) (Ev_pos (by omega) (Ev_pos (by omega) (Ev_pos (by omega) (Ev_pos (by omega) ?_))))
    rw [rdc_nat hlt, ← hc, wid (x := c.f2 + c.f3) (by omega) (by omega), wid (x := c.f0 + c.f1) (by omega) (by omega), wsucc' (by omega)]
    have k1 := ha.cut c.f0.toNat i.toNat
    have k2 := hb.cut (c.f2 + c.f3).toNat c.f2.toNat
    have m1 := k1.many
    have m2 := k2.many
    refine Ev_pos (by omega) (Ev_pos (by omega) (Ev_pos (by omega) ?_))
    refine Ev_const rfl ?_
    refine Ev_pos (by omega) (Ev_pos (by omega) (Ev_pos (by omega) (Ev_pos (by rw [List.length_append]; omega) ?_)))
    have e := ih (n + 1) (o ++ (a.take c.f0.toNat).drop i.toNat ++ (b.take (c.f2 + c.f3).toNat).drop c.f2.toNat) (c.f0 + c.f1) (c.f2 + c.f3) false (by omega) (by omega) (by omega) (by omega) h2 (((ho.app k1).app k2).mono (by omega) (by omega))
    rw [List.append_assoc, List.append_assoc, List.append_assoc] at e
    rw [WV_cons, List.append_assoc]
    exact e
def WC (a b : List ByteArray) (l : List S64) : Int × List ByteArray := if CFT a b l = 0 then RL (WV a b l 0) else (CFT a b l, [])
theorem CFT_zero {a b : List ByteArray} {l : List S64} (h : CFT a b l = 0) : LF2 a b = 0 ∧ CF a.length b.length l 0 0 true = 0 := by
  unfold CFT at h
  split at h
  · exact ⟨by assumption, h⟩
  · exact absurd h (by assumption)
theorem Small.in3 {a : List ByteArray} (h : Small a) (h2 : LF a = 0) : In3 a 1000000 1000000 := ⟨h.1, by have := LF_zero h2; omega, by have := LF_zero h2; omega⟩
theorem swc_tells {a b : List ByteArray} (ha : Small a) (hb : Small b) (l : List S64) (hl : l.length ≤ 1048576) : Ev (fun k => spec_WeaveChanges.f k a b l) (WC a b l) := by
  unfold spec_WeaveChanges.f WC
  refine Ev_call (scf_tells ha hb l (by omega)) (Ev_if (fun h => ?_) (fun h => ?_))
  · rw [if_pos h]
    obtain ⟨h1, h2⟩ := CFT_zero h
    have e := swv_loop a b l (ha.in3 (LF2_zero h1).1) (hb.in3 (LF2_zero h1).2) hl _ 0 [] 0 0 true rfl (by omega) (by omega) (by omega) (by rw [List.drop_zero]; exact h2) ⟨by simp, by simp, by simp [total]⟩
    rw [List.drop_zero, List.nil_append] at e
    exact e
  · rw [if_neg h]
    exact Ev.now _
theorem iwc_tells {a b : List ByteArray} (ha : Small a) (hb : Small b) (l : List S64) (hl : l.length ≤ 1048576) : Ev (fun k => impl_WeaveChanges.f k a b l) (WC a b l) := by
  unfold impl_WeaveChanges.f WC
  refine Ev_call (icf_tells ha hb l (by omega)) (Ev_if (fun h => ?_) (fun h => ?_))
  · rw [if_pos h]
    obtain ⟨h1, h2⟩ := CFT_zero h
    have e := iwv_loop a b l (ha.in3 (LF2_zero h1).1) (hb.in3 (LF2_zero h1).2) hl _ 0 [] 0 0 true rfl (by omega) (by omega) (by omega) (by rw [List.drop_zero]; exact h2) ⟨by simp, by simp, by simp [total]⟩
    rw [List.drop_zero, List.nil_append] at e
    exact e
  · rw [if_neg h]
    exact Ev.now _
end Go.Proofs.Ytihbalbcocfnfaa.P
end
section
set_option linter.unusedVariables false
namespace Go.Proofs.Ytihbalbcocfnfaa.P.VFnExactWeaveChanges
open Go.RowKit Go.Proofs.YtihbalbcocfnfaaW.PrintWords Go.Proofs.YtihbalbcocfnfaaW.PrintLast
theorem RL_len (x : List ByteArray) : (RL x).2.length ≤ 100 := by
  unfold RL
  split
  · rename_i h
    exact (LF_zero h).1
  · simp
theorem WC_len (a b : List ByteArray) (l : List S64) : (WC a b l).2.length ≤ 100 := by
  unfold WC
  split
  · exact RL_len _
  · simp
theorem eql_tells (c : Int) (x : List ByteArray) (hx : x.length ≤ 1000000) : Ev (fun k => laws_eqLinesResult.f k c x c x) true := by
  unfold laws_eqLinesResult.f
  exact Ev_pos rfl (Ev_call (eq_tells x (by omega)) (Ev_pos rfl (Ev.now _)))
theorem behind (a b : List ByteArray) (l : List S73) (ha : Small a) (hb : Small b) (hl : l.length ≤ 1048576) (c : Int) (x : List ByteArray) (h : WC a b (l.map cv) = (c, x)) : Ev (fun k => laws_FnExactWeaveChanges.j0 k a b l false c x c x) true := by
  have h1 := WC_len a b (l.map cv)
  rw [h] at h1
  have h1 : x.length ≤ 100 := h1
  have hm : (l.map cv).length ≤ 1048576 := by rw [List.length_map]; exact hl
  refine Ev.step (fun k => by rw [laws_FnExactWeaveChanges.j0]) (Ev_neg (by simp) ?_)
  refine Ev_call (a := (((1 + x.length : Nat) : Int), mks 1 x.length)) (by unfold laws_markLinesResult.f; exact Ev_call (mark_tells x 1 (by omega) (by omega)) (Ev.now _)) ?_
  have hh : Ev (fun k => laws_heldLinesResult.f k c (mks 1 x.length) 1) ((1 + x.length : Nat) : Int) := by
    unfold laws_heldLinesResult.f
    exact Ev_call (held_tells 1 x.length (by omega) (by omega)) (Ev_neg (by omega) (Ev.now _))
  refine Ev_call hh (Ev_neg (by omega) (Ev_pos rfl ?_))
  have s := iwc_tells ha hb _ hm
  rw [h] at s
  exact Ev_call ha.to (Ev_call hb.to (Ev_call (toc_tells l (by omega)) (Ev_call s (Ev_call (eql_tells c x (by omega)) (Ev_pos rfl (Ev_call hh (Ev_neg (by omega) (Ev_pos rfl (Ev.now _)))))))))
theorem proof : UFnExactWeaveChanges.Pure := by
  intro l0 l1 l2 g0 g1 g2
  apply Ev.rounds
  unfold laws_FnExactWeaveChanges.f
  refine guard_lines l0 g0 1048576 (by omega) (by omega) (fun r h0 h1 hs => guard_lines l1 g1 r (by omega) (by omega) (fun r2 h2 h3 ht => guard_changes l2 g2.1 r2 (by omega) (by omega) (fun r3 h4 h5 hc => ?_)))
  have tc := toc_tells l2 (by omega)
  have hm : (l2.map cv).length ≤ 1048576 := by rw [List.length_map]; exact hc
  obtain ⟨c, x, hw⟩ : ∃ c x, WC l0 l1 (l2.map cv) = (c, x) := ⟨_, _, rfl⟩
  have hx := WC_len l0 l1 (l2.map cv)
  rw [hw] at hx
  have hx : x.length ≤ 100 := hx
  have s1 := swc_tells hs ht _ hm
  have s2 := iwc_tells hs ht _ hm
  rw [hw] at s1 s2
  have n1 := hs.2.1
  have n2 := ht.2.1
  have e := eql_tells c x (by omega)
  refine Ev_call hs.to (Ev_call ht.to (Ev_call tc (Ev_call s1 (Ev_call hs.to (Ev_call ht.to (Ev_call tc (Ev_call s2 (Ev_call e (Ev_pos rfl ?_)))))))))
  refine Ev_call hs.to (Ev_call hs.eq (Ev_pos rfl (Ev_call ht.to (Ev_call ht.eq (Ev_pos rfl (Ev_call tc (Ev_call (eqc_tells _ (by omega)) (Ev_pos rfl ?_))))))))
  refine Ev_call (mark_tells l0 1 (by omega) (by omega)) (Ev_call (mark_tells l1 (1 + l0.length) (by omega) (by omega)) (Ev_call (markc_tells (l2.map cv) (1 + l0.length + l1.length) (by omega) (by omega)) (Ev_neg (by omega) (Ev_call e ?_))))
  exact behind l0 l1 l2 hs ht hc c x hw
end Go.Proofs.Ytihbalbcocfnfaa.P.VFnExactWeaveChanges
end
section
set_option linter.unusedVariables false
set_option linter.unusedSimpArgs false
namespace Go.Proofs.Ytihbalbcocfnfaa.O
open Go.RowKit Go.ChangeShapes Go.WideShapes Go.Proofs.YtihbalbcocfnfaaW.PrintWords
def Opens {α : Type} (P : Program) (t : TypeId) (d : Kd α) (G : α → Prop) : Prop :=
  P.cellsOf t = d.sz ∧ ∀ {H : Type} {enc : TypeId × Value → H} {w : World} {base : Nat} {spare : Nat → Bool} {held : Bool} {fuel : Nat} {cs : List Value} {x : DataW H × List MemPlace},
    DataW.trod enc P w base spare held fuel t cs = some x → ∃ a, d.K w a cs ∧ G a
theorem list_of {α : Type} {Q : Nat → α → Prop} : ∀ n : Nat, (∀ j, j < n → ∃ p, Q j p) → ∃ xs : List α, xs.length = n ∧ ∀ j p, xs[j]? = some p → Q j p
  | 0, _ => ⟨[], rfl, fun j p h => by simp at h⟩
  | n + 1, h => by
    obtain ⟨xs, hl, hx⟩ := list_of n (fun j hj => h j (Nat.lt_succ_of_lt hj))
    obtain ⟨p, hp⟩ := h n (Nat.lt_succ_self n)
    refine ⟨xs ++ [p], by simp [hl], fun j q hq => ?_⟩
    rcases Nat.lt_or_ge j xs.length with hj | hj
    · rw [List.getElem?_append_left hj] at hq
      exact hx j q hq
    · have hj' : j = xs.length := by
        have := (List.getElem?_eq_some_iff.1 hq).1
        rw [List.length_append, List.length_singleton] at this
        omega
      subst hj'
      have e : p = q := by simpa using hq
      subst e
      rw [hl]
      exact hp
theorem cells_get {w : World} {base : Nat} {a : Addr} {n : Nat} {cs : List Value} (h : w.cells? base a n = some cs) : cs.length = n ∧ ∀ i u, cs[i]? = some u → w.cell? (a.add i) = some u := by
  unfold World.cells? at h
  split at h
  · have hl := mapM_some_length h
    rw [List.length_range] at hl
    refine ⟨hl, fun i u hu => ?_⟩
    have hi : i < n := by
      have := (List.getElem?_eq_some_iff.1 hu).1
      omega
    have := mapM_some_get h i i (by simp [hi])
    rw [this, hu]
  · simp at h
theorem opens_int {P : Program} {t : TypeId} {k : IntKind} (ht : P.underlying t = some (.int k)) (hc : P.cellsOf t = 1) : Opens P t (Kd.int k) (fun x => (Lit.int k x).wf = true) :=
  ⟨hc, fun h => by
    obtain ⟨n, rfl, _, hw⟩ := DataW.trod_int ht h
    exact ⟨n, rfl, hw⟩⟩
theorem opens_string {P : Program} {t : TypeId} (ht : P.underlying t = some .string) (hc : P.cellsOf t = 1) : Opens P t Kd.string (fun s => s.size ≤ 9223372036854775807) :=
  ⟨hc, fun h => by
    obtain ⟨s, rfl, _, hw⟩ := DataW.trod_string ht h
    exact ⟨s, rfl, hw⟩⟩
theorem opens_slice {α : Type} {P : Program} {t e : TypeId} {d : Kd α} {G : α → Prop} (ht : P.underlying t = some (.slice e)) (hc : P.cellsOf t = 1) (he : Opens P e d G) :
    Opens P t (Kd.slice e d) (fun l => l.length ≤ 9223372036854775807 ∧ ∀ x ∈ l, G x) := by
  refine ⟨hc, fun {H enc w base spare held fuel cs x} h => ?_⟩
  rcases DataW.trod_slice ht h with ⟨rfl, _⟩ | ⟨a, len, cap, elems, rest, n, _, rfl, _, hb, hl, hm, hlen, hel, _, _⟩
  · exact ⟨[], ⟨none, 0, rfl, Nat.le_refl _, rfl, by simp, fun hp => absurd hp (by simp)⟩, by simp, by simp⟩
  · have hcap : cap ≤ 9223372036854775807 := hm
    obtain ⟨xs, hxl, hx⟩ := list_of (Q := fun j p => (∃ c : List Value, c.length = d.sz ∧ d.K w p c ∧ ∀ i u, c[i]? = some u → w.cell? (a.add (j * d.sz + i)) = some u) ∧ G p) len (fun j hj => by
      have h1 := hel j hj
      rw [List.getElem?_eq_getElem (by omega), Option.bind_eq_some_iff] at h1
      obtain ⟨cs', hcs, hy⟩ := h1
      obtain ⟨p, hK, hG⟩ := he.2 hy
      obtain ⟨hcl, hcell⟩ := cells_get hcs
      refine ⟨p, ⟨cs', by rw [hcl, he.1], hK, fun i u hu => ?_⟩, hG⟩
      have := hcell i u hu
      rw [he.1] at this
      rw [← Addr.add_add]
      exact this)
    have hlen2 : xs.length ≤ cap := by omega
    refine ⟨xs, ⟨some a, cap, ?_, hlen2, rfl, by omega, fun _ => ⟨a, rfl, fun j p hj => (hx j p hj).1⟩⟩, by omega, fun y hy => ?_⟩
    · rw [hxl]
    · obtain ⟨j, hj⟩ := List.getElem?_of_mem hy
      exact (hx j y hj).2
def OpensTail {α : Type} (P : Program) (fs : List Field) (off : Nat) (d : Kd α) (G : α → Prop) : Prop :=
  ∀ {H : Type} {enc : TypeId × Value → H} {w : World} {base : Nat} {spare : Nat → Bool} {held : Bool} {fuel : Nat} {cs : List Value},
    (∀ f ∈ fs, ∃ y, DataW.trod enc P w base spare held fuel f.type ((cs.drop f.offset).take (P.cellsOf f.type)) = some y) → cs.length = off + d.sz → ∃ a, d.K w a (cs.drop off) ∧ G a
theorem tail_one {α : Type} {P : Program} {f : Field} {off : Nat} {d : Kd α} {G : α → Prop} (ho : f.offset = off) (h : Opens P f.type d G) : OpensTail P [f] off d G := by
  intro H enc w base spare held fuel cs hy hl
  obtain ⟨y, hy⟩ := hy f (List.mem_singleton.2 rfl)
  obtain ⟨a, hK, hG⟩ := h.2 hy
  refine ⟨a, ?_, hG⟩
  rw [ho, h.1, List.take_of_length_le (by rw [List.length_drop]; omega)] at hK
  exact hK
theorem tail_cons {α β : Type} {P : Program} {f : Field} {fs : List Field} {off off2 : Nat} {d : Kd α} {d2 : Kd β} {G : α → Prop} {G2 : β → Prop} (ho : f.offset = off) (h : Opens P f.type d G) (ho2 : off2 = off + d.sz) (h2 : OpensTail P fs off2 d2 G2) :
    OpensTail P (f :: fs) off (Kd.pair d d2) (fun x => G x.1 ∧ G2 x.2) := by
  intro H enc w base spare held fuel cs hy hl
  obtain ⟨y, hy1⟩ := hy f List.mem_cons_self
  obtain ⟨a, hK, hG⟩ := h.2 hy1
  have hl' : cs.length = off2 + d2.sz := by rw [hl, ho2]; exact (Nat.add_assoc _ _ _).symm
  obtain ⟨b, hK2, hG2⟩ := h2 (fun f' hf' => hy f' (List.mem_cons_of_mem _ hf')) hl'
  refine ⟨(a, b), ⟨(cs.drop off).take d.sz, (cs.drop off).drop d.sz, (List.take_append_drop _ _).symm, ?_, ?_⟩, hG, hG2⟩
  · rw [ho, h.1] at hK
    exact hK
  · rw [List.drop_drop, ← ho2]
    exact hK2
theorem opens_struct {α β : Type} {P : Program} {t : TypeId} {fs : Array Field} {d : Kd α} {f : β → α} {g : α → β} {G : α → Prop} (ht : P.underlying t = some (.struct fs)) (hc : P.cellsOf t = d.sz) (hfg : ∀ a, f (g a) = a) (h : OpensTail P fs.toList 0 d G) :
    Opens P t (Kd.iso d f) (fun b => G (f b)) := by
  refine ⟨hc, fun {H enc w base spare held fuel cs x} hx => ?_⟩
  obtain ⟨xs, n, rfl, _, hl, hxl, hf⟩ := DataW.trod_struct ht hx
  obtain ⟨a, hK, hG⟩ := h (enc := enc) (w := w) (base := base) (spare := spare) (held := held) (fuel := n) (cs := cs) (fun f' hf' => by
    obtain ⟨i, hi⟩ := List.getElem?_of_mem hf'
    have hi' : fs[i]? = some f' := by simpa using hi
    have hlt : i < fs.size := (Array.getElem?_eq_some_iff.1 hi').1
    exact ⟨xs[i]'(by omega), by rw [hf i f' hi', List.getElem?_eq_getElem]⟩) (by rw [hl, hc, Nat.zero_add])
  refine ⟨g a, ?_, ?_⟩
  · show d.K w (f (g a)) cs
    rw [hfg]
    simpa using hK
  · show G (f (g a))
    rw [hfg]
    exact hG
end Go.Proofs.Ytihbalbcocfnfaa.O
end
namespace Go.Proofs.Ytihbalbcocfnfaa.fnExactWeaveChanges
open Go.ChangeShapes Go.WideShapes Go.ChangeAt Go.RowKit
open Go.ChangeMaps (open_string shut_string)
open Go.Proofs.Ytihbalbcocfnfaa.P Go.Proofs.Ytihbalbcocfnfaa.P.UFnExactWeaveChanges Go.Proofs.YtihbalbcocfnfaaW.PrintWords
set_option linter.unusedVariables false
theorem own : ownKnob Try.prog.godebug = none := by kernel_rfl
theorem laidOut : laidOutB Try.prog = true := by kernel_rfl
set_option maxRecDepth 100000 in
theorem opens73 : O.Opens Try.prog 73 k73 (fun x => G73 x) := by
  have h := O.opens_struct (P := Try.prog) (t := 73) (f := fun x : S73 => (x.f0, x.f1, x.f2, x.f3)) (g := fun a => (⟨a.1, a.2.1, a.2.2.1, a.2.2.2⟩ : S73)) Try.underlying73 (by kernel_rfl) (fun _ => rfl) (O.tail_cons rfl (O.opens_int Try.underlying2 (by kernel_rfl)) rfl (O.tail_cons rfl (O.opens_int Try.underlying2 (by kernel_rfl)) rfl (O.tail_cons rfl (O.opens_int Try.underlying2 (by kernel_rfl)) rfl (O.tail_one rfl (O.opens_int Try.underlying2 (by kernel_rfl))))))
  exact h
set_option maxRecDepth 100000 in
theorem lifted (os : Os) (started : os.Started) (H : Type) (enc : TypeId × Value → H) :
    ReturnsInHanded {} Try.checked os 8 .any (Rows.fnExactWeaveChangesSpec.pre6 enc Try.prog Try.f8 Rows.fnExactWeaveChangesRow.domain false) (Rows.fnExactWeaveChangesSpec.post enc Try.prog Try.f8 false true false false) := by
  refine returnsInHanded_of_change_sized (C := Try.checked) own started (by kernel_rfl) Try.func8
    (ChangeSpec.witness6 (enc := enc) (C := Try.checked) false ⟨#[], #[.slice none 0 0, .slice none 0 0, .slice none 0 0], []⟩ 8 (by kernel_rfl) (by kernel_rfl) (by kernel_rfl) (by kernel_rfl)) ?_
  intro W base args ds gs before hval0 hW hcnd hsz0 _
  have hval : ∀ (j : Nat) t v, Try.f8.params[j]? = some t → args[j]? = some v → Value.okWide Try.prog W .any base t v := hval0
  have hW' := hW
  obtain ⟨p, q, hA0, hV, rfl, hfz, hnd⟩ := hW
  have hA : DataW.TrodAll enc Try.prog W 0 (fun _ => true) true Try.f8.params.toList args.toList ds p := hA0
  rw [Try.params8] at hA hval
  obtain ⟨v0, vs0, d0, ds0, p0, q0, hargs, rfl, rfl, h0, r0⟩ := trodAll_cons hA
  obtain ⟨v1, vs1, d1, ds1, p1, q1, rfl, rfl, rfl, h1, r1⟩ := trodAll_cons r0
  obtain ⟨v2, vs2, d2, ds2, p2, q2, rfl, rfl, rfl, h2, r2⟩ := trodAll_cons r1
  obtain ⟨rfl, rfl, rfl⟩ := trodAll_nil r2
  obtain rfl : args = #[v0, v1, v2] := by cases args; simp_all
  obtain ⟨rfl, rfl⟩ := trodVars_none hV
  have k0_ := h0
  have lt0 : ∀ x ∈ p0, x.block < W.heap.size := by obtain ⟨m, hm⟩ := k0_; exact DataW.trod_lt m _ _ _ hm
  obtain ⟨b0, len0, cap0, rfl⟩ := okWide_slice Try.underlying22 (hval 0 22 v0 rfl rfl)
  obtain ⟨fuel0, hf0⟩ := h0
  obtain ⟨l0, ⟨A0, c0, hcs0, hc0, hr0⟩, g0⟩ := (O.opens_slice Try.underlying22 (by kernel_rfl) (O.opens_string Try.underlying9 (by kernel_rfl))).2 hf0
  simp [Value.cells] at hcs0
  obtain ⟨rfl, rfl, rfl⟩ := hcs0
  have k1_ := h1
  have lt1 : ∀ x ∈ p1, x.block < W.heap.size := by obtain ⟨m, hm⟩ := k1_; exact DataW.trod_lt m _ _ _ hm
  obtain ⟨b1, len1, cap1, rfl⟩ := okWide_slice Try.underlying22 (hval 1 22 v1 rfl rfl)
  obtain ⟨fuel1, hf1⟩ := h1
  obtain ⟨l1, ⟨A1, c1, hcs1, hc1, hr1⟩, g1⟩ := (O.opens_slice Try.underlying22 (by kernel_rfl) (O.opens_string Try.underlying9 (by kernel_rfl))).2 hf1
  simp [Value.cells] at hcs1
  obtain ⟨rfl, rfl, rfl⟩ := hcs1
  have k2_ := h2
  have lt2 : ∀ x ∈ p2, x.block < W.heap.size := by obtain ⟨m, hm⟩ := k2_; exact DataW.trod_lt m _ _ _ hm
  obtain ⟨b2, len2, cap2, rfl⟩ := okWide_slice Try.underlying35 (hval 2 35 v2 rfl rfl)
  obtain ⟨fuel2, hf2⟩ := h2
  obtain ⟨l2, ⟨A2, c2, hcs2, hc2, hr2⟩, g2⟩ := (O.opens_slice Try.underlying35 (by kernel_rfl) opens73).2 hf2
  simp [Value.cells] at hcs2
  obtain ⟨rfl, rfl, rfl⟩ := hcs2
  clear hA0 hval0 hsz0
  obtain ⟨k, h⟩ := VFnExactWeaveChanges.proof l0 l1 l2 g0 g1 g2
  refine (laws_FnExactWeaveChanges.calls k _ _ l0 _ _ l1 _ _ l2 true W hr0 hc0 hr1 hc1 hr2 hc2 h rfl).mono fun e W' hend => ?_
  obtain ⟨rfl, hbel⟩ := hend
  have bel : Below W.heap.size W W' := hbel
  exact ⟨_, rfl, _, _, _, [], _, [], hW', trodAll_mk1 (shut_bool Try.underlying4 _), (trodAll_cons_mk (Below.trod laidOut (by kernel_rfl) (of_decide_eq_true (by kernel_rfl)) k0_ bel lt0) (trodAll_cons_mk (Below.trod laidOut (by kernel_rfl) (of_decide_eq_true (by kernel_rfl)) k1_ bel lt1) (trodAll_cons_mk (Below.trod laidOut (by kernel_rfl) (of_decide_eq_true (by kernel_rfl)) k2_ bel lt2) trodAll_mk0))), rfl, bel.frame _, fun h => by cases h⟩
theorem over : Rows.fnExactWeaveChangesRow.holds Try.pinned (OpenSpec.ofChange Rows.fnExactWeaveChangesSpec) :=
  OpenClaim.holds_of_wide 8 Try.f8 rfl rfl rfl rfl rfl rfl rfl ⟨rfl, rfl, rfl, rfl, rfl⟩ rfl rfl rfl rfl rfl (by kernel_rfl) Try.func8 (by kernel_rfl)
    (of_decide_eq_true (by kernel_rfl)) (by unfold Func.isWrapper; first | (rw [if_pos (by decide +kernel)]; kernel_rfl) | (rw [if_neg (by decide +kernel)]; exact ⟨rfl, rfl⟩))
    (fun os started H enc _ => lifted os started H enc)
theorem proved : Rows.FnExactWeaveChangesSaid := over
#print axioms proved
end Go.Proofs.Ytihbalbcocfnfaa.fnExactWeaveChanges
namespace Go.Proofs.Ytihbalbcocfnfaa
theorem fnExactWeaveChanges_holds : Rows.FnExactWeaveChangesSaid := fnExactWeaveChanges.proved
end Go.Proofs.Ytihbalbcocfnfaa
