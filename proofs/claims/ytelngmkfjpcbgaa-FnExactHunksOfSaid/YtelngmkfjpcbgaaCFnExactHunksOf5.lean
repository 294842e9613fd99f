/- FnExactHunksOf: the law of the program holds at every input: the Go function returns true, and its arguments read afterwards as before.
Conditions: none beyond the given statement's own (what can be read as data, of a size that memory bears). -/
import Derived.Lib.Strings
import Derived.Lib.Bytealg
import Derived.Lib.Join
import Derived.Laws.BytesArg
import Derived.SliceStrings
import Derived.DataReads
import Derived.DataElems
import Derived.Test.YtelngmkfjpcbgaaRows
import Derived.WalkKit
import Derived.ProofKit
import Derived.OpenShut
import Derived.ShutString
import Derived.ChangeOld
import Derived.Below
import Derived.SizedLaws
import Derived.Carry
import Derived.Test.YtelngmkfjpcbgaaCFnExactHunksOf1
import Derived.Test.YtelngmkfjpcbgaaCFnExactHunksOf2
import Derived.Test.YtelngmkfjpcbgaaCFnExactHunksOf3
import Derived.Test.YtelngmkfjpcbgaaCFnExactHunksOf4
section
namespace Go.Proofs.Ytelngmkfjpcbgaa.P
open Go.RowKit Go.Proofs.YtelngmkfjpcbgaaW.PrintWords Go.Proofs.YtelngmkfjpcbgaaW.PrintLast Go.Proofs.YtelngmkfjpcbgaaW.PrintMore
attribute [local go_sem] max2_int min2_int max_two min_two max_three min_three max_four min_four
set_option linter.unusedVariables false
set_option linter.unusedSimpArgs false
theorem leafIn_ {α : Type} {d : Kd α} {e base m : Nat} {A0_ A1_ A2_ A3_ : Nat → Prop} {w : World} {v : Value} {xs : List α} (hm : w.heap.size = m) (h : Kd.S d e w base (fun k => ((((True ∧ A0_ k) ∧ A1_ k) ∧ A2_ k) ∧ A3_ k)) v xs) : Kd.S d e w base (fun k => ((((k < m ∧ A0_ k) ∧ A1_ k) ∧ A2_ k) ∧ A3_ k)) v xs :=
 Kd.S_mono (Kd.S_bound h) (fun k hk => ⟨⟨⟨⟨(by have := hk.2.2.1;omega), hk.1.1.1.1.2⟩, hk.1.1.1.2⟩, hk.1.1.2⟩, hk.1.2⟩)
theorem arrive {α : Type} {d : Kd α} {e : Nat} {w w' : World} {v : Value} {xs : List α} (h : Kd.S d e w' w.heap.size (fun _ => True) v xs) : ∃ m, w.heap.size = m ∧ Kd.S d e w' w.heap.size (fun k => m ≤ k) v xs :=
 ⟨_, rfl, Kd.S_mono (Kd.S_bound h) (fun k hk => hk.2.1)⟩
def laws_FnExactHunksOf.j0 : Nat → List ByteArray → List ByteArray → Int → Bool → Int → Int → List (S56) → Int → Int → List (S56) → Option (Bool)
 | 0, _, _, _, _, _, _, _, _, _, _ => none
 | k + 1, x0, x1, x2, x67, x392000, x392001, x392002, x404000, x404001, x404002 => if x67 = true then (some false) else ((laws_markHunksResult.f k x404000 x404001 x404002 1).bind fun bt418 => ((laws_heldHunksResult.f k x404000 x404001 bt418.2 1).bind fun t420 => (if t420 < 0 then (some false) else (if t420 = bt418.1 then ((laws_toStringS.f k x0).bind fun t421 => ((laws_toStringS.f k x1).bind fun t424 => ((impl_HunksOf.f k t421 t424 x2).bind fun bt427 => ((laws_eqHunksResult.f k bt427.1 bt427.2.1 bt427.2.2 x392000 x392001 x392002).bind fun t433 => (if t433 = true then ((laws_heldHunksResult.f k x404000 x404001 bt418.2 1).bind fun t434 => (if t434 < 0 then (some false) else (if t434 = bt418.1 then (some true) else (some false)))) else (some false)))))) else (some false)))))
def laws_FnExactHunksOf.f (k : Nat) (l0 : List ByteArray) (l1 : List ByteArray) (a2 : Int) : Option (Bool) := (laws_szStringS.f k l0 1048576).bind fun t378 => (if t378 < 0 then (some true) else ((laws_szStringS.f k l1 t378).bind fun t379 => (if t379 < 0 then (some true) else ((laws_toStringS.f k l0).bind fun t380 => ((laws_toStringS.f k l1).bind fun t383 => ((spec_HunksOf.f k t380 t383 a2).bind fun bt386 => ((laws_toStringS.f k l0).bind fun t392 => ((laws_toStringS.f k l1).bind fun t395 => ((impl_HunksOf.f k t392 t395 a2).bind fun bt398 => ((laws_eqHunksResult.f k bt398.1 bt398.2.1 bt398.2.2 bt386.1 bt386.2.1 bt386.2.2).bind fun t404 => (if t404 = true then ((laws_toStringS.f k l0).bind fun t405 => ((laws_eqStringS.f k t392 t405).bind fun t408 => (if t408 = true then ((laws_toStringS.f k l1).bind fun t409 => ((laws_eqStringS.f k t395 t409).bind fun t412 => (if t412 = true then ((laws_markStringS.f k t392 1).bind fun bt413 => ((laws_markStringS.f k t395 bt413.1).bind fun bt415 => (if bt415.1 < 0 then (laws_FnExactHunksOf.j0 k l0 l1 a2 true bt386.1 bt386.2.1 bt386.2.2 bt398.1 bt398.2.1 bt398.2.2) else ((laws_eqHunksResult.f k bt398.1 bt398.2.1 bt398.2.2 bt386.1 bt386.2.1 bt386.2.2).bind fun t417 => (laws_FnExactHunksOf.j0 k l0 l1 a2 (!t417) bt386.1 bt386.2.1 bt386.2.2 bt398.1 bt398.2.1 bt398.2.2))))) else (some false)))) else (some false)))) else (some false))))))))))))
set_option maxHeartbeats 8000000 in
set_option maxRecDepth 100000 in
theorem laws_FnExactHunksOf.calls (k : Nat) (A0 : Option Addr) (c0 : Nat) (l0 : List ByteArray) (A1 : Option Addr) (c1 : Nat) (l1 : List ByteArray) (a2 : Int) (r : Bool) (w : World) (hr0 : Kd.C Kd.string w A0 l0.length l0) (hc0 : l0.length ≤ c0) (hr1 : Kd.C Kd.string w A1 l1.length l1) (hc1 : l1.length ≤ c1) (h : laws_FnExactHunksOf.f k l0 l1 a2 = some r) (hlaw : r = true) :
  Calls Try.prog 3 #[.slice A0 l0.length c0, .slice A1 l1.length c1, .int .i64 a2] w fun e w' => e = .returned (.bool r) ∧ Below w.heap.size w w' := by
 have hu26 := Try.underlying26;have HR0 := a_ hr0;have HC0 := a_ hc0;clear hr0 hc0;have HR1 := a_ hr1;have HC1 := a_ hc1;clear hr1 hc1;have HB := a_ (Below.refl w.heap.size w);have HLAW := a_ hlaw;clear hlaw;have H : ((laws_szStringS.f k l0 1048576).bind fun t378 => (if t378 < 0 then (some true) else ((laws_szStringS.f k l1 t378).bind fun t379 => (if t379 < 0 then (some true) else ((laws_toStringS.f k l0).bind fun t380 => ((laws_toStringS.f k l1).bind fun t383 => ((spec_HunksOf.f k t380 t383 a2).bind fun bt386 => ((laws_toStringS.f k l0).bind fun t392 => ((laws_toStringS.f k l1).bind fun t395 => ((impl_HunksOf.f k t392 t395 a2).bind fun bt398 => ((laws_eqHunksResult.f k bt398.1 bt398.2.1 bt398.2.2 bt386.1 bt386.2.1 bt386.2.2).bind fun t404 => (if t404 = true then ((laws_toStringS.f k l0).bind fun t405 => ((laws_eqStringS.f k t392 t405).bind fun t408 => (if t408 = true then ((laws_toStringS.f k l1).bind fun t409 => ((laws_eqStringS.f k t395 t409).bind fun t412 => (if t412 = true then ((laws_markStringS.f k t392 1).bind fun bt413 => ((laws_markStringS.f k t395 bt413.1).bind fun bt415 => (if bt415.1 < 0 then (laws_FnExactHunksOf.j0 k l0 l1 a2 true bt386.1 bt386.2.1 bt386.2.2 bt398.1 bt398.2.1 bt398.2.2) else ((laws_eqHunksResult.f k bt398.1 bt398.2.1 bt398.2.2 bt386.1 bt386.2.1 bt386.2.2).bind fun t417 => (laws_FnExactHunksOf.j0 k l0 l1 a2 (!t417) bt386.1 bt386.2.1 bt386.2.2 bt398.1 bt398.2.1 bt398.2.2))))) else (some false)))) else (some false)))) else (some false))))))))))))) = some r := h;clear h;replace H := Option.bind_eq_some_iff.mp H;obtain ⟨t378, A40, H⟩ := H;(try dsimp only at H);have A4 := a_ A40;clear A40;by_cases c5 : t378 < 0;(·rw [if_pos c5] at H;have c5b0 := decide_eq_true c5;clear c5;obtain rfl := Option.some.inj H;go_enter Try.func3, Try.ntmps3;go_wp2_with (first | ((with_reducible refine gate_callee (f := 6) rfl ?_);refine goesL_ (some 18) rfl rfl Try.func6 (by kernel_rfl) rfl #[.slice A0 l0.length c0, .int .i64 1048576] rfl lf_ ?_;(with_reducible refine (laws_szStringS.calls k _ _ l0 1048576 t378 _ ?side1 ?side2 A4.out).mono ?_);(case side1 => exact rc_ HR0.out);(case side2 => exact HC0.out);rintro e w' ⟨rfl, ⟨nd, rfl⟩⟩;refine ⟨_, rfl, ?_⟩));go_ret;exact ⟨by first | rfl | (simp [errW_none, errW_some] <;> rfl) | (simp [*, errW_none, errW_some] <;> rfl), bw_ HB.out⟩);rw [if_neg c5] at H;have c5b0 := decide_eq_false c5;clear c5;replace H := Option.bind_eq_some_iff.mp H;obtain ⟨t379, A60, H⟩ := H;(try dsimp only at H);have A6 := a_ A60;clear A60;by_cases c7 : t379 < 0;(·rw [if_pos c7] at H;have c7b0 := decide_eq_true c7;clear c7;obtain rfl := Option.some.inj H;go_enter Try.func3, Try.ntmps3;go_wp2_with (first | ((with_reducible refine gate_callee (f := 6) rfl ?_);refine goesL_ (some 18) rfl rfl Try.func6 (by kernel_rfl) rfl #[.slice A0 l0.length c0, .int .i64 1048576] rfl lf_ ?_;(with_reducible refine (laws_szStringS.calls k _ _ l0 1048576 t378 _ ?side1 ?side2 A4.out).mono ?_);(case side1 => exact rc_ HR0.out);(case side2 => exact HC0.out);rintro e w' ⟨rfl, ⟨nd, rfl⟩⟩;refine ⟨_, rfl, ?_⟩) | ((with_reducible refine gate_callee (f := 6) rfl ?_);refine goesL_ (some 23) rfl rfl Try.func6 (by kernel_rfl) rfl #[.slice A1 l1.length c1, .int .i64 t378] rfl lf_ ?_;(with_reducible refine (laws_szStringS.calls k _ _ l1 t378 t379 _ ?side1 ?side2 A6.out).mono ?_);(case side1 => exact rc_ HR1.out);(case side2 => exact HC1.out);rintro e w' ⟨rfl, ⟨nd, rfl⟩⟩;refine ⟨_, rfl, ?_⟩));go_ret;exact ⟨by first | rfl | (simp [errW_none, errW_some] <;> rfl) | (simp [*, errW_none, errW_some] <;> rfl), bw_ HB.out⟩);rw [if_neg c7] at H;have c7b0 := decide_eq_false c7;clear c7;replace H := Option.bind_eq_some_iff.mp H;obtain ⟨t380, A80, H⟩ := H;(try dsimp only at H);have A8 := a_ A80;clear A80;replace H := Option.bind_eq_some_iff.mp H;obtain ⟨t383, A90, H⟩ := H;(try dsimp only at H);have A9 := a_ A90;clear A90;replace H := Option.bind_eq_some_iff.mp H;obtain ⟨⟨t386, t387, t388⟩, A100, H⟩ := H;(try dsimp only at H);have A10 := a_ A100;clear A100;replace H := Option.bind_eq_some_iff.mp H;obtain ⟨t392, A110, H⟩ := H;(try dsimp only at H);have A11 := a_ A110;clear A110;replace H := Option.bind_eq_some_iff.mp H;obtain ⟨t395, A120, H⟩ := H;(try dsimp only at H);have A12 := a_ A120;clear A120;replace H := Option.bind_eq_some_iff.mp H;obtain ⟨⟨t398, t399, t400⟩, A130, H⟩ := H;(try dsimp only at H);have A13 := a_ A130;clear A130;replace H := Option.bind_eq_some_iff.mp H;obtain ⟨t404, A140, H⟩ := H;(try dsimp only at H);have A14 := a_ A140;clear A140;by_cases c15 : t404 = true;rotate_left;(·replace c15 := Bool.eq_false_iff.mpr c15;subst c15;(have H1 : (some false) = some r := by rw [if_neg (show ¬ (false = true) by decide)] at H;exact H);clear H;have H := H1;clear H1;exact absurd ((Option.some.inj H).trans HLAW.out) (by decide));subst c15;(have H1 : ((laws_toStringS.f k l0).bind fun t405 => ((laws_eqStringS.f k t392 t405).bind fun t408 => (if t408 = true then ((laws_toStringS.f k l1).bind fun t409 => ((laws_eqStringS.f k t395 t409).bind fun t412 => (if t412 = true then ((laws_markStringS.f k t392 1).bind fun bt413 => ((laws_markStringS.f k t395 bt413.1).bind fun bt415 => (if bt415.1 < 0 then (laws_FnExactHunksOf.j0 k l0 l1 a2 true t386 t387 t388 t398 t399 t400) else ((laws_eqHunksResult.f k t398 t399 t400 t386 t387 t388).bind fun t417 => (laws_FnExactHunksOf.j0 k l0 l1 a2 (!t417) t386 t387 t388 t398 t399 t400))))) else (some false)))) else (some false)))) = some r := by rw [if_pos rfl] at H;exact H);clear H;have H := H1;clear H1;replace H := Option.bind_eq_some_iff.mp H;obtain ⟨t405, A160, H⟩ := H;(try dsimp only at H);have A16 := a_ A160;clear A160;replace H := Option.bind_eq_some_iff.mp H;obtain ⟨t408, A170, H⟩ := H;(try dsimp only at H);have A17 := a_ A170;clear A170;by_cases c18 : t408 = true;rotate_left;(·replace c18 := Bool.eq_false_iff.mpr c18;subst c18;(have H1 : (some false) = some r := by rw [if_neg (show ¬ (false = true) by decide)] at H;exact H);clear H;have H := H1;clear H1;exact absurd ((Option.some.inj H).trans HLAW.out) (by decide));subst c18;(have H1 : ((laws_toStringS.f k l1).bind fun t409 => ((laws_eqStringS.f k t395 t409).bind fun t412 => (if t412 = true then ((laws_markStringS.f k t392 1).bind fun bt413 => ((laws_markStringS.f k t395 bt413.1).bind fun bt415 => (if bt415.1 < 0 then (laws_FnExactHunksOf.j0 k l0 l1 a2 true t386 t387 t388 t398 t399 t400) else ((laws_eqHunksResult.f k t398 t399 t400 t386 t387 t388).bind fun t417 => (laws_FnExactHunksOf.j0 k l0 l1 a2 (!t417) t386 t387 t388 t398 t399 t400))))) else (some false)))) = some r := by rw [if_pos rfl] at H;exact H);clear H;have H := H1;clear H1;replace H := Option.bind_eq_some_iff.mp H;obtain ⟨t409, A190, H⟩ := H;(try dsimp only at H);have A19 := a_ A190;clear A190;replace H := Option.bind_eq_some_iff.mp H;obtain ⟨t412, A200, H⟩ := H;(try dsimp only at H);have A20 := a_ A200;clear A200;by_cases c21 : t412 = true;rotate_left;(·replace c21 := Bool.eq_false_iff.mpr c21;subst c21;(have H1 : (some false) = some r := by rw [if_neg (show ¬ (false = true) by decide)] at H;exact H);clear H;have H := H1;clear H1;exact absurd ((Option.some.inj H).trans HLAW.out) (by decide));subst c21;(have H1 : ((laws_markStringS.f k t392 1).bind fun bt413 => ((laws_markStringS.f k t395 bt413.1).bind fun bt415 => (if bt415.1 < 0 then (laws_FnExactHunksOf.j0 k l0 l1 a2 true t386 t387 t388 t398 t399 t400) else ((laws_eqHunksResult.f k t398 t399 t400 t386 t387 t388).bind fun t417 => (laws_FnExactHunksOf.j0 k l0 l1 a2 (!t417) t386 t387 t388 t398 t399 t400))))) = some r := by rw [if_pos rfl] at H;exact H);clear H;have H := H1;clear H1;replace H := Option.bind_eq_some_iff.mp H;obtain ⟨⟨t413, t414⟩, A220, H⟩ := H;(try dsimp only at H);have A22 := a_ A220;clear A220;replace H := Option.bind_eq_some_iff.mp H;obtain ⟨⟨t415, t416⟩, A230, H⟩ := H;(try dsimp only at H);have A23 := a_ A230;clear A230;have HC24 := a_ H;clear H;go_enter Try.func3, Try.ntmps3;(go_upto_region 21 with (first | ((with_reducible refine gate_callee (f := 6) rfl ?_);refine goesL_ (some 18) rfl rfl Try.func6 (by kernel_rfl) rfl #[.slice A0 l0.length c0, .int .i64 1048576] rfl lf_ ?_;(with_reducible refine (laws_szStringS.calls k _ _ l0 1048576 t378 _ ?side1 ?side2 A4.out).mono ?_);(case side1 => exact rc_ HR0.out);(case side2 => exact HC0.out);rintro e w' ⟨rfl, ⟨nd, rfl⟩⟩;refine ⟨_, rfl, ?_⟩) | ((with_reducible refine gate_callee (f := 6) rfl ?_);refine goesL_ (some 23) rfl rfl Try.func6 (by kernel_rfl) rfl #[.slice A1 l1.length c1, .int .i64 t378] rfl lf_ ?_;(with_reducible refine (laws_szStringS.calls k _ _ l1 t378 t379 _ ?side1 ?side2 A6.out).mono ?_);(case side1 => exact rc_ HR1.out);(case side2 => exact HC1.out);rintro e w' ⟨rfl, ⟨nd, rfl⟩⟩;refine ⟨_, rfl, ?_⟩) | ((with_reducible refine gate_callee (f := 8) rfl ?_);refine goesL_ (some 27) rfl rfl Try.func8 (by kernel_rfl) rfl #[.slice A0 l0.length c0] rfl lf_ ?_;(with_reducible refine (laws_toStringS.calls k _ _ l0 t380 _ ?side1 ?side2 A8.out).mono ?_);(case side1 => exact rc_ HR0.out);(case side2 => exact HC0.out);rintro e w25 ⟨v381, rfl, ho0, hb⟩;refine ⟨_, rfl, ?_⟩;have HO382 := a_ (Kd.R_lower ho0 (below_size (bw_ HB.out)));replace HB := a_ (below_step (bw_ HB.out) hb);(try clear hb);(try clear hb2);(try clear hk);(try clear hi);(try clear ho0)) | ((with_reducible refine gate_callee (f := 8) rfl ?_);refine goesL_ (some 29) rfl rfl Try.func8 (by kernel_rfl) rfl #[.slice A1 l1.length c1] rfl lf_ ?_;(with_reducible refine (laws_toStringS.calls k _ _ l1 t383 _ ?side1 ?side2 A9.out).mono ?_);(case side1 => exact rc_ (Kd.C_below HR1.out HB.out));(case side2 => exact HC1.out);rintro e w26 ⟨v384, rfl, ho0, hb⟩;refine ⟨_, rfl, ?_⟩;have HO385 := a_ (Kd.R_lower (Kd.R_new' ho0 (Kd.R_lt (rr_ HO382.out))) (below_size (bw_ HB.out)));replace HO382 := a_ (Kd.R_elder' (rr_ HO382.out) (Kd.R_base ho0) hb);replace HB := a_ (below_step (bw_ HB.out) hb);(try clear hb);(try clear hb2);(try clear hk);(try clear hi);(try clear ho0);obtain ⟨Ao27, co27, eo27⟩ := Kd.R_slice HO382.out;subst eo27;obtain ⟨Ao28, co28, eo28⟩ := Kd.R_slice HO385.out;subst eo28) | ((with_reducible refine gate_callee (f := 7) rfl ?_);refine goesL_ (some 31) rfl rfl Try.func7 (by kernel_rfl) rfl #[.slice Ao27 t380.length co27, .slice Ao28 t383.length co28, .int .i64 a2] rfl lf_ ?_;(with_reducible refine (spec_HunksOf.calls k _ _ t380 _ _ t383 a2 t386 t387 t388 _ ?side1 ?side2 ?side3 ?side4 A10.out).mono ?_);(case side1 => exact rc_ (Kd.R_reads' HO382.out).2.2);(case side2 => exact (Kd.R_reads' HO382.out).2.1);(case side3 => exact rc_ (Kd.R_reads' HO385.out).2.2);(case side4 => exact (Kd.R_reads' HO385.out).2.1);rintro e w29 ⟨v389, rfl, ho0, hb⟩;refine ⟨_, rfl, ?_⟩;have HO390 := a_ (Kd.S_lower (Kd.S_new' (Kd.S_new' ho0 (Kd.R_lt (rr_ HO382.out))) (Kd.R_lt (rr_ HO385.out))) (below_size (bw_ HB.out)));replace HO382 := a_ (Kd.R_below (rr_ HO382.out) hb);replace HO385 := a_ (Kd.R_below (rr_ HO385.out) hb);replace HB := a_ (below_step (bw_ HB.out) hb);(try clear hb);(try clear hb2);(try clear hk);(try clear hi);(try clear ho0)) | ((with_reducible refine gate_dst (N := 8) rfl ?_);refine box_event ?hg (N := 8) ?hd (cs := #[.int .i64 0, .int .i64 0, .slice none 0 0]) (t := 26) ?hr ?_;(case hd => rfl);(case hg => rfl);(case hr => first | (go_simp;done) | (go_simp;rfl));intro gb391 hg w30 hbox hb;replace HO382 := a_ (Kd.R_below (rr_ HO382.out) hb);replace HO385 := a_ (Kd.R_below (rr_ HO385.out) hb);replace HO390 := a_ (Kd.S_below (rs_ HO390.out) hb);have BK391 := a_ (hbox);have GW391 := a_ ((by rw [hg];exact (below_size (bw_ HB.out)) : w.heap.size ≤ gb391));have GE391 := a_ ((by rw [hg];exact (below_size (bw_ HB.out)) : w.heap.size ≤ gb391));replace HB := a_ (below_step (bw_ HB.out) hb);clear hb hbox hg;have hcz31_0 : w30.cell? ⟨gb391, 0, none⟩ = some (.int .i64 0) := (blk_cell BK391.out 0).trans rfl;have hcz31_1 : w30.cell? ⟨gb391, 1, none⟩ = some (.int .i64 0) := (blk_cell BK391.out 1).trans rfl;have hcz31_2 : w30.cell? ⟨gb391, 2, none⟩ = some (.slice none 0 0) := (blk_cell BK391.out 2).trans rfl;have hfz31_0 := blk_frozen BK391.out 0;have hfz31_1 := blk_frozen BK391.out 1;have hfz31_2 := blk_frozen BK391.out 2;obtain ⟨Ao32, co32, eo32⟩ := Kd.S_slice HO390.out;subst eo32) | ((with_reducible refine gate_callee (f := 8) rfl ?_);refine goesL_ (some 33) rfl rfl Try.func8 (by kernel_rfl) rfl #[.slice A0 l0.length c0] rfl lf_ ?_;(with_reducible refine (laws_toStringS.calls k _ _ l0 t392 _ ?side1 ?side2 A11.out).mono ?_);(case side1 => exact Kd.C_below HR0.out (bw1_ HB.out GE391.out));(case side2 => exact HC0.out);rintro e w33 ⟨v393, rfl, ho0, hb⟩;refine ⟨_, rfl, ?_⟩;replace HO390 := a_ (Kd.S_elder' (by (with_reducible repeat (first | apply Kd.S_alloc | apply Kd.S_drewN | apply Kd.S_drew));exact (Kd.S_mono (Kd.S_far (p := ⟨gb391, 2, none⟩) (Kd.S_far (p := ⟨gb391, 1, none⟩) (Kd.S_far (p := ⟨gb391, 0, none⟩) (Kd.S_types HO390.out BK391.out (by decide)) (fun _ hk => hk.2) (.int .i64 t386)) (fun _ hk => hk.2) (.int .i64 t387)) (fun _ hk => hk.2) (.slice Ao32 t388.length co32)) (fun _ h_ => h_.1))) (Kd.R_base ho0) hb);have HO394 := a_ (Kd.R_lower (Kd.R_new' (Kd.R_new' ho0 (Kd.R_lt (by (with_reducible repeat (first | apply Kd.R_alloc | apply Kd.R_drewN | apply Kd.R_drew));exact (Kd.R_mono (Kd.R_far (p := ⟨gb391, 2, none⟩) (Kd.R_far (p := ⟨gb391, 1, none⟩) (Kd.R_far (p := ⟨gb391, 0, none⟩) (Kd.R_types HO382.out BK391.out (by decide)) (fun _ hk => hk.2) (.int .i64 t386)) (fun _ hk => hk.2) (.int .i64 t387)) (fun _ hk => hk.2) (.slice Ao32 t388.length co32)) (fun _ h_ => h_.1))))) (Kd.R_lt (by (with_reducible repeat (first | apply Kd.R_alloc | apply Kd.R_drewN | apply Kd.R_drew));exact (Kd.R_mono (Kd.R_far (p := ⟨gb391, 2, none⟩) (Kd.R_far (p := ⟨gb391, 1, none⟩) (Kd.R_far (p := ⟨gb391, 0, none⟩) (Kd.R_types HO385.out BK391.out (by decide)) (fun _ hk => hk.2) (.int .i64 t386)) (fun _ hk => hk.2) (.int .i64 t387)) (fun _ hk => hk.2) (.slice Ao32 t388.length co32)) (fun _ h_ => h_.1))))) (below_size (bw1_ HB.out GE391.out)));replace HO382 := a_ (Kd.R_elder' (by (with_reducible repeat (first | apply Kd.R_alloc | apply Kd.R_drewN | apply Kd.R_drew));exact (Kd.R_mono (Kd.R_far (p := ⟨gb391, 2, none⟩) (Kd.R_far (p := ⟨gb391, 1, none⟩) (Kd.R_far (p := ⟨gb391, 0, none⟩) (Kd.R_types HO382.out BK391.out (by decide)) (fun _ hk => hk.2) (.int .i64 t386)) (fun _ hk => hk.2) (.int .i64 t387)) (fun _ hk => hk.2) (.slice Ao32 t388.length co32)) (fun _ h_ => h_.1))) (Kd.R_base ho0) hb);replace HO385 := a_ (Kd.R_elder' (by (with_reducible repeat (first | apply Kd.R_alloc | apply Kd.R_drewN | apply Kd.R_drew));exact (Kd.R_mono (Kd.R_far (p := ⟨gb391, 2, none⟩) (Kd.R_far (p := ⟨gb391, 1, none⟩) (Kd.R_far (p := ⟨gb391, 0, none⟩) (Kd.R_types HO385.out BK391.out (by decide)) (fun _ hk => hk.2) (.int .i64 t386)) (fun _ hk => hk.2) (.int .i64 t387)) (fun _ hk => hk.2) (.slice Ao32 t388.length co32)) (fun _ h_ => h_.1))) (Kd.R_base ho0) hb);replace BK391 := a_ (blk_below (g := gb391) (o := .cells #[.int .i64 t386, .int .i64 t387, .slice Ao32 t388.length co32] 26 (0, 0)) (by (with_reducible repeat (first | refine blk_drewN ?_ _ | refine blk_drew ?_ | refine blk_alloc ?_ _));refine blk_put (cs := #[.int .i64 t386, .int .i64 t387, .slice none 0 0]) ?_ 2 _ rfl;(with_reducible repeat (first | refine blk_drewN ?_ _ | refine blk_drew ?_ | refine blk_alloc ?_ _));refine blk_put (cs := #[.int .i64 t386, .int .i64 0, .slice none 0 0]) ?_ 1 _ rfl;(with_reducible repeat (first | refine blk_drewN ?_ _ | refine blk_drew ?_ | refine blk_alloc ?_ _));refine blk_put (cs := #[.int .i64 0, .int .i64 0, .slice none 0 0]) ?_ 0 _ rfl;(with_reducible repeat (first | refine blk_drewN ?_ _ | refine blk_drew ?_ | refine blk_alloc ?_ _));exact BK391.out) hb);replace HB := a_ (below_step (bw1_ HB.out GE391.out) hb);(try clear hb);(try clear hb2);(try clear hk);(try clear hi);(try clear ho0)) | ((with_reducible refine gate_callee (f := 8) rfl ?_);refine goesL_ (some 35) rfl rfl Try.func8 (by kernel_rfl) rfl #[.slice A1 l1.length c1] rfl lf_ ?_;(with_reducible refine (laws_toStringS.calls k _ _ l1 t395 _ ?side1 ?side2 A12.out).mono ?_);(case side1 => exact rc_ (Kd.C_below HR1.out HB.out));(case side2 => exact HC1.out);rintro e w34 ⟨v396, rfl, ho0, hb⟩;refine ⟨_, rfl, ?_⟩;replace HO390 := a_ (Kd.S_elder' (rs_ HO390.out) (Kd.R_base ho0) hb);have HO397 := a_ (Kd.R_lower (Kd.R_new' (Kd.R_new' (Kd.R_new' ho0 (Kd.R_lt (rr_ HO382.out))) (Kd.R_lt (rr_ HO385.out))) (Kd.R_lt (rr_ HO394.out))) (below_size (bw1_ HB.out GE391.out)));replace HO382 := a_ (Kd.R_elder' (rr_ HO382.out) (Kd.R_base ho0) hb);replace HO385 := a_ (Kd.R_elder' (rr_ HO385.out) (Kd.R_base ho0) hb);replace HO394 := a_ (Kd.R_elder' (rr_ HO394.out) (Kd.R_base ho0) hb);replace BK391 := a_ (bb_ BK391.out hb);replace HB := a_ (below_step (bw1_ HB.out GE391.out) hb);(try clear hb);(try clear hb2);(try clear hk);(try clear hi);(try clear ho0);obtain ⟨Ao35, co35, eo35⟩ := Kd.R_slice HO394.out;subst eo35;obtain ⟨Ao36, co36, eo36⟩ := Kd.R_slice HO397.out;subst eo36) | ((with_reducible refine gate_callee (f := 9) rfl ?_);refine goesL_ (some 39) rfl rfl Try.func9 (by kernel_rfl) rfl #[.slice Ao35 t392.length co35, .slice Ao36 t395.length co36, .int .i64 a2] rfl lf_ ?_;(with_reducible refine (impl_HunksOf.calls k _ _ t392 _ _ t395 a2 t398 t399 t400 _ ?side1 ?side2 ?side3 ?side4 A13.out).mono ?_);(case side1 => exact rc_ (Kd.R_reads' HO394.out).2.2);(case side2 => exact (Kd.R_reads' HO394.out).2.1);(case side3 => exact rc_ (Kd.R_reads' HO397.out).2.2);(case side4 => exact (Kd.R_reads' HO397.out).2.1);rintro e w37 ⟨v401, rfl, ho0, hb⟩;refine ⟨_, rfl, ?_⟩;obtain ⟨m2, hm2, ho0⟩ := arrive ho0;have HO402 := a_ (Kd.S_lower (Kd.S_new' (Kd.S_new' (Kd.S_new' (Kd.S_new' (Kd.S_new' ho0 (Kd.R_lt (rr_ HO382.out))) (Kd.R_lt (rr_ HO385.out))) (Kd.S_lt (rs_ HO390.out))) (Kd.R_lt (rr_ HO394.out))) (Kd.R_lt (rr_ HO397.out))) (below_size (bw1_ HB.out GE391.out)));replace HO382 := a_ (Kd.R_below (rr_ HO382.out) hb);replace HO385 := a_ (Kd.R_below (rr_ HO385.out) hb);replace HO390 := a_ (Kd.S_elder' (leafIn_ hm2 <| rs_ HO390.out) (Kd.S_base ho0) hb);replace HO394 := a_ (Kd.R_below (rr_ HO394.out) hb);replace HO397 := a_ (Kd.R_below (rr_ HO397.out) hb);replace BK391 := a_ (bb_ BK391.out hb);replace HB := a_ (below_step (bw1_ HB.out GE391.out) hb);(try clear hb);(try clear hb2);(try clear hk);(try clear hi);clear hm2;(try clear ho0)) | ((with_reducible refine gate_dst (N := 11) rfl ?_);refine box_event ?hg (N := 11) ?hd (cs := #[.int .i64 0, .int .i64 0, .slice none 0 0]) (t := 26) ?hr ?_;(case hd => rfl);(case hg => rfl);(case hr => first | (go_simp;done) | (go_simp;rfl));intro gb403 hg w38 hbox hb;replace HO382 := a_ (Kd.R_below (rr_ HO382.out) hb);replace HO385 := a_ (Kd.R_below (rr_ HO385.out) hb);replace HO390 := a_ (Kd.S_below (rs_ HO390.out) hb);replace HO394 := a_ (Kd.R_below (rr_ HO394.out) hb);replace HO397 := a_ (Kd.R_below (rr_ HO397.out) hb);replace HO402 := a_ (Kd.S_below (rs_ HO402.out) hb);have BK403 := a_ (hbox);have GW403 := a_ ((by rw [hg];exact (below_size (bw1_ HB.out GE391.out)) : w.heap.size ≤ gb403));have GE403 := a_ ((by rw [hg];exact (below_size (bw1_ HB.out GE391.out)) : w.heap.size ≤ gb403));replace HB := a_ (below_step (bw1_ HB.out GE391.out) hb);have NB391_403 := a_ ((by rw [hg];exact Nat.ne_of_lt (bl_ BK391.out) : gb391 ≠ gb403));have NB403_391 := a_ ((by rw [hg];exact Nat.ne_of_gt (bl_ BK391.out) : gb403 ≠ gb391));replace BK391 := a_ (bb_ BK391.out hb);clear hb hbox hg;have hnb39 := NB403_391.out;have hnc39 := NB391_403.out;have hcz40_0 : w38.cell? ⟨gb403, 0, none⟩ = some (.int .i64 0) := (blk_cell BK403.out 0).trans rfl;have hcz40_1 : w38.cell? ⟨gb403, 1, none⟩ = some (.int .i64 0) := (blk_cell BK403.out 1).trans rfl;have hcz40_2 : w38.cell? ⟨gb403, 2, none⟩ = some (.slice none 0 0) := (blk_cell BK403.out 2).trans rfl;have hfz40_0 := blk_frozen BK403.out 0;have hfz40_1 := blk_frozen BK403.out 1;have hfz40_2 := blk_frozen BK403.out 2;obtain ⟨Ao41, co41, eo41⟩ := Kd.S_slice HO402.out;subst eo41;have hcz42_0 : w38.cell? ⟨gb391, 0, none⟩ = some (.int .i64 t386) := (blk_cell BK391.out 0).trans rfl;have hcz42_1 : w38.cell? ⟨gb391, 1, none⟩ = some (.int .i64 t387) := (blk_cell BK391.out 1).trans rfl;have hcz42_2 : w38.cell? ⟨gb391, 2, none⟩ = some (.slice Ao32 t388.length co32) := (blk_cell BK391.out 2).trans rfl;have hfz42_0 := blk_frozen BK391.out 0;have hfz42_1 := blk_frozen BK391.out 1;have hfz42_2 := blk_frozen BK391.out 2) | ((with_reducible refine gate_callee (f := 10) rfl ?_);refine goesL_ (some 42) rfl rfl Try.func10 (by kernel_rfl) rfl #[.agg #[.int .i64 t398, .int .i64 t399, .slice Ao41 t400.length co41], .agg #[.int .i64 t386, .int .i64 t387, .slice Ao32 t388.length co32]] rfl lf_ ?_;(with_reducible refine (laws_eqHunksResult.calls k t398 t399 _ _ t400 t386 t387 _ _ t388 true _ ?side1 ?side2 ?side3 ?side4 A14.out).mono ?_);(case side1 => refine (Kd.S_reads' (e := 56) (base := w.heap.size) (ok := fun k_ => (((((m2 ≤ k_ ∧ some k_ ≠ (.slice Ao27 t380.length co27 : Value).ownBlock) ∧ some k_ ≠ (.slice Ao28 t383.length co28 : Value).ownBlock) ∧ some k_ ≠ (.slice Ao32 t388.length co32 : Value).ownBlock) ∧ some k_ ≠ (.slice Ao35 t392.length co35 : Value).ownBlock) ∧ some k_ ≠ (.slice Ao36 t395.length co36 : Value).ownBlock)) (n := t400.length) (c := co41) ?_).2.2;exact (by (with_reducible repeat (first | apply Kd.S_alloc | apply Kd.S_drewN | apply Kd.S_drew));exact (Kd.S_mono (Kd.S_far (p := ⟨gb403, 2, none⟩) (Kd.S_far (p := ⟨gb403, 1, none⟩) (Kd.S_far (p := ⟨gb403, 0, none⟩) (Kd.S_types HO402.out BK403.out (by decide)) (fun _ hk => hk.2) (.int .i64 t398)) (fun _ hk => hk.2) (.int .i64 t399)) (fun _ hk => hk.2) (.slice Ao41 t400.length co41)) (fun _ h_ => h_.1))));(case side2 => exact (Kd.S_reads' HO402.out).2.1);(case side3 => refine (Kd.S_reads' (e := 56) (base := w.heap.size) (ok := fun k_ => (((((k_ < m2 ∧ some k_ ≠ (.slice Ao27 t380.length co27 : Value).ownBlock) ∧ some k_ ≠ (.slice Ao28 t383.length co28 : Value).ownBlock) ∧ some k_ ≠ (.slice Ao35 t392.length co35 : Value).ownBlock) ∧ some k_ ≠ (.slice Ao36 t395.length co36 : Value).ownBlock) ∧ some k_ ≠ (.slice Ao41 t400.length co41 : Value).ownBlock)) (n := t388.length) (c := co32) ?_).2.2;exact (by (with_reducible repeat (first | apply Kd.S_alloc | apply Kd.S_drewN | apply Kd.S_drew));exact (Kd.S_mono (Kd.S_far (p := ⟨gb403, 2, none⟩) (Kd.S_far (p := ⟨gb403, 1, none⟩) (Kd.S_far (p := ⟨gb403, 0, none⟩) (Kd.S_types HO390.out BK403.out (by decide)) (fun _ hk => hk.2) (.int .i64 t398)) (fun _ hk => hk.2) (.int .i64 t399)) (fun _ hk => hk.2) (.slice Ao41 t400.length co41)) (fun _ h_ => h_.1))));(case side4 => exact (Kd.S_reads' HO390.out).2.1);rintro e w43 ⟨rfl, hb⟩;refine ⟨_, rfl, ?_⟩;replace HO382 := a_ (Kd.R_below (by (with_reducible repeat (first | apply Kd.R_alloc | apply Kd.R_drewN | apply Kd.R_drew));exact (Kd.R_mono (Kd.R_far (p := ⟨gb403, 2, none⟩) (Kd.R_far (p := ⟨gb403, 1, none⟩) (Kd.R_far (p := ⟨gb403, 0, none⟩) (Kd.R_types HO382.out BK403.out (by decide)) (fun _ hk => hk.2) (.int .i64 t398)) (fun _ hk => hk.2) (.int .i64 t399)) (fun _ hk => hk.2) (.slice Ao41 t400.length co41)) (fun _ h_ => h_.1))) hb);replace HO385 := a_ (Kd.R_below (by (with_reducible repeat (first | apply Kd.R_alloc | apply Kd.R_drewN | apply Kd.R_drew));exact (Kd.R_mono (Kd.R_far (p := ⟨gb403, 2, none⟩) (Kd.R_far (p := ⟨gb403, 1, none⟩) (Kd.R_far (p := ⟨gb403, 0, none⟩) (Kd.R_types HO385.out BK403.out (by decide)) (fun _ hk => hk.2) (.int .i64 t398)) (fun _ hk => hk.2) (.int .i64 t399)) (fun _ hk => hk.2) (.slice Ao41 t400.length co41)) (fun _ h_ => h_.1))) hb);replace HO390 := a_ (Kd.S_below (by (with_reducible repeat (first | apply Kd.S_alloc | apply Kd.S_drewN | apply Kd.S_drew));exact (Kd.S_mono (Kd.S_far (p := ⟨gb403, 2, none⟩) (Kd.S_far (p := ⟨gb403, 1, none⟩) (Kd.S_far (p := ⟨gb403, 0, none⟩) (Kd.S_types HO390.out BK403.out (by decide)) (fun _ hk => hk.2) (.int .i64 t398)) (fun _ hk => hk.2) (.int .i64 t399)) (fun _ hk => hk.2) (.slice Ao41 t400.length co41)) (fun _ h_ => h_.1))) hb);replace HO394 := a_ (Kd.R_below (by (with_reducible repeat (first | apply Kd.R_alloc | apply Kd.R_drewN | apply Kd.R_drew));exact (Kd.R_mono (Kd.R_far (p := ⟨gb403, 2, none⟩) (Kd.R_far (p := ⟨gb403, 1, none⟩) (Kd.R_far (p := ⟨gb403, 0, none⟩) (Kd.R_types HO394.out BK403.out (by decide)) (fun _ hk => hk.2) (.int .i64 t398)) (fun _ hk => hk.2) (.int .i64 t399)) (fun _ hk => hk.2) (.slice Ao41 t400.length co41)) (fun _ h_ => h_.1))) hb);replace HO397 := a_ (Kd.R_below (by (with_reducible repeat (first | apply Kd.R_alloc | apply Kd.R_drewN | apply Kd.R_drew));exact (Kd.R_mono (Kd.R_far (p := ⟨gb403, 2, none⟩) (Kd.R_far (p := ⟨gb403, 1, none⟩) (Kd.R_far (p := ⟨gb403, 0, none⟩) (Kd.R_types HO397.out BK403.out (by decide)) (fun _ hk => hk.2) (.int .i64 t398)) (fun _ hk => hk.2) (.int .i64 t399)) (fun _ hk => hk.2) (.slice Ao41 t400.length co41)) (fun _ h_ => h_.1))) hb);replace HO402 := a_ (Kd.S_below (by (with_reducible repeat (first | apply Kd.S_alloc | apply Kd.S_drewN | apply Kd.S_drew));exact (Kd.S_mono (Kd.S_far (p := ⟨gb403, 2, none⟩) (Kd.S_far (p := ⟨gb403, 1, none⟩) (Kd.S_far (p := ⟨gb403, 0, none⟩) (Kd.S_types HO402.out BK403.out (by decide)) (fun _ hk => hk.2) (.int .i64 t398)) (fun _ hk => hk.2) (.int .i64 t399)) (fun _ hk => hk.2) (.slice Ao41 t400.length co41)) (fun _ h_ => h_.1))) hb);replace BK391 := a_ (blk_below (g := gb391) (o := .cells #[.int .i64 t386, .int .i64 t387, .slice Ao32 t388.length co32] 26 (0, 0)) (by (with_reducible repeat (first | refine blk_drewN ?_ _ | refine blk_drew ?_ | refine blk_alloc ?_ _));refine blk_far ?_ NB391_403.out _;(with_reducible repeat (first | refine blk_drewN ?_ _ | refine blk_drew ?_ | refine blk_alloc ?_ _));refine blk_far ?_ NB391_403.out _;(with_reducible repeat (first | refine blk_drewN ?_ _ | refine blk_drew ?_ | refine blk_alloc ?_ _));refine blk_far ?_ NB391_403.out _;(with_reducible repeat (first | refine blk_drewN ?_ _ | refine blk_drew ?_ | refine blk_alloc ?_ _));exact BK391.out) hb);replace BK403 := a_ (blk_below (g := gb403) (o := .cells #[.int .i64 t398, .int .i64 t399, .slice Ao41 t400.length co41] 26 (0, 0)) (by (with_reducible repeat (first | refine blk_drewN ?_ _ | refine blk_drew ?_ | refine blk_alloc ?_ _));refine blk_put (cs := #[.int .i64 t398, .int .i64 t399, .slice none 0 0]) ?_ 2 _ rfl;(with_reducible repeat (first | refine blk_drewN ?_ _ | refine blk_drew ?_ | refine blk_alloc ?_ _));refine blk_put (cs := #[.int .i64 t398, .int .i64 0, .slice none 0 0]) ?_ 1 _ rfl;(with_reducible repeat (first | refine blk_drewN ?_ _ | refine blk_drew ?_ | refine blk_alloc ?_ _));refine blk_put (cs := #[.int .i64 0, .int .i64 0, .slice none 0 0]) ?_ 0 _ rfl;(with_reducible repeat (first | refine blk_drewN ?_ _ | refine blk_drew ?_ | refine blk_alloc ?_ _));exact BK403.out) hb);replace HB := a_ (below_step (bw2_ HB.out GE391.out GE403.out) hb);(try clear hb);(try clear hb2);(try clear hk);(try clear hi)) | ((with_reducible refine gate_callee (f := 8) rfl ?_);refine goesL_ (some 46) rfl rfl Try.func8 (by kernel_rfl) rfl #[.slice A0 l0.length c0] rfl lf_ ?_;(with_reducible refine (laws_toStringS.calls k _ _ l0 t405 _ ?side1 ?side2 A16.out).mono ?_);(case side1 => exact rc_ (Kd.C_below HR0.out HB.out));(case side2 => exact HC0.out);rintro e w44 ⟨v406, rfl, ho0, hb⟩;refine ⟨_, rfl, ?_⟩;replace HO390 := a_ (Kd.S_elder' (rs_ HO390.out) (Kd.R_base ho0) hb);replace HO402 := a_ (Kd.S_elder' (rs_ HO402.out) (Kd.R_base ho0) hb);have HO407 := a_ (Kd.R_lower (Kd.R_new' (Kd.R_new' (Kd.R_new' (Kd.R_new' ho0 (Kd.R_lt (rr_ HO382.out))) (Kd.R_lt (rr_ HO385.out))) (Kd.R_lt (rr_ HO394.out))) (Kd.R_lt (rr_ HO397.out))) (below_size (bw2_ HB.out GE391.out GE403.out)));replace HO382 := a_ (Kd.R_elder' (rr_ HO382.out) (Kd.R_base ho0) hb);replace HO385 := a_ (Kd.R_elder' (rr_ HO385.out) (Kd.R_base ho0) hb);replace HO394 := a_ (Kd.R_elder' (rr_ HO394.out) (Kd.R_base ho0) hb);replace HO397 := a_ (Kd.R_elder' (rr_ HO397.out) (Kd.R_base ho0) hb);replace BK391 := a_ (bb_ BK391.out hb);replace BK403 := a_ (bb_ BK403.out hb);replace HB := a_ (below_step (bw2_ HB.out GE391.out GE403.out) hb);(try clear hb);(try clear hb2);(try clear hk);(try clear hi);(try clear ho0);obtain ⟨Ao45, co45, eo45⟩ := Kd.R_slice HO407.out;subst eo45) | ((with_reducible refine gate_callee (f := 11) rfl ?_);refine goesL_ (some 47) rfl rfl Try.func11 (by kernel_rfl) rfl #[.slice Ao35 t392.length co35, .slice Ao45 t405.length co45] rfl lf_ ?_;(with_reducible refine (laws_eqStringS.calls k _ _ t392 _ _ t405 true _ ?side1 ?side2 ?side3 ?side4 A17.out).mono ?_);(case side1 => exact rc_ (Kd.R_reads' HO394.out).2.2);(case side2 => exact (Kd.R_reads' HO394.out).2.1);(case side3 => exact rc_ (Kd.R_reads' HO407.out).2.2);(case side4 => exact (Kd.R_reads' HO407.out).2.1);rintro e w' ⟨rfl, ⟨nd, rfl⟩⟩;refine ⟨_, rfl, ?_⟩) | ((with_reducible refine gate_callee (f := 8) rfl ?_);refine goesL_ (some 51) rfl rfl Try.func8 (by kernel_rfl) rfl #[.slice A1 l1.length c1] rfl lf_ ?_;(with_reducible refine (laws_toStringS.calls k _ _ l1 t409 _ ?side1 ?side2 A19.out).mono ?_);(case side1 => exact rc_ (Kd.C_below HR1.out (bw2_ HB.out GE391.out GE403.out)));(case side2 => exact HC1.out);rintro e w46 ⟨v410, rfl, ho0, hb⟩;refine ⟨_, rfl, ?_⟩;replace HO390 := a_ (Kd.S_elder' (rs_ HO390.out) (Kd.R_base ho0) hb);replace HO402 := a_ (Kd.S_elder' (rs_ HO402.out) (Kd.R_base ho0) hb);have HO411 := a_ (Kd.R_lower (Kd.R_new' (Kd.R_new' (Kd.R_new' (Kd.R_new' (Kd.R_new' ho0 (Kd.R_lt (rr_ HO382.out))) (Kd.R_lt (rr_ HO385.out))) (Kd.R_lt (rr_ HO394.out))) (Kd.R_lt (rr_ HO397.out))) (Kd.R_lt (rr_ HO407.out))) (below_size (bw2_ HB.out GE391.out GE403.out)));replace HO382 := a_ (Kd.R_elder' (rr_ HO382.out) (Kd.R_base ho0) hb);replace HO385 := a_ (Kd.R_elder' (rr_ HO385.out) (Kd.R_base ho0) hb);replace HO394 := a_ (Kd.R_elder' (rr_ HO394.out) (Kd.R_base ho0) hb);replace HO397 := a_ (Kd.R_elder' (rr_ HO397.out) (Kd.R_base ho0) hb);replace HO407 := a_ (Kd.R_elder' (rr_ HO407.out) (Kd.R_base ho0) hb);replace BK391 := a_ (bb_ BK391.out hb);replace BK403 := a_ (bb_ BK403.out hb);replace HB := a_ (below_step (bw2_ HB.out GE391.out GE403.out) hb);(try clear hb);(try clear hb2);(try clear hk);(try clear hi);(try clear ho0);obtain ⟨Ao47, co47, eo47⟩ := Kd.R_slice HO411.out;subst eo47) | ((with_reducible refine gate_callee (f := 11) rfl ?_);refine goesL_ (some 52) rfl rfl Try.func11 (by kernel_rfl) rfl #[.slice Ao36 t395.length co36, .slice Ao47 t409.length co47] rfl lf_ ?_;(with_reducible refine (laws_eqStringS.calls k _ _ t395 _ _ t409 true _ ?side1 ?side2 ?side3 ?side4 A20.out).mono ?_);(case side1 => exact rc_ (Kd.R_reads' HO397.out).2.2);(case side2 => exact (Kd.R_reads' HO397.out).2.1);(case side3 => exact rc_ (Kd.R_reads' HO411.out).2.2);(case side4 => exact (Kd.R_reads' HO411.out).2.1);rintro e w' ⟨rfl, ⟨nd, rfl⟩⟩;refine ⟨_, rfl, ?_⟩) | ((with_reducible refine gate_callee (f := 12) rfl ?_);refine goesL_ (some 56) rfl rfl Try.func12 (by kernel_rfl) rfl #[.slice Ao35 t392.length co35, .int .i64 1] rfl lf_ ?_;(with_reducible refine (laws_markStringS.calls k (fun k_ => some k_ = (.slice Ao35 t392.length co35 : Value).ownBlock) (.slice Ao35 t392.length co35) t392 1 t413 t414 w _ ?side1 ?side2 A22.out).mono ?_);(case side1 => exact bw2_ HB.out GE391.out GE403.out);(case side2 => exact Kd.R_tight rfl HO394.out);rintro e w48 ⟨rfl, hy0, hb, hkp⟩;refine ⟨_, rfl, ?_⟩;replace HO382 := a_ (Kd.R_mono (ok' := fun k_ => some k_ ≠ (.slice Ao28 t383.length co28 : Value).ownBlock ∧ some k_ ≠ (.slice Ao35 t392.length co35 : Value).ownBlock ∧ some k_ ≠ (.slice Ao36 t395.length co36 : Value).ownBlock ∧ some k_ ≠ (.slice Ao45 t405.length co45 : Value).ownBlock ∧ some k_ ≠ (.slice Ao47 t409.length co47 : Value).ownBlock) (Kd.R_keptB (HO382.out) hkp (fun k_ hk_ hs_ => (hk_.1.1.1.2) hs_)) (fun k_ hk_ => ⟨hk_.1.1.1.1.1.2, hk_.1.1.1.1.2, hk_.1.1.1.2, hk_.1.1.2, hk_.1.2⟩));replace HO385 := a_ (Kd.R_mono (ok' := fun k_ => some k_ ≠ (.slice Ao27 t380.length co27 : Value).ownBlock ∧ some k_ ≠ (.slice Ao35 t392.length co35 : Value).ownBlock ∧ some k_ ≠ (.slice Ao36 t395.length co36 : Value).ownBlock ∧ some k_ ≠ (.slice Ao45 t405.length co45 : Value).ownBlock ∧ some k_ ≠ (.slice Ao47 t409.length co47 : Value).ownBlock) (Kd.R_keptB (HO385.out) hkp (fun k_ hk_ hs_ => (hk_.1.1.1.2) hs_)) (fun k_ hk_ => ⟨hk_.1.1.1.1.1.2, hk_.1.1.1.1.2, hk_.1.1.1.2, hk_.1.1.2, hk_.1.2⟩));replace HO390 := a_ (Kd.S_mono (ok' := fun k_ => k_ < m2 ∧ some k_ ≠ (.slice Ao27 t380.length co27 : Value).ownBlock ∧ some k_ ≠ (.slice Ao28 t383.length co28 : Value).ownBlock ∧ some k_ ≠ (.slice Ao35 t392.length co35 : Value).ownBlock ∧ some k_ ≠ (.slice Ao36 t395.length co36 : Value).ownBlock ∧ some k_ ≠ (.slice Ao41 t400.length co41 : Value).ownBlock ∧ some k_ ≠ (.slice Ao45 t405.length co45 : Value).ownBlock ∧ some k_ ≠ (.slice Ao47 t409.length co47 : Value).ownBlock) (Kd.S_keptB (HO390.out) hkp (fun k_ hk_ hs_ => (hk_.1.1.1.1.2) hs_)) (fun k_ hk_ => ⟨hk_.1.1.1.1.1.1.1.1, hk_.1.1.1.1.1.1.1.2, hk_.1.1.1.1.1.1.2, hk_.1.1.1.1.1.2, hk_.1.1.1.1.2, hk_.1.1.1.2, hk_.1.1.2, hk_.1.2⟩));replace BK391 := a_ (blk_kept (rb_ BK391.out) hkp (fun hs_ => (fun e_ => (Kd.R_ne HO394.out BK391.out (by decide)) e_) hs_));replace HO397 := a_ (Kd.R_mono (ok' := fun k_ => some k_ ≠ (.slice Ao27 t380.length co27 : Value).ownBlock ∧ some k_ ≠ (.slice Ao28 t383.length co28 : Value).ownBlock ∧ some k_ ≠ (.slice Ao35 t392.length co35 : Value).ownBlock ∧ some k_ ≠ (.slice Ao45 t405.length co45 : Value).ownBlock ∧ some k_ ≠ (.slice Ao47 t409.length co47 : Value).ownBlock) (Kd.R_keptB (HO397.out) hkp (fun k_ hk_ hs_ => (hk_.1.1.2) hs_)) (fun k_ hk_ => ⟨hk_.1.1.1.1.1.2, hk_.1.1.1.1.2, hk_.1.1.1.2, hk_.1.1.2, hk_.1.2⟩));replace HO402 := a_ (Kd.S_mono (ok' := fun k_ => m2 ≤ k_ ∧ some k_ ≠ (.slice Ao27 t380.length co27 : Value).ownBlock ∧ some k_ ≠ (.slice Ao28 t383.length co28 : Value).ownBlock ∧ some k_ ≠ (.slice Ao32 t388.length co32 : Value).ownBlock ∧ some k_ ≠ (.slice Ao35 t392.length co35 : Value).ownBlock ∧ some k_ ≠ (.slice Ao36 t395.length co36 : Value).ownBlock ∧ some k_ ≠ (.slice Ao45 t405.length co45 : Value).ownBlock ∧ some k_ ≠ (.slice Ao47 t409.length co47 : Value).ownBlock) (Kd.S_keptB (HO402.out) hkp (fun k_ hk_ hs_ => (hk_.1.1.1.2) hs_)) (fun k_ hk_ => ⟨hk_.1.1.1.1.1.1.1.1, hk_.1.1.1.1.1.1.1.2, hk_.1.1.1.1.1.1.2, hk_.1.1.1.1.1.2, hk_.1.1.1.1.2, hk_.1.1.1.2, hk_.1.1.2, hk_.1.2⟩));replace BK403 := a_ (blk_kept (rb_ BK403.out) hkp (fun hs_ => (fun e_ => (Kd.R_ne HO394.out BK403.out (by decide)) e_) hs_));replace HO394 := a_ (Kd.R_reok rfl hy0 (fun k_ e_ => HO394.out.1 k_ e_));replace HO407 := a_ (Kd.R_mono (ok' := fun k_ => some k_ ≠ (.slice Ao27 t380.length co27 : Value).ownBlock ∧ some k_ ≠ (.slice Ao28 t383.length co28 : Value).ownBlock ∧ some k_ ≠ (.slice Ao35 t392.length co35 : Value).ownBlock ∧ some k_ ≠ (.slice Ao36 t395.length co36 : Value).ownBlock ∧ some k_ ≠ (.slice Ao47 t409.length co47 : Value).ownBlock) (Kd.R_keptB (HO407.out) hkp (fun k_ hk_ hs_ => (hk_.1.1.2) hs_)) (fun k_ hk_ => ⟨hk_.1.1.1.1.1.2, hk_.1.1.1.1.2, hk_.1.1.1.2, hk_.1.1.2, hk_.1.2⟩));replace HO411 := a_ (Kd.R_mono (ok' := fun k_ => some k_ ≠ (.slice Ao27 t380.length co27 : Value).ownBlock ∧ some k_ ≠ (.slice Ao28 t383.length co28 : Value).ownBlock ∧ some k_ ≠ (.slice Ao35 t392.length co35 : Value).ownBlock ∧ some k_ ≠ (.slice Ao36 t395.length co36 : Value).ownBlock ∧ some k_ ≠ (.slice Ao45 t405.length co45 : Value).ownBlock) (Kd.R_keptB (HO411.out) hkp (fun k_ hk_ hs_ => (hk_.1.1.2) hs_)) (fun k_ hk_ => ⟨hk_.1.1.1.1.1.2, hk_.1.1.1.1.2, hk_.1.1.1.2, hk_.1.1.2, hk_.1.2⟩));replace HB := a_ (hb);(try clear hb);(try clear hkp);(try clear hy0)) | ((with_reducible refine gate_callee (f := 12) rfl ?_);refine goesL_ (some 59) rfl rfl Try.func12 (by kernel_rfl) rfl #[.slice Ao36 t395.length co36, .int .i64 t413] rfl lf_ ?_;(with_reducible refine (laws_markStringS.calls k (fun k_ => some k_ = (.slice Ao36 t395.length co36 : Value).ownBlock) (.slice Ao36 t395.length co36) t395 t413 t415 t416 w _ ?side1 ?side2 A23.out).mono ?_);(case side1 => exact bw2_ HB.out GE391.out GE403.out);(case side2 => exact Kd.R_tight rfl HO397.out);rintro e w49 ⟨rfl, hy0, hb, hkp⟩;refine ⟨_, rfl, ?_⟩;replace HO382 := a_ (Kd.R_mono (ok' := fun k_ => some k_ ≠ (.slice Ao28 t383.length co28 : Value).ownBlock ∧ some k_ ≠ (.slice Ao35 t392.length co35 : Value).ownBlock ∧ some k_ ≠ (.slice Ao36 t395.length co36 : Value).ownBlock ∧ some k_ ≠ (.slice Ao45 t405.length co45 : Value).ownBlock ∧ some k_ ≠ (.slice Ao47 t409.length co47 : Value).ownBlock) (Kd.R_keptB (HO382.out) hkp (fun k_ hk_ hs_ => (hk_.2.2.1) hs_)) (fun k_ hk_ => ⟨hk_.1.1, hk_.1.2.1, hk_.1.2.2.1, hk_.1.2.2.2.1, hk_.1.2.2.2.2⟩));replace HO385 := a_ (Kd.R_mono (ok' := fun k_ => some k_ ≠ (.slice Ao27 t380.length co27 : Value).ownBlock ∧ some k_ ≠ (.slice Ao35 t392.length co35 : Value).ownBlock ∧ some k_ ≠ (.slice Ao36 t395.length co36 : Value).ownBlock ∧ some k_ ≠ (.slice Ao45 t405.length co45 : Value).ownBlock ∧ some k_ ≠ (.slice Ao47 t409.length co47 : Value).ownBlock) (Kd.R_keptB (HO385.out) hkp (fun k_ hk_ hs_ => (hk_.2.2.1) hs_)) (fun k_ hk_ => ⟨hk_.1.1, hk_.1.2.1, hk_.1.2.2.1, hk_.1.2.2.2.1, hk_.1.2.2.2.2⟩));replace HO390 := a_ (Kd.S_mono (ok' := fun k_ => k_ < m2 ∧ some k_ ≠ (.slice Ao27 t380.length co27 : Value).ownBlock ∧ some k_ ≠ (.slice Ao28 t383.length co28 : Value).ownBlock ∧ some k_ ≠ (.slice Ao35 t392.length co35 : Value).ownBlock ∧ some k_ ≠ (.slice Ao36 t395.length co36 : Value).ownBlock ∧ some k_ ≠ (.slice Ao41 t400.length co41 : Value).ownBlock ∧ some k_ ≠ (.slice Ao45 t405.length co45 : Value).ownBlock ∧ some k_ ≠ (.slice Ao47 t409.length co47 : Value).ownBlock) (Kd.S_keptB (HO390.out) hkp (fun k_ hk_ hs_ => (hk_.2.2.2.2.1) hs_)) (fun k_ hk_ => ⟨hk_.1.1, hk_.1.2.1, hk_.1.2.2.1, hk_.1.2.2.2.1, hk_.1.2.2.2.2.1, hk_.1.2.2.2.2.2.1, hk_.1.2.2.2.2.2.2.1, hk_.1.2.2.2.2.2.2.2⟩));replace BK391 := a_ (blk_kept (rb_ BK391.out) hkp (fun hs_ => (fun e_ => (Kd.R_ne HO397.out BK391.out (by decide)) e_) hs_));replace HO394 := a_ (Kd.R_mono (ok' := fun k_ => some k_ ≠ (.slice Ao27 t380.length co27 : Value).ownBlock ∧ some k_ ≠ (.slice Ao28 t383.length co28 : Value).ownBlock ∧ some k_ ≠ (.slice Ao36 t395.length co36 : Value).ownBlock ∧ some k_ ≠ (.slice Ao45 t405.length co45 : Value).ownBlock ∧ some k_ ≠ (.slice Ao47 t409.length co47 : Value).ownBlock) (Kd.R_keptB (HO394.out) hkp (fun k_ hk_ hs_ => (hk_.1.1.2) hs_)) (fun k_ hk_ => ⟨hk_.1.1.1.1.1.2, hk_.1.1.1.1.2, hk_.1.1.1.2, hk_.1.1.2, hk_.1.2⟩));replace HO402 := a_ (Kd.S_mono (ok' := fun k_ => m2 ≤ k_ ∧ some k_ ≠ (.slice Ao27 t380.length co27 : Value).ownBlock ∧ some k_ ≠ (.slice Ao28 t383.length co28 : Value).ownBlock ∧ some k_ ≠ (.slice Ao32 t388.length co32 : Value).ownBlock ∧ some k_ ≠ (.slice Ao35 t392.length co35 : Value).ownBlock ∧ some k_ ≠ (.slice Ao36 t395.length co36 : Value).ownBlock ∧ some k_ ≠ (.slice Ao45 t405.length co45 : Value).ownBlock ∧ some k_ ≠ (.slice Ao47 t409.length co47 : Value).ownBlock) (Kd.S_keptB (HO402.out) hkp (fun k_ hk_ hs_ => (hk_.2.2.2.2.2.1) hs_)) (fun k_ hk_ => ⟨hk_.1.1, hk_.1.2.1, hk_.1.2.2.1, hk_.1.2.2.2.1, hk_.1.2.2.2.2.1, hk_.1.2.2.2.2.2.1, hk_.1.2.2.2.2.2.2.1, hk_.1.2.2.2.2.2.2.2⟩));replace BK403 := a_ (blk_kept (rb_ BK403.out) hkp (fun hs_ => (fun e_ => (Kd.R_ne HO397.out BK403.out (by decide)) e_) hs_));replace HO397 := a_ (Kd.R_reok rfl hy0 (fun k_ e_ => HO397.out.1 k_ e_));replace HO407 := a_ (Kd.R_mono (ok' := fun k_ => some k_ ≠ (.slice Ao27 t380.length co27 : Value).ownBlock ∧ some k_ ≠ (.slice Ao28 t383.length co28 : Value).ownBlock ∧ some k_ ≠ (.slice Ao35 t392.length co35 : Value).ownBlock ∧ some k_ ≠ (.slice Ao36 t395.length co36 : Value).ownBlock ∧ some k_ ≠ (.slice Ao47 t409.length co47 : Value).ownBlock) (Kd.R_keptB (HO407.out) hkp (fun k_ hk_ hs_ => (hk_.2.2.2.1) hs_)) (fun k_ hk_ => ⟨hk_.1.1, hk_.1.2.1, hk_.1.2.2.1, hk_.1.2.2.2.1, hk_.1.2.2.2.2⟩));replace HO411 := a_ (Kd.R_mono (ok' := fun k_ => some k_ ≠ (.slice Ao27 t380.length co27 : Value).ownBlock ∧ some k_ ≠ (.slice Ao28 t383.length co28 : Value).ownBlock ∧ some k_ ≠ (.slice Ao35 t392.length co35 : Value).ownBlock ∧ some k_ ≠ (.slice Ao36 t395.length co36 : Value).ownBlock ∧ some k_ ≠ (.slice Ao45 t405.length co45 : Value).ownBlock) (Kd.R_keptB (HO411.out) hkp (fun k_ hk_ hs_ => (hk_.2.2.2.1) hs_)) (fun k_ hk_ => ⟨hk_.1.1, hk_.1.2.1, hk_.1.2.2.1, hk_.1.2.2.2.1, hk_.1.2.2.2.2⟩));replace HB := a_ (hb);(try clear hb);(try clear hkp);(try clear hy0))));(try simp only [Act.put, List.setIfInBounds_toArray, List.set_cons_zero, List.set_cons_succ]);go_cut [67] (fun v67 wc => ∃ (kq : Nat) (x67_23 : Bool), v67 = .bool x67_23 ∧ Aside0 (laws_FnExactHunksOf.j0 kq l0 l1 a2 x67_23 t386 t387 t388 t398 t399 t400 = some r) ∧ Aside0 (kq ≤ k) ∧ Aside0 (Kd.S k56 56 wc w.heap.size (fun k_ => k_ < m2 ∧ some k_ ≠ ((.slice Ao41 t400.length co41) : Value).ownBlock) (.slice Ao32 t388.length co32) t388) ∧ Aside0 (Kd.S k56 56 wc w.heap.size (fun k_ => m2 ≤ k_ ∧ some k_ ≠ ((.slice Ao32 t388.length co32) : Value).ownBlock) (.slice Ao41 t400.length co41) t400) ∧ Aside0 (wc.heap[gb391]? = some (.cells #[.int .i64 t386, .int .i64 t387, (.slice Ao32 t388.length co32)] 26 (0, 0))) ∧ Aside0 (wc.heap[gb403]? = some (.cells #[.int .i64 t398, .int .i64 t399, (.slice Ao41 t400.length co41)] 26 (0, 0))) ∧ Aside0 (Below w.heap.size w wc))
 case first =>
  have H := HC24.out;clear HC24;by_cases c50 : t415 < 0;(·rw [if_pos c50] at H;have c50b0 := decide_eq_true c50;clear c50;(first | rw [c50b0] | (simp only [i64_w, i32_w];rw [c50b0]) | skip);have H' := a_ H;clear H;go_wp2;go_meet;case rel => exact ⟨_, (true), ls_, H', ⟨by first | omega | exact Nat.le_refl _⟩, ⟨by (with_reducible repeat (first | apply Kd.S_alloc | apply Kd.S_drewN | apply Kd.S_drew));exact Kd.S_mono HO390.out (fun _ hk => ⟨hk.1, hk.2.2.2.2.2.1⟩)⟩, ⟨by (with_reducible repeat (first | apply Kd.S_alloc | apply Kd.S_drewN | apply Kd.S_drew));exact Kd.S_mono HO402.out (fun _ hk => ⟨hk.1, hk.2.2.2.1⟩)⟩, ⟨rb_ BK391.out⟩, ⟨rb_ BK403.out⟩, ⟨bw2_ HB.out GE391.out GE403.out⟩⟩);rw [if_neg c50] at H;have c50b0 := decide_eq_false c50;clear c50;(first | rw [c50b0] | (simp only [i64_w, i32_w];rw [c50b0]) | skip);replace H := Option.bind_eq_some_iff.mp H;obtain ⟨t417, A510, H⟩ := H;(try dsimp only at H);have A51 := a_ A510;clear A510;have H' := a_ H;clear H;have hnb52 := NB403_391.out;have hnc52 := NB391_403.out;have hcz53_0 : w49.cell? ⟨gb403, 0, none⟩ = some (.int .i64 t398) := (blk_cell BK403.out 0).trans rfl;have hcz53_1 : w49.cell? ⟨gb403, 1, none⟩ = some (.int .i64 t399) := (blk_cell BK403.out 1).trans rfl;have hcz53_2 : w49.cell? ⟨gb403, 2, none⟩ = some (.slice Ao41 t400.length co41) := (blk_cell BK403.out 2).trans rfl;have hfz53_0 := blk_frozen BK403.out 0;have hfz53_1 := blk_frozen BK403.out 1;have hfz53_2 := blk_frozen BK403.out 2;have hcz54_0 : w49.cell? ⟨gb391, 0, none⟩ = some (.int .i64 t386) := (blk_cell BK391.out 0).trans rfl;have hcz54_1 : w49.cell? ⟨gb391, 1, none⟩ = some (.int .i64 t387) := (blk_cell BK391.out 1).trans rfl;have hcz54_2 : w49.cell? ⟨gb391, 2, none⟩ = some (.slice Ao32 t388.length co32) := (blk_cell BK391.out 2).trans rfl;have hfz54_0 := blk_frozen BK391.out 0;have hfz54_1 := blk_frozen BK391.out 1;have hfz54_2 := blk_frozen BK391.out 2;go_wp2_with (first | (go_at_call 10;(with_reducible refine (laws_eqHunksResult.calls k t398 t399 _ _ t400 t386 t387 _ _ t388 t417 _ ?side1 ?side2 ?side3 ?side4 A51.out).mono ?_);(case side1 => exact rc_ (Kd.S_reads' HO402.out).2.2);(case side2 => exact (Kd.S_reads' HO402.out).2.1);(case side3 => exact rc_ (Kd.S_reads' HO390.out).2.2);(case side4 => exact (Kd.S_reads' HO390.out).2.1);rintro e w55 ⟨rfl, hb⟩;replace HO382 := a_ (Kd.R_below (rr_ HO382.out) hb);replace HO385 := a_ (Kd.R_below (rr_ HO385.out) hb);replace HO390 := a_ (Kd.S_below (rs_ HO390.out) hb);replace HO394 := a_ (Kd.R_below (rr_ HO394.out) hb);replace HO397 := a_ (Kd.R_below (rr_ HO397.out) hb);replace HO402 := a_ (Kd.S_below (rs_ HO402.out) hb);replace HO407 := a_ (Kd.R_below (rr_ HO407.out) hb);replace HO411 := a_ (Kd.R_below (rr_ HO411.out) hb);replace BK391 := a_ (bb_ BK391.out hb);replace BK403 := a_ (bb_ BK403.out hb);replace HB := a_ (below_step (bw2_ HB.out GE391.out GE403.out) hb);(try clear hb);(try clear hb2);(try clear hk);(try clear hi)));go_meet;case rel => exact ⟨_, (!t417), ls_, H', ⟨by first | omega | exact Nat.le_refl _⟩, ⟨by (with_reducible repeat (first | apply Kd.S_alloc | apply Kd.S_drewN | apply Kd.S_drew));exact Kd.S_mono HO390.out (fun _ hk => ⟨hk.1, hk.2.2.2.2.2.1⟩)⟩, ⟨by (with_reducible repeat (first | apply Kd.S_alloc | apply Kd.S_drewN | apply Kd.S_drew));exact Kd.S_mono HO402.out (fun _ hk => ⟨hk.1, hk.2.2.2.1⟩)⟩, ⟨rb_ BK391.out⟩, ⟨rb_ BK403.out⟩, ⟨bw2_ HB.out GE391.out GE403.out⟩⟩
 case rest =>
  clear HC24;(try clear c1);(try clear c2);(try clear p2);(try clear c3);(try clear c5);(try clear c5b0);(try clear c6);(try clear c7);(try clear c7b0);(try clear c8);(try clear c9);(try clear c10);(try clear c11);(try clear c12);(try clear c15);(try clear c18);(try clear c21);(try clear c39);(try clear c50);(try clear c50b0);(try clear c52);(try clear hcz31_0);(try clear hcz31_1);(try clear hcz31_2);(try clear hcz40_0);(try clear hcz40_1);(try clear hcz40_2);(try clear hcz42_0);(try clear hcz42_1);(try clear hcz42_2);(try clear hcz53_0);(try clear hcz53_1);(try clear hcz53_2);(try clear hcz54_0);(try clear hcz54_1);(try clear hcz54_2);(try clear hfz31_0);(try clear hfz31_1);(try clear hfz31_2);(try clear hfz40_0);(try clear hfz40_1);(try clear hfz40_2);(try clear hfz42_0);(try clear hfz42_1);(try clear hfz42_2);(try clear hfz53_0);(try clear hfz53_1);(try clear hfz53_2);(try clear hfz54_0);(try clear hfz54_1);(try clear hfz54_2);obtain ⟨kq, x67_23, rfl, HA, HJ23, HO_392002, HO_404002, BK391, BK403, HB⟩ := hcut
  cases kq with
  | zero => exact absurd HA.out (by simp [laws_FnExactHunksOf.j0])
  | succ kj23 =>
   have H := HA.out;clear HA;simp only [laws_FnExactHunksOf.j0] at H;by_cases c56 : x67_23 = true;(·subst c56;(have H1 : (some false) = some r := by rw [if_pos rfl] at H;exact H);clear H;have H := H1;clear H1;exact absurd ((Option.some.inj H).trans HLAW.out) (by decide));replace c56 := Bool.eq_false_iff.mpr c56;subst c56;(have H1 : ((laws_markHunksResult.f kj23 t398 t399 t400 1).bind fun bt418 => ((laws_heldHunksResult.f kj23 t398 t399 bt418.2 1).bind fun t420 => (if t420 < 0 then (some false) else (if t420 = bt418.1 then ((laws_toStringS.f kj23 l0).bind fun t421 => ((laws_toStringS.f kj23 l1).bind fun t424 => ((impl_HunksOf.f kj23 t421 t424 a2).bind fun bt427 => ((laws_eqHunksResult.f kj23 bt427.1 bt427.2.1 bt427.2.2 t386 t387 t388).bind fun t433 => (if t433 = true then ((laws_heldHunksResult.f kj23 t398 t399 bt418.2 1).bind fun t434 => (if t434 < 0 then (some false) else (if t434 = bt418.1 then (some true) else (some false)))) else (some false)))))) else (some false))))) = some r := by rw [if_neg (show ¬ (false = true) by decide)] at H;exact H);clear H;have H := H1;clear H1;replace H := Option.bind_eq_some_iff.mp H;obtain ⟨⟨t418, t419⟩, A570, H⟩ := H;(try dsimp only at H);have A57 := a_ A570;clear A570;replace H := Option.bind_eq_some_iff.mp H;obtain ⟨t420, A580, H⟩ := H;(try dsimp only at H);have A58 := a_ A580;clear A580;by_cases c59 : t420 < 0;(·rw [if_pos c59] at H;have c59b0 := decide_eq_true c59;clear c59;exact absurd ((Option.some.inj H).trans HLAW.out) (by decide));rw [if_neg c59] at H;have c59b0 := decide_eq_false c59;clear c59;by_cases c60 : t420 = t418;rotate_left;(·rw [if_neg c60] at H;have c60b0 : (t420 == t418) = false := beq_eq_false_iff_ne.mpr c60;have c60b1 : (t420 != t418) = true := bne_iff_ne.mpr c60;exact absurd ((Option.some.inj H).trans HLAW.out) (by decide));rw [if_pos c60] at H;have c60b0 : (t420 == t418) = true := beq_iff_eq.mpr c60;have c60b1 : (t420 != t418) = false := bne_eq_false_iff_eq.mpr c60;clear c60;replace H := Option.bind_eq_some_iff.mp H;obtain ⟨t421, A610, H⟩ := H;(try dsimp only at H);have A61 := a_ A610;clear A610;replace H := Option.bind_eq_some_iff.mp H;obtain ⟨t424, A620, H⟩ := H;(try dsimp only at H);have A62 := a_ A620;clear A620;replace H := Option.bind_eq_some_iff.mp H;obtain ⟨⟨t427, t428, t429⟩, A630, H⟩ := H;(try dsimp only at H);have A63 := a_ A630;clear A630;replace H := Option.bind_eq_some_iff.mp H;obtain ⟨t433, A640, H⟩ := H;(try dsimp only at H);have A64 := a_ A640;clear A640;by_cases c65 : t433 = true;rotate_left;(·replace c65 := Bool.eq_false_iff.mpr c65;subst c65;(have H1 : (some false) = some r := by rw [if_neg (show ¬ (false = true) by decide)] at H;exact H);clear H;have H := H1;clear H1;exact absurd ((Option.some.inj H).trans HLAW.out) (by decide));subst c65;(have H1 : ((laws_heldHunksResult.f kj23 t398 t399 t419 1).bind fun t434 => (if t434 < 0 then (some false) else (if t434 = t418 then (some true) else (some false)))) = some r := by rw [if_pos rfl] at H;exact H);clear H;have H := H1;clear H1;replace H := Option.bind_eq_some_iff.mp H;obtain ⟨t434, A660, H⟩ := H;(try dsimp only at H);have A66 := a_ A660;clear A660;by_cases c67 : t434 < 0;(·rw [if_pos c67] at H;have c67b0 := decide_eq_true c67;clear c67;exact absurd ((Option.some.inj H).trans HLAW.out) (by decide));rw [if_neg c67] at H;have c67b0 := decide_eq_false c67;clear c67;by_cases c68 : t434 = t418;rotate_left;(·rw [if_neg c68] at H;have c68b0 : (t434 == t418) = false := beq_eq_false_iff_ne.mpr c68;have c68b1 : (t434 != t418) = true := bne_iff_ne.mpr c68;exact absurd ((Option.some.inj H).trans HLAW.out) (by decide));rw [if_pos c68] at H;have c68b0 : (t434 == t418) = true := beq_iff_eq.mpr c68;have c68b1 : (t434 != t418) = false := bne_eq_false_iff_eq.mpr c68;clear c68;obtain rfl := Option.some.inj H;have hnb69 := NB403_391.out;have hnc69 := NB391_403.out;have hcz70_0 : wc.cell? ⟨gb403, 0, none⟩ = some (.int .i64 t398) := (blk_cell BK403.out 0).trans rfl;have hcz70_1 : wc.cell? ⟨gb403, 1, none⟩ = some (.int .i64 t399) := (blk_cell BK403.out 1).trans rfl;have hcz70_2 : wc.cell? ⟨gb403, 2, none⟩ = some (.slice Ao41 t400.length co41) := (blk_cell BK403.out 2).trans rfl;have hfz70_0 := blk_frozen BK403.out 0;have hfz70_1 := blk_frozen BK403.out 1;have hfz70_2 := blk_frozen BK403.out 2;go_wp2_with (first | ((with_reducible refine gate_callee (f := 13) rfl ?_);refine goesL_ (some 70) rfl rfl Try.func13 (by kernel_rfl) rfl #[.agg #[.int .i64 t398, .int .i64 t399, .slice Ao41 t400.length co41], .int .i64 1] rfl lf_ ?_;(with_reducible refine (laws_markHunksResult.calls kj23 t398 t399 (fun k_ => ((m2 ≤ k_ ∧ some k_ ≠ (.slice Ao32 t388.length co32 : Value).ownBlock) ∧ k_ ≠ gb391) ∧ k_ ≠ gb403) (.slice Ao41 t400.length co41) t400 1 t418 t419 w _ ?side1 ?side2 A57.out).mono ?_);(case side1 => exact bw2_ HB.out GE391.out GE403.out);(case side2 => exact Kd.S_types (Kd.S_types HO_404002.out (rb_ BK391.out) (by decide)) (rb_ BK403.out) (by decide));rintro e w71 ⟨rfl, hy0, hb, hkp⟩;refine ⟨_, rfl, ?_⟩;replace HO_392002 := a_ (Kd.S_mono (ok' := fun k_ => some k_ ≠ (.slice Ao41 t400.length co41 : Value).ownBlock) (Kd.S_keptB (HO_392002.out) hkp (fun k_ hk_ hs_ => absurd hk_.1 (Nat.not_lt.2 hs_.1.1.1))) (fun k_ hk_ => hk_.1.2));replace HO_404002 := a_ (Kd.S_mono hy0 (fun _ hk => hk.1.1.2));replace BK391 := a_ (blk_kept (rb_ BK391.out) hkp (fun hs_ => hs_.1.2 rfl));replace BK403 := a_ (blk_kept (rb_ BK403.out) hkp (fun hs_ => hs_.2 rfl));replace HB := a_ (hb);(try clear hb);(try clear hkp);(try clear hy0);have hcz72_0 : w71.cell? ⟨gb403, 0, none⟩ = some (.int .i64 t398) := (blk_cell BK403.out 0).trans rfl;have hcz72_1 : w71.cell? ⟨gb403, 1, none⟩ = some (.int .i64 t399) := (blk_cell BK403.out 1).trans rfl;have hcz72_2 : w71.cell? ⟨gb403, 2, none⟩ = some (.slice Ao41 t400.length co41) := (blk_cell BK403.out 2).trans rfl;have hfz72_0 := blk_frozen BK403.out 0;have hfz72_1 := blk_frozen BK403.out 1;have hfz72_2 := blk_frozen BK403.out 2) | ((with_reducible refine gate_callee (f := 14) rfl ?_);refine goesL_ (some 73) rfl rfl Try.func14 (by kernel_rfl) rfl #[.agg #[.int .i64 t398, .int .i64 t399, .slice Ao41 t419.length co41], .int .i64 1] rfl (by (try simp only [List.map_toArray, List.map_cons, List.map_nil]);first | done | (rw [show t419.length = t400.length from (Kd.S_reads' HO_404002.out).1.symm] <;> rfl) | rfl | (simp only [List.length_drop, List.length_take];rfl)) ?_;(with_reducible refine (laws_heldHunksResult.calls kj23 t398 t399 _ _ t419 1 t420 _ ?side1 ?side2 A58.out).mono ?_);(case side1 => exact rc_ (Kd.S_reads' HO_404002.out).2.2);(case side2 => rw [show t419.length = t400.length from (Kd.S_reads' HO_404002.out).1.symm];exact (Kd.S_reads' HO_404002.out).2.1);rintro e w73 ⟨rfl, hb⟩;refine ⟨_, rfl, ?_⟩;replace HO_392002 := a_ (Kd.S_below (rs_ HO_392002.out) hb);replace HO_404002 := a_ (Kd.S_below (rs_ HO_404002.out) hb);replace BK391 := a_ (bb_ BK391.out hb);replace BK403 := a_ (bb_ BK403.out hb);replace HB := a_ (below_step (bw2_ HB.out GE391.out GE403.out) hb);(try clear hb);(try clear hb2);(try clear hk);(try clear hi)) | ((with_reducible refine gate_callee (f := 8) rfl ?_);refine goesL_ (some 80) rfl rfl Try.func8 (by kernel_rfl) rfl #[.slice A0 l0.length c0] rfl lf_ ?_;(with_reducible refine (laws_toStringS.calls kj23 _ _ l0 t421 _ ?side1 ?side2 A61.out).mono ?_);(case side1 => exact rc_ (Kd.C_below HR0.out HB.out));(case side2 => exact HC0.out);rintro e w74 ⟨v422, rfl, ho0, hb⟩;refine ⟨_, rfl, ?_⟩;replace HO_392002 := a_ (Kd.S_elder' (rs_ HO_392002.out) (Kd.R_base ho0) hb);replace HO_404002 := a_ (Kd.S_elder' (rs_ HO_404002.out) (Kd.R_base ho0) hb);have HO423 := a_ (Kd.R_lower ho0 (below_size (bw2_ HB.out GE391.out GE403.out)));replace BK391 := a_ (bb_ BK391.out hb);replace BK403 := a_ (bb_ BK403.out hb);replace HB := a_ (below_step (bw2_ HB.out GE391.out GE403.out) hb);(try clear hb);(try clear hb2);(try clear hk);(try clear hi);(try clear ho0)) | ((with_reducible refine gate_callee (f := 8) rfl ?_);refine goesL_ (some 82) rfl rfl Try.func8 (by kernel_rfl) rfl #[.slice A1 l1.length c1] rfl lf_ ?_;(with_reducible refine (laws_toStringS.calls kj23 _ _ l1 t424 _ ?side1 ?side2 A62.out).mono ?_);(case side1 => exact rc_ (Kd.C_below HR1.out HB.out));(case side2 => exact HC1.out);rintro e w75 ⟨v425, rfl, ho0, hb⟩;refine ⟨_, rfl, ?_⟩;replace HO_392002 := a_ (Kd.S_elder' (rs_ HO_392002.out) (Kd.R_base ho0) hb);replace HO_404002 := a_ (Kd.S_elder' (rs_ HO_404002.out) (Kd.R_base ho0) hb);have HO426 := a_ (Kd.R_lower (Kd.R_new' ho0 (Kd.R_lt (rr_ HO423.out))) (below_size (bw2_ HB.out GE391.out GE403.out)));replace HO423 := a_ (Kd.R_elder' (rr_ HO423.out) (Kd.R_base ho0) hb);replace BK391 := a_ (bb_ BK391.out hb);replace BK403 := a_ (bb_ BK403.out hb);replace HB := a_ (below_step (bw2_ HB.out GE391.out GE403.out) hb);(try clear hb);(try clear hb2);(try clear hk);(try clear hi);(try clear ho0);obtain ⟨Ao76, co76, eo76⟩ := Kd.R_slice HO423.out;subst eo76;obtain ⟨Ao77, co77, eo77⟩ := Kd.R_slice HO426.out;subst eo77) | ((with_reducible refine gate_callee (f := 9) rfl ?_);refine goesL_ (some 84) rfl rfl Try.func9 (by kernel_rfl) rfl #[.slice Ao76 t421.length co76, .slice Ao77 t424.length co77, .int .i64 a2] rfl lf_ ?_;(with_reducible refine (impl_HunksOf.calls kj23 _ _ t421 _ _ t424 a2 t427 t428 t429 _ ?side1 ?side2 ?side3 ?side4 A63.out).mono ?_);(case side1 => exact rc_ (Kd.R_reads' HO423.out).2.2);(case side2 => exact (Kd.R_reads' HO423.out).2.1);(case side3 => exact rc_ (Kd.R_reads' HO426.out).2.2);(case side4 => exact (Kd.R_reads' HO426.out).2.1);rintro e w78 ⟨v430, rfl, ho0, hb⟩;refine ⟨_, rfl, ?_⟩;have HO431 := a_ (Kd.S_lower (Kd.S_new' (Kd.S_new' (Kd.S_new' (Kd.S_new' ho0 (Kd.S_lt (rs_ HO_392002.out))) (Kd.S_lt (rs_ HO_404002.out))) (Kd.R_lt (rr_ HO423.out))) (Kd.R_lt (rr_ HO426.out))) (below_size (bw2_ HB.out GE391.out GE403.out)));replace HO_392002 := a_ (Kd.S_elder' (rs_ HO_392002.out) (Kd.S_base ho0) hb);replace HO_404002 := a_ (Kd.S_elder' (rs_ HO_404002.out) (Kd.S_base ho0) hb);replace HO423 := a_ (Kd.R_below (rr_ HO423.out) hb);replace HO426 := a_ (Kd.R_below (rr_ HO426.out) hb);replace BK391 := a_ (bb_ BK391.out hb);replace BK403 := a_ (bb_ BK403.out hb);replace HB := a_ (below_step (bw2_ HB.out GE391.out GE403.out) hb);(try clear hb);(try clear hb2);(try clear hk);(try clear hi);(try clear ho0)) | ((with_reducible refine gate_dst (N := 15) rfl ?_);refine box_event ?hg (N := 15) ?hd (cs := #[.int .i64 0, .int .i64 0, .slice none 0 0]) (t := 26) ?hr ?_;(case hd => rfl);(case hg => rfl);(case hr => first | (go_simp;done) | (go_simp;rfl));intro gb432 hg w79 hbox hb;replace HO_392002 := a_ (Kd.S_below (rs_ HO_392002.out) hb);replace HO_404002 := a_ (Kd.S_below (rs_ HO_404002.out) hb);replace HO423 := a_ (Kd.R_below (rr_ HO423.out) hb);replace HO426 := a_ (Kd.R_below (rr_ HO426.out) hb);replace HO431 := a_ (Kd.S_below (rs_ HO431.out) hb);have BK432 := a_ (hbox);have GW432 := a_ ((by rw [hg];exact (below_size (bw2_ HB.out GE391.out GE403.out)) : w.heap.size ≤ gb432));have GE432 := a_ ((by rw [hg];exact (below_size (bw2_ HB.out GE391.out GE403.out)) : w.heap.size ≤ gb432));replace HB := a_ (below_step (bw2_ HB.out GE391.out GE403.out) hb);have NB391_432 := a_ ((by rw [hg];exact Nat.ne_of_lt (bl_ BK391.out) : gb391 ≠ gb432));have NB432_391 := a_ ((by rw [hg];exact Nat.ne_of_gt (bl_ BK391.out) : gb432 ≠ gb391));replace BK391 := a_ (bb_ BK391.out hb);have NB403_432 := a_ ((by rw [hg];exact Nat.ne_of_lt (bl_ BK403.out) : gb403 ≠ gb432));have NB432_403 := a_ ((by rw [hg];exact Nat.ne_of_gt (bl_ BK403.out) : gb432 ≠ gb403));replace BK403 := a_ (bb_ BK403.out hb);clear hb hbox hg;have hnb80 := NB432_391.out;have hnc80 := NB391_432.out;have hnb81 := NB432_403.out;have hnc81 := NB403_432.out;have hcz82_0 : w79.cell? ⟨gb432, 0, none⟩ = some (.int .i64 0) := (blk_cell BK432.out 0).trans rfl;have hcz82_1 : w79.cell? ⟨gb432, 1, none⟩ = some (.int .i64 0) := (blk_cell BK432.out 1).trans rfl;have hcz82_2 : w79.cell? ⟨gb432, 2, none⟩ = some (.slice none 0 0) := (blk_cell BK432.out 2).trans rfl;have hfz82_0 := blk_frozen BK432.out 0;have hfz82_1 := blk_frozen BK432.out 1;have hfz82_2 := blk_frozen BK432.out 2;obtain ⟨Ao83, co83, eo83⟩ := Kd.S_slice HO431.out;subst eo83;have hcz84_0 : w79.cell? ⟨gb391, 0, none⟩ = some (.int .i64 t386) := (blk_cell BK391.out 0).trans rfl;have hcz84_1 : w79.cell? ⟨gb391, 1, none⟩ = some (.int .i64 t387) := (blk_cell BK391.out 1).trans rfl;have hcz84_2 : w79.cell? ⟨gb391, 2, none⟩ = some (.slice Ao32 t388.length co32) := (blk_cell BK391.out 2).trans rfl;have hfz84_0 := blk_frozen BK391.out 0;have hfz84_1 := blk_frozen BK391.out 1;have hfz84_2 := blk_frozen BK391.out 2) | ((with_reducible refine gate_callee (f := 10) rfl ?_);refine goesL_ (some 87) rfl rfl Try.func10 (by kernel_rfl) rfl #[.agg #[.int .i64 t427, .int .i64 t428, .slice Ao83 t429.length co83], .agg #[.int .i64 t386, .int .i64 t387, .slice Ao32 t388.length co32]] rfl lf_ ?_;(with_reducible refine (laws_eqHunksResult.calls kj23 t427 t428 _ _ t429 t386 t387 _ _ t388 true _ ?side1 ?side2 ?side3 ?side4 A64.out).mono ?_);(case side1 => refine (Kd.S_reads' (e := 56) (base := w.heap.size) (ok := fun k_ => ((((True ∧ some k_ ≠ (.slice Ao32 t388.length co32 : Value).ownBlock) ∧ some k_ ≠ (.slice Ao41 t400.length co41 : Value).ownBlock) ∧ some k_ ≠ (.slice Ao76 t421.length co76 : Value).ownBlock) ∧ some k_ ≠ (.slice Ao77 t424.length co77 : Value).ownBlock)) (n := t429.length) (c := co83) ?_).2.2;exact (by (with_reducible repeat (first | apply Kd.S_alloc | apply Kd.S_drewN | apply Kd.S_drew));exact (Kd.S_mono (Kd.S_far (p := ⟨gb432, 2, none⟩) (Kd.S_far (p := ⟨gb432, 1, none⟩) (Kd.S_far (p := ⟨gb432, 0, none⟩) (Kd.S_types HO431.out BK432.out (by decide)) (fun _ hk => hk.2) (.int .i64 t427)) (fun _ hk => hk.2) (.int .i64 t428)) (fun _ hk => hk.2) (.slice Ao83 t429.length co83)) (fun _ h_ => h_.1))));(case side2 => exact (Kd.S_reads' HO431.out).2.1);(case side3 => refine (Kd.S_reads' (e := 56) (base := w.heap.size) (ok := fun k_ => (((some k_ ≠ (.slice Ao41 t400.length co41 : Value).ownBlock ∧ some k_ ≠ (.slice Ao76 t421.length co76 : Value).ownBlock) ∧ some k_ ≠ (.slice Ao77 t424.length co77 : Value).ownBlock) ∧ some k_ ≠ (.slice Ao83 t429.length co83 : Value).ownBlock)) (n := t388.length) (c := co32) ?_).2.2;exact (by (with_reducible repeat (first | apply Kd.S_alloc | apply Kd.S_drewN | apply Kd.S_drew));exact (Kd.S_mono (Kd.S_far (p := ⟨gb432, 2, none⟩) (Kd.S_far (p := ⟨gb432, 1, none⟩) (Kd.S_far (p := ⟨gb432, 0, none⟩) (Kd.S_types HO_392002.out BK432.out (by decide)) (fun _ hk => hk.2) (.int .i64 t427)) (fun _ hk => hk.2) (.int .i64 t428)) (fun _ hk => hk.2) (.slice Ao83 t429.length co83)) (fun _ h_ => h_.1))));(case side4 => exact (Kd.S_reads' HO_392002.out).2.1);rintro e w85 ⟨rfl, hb⟩;refine ⟨_, rfl, ?_⟩;replace HO_392002 := a_ (Kd.S_below (by (with_reducible repeat (first | apply Kd.S_alloc | apply Kd.S_drewN | apply Kd.S_drew));exact (Kd.S_mono (Kd.S_far (p := ⟨gb432, 2, none⟩) (Kd.S_far (p := ⟨gb432, 1, none⟩) (Kd.S_far (p := ⟨gb432, 0, none⟩) (Kd.S_types HO_392002.out BK432.out (by decide)) (fun _ hk => hk.2) (.int .i64 t427)) (fun _ hk => hk.2) (.int .i64 t428)) (fun _ hk => hk.2) (.slice Ao83 t429.length co83)) (fun _ h_ => h_.1))) hb);replace HO_404002 := a_ (Kd.S_below (by (with_reducible repeat (first | apply Kd.S_alloc | apply Kd.S_drewN | apply Kd.S_drew));exact (Kd.S_mono (Kd.S_far (p := ⟨gb432, 2, none⟩) (Kd.S_far (p := ⟨gb432, 1, none⟩) (Kd.S_far (p := ⟨gb432, 0, none⟩) (Kd.S_types HO_404002.out BK432.out (by decide)) (fun _ hk => hk.2) (.int .i64 t427)) (fun _ hk => hk.2) (.int .i64 t428)) (fun _ hk => hk.2) (.slice Ao83 t429.length co83)) (fun _ h_ => h_.1))) hb);replace HO423 := a_ (Kd.R_below (by (with_reducible repeat (first | apply Kd.R_alloc | apply Kd.R_drewN | apply Kd.R_drew));exact (Kd.R_mono (Kd.R_far (p := ⟨gb432, 2, none⟩) (Kd.R_far (p := ⟨gb432, 1, none⟩) (Kd.R_far (p := ⟨gb432, 0, none⟩) (Kd.R_types HO423.out BK432.out (by decide)) (fun _ hk => hk.2) (.int .i64 t427)) (fun _ hk => hk.2) (.int .i64 t428)) (fun _ hk => hk.2) (.slice Ao83 t429.length co83)) (fun _ h_ => h_.1))) hb);replace HO426 := a_ (Kd.R_below (by (with_reducible repeat (first | apply Kd.R_alloc | apply Kd.R_drewN | apply Kd.R_drew));exact (Kd.R_mono (Kd.R_far (p := ⟨gb432, 2, none⟩) (Kd.R_far (p := ⟨gb432, 1, none⟩) (Kd.R_far (p := ⟨gb432, 0, none⟩) (Kd.R_types HO426.out BK432.out (by decide)) (fun _ hk => hk.2) (.int .i64 t427)) (fun _ hk => hk.2) (.int .i64 t428)) (fun _ hk => hk.2) (.slice Ao83 t429.length co83)) (fun _ h_ => h_.1))) hb);replace HO431 := a_ (Kd.S_below (by (with_reducible repeat (first | apply Kd.S_alloc | apply Kd.S_drewN | apply Kd.S_drew));exact (Kd.S_mono (Kd.S_far (p := ⟨gb432, 2, none⟩) (Kd.S_far (p := ⟨gb432, 1, none⟩) (Kd.S_far (p := ⟨gb432, 0, none⟩) (Kd.S_types HO431.out BK432.out (by decide)) (fun _ hk => hk.2) (.int .i64 t427)) (fun _ hk => hk.2) (.int .i64 t428)) (fun _ hk => hk.2) (.slice Ao83 t429.length co83)) (fun _ h_ => h_.1))) hb);replace BK391 := a_ (blk_below (g := gb391) (o := .cells #[.int .i64 t386, .int .i64 t387, .slice Ao32 t388.length co32] 26 (0, 0)) (by (with_reducible repeat (first | refine blk_drewN ?_ _ | refine blk_drew ?_ | refine blk_alloc ?_ _));refine blk_far ?_ NB391_432.out _;(with_reducible repeat (first | refine blk_drewN ?_ _ | refine blk_drew ?_ | refine blk_alloc ?_ _));refine blk_far ?_ NB391_432.out _;(with_reducible repeat (first | refine blk_drewN ?_ _ | refine blk_drew ?_ | refine blk_alloc ?_ _));refine blk_far ?_ NB391_432.out _;(with_reducible repeat (first | refine blk_drewN ?_ _ | refine blk_drew ?_ | refine blk_alloc ?_ _));exact BK391.out) hb);replace BK403 := a_ (blk_below (g := gb403) (o := .cells #[.int .i64 t398, .int .i64 t399, .slice Ao41 t400.length co41] 26 (0, 0)) (by (with_reducible repeat (first | refine blk_drewN ?_ _ | refine blk_drew ?_ | refine blk_alloc ?_ _));refine blk_far ?_ NB403_432.out _;(with_reducible repeat (first | refine blk_drewN ?_ _ | refine blk_drew ?_ | refine blk_alloc ?_ _));refine blk_far ?_ NB403_432.out _;(with_reducible repeat (first | refine blk_drewN ?_ _ | refine blk_drew ?_ | refine blk_alloc ?_ _));refine blk_far ?_ NB403_432.out _;(with_reducible repeat (first | refine blk_drewN ?_ _ | refine blk_drew ?_ | refine blk_alloc ?_ _));exact BK403.out) hb);replace BK432 := a_ (blk_below (g := gb432) (o := .cells #[.int .i64 t427, .int .i64 t428, .slice Ao83 t429.length co83] 26 (0, 0)) (by (with_reducible repeat (first | refine blk_drewN ?_ _ | refine blk_drew ?_ | refine blk_alloc ?_ _));refine blk_put (cs := #[.int .i64 t427, .int .i64 t428, .slice none 0 0]) ?_ 2 _ rfl;(with_reducible repeat (first | refine blk_drewN ?_ _ | refine blk_drew ?_ | refine blk_alloc ?_ _));refine blk_put (cs := #[.int .i64 t427, .int .i64 0, .slice none 0 0]) ?_ 1 _ rfl;(with_reducible repeat (first | refine blk_drewN ?_ _ | refine blk_drew ?_ | refine blk_alloc ?_ _));refine blk_put (cs := #[.int .i64 0, .int .i64 0, .slice none 0 0]) ?_ 0 _ rfl;(with_reducible repeat (first | refine blk_drewN ?_ _ | refine blk_drew ?_ | refine blk_alloc ?_ _));exact BK432.out) hb);replace HB := a_ (below_step (bw3_ HB.out GE391.out GE403.out GE432.out) hb);(try clear hb);(try clear hb2);(try clear hk);(try clear hi);have hcz86_0 : w85.cell? ⟨gb403, 0, none⟩ = some (.int .i64 t398) := (blk_cell BK403.out 0).trans rfl;have hcz86_1 : w85.cell? ⟨gb403, 1, none⟩ = some (.int .i64 t399) := (blk_cell BK403.out 1).trans rfl;have hcz86_2 : w85.cell? ⟨gb403, 2, none⟩ = some (.slice Ao41 t400.length co41) := (blk_cell BK403.out 2).trans rfl;have hfz86_0 := blk_frozen BK403.out 0;have hfz86_1 := blk_frozen BK403.out 1;have hfz86_2 := blk_frozen BK403.out 2) | ((with_reducible refine gate_callee (f := 14) rfl ?_);refine goesL_ (some 91) rfl rfl Try.func14 (by kernel_rfl) rfl #[.agg #[.int .i64 t398, .int .i64 t399, .slice Ao41 t419.length co41], .int .i64 1] rfl (by (try simp only [List.map_toArray, List.map_cons, List.map_nil]);first | done | (rw [show t419.length = t400.length from (Kd.S_reads' HO_404002.out).1.symm] <;> rfl) | rfl | (simp only [List.length_drop, List.length_take];rfl)) ?_;(with_reducible refine (laws_heldHunksResult.calls kj23 t398 t399 _ _ t419 1 t434 _ ?side1 ?side2 A66.out).mono ?_);(case side1 => exact rc_ (Kd.S_reads' HO_404002.out).2.2);(case side2 => rw [show t419.length = t400.length from (Kd.S_reads' HO_404002.out).1.symm];exact (Kd.S_reads' HO_404002.out).2.1);rintro e w87 ⟨rfl, hb⟩;refine ⟨_, rfl, ?_⟩;replace HO_392002 := a_ (Kd.S_below (rs_ HO_392002.out) hb);replace HO_404002 := a_ (Kd.S_below (rs_ HO_404002.out) hb);replace HO423 := a_ (Kd.R_below (rr_ HO423.out) hb);replace HO426 := a_ (Kd.R_below (rr_ HO426.out) hb);replace HO431 := a_ (Kd.S_below (rs_ HO431.out) hb);replace BK391 := a_ (bb_ BK391.out hb);replace BK403 := a_ (bb_ BK403.out hb);replace BK432 := a_ (bb_ BK432.out hb);replace HB := a_ (below_step (bw3_ HB.out GE391.out GE403.out GE432.out) hb);(try clear hb);(try clear hb2);(try clear hk);(try clear hi)));go_ret;exact ⟨by first | rfl | (simp [errW_none, errW_some] <;> rfl) | (simp [*, errW_none, errW_some] <;> rfl), bw3_ HB.out GE391.out GE403.out GE432.out⟩
end Go.Proofs.Ytelngmkfjpcbgaa.P
end
section
set_option linter.unusedVariables false
namespace Go.Proofs.Ytelngmkfjpcbgaa.P
open Go.RowKit Go.Proofs.YtelngmkfjpcbgaaW.PrintWords Go.Proofs.YtelngmkfjpcbgaaW.PrintLast
namespace UFnExactHunksOf
def Pure : Prop := ∀ (l0 : List ByteArray) (l1 : List ByteArray) (a2 : Int), (l0.length ≤ 9223372036854775807 ∧ ∀ x ∈ l0, x.size ≤ 9223372036854775807) → (l1.length ≤ 9223372036854775807 ∧ ∀ x ∈ l1, x.size ≤ 9223372036854775807) → ((Lit.int .i64 a2).wf = true) → ∃ k, laws_FnExactHunksOf.f k l0 l1 a2 = some true
end UFnExactHunksOf
end Go.Proofs.Ytelngmkfjpcbgaa.P
end
section
set_option linter.unusedVariables false
set_option linter.unusedSimpArgs false
namespace Go.Proofs.Ytelngmkfjpcbgaa.P
open Go.RowKit Go.Proofs.YtelngmkfjpcbgaaW.PrintWords Go.Proofs.YtelngmkfjpcbgaaW.PrintLast
theorem wid {x : Int} (h0 : -9223372036854775808 ≤ x) (h1 : x ≤ 9223372036854775807) : wrap64 x = x := by
 unfold wrap64;omega
theorem wsucc {i n : Nat} (h : i < n) (hn : n ≤ 9223372036854775807) : wrap64 ((i : Int) + 1) = ((i + 1 : Nat) : Int) := by
 rw [wid (by omega) (by omega)];rfl
theorem Ev_if {α : Type} {c : Prop} [Decidable c] {a b : Nat → Option α} {r : α} (hp : c → Ev a r) (hn : ¬ c → Ev b r) : Ev (fun k => if c then a k else b k) r := by
 by_cases h : c;(·exact (hp h).congr (fun k => if_pos h));exact (hn h).congr (fun k => if_neg h)
theorem Ev_pos {α : Type} {c : Prop} [Decidable c] {a b : Nat → Option α} {r : α} (hc : c) (h : Ev a r) : Ev (fun k => if c then a k else b k) r := h.congr (fun k => if_pos hc)
theorem Ev_neg {α : Type} {c : Prop} [Decidable c] {a b : Nat → Option α} {r : α} (hc : ¬ c) (h : Ev b r) : Ev (fun k => if c then a k else b k) r := h.congr (fun k => if_neg hc)
theorem Ev_call {α β : Type} {g : Nat → Option α} {f : Nat → α → Option β} {a : α} {r : β} (h : Ev g a) (k : Ev (fun n => f n a) r) : Ev (fun n => (g n).bind (f n)) r := Ev.bind h k
theorem Ev_const {α β : Type} {g : Option α} {f : Nat → α → Option β} {a : α} {r : β} (h : g = some a) (k : Ev (fun n => f n a) r) : Ev (fun n => g.bind (f n)) r :=
  Ev.bind (g := fun _ => g) ⟨0, fun _ _ => h⟩ k
theorem Ev_eq {α : Type} {g : Nat → Option α} {r r' : α} (h : Ev g r) (e : r = r') : Ev g r' := e ▸ h
theorem Ev_val {α : Type} {r r' : α} (h : r = r') : Ev (fun _ => some r) r' := ⟨0, fun _ _ => by rw [h]⟩
theorem rd_nat {α : Type} (d : α) {xs : List α} {i : Nat} (h : i < xs.length) : rdOf d xs (i : Int) = xs[i] := by
 unfold rdOf;rw [Int.toNat_natCast, List.getD_eq_getElem?_getD, List.getElem?_eq_getElem h];rfl
theorem rdi_nat {xs : List Int} {i : Nat} (h : i < xs.length) : rd xs (i : Int) = xs[i] := by
 unfold rd;rw [Int.toNat_natCast, List.getD_eq_getElem?_getD, List.getElem?_eq_getElem h];rfl
theorem bt_nat {s : ByteArray} {i : Nat} (h : i < s.data.toList.length) : bt s (i : Int) = ((s.data.toList[i]).toNat : Int) := by
 (have h' : i < s.size := by simpa using h);unfold bt;rw [dif_pos (by rw [Int.toNat_natCast];exact h')];simp [ByteArray.getElem_eq_getElem_data]
theorem data_eq {a b : ByteArray} : a.toList = b.toList ↔ a = b := by
 rw [ByteArray.toList_eq, ByteArray.toList_eq];constructor;rotate_left;(·rintro rfl;rfl);intro h;cases a;cases b;simpa using h
theorem toList_nil {a : ByteArray} : a.toList = ([] : List UInt8) ↔ a.data.toList = [] := by rw [ByteArray.toList_eq]
theorem size_data (a : ByteArray) : a.data.toList.length = a.size := by simp
theorem drop_at {α : Type} {xs : List α} {i : Nat} (h : i < xs.length) : xs.drop i = xs[i] :: xs.drop (i + 1) := List.drop_eq_getElem_cons h
def total : List ByteArray → Nat
  | [] => 0
  | x :: l => x.size + total l
end Go.Proofs.Ytelngmkfjpcbgaa.P
end
section
set_option linter.unusedVariables false
set_option linter.unusedSimpArgs false
namespace Go.Proofs.Ytelngmkfjpcbgaa.P
open Go.RowKit
theorem index_low (l : List UInt8) (c : UInt8) : -1 ≤ Lib.indexByte l c := by
 induction l with
 | nil => simp [Lib.indexByte]
 | cons b l ih =>
  unfold Lib.indexByte;split;(·omega);split;(·omega);omega
theorem index_mem (l : List UInt8) (c : UInt8) : Lib.indexByte l c ≥ 0 ↔ c ∈ l := by
 induction l with
 | nil => simp [Lib.indexByte]
 | cons b l ih =>
  have hl := index_low l c;unfold Lib.indexByte;by_cases h : b = c;(·subst h;simp);(have h2 : (b == c) = false := by simpa using h);rw [h2, List.mem_cons];(have h3 : ¬ c = b := fun e => h e.symm);by_cases h4 : Lib.indexByte l c = -1;(·(have h5 : (Lib.indexByte l c == -1) = true := by simpa using h4);rw [h5];(have : ¬ c ∈ l := fun hm => by have := ih.2 hm;omega);simp [h3, this]);(have h5 : (Lib.indexByte l c == -1) = false := by simpa using h4);rw [h5];have : c ∈ l := ih.1 (by omega);simp [this];omega
def lineEnd : List UInt8 → Nat
  | [] => 0
  | c :: l => if c = 10 then 0 else lineEnd l + 1
theorem lineEnd_le (l : List UInt8) : lineEnd l ≤ l.length := by
 induction l with
 | nil => simp [lineEnd]
 | cons c l ih =>
  unfold lineEnd;split;(·omega);simp;omega
theorem lineEnd_mem (l : List UInt8) : lineEnd l < l.length ↔ 10 ∈ l := by
 induction l with
 | nil => simp [lineEnd]
 | cons c l ih =>
  unfold lineEnd;by_cases h : c = 10;(·subst h;simp);rw [if_neg h, List.length_cons, List.mem_cons];(have h2 : ¬ (10 : UInt8) = c := fun e => h e.symm);simp only [h2, false_or];rw [← ih];omega
theorem lineEnd_early (l : List UInt8) : lineEnd l < l.length - 1 ↔ 10 ∈ l.dropLast := by
 induction l with
 | nil => simp [lineEnd]
 | cons c l ih =>
  cases l with
  | nil =>
   simp [lineEnd]
  | cons d l =>
   unfold lineEnd;by_cases h : c = 10;(·subst h;simp);rw [if_neg h, List.dropLast_cons_cons, List.mem_cons];(have h2 : ¬ (10 : UInt8) = c := fun e => h e.symm);simp only [h2, false_or];rw [← ih];simp only [List.length_cons];omega
theorem suffix_last (l : List UInt8) : Lib.hasSuffix l [10] = true ↔ ∃ r, l = r ++ [10] := by
 unfold Lib.hasSuffix;rw [List.isSuffixOf_iff_suffix];constructor;(·rintro ⟨r, h⟩;exact ⟨r, h.symm⟩);rintro ⟨r, h⟩;exact ⟨r, h.symm⟩
theorem suffix_iff (l : List UInt8) (h : ¬ 10 ∈ l.dropLast) : Lib.hasSuffix l [10] = true ↔ 10 ∈ l := by
 rw [suffix_last];constructor;(·rintro ⟨r, rfl⟩;simp);intro hm;(have hne : l ≠ [] := by rintro rfl;simp at hm);have e := List.dropLast_concat_getLast hne;rw [← e] at hm;(rcases List.mem_append.1 hm with h1 | h1);(·exact absurd h1 h);refine ⟨l.dropLast, ?_⟩;(have h2 : (10 : UInt8) = l.getLast hne := by simpa using h1);rw [h2];exact e.symm
end Go.Proofs.Ytelngmkfjpcbgaa.P
end
section
set_option linter.unusedVariables false
set_option linter.unusedSimpArgs false
namespace Go.Proofs.Ytelngmkfjpcbgaa.P
open Go.RowKit Go.Proofs.YtelngmkfjpcbgaaW.PrintWords Go.Proofs.YtelngmkfjpcbgaaW.PrintLast
theorem ended_loop (s : ByteArray) (hs : s.size ≤ 9223372036854775807) : ∀ (d i : Nat), s.size - i = d → i ≤ s.size → Ev (fun k => spec_l1Ended.l0 k s (i : Int)) (((i + lineEnd (s.data.toList.drop i) : Nat)) : Int) := by
 intro d
 induction d with
 | zero =>
  intro i hd hi;refine Ev.step (fun k => by rw [spec_l1Ended.l0]) (Ev_neg (by omega) (Ev_val ?_));rw [List.drop_eq_nil_of_le (by rw [size_data];omega)];simp only [lineEnd];omega
 | succ d ih =>
  intro i hd hi;(have hlt : i < s.data.toList.length := by rw [size_data];omega);refine Ev.step (fun k => by rw [spec_l1Ended.l0]) (Ev_pos (by omega) (Ev_pos (by omega) ?_));rw [bt_nat hlt, drop_at hlt, wsucc (n := s.size) (by omega) hs];refine Ev_if (fun h => Ev_val ?_) (fun h => Ev_eq (ih (i + 1) (by omega) (by omega)) ?_);rotate_left;(·(have : ¬ s.data.toList[i] = 10 := fun e => h (by rw [e];rfl));rw [lineEnd, if_neg this];omega);(have : s.data.toList[i] = 10 := by apply UInt8.toNat_inj.1;(have h2 : s.data.toList[i].toNat = 10 := by omega);exact h2);rw [lineEnd, if_pos this];rfl
theorem ended_tells (s : ByteArray) (hs : s.size ≤ 9223372036854775807) : Ev (fun k => spec_l1Ended.f k s) ((lineEnd s.data.toList : Nat) : Int) := by
 unfold spec_l1Ended.f;have h := ended_loop s hs _ 0 rfl (by omega);rw [List.drop_zero, Nat.zero_add] at h;exact h
def lineBad (s : List UInt8) (last : Bool) : Bool := decide (s = [] ∨ 10 ∈ s.dropLast ∨ (¬ 10 ∈ s ∧ last = false))
def linesBad : List ByteArray → Bool
  | [] => false
  | x :: r => lineBad x.data.toList (decide (r = [])) || linesBad r
theorem lb_go {x : ByteArray} {r : List ByteArray} (h : lineBad x.data.toList (decide (r = [])) = false) : (if linesBad r then (1 : Int) else 0) = if linesBad (x :: r) then 1 else 0 := by
 unfold linesBad;rw [h, Bool.false_or];cases r <;> rfl
theorem lb_end {x : ByteArray} {r : List ByteArray} (h : lineBad x.data.toList (decide (r = [])) = true) : (1 : Int) = if linesBad (x :: r) then 1 else 0 := by
 unfold linesBad;rw [h, Bool.true_or];rfl
def LF (xs : List ByteArray) : Int := if xs.length > 100 ∨ total xs > 2000 then 2 else if linesBad xs then 1 else 0
theorem slf_loop1 (xs : List ByteArray) (hx : ∀ x ∈ xs, x.size ≤ 9223372036854775807) (hl : xs.length ≤ 9223372036854775807) : ∀ (d i : Nat), xs.length - i = d → i ≤ xs.length →
    Ev (fun k => spec_LinesFault.l1 k xs (i : Int)) (if linesBad (xs.drop i) then 1 else 0) := by
 intro d
 induction d with
 | zero =>
  intro i hd hi;refine Ev.step (fun k => by rw [spec_LinesFault.l1]) (Ev_neg (by omega) (Ev_val ?_));rw [List.drop_eq_nil_of_le (by omega)];rfl
 | succ d ih =>
  intro i hd hi;(have hlt : i < xs.length := by omega);have hs := hx xs[i] (List.getElem_mem hlt);refine Ev.step (fun k => by rw [spec_LinesFault.l1]) (Ev_pos (by omega) (Ev_pos (by omega) ?_));rw [rd_nat _ hlt, drop_at hlt, wsucc hlt hl];refine Ev_call (ended_tells _ hs) ?_;have hle := lineEnd_le xs[i].data.toList;rw [size_data] at hle;(have hrest : xs.drop (i + 1) = [] ↔ i + 1 = xs.length := by rw [List.drop_eq_nil_iff];omega);refine Ev_if (fun h => Ev_val ?_) (fun h => ?_);(·have h2 := toList_nil.1 h;exact lb_end (by simp [lineBad, h2]));(have hne : ¬ xs[i].data.toList = [] := fun e => h (toList_nil.2 e));(have h0 : xs[i].data.toList.length ≠ 0 := fun e => hne (List.length_eq_zero_iff.1 e));rw [size_data] at h0;rw [wid (by omega) (by omega)];have hearly := lineEnd_early xs[i].data.toList;rw [size_data] at hearly;have hmem := lineEnd_mem xs[i].data.toList;rw [size_data] at hmem;refine Ev_if (fun h => Ev_val ?_) (fun h => ?_);(·have h2 : 10 ∈ xs[i].data.toList.dropLast := hearly.1 (by omega);exact lb_end (by simp [lineBad, h2]));(have hn2 : ¬ 10 ∈ xs[i].data.toList.dropLast := fun e => h (by have := hearly.2 e;omega));(have go : (¬ 10 ∈ xs[i].data.toList → i + 1 = xs.length) → Ev (fun k => spec_LinesFault.l1 k xs ((i + 1 : Nat) : Int)) (if linesBad (xs[i] :: xs.drop (i + 1)) then 1 else 0) := by intro hg;refine Ev_eq (ih (i + 1) (by omega) (by omega)) ?_;(have : lineBad xs[i].data.toList (decide (xs.drop (i + 1) = [])) = false := by unfold lineBad;rw [decide_eq_false_iff_not];rintro (h1 | h1 | ⟨h1, h2⟩);(·exact hne h1);(·exact hn2 h1);rw [decide_eq_false_iff_not, hrest] at h2;exact h2 (hg h1));exact lb_go this);refine Ev_if (fun h => ?_) (fun h => ?_);rotate_left;(·exact go (fun hno => absurd (hmem.1 (by omega)) hno));(have hno : ¬ 10 ∈ xs[i].data.toList := fun e => by have := hmem.2 e;omega);rw [wid (by omega) (by omega)];refine Ev_if (fun h3 => Ev_val ?_) (fun h3 => go (fun _ => by omega));(have : lineBad xs[i].data.toList (decide (xs.drop (i + 1) = [])) = true := by unfold lineBad;rw [decide_eq_true_iff];refine .inr (.inr ⟨hno, ?_⟩);rw [decide_eq_false_iff_not, hrest];omega);exact lb_end this
theorem slf_loop0 (xs : List ByteArray) (hx : ∀ x ∈ xs, x.size ≤ 9223372036854775807) (hl : xs.length ≤ 9223372036854775807) (hb : total xs ≤ 9223372036854775807) : ∀ (d i n : Nat), xs.length - i = d → i ≤ xs.length → n + total (xs.drop i) = total xs →
    Ev (fun k => spec_LinesFault.l0 k xs (n : Int) (i : Int)) (LF xs) := by
 intro d
 induction d with
 | zero =>
  intro i n hd hi hn;rw [List.drop_eq_nil_of_le (by omega)] at hn;simp only [total, Nat.add_zero] at hn;refine Ev.step (fun k => by rw [spec_LinesFault.l0]) (Ev_neg (by omega) ?_);(have body : ∀ b : Bool, b = decide (xs.length > 100 ∨ total xs > 2000) → Ev (fun k => spec_LinesFault.j1 k xs b) (LF xs) := by intro b hb2;refine Ev.step (fun k => by rw [spec_LinesFault.j1]) ?_;unfold LF;rw [hb2];refine Ev_if (fun h => Ev_val ?_) (fun h => ?_);(·rw [if_pos (of_decide_eq_true h)]);rw [if_neg (fun e => h (decide_eq_true e))];have := slf_loop1 xs hx hl _ 0 rfl (by omega);rw [List.drop_zero] at this;exact this);refine Ev_if (fun h => body _ ?_) (fun h => body _ ?_);rotate_left;(·rw [decide_eq_decide];omega);symm;rw [decide_eq_true_iff];exact .inl (by omega)
 | succ d ih =>
  intro i n hd hi hn;(have hlt : i < xs.length := by omega);rw [drop_at hlt] at hn;simp only [total] at hn;refine Ev.step (fun k => by rw [spec_LinesFault.l0]) (Ev_pos (by omega) (Ev_pos (by omega) ?_));rw [rd_nat _ hlt, wsucc hlt hl, wid (by omega) (by omega), show (n : Int) + (xs[i].size : Int) = ((n + xs[i].size : Nat) : Int) by omega];exact ih (i + 1) (n + xs[i].size) (by omega) (by omega) (by omega)
theorem slf_tells (xs : List ByteArray) (hx : ∀ x ∈ xs, x.size ≤ 9223372036854775807) (hl : xs.length ≤ 9223372036854775807) (hb : total xs ≤ 9223372036854775807) : Ev (fun k => spec_LinesFault.f k xs) (LF xs) := by
 unfold spec_LinesFault.f;exact slf_loop0 xs hx hl hb _ 0 0 rfl (by omega) (by simp)
theorem isLine_tells (s : ByteArray) (hs : s.size ≤ 9223372036854775807) : impl_isLine.f s = some (decide (¬ (s.data.toList = [] ∨ 10 ∈ s.data.toList.dropLast))) := by
 unfold impl_isLine.f;by_cases h : s.data.toList = [];(·rw [if_pos (toList_nil.2 h)];simp [h]);(have h0 : s.data.toList.length ≠ 0 := fun e => h (List.length_eq_zero_iff.1 e));rw [size_data] at h0;rw [if_neg (fun e => h (toList_nil.1 e)), wid (by omega) (by omega), if_pos (by omega), if_pos (by omega)];(have he : (s.extract 0 ((s.size : Int) - 1).toNat).data.toList = s.data.toList.dropLast := by rw [← ByteArray.toList_eq, Lib.extract_toList, List.drop_zero, List.dropLast_eq_take, size_data];congr 1;omega);unfold strings_Contains.f;simp only [Option.bind_some];rw [he];congr 1;have hi := index_mem s.data.toList.dropLast 10;by_cases hm : 10 ∈ s.data.toList.dropLast;(·have : (0 : Int) ≤ Lib.indexByte s.data.toList.dropLast 10 := hi.2 hm;simp [hm, this]);(have : ¬ (0 : Int) ≤ Lib.indexByte s.data.toList.dropLast 10 := fun e => hm (hi.1 e));simp only [this, hm, h];simp
theorem isWhole_tells (s : ByteArray) (hs : s.size ≤ 9223372036854775807) : impl_isWhole.f s = some (Lib.hasSuffix s.data.toList [10]) := by
 unfold impl_isWhole.f strings_HasSuffix.f;rw [if_pos hs];rfl
theorem ilf_loop (xs : List ByteArray) (hx : ∀ x ∈ xs, x.size ≤ 9223372036854775807) (hl : xs.length ≤ 9223372036854775807) : ∀ (d i : Nat), xs.length - i = d → i ≤ xs.length →
    Ev (fun k => impl_LinesFault.l0 k xs xs (xs.length : Int) (i : Int)) (if linesBad (xs.drop i) then 1 else 0) := by
 intro d
 induction d with
 | zero =>
  intro i hd hi;refine Ev.step (fun k => by rw [impl_LinesFault.l0]) (Ev_neg (by omega) (Ev_val ?_));rw [List.drop_eq_nil_of_le (by omega)];rfl
 | succ d ih =>
  intro i hd hi;(have hlt : i < xs.length := by omega);have hs := hx xs[i] (List.getElem_mem hlt);(have hrest : xs.drop (i + 1) = [] ↔ i + 1 = xs.length := by rw [List.drop_eq_nil_iff];omega);refine Ev.step (fun k => by rw [impl_LinesFault.l0]) (Ev_pos (by omega) (Ev_pos (by omega) (Ev_pos (by omega) ?_)));rw [rd_nat _ hlt, drop_at hlt, wsucc hlt hl];refine Ev_const (isLine_tells _ hs) ?_;refine Ev_if (fun h => ?_) (fun h => Ev_val ?_);rotate_left;(·have h2 : xs[i].data.toList = [] ∨ 10 ∈ xs[i].data.toList.dropLast := Classical.byContradiction (fun e => h (decide_eq_true e));(have : lineBad xs[i].data.toList (decide (xs.drop (i + 1) = [])) = true := by unfold lineBad;rw [decide_eq_true_iff];(rcases h2 with h2 | h2);(·exact .inl h2);exact .inr (.inl h2));exact lb_end this);have h := of_decide_eq_true h;(have hne : ¬ xs[i].data.toList = [] := fun e => h (.inl e));(have hn2 : ¬ 10 ∈ xs[i].data.toList.dropLast := fun e => h (.inr e));(have go : (¬ 10 ∈ xs[i].data.toList → i + 1 = xs.length) → Ev (fun k => impl_LinesFault.l0 k xs xs (xs.length : Int) ((i + 1 : Nat) : Int)) (if linesBad (xs[i] :: xs.drop (i + 1)) then 1 else 0) := by intro hg;refine Ev_eq (ih (i + 1) (by omega) (by omega)) ?_;(have : lineBad xs[i].data.toList (decide (xs.drop (i + 1) = [])) = false := by unfold lineBad;rw [decide_eq_false_iff_not];rintro (h1 | h1 | ⟨h1, h2⟩);(·exact hne h1);(·exact hn2 h1);rw [decide_eq_false_iff_not, hrest] at h2;exact h2 (hg h1));exact lb_go this);have hsuf := suffix_iff _ hn2;refine Ev_const (isWhole_tells _ hs) (Ev_if (fun h3 => go (fun hno => absurd (hsuf.1 h3) hno)) (fun h3 => ?_));rw [wid (by omega) (by omega)];refine Ev_if (fun h4 => go (fun _ => by omega)) (fun h4 => Ev_val ?_);(have : lineBad xs[i].data.toList (decide (xs.drop (i + 1) = [])) = true := by unfold lineBad;rw [decide_eq_true_iff];refine .inr (.inr ⟨fun e => h3 (hsuf.2 e), ?_⟩);rw [decide_eq_false_iff_not, hrest];omega);exact lb_end this
theorem join_flat (xs : List ByteArray) : Lib.join (xs.map (·.data.toList)) [] = (xs.map (·.data.toList)).flatten := by
 unfold Lib.join
 induction xs with
 | nil => rfl
 | cons x l ih =>
  cases l with
  | nil => simp [List.intercalate]
  | cons y l =>
   simp only [List.map_cons, List.intercalate, List.intersperse, List.flatten_cons, List.nil_append] at ih ⊢;rw [ih]
theorem join_all (xs : List ByteArray) : (Lib.join (xs.map (·.data.toList)) []).length = total xs := by
 rw [join_flat]
 induction xs with
 | nil => rfl
 | cons x l ih =>
  rw [List.map_cons, List.flatten_cons, List.length_append, ih, size_data];rfl
theorem ilf_tells (xs : List ByteArray) (hx : ∀ x ∈ xs, x.size ≤ 9223372036854775807) (hl : xs.length ≤ 140737488355328) (hb : total xs ≤ 140737488355328) : Ev (fun k => impl_LinesFault.f k xs) (LF xs) := by
 unfold impl_LinesFault.f;(have body : ∀ b : Bool, b = decide (xs.length > 100 ∨ total xs > 2000) → Ev (fun k => impl_LinesFault.j0 k xs b) (LF xs) := by intro b hb2;refine Ev.step (fun k => by rw [impl_LinesFault.j0]) ?_;unfold LF;rw [hb2];refine Ev_if (fun h => Ev_val ?_) (fun h => ?_);(·rw [if_pos (of_decide_eq_true h)]);rw [if_neg (fun e => h (decide_eq_true e))];have := ilf_loop xs hx (by omega) _ 0 rfl (by omega);rw [List.drop_zero] at this;exact this);refine Ev_if (fun h => body _ ?_) (fun h => ?_);(·symm;rw [decide_eq_true_iff];exact .inl (by omega));have hj := join_all xs;refine Ev_const (a := ⟨(Lib.join (xs.map (·.data.toList)) []).toArray⟩) ?_ (body _ ?_);(·unfold strings_Join.f;exact if_pos ⟨hl, by show (Lib.join _ []).length ≤ _;omega⟩);rw [decide_eq_decide];(have : ((⟨(Lib.join (xs.map (·.data.toList)) []).toArray⟩ : ByteArray).size) = total xs := by rw [← hj];simp [ByteArray.size]);rw [this];omega
end Go.Proofs.Ytelngmkfjpcbgaa.P
end
section
namespace Go.Proofs.Ytelngmkfjpcbgaa.P
open Go.RowKit
theorem wsucc' {i : Nat} (hn : i < 9223372036854775807) : wrap64 ((i : Int) + 1) = ((i + 1 : Nat) : Int) := by
 rw [wid (by omega) (by omega)];omega
end Go.Proofs.Ytelngmkfjpcbgaa.P
end
section
set_option linter.unusedVariables false
namespace Go.Proofs.Ytelngmkfjpcbgaa.P
open Go.RowKit Go.Proofs.YtelngmkfjpcbgaaW.PrintWords Go.Proofs.YtelngmkfjpcbgaaW.PrintLast
theorem in_tells (x y z : Int) : spec_l1In.f x y z = some (decide (y ≤ x ∧ x ≤ z)) := by
 unfold spec_l1In.f;split;(·rename_i h;(have h2 : y ≤ x := by omega);simp [h2]);rename_i h;(have h2 : ¬ y ≤ x := by omega);simp [h2]
theorem within_tells (x y z : Int) : impl_within.f x y z = some (decide (y ≤ x ∧ x ≤ z)) := by
 unfold impl_within.f;split;(·rename_i h;(have h2 : y ≤ x := by omega);simp [h2]);rename_i h;(have h2 : ¬ y ≤ x := by omega);simp [h2]
end Go.Proofs.Ytelngmkfjpcbgaa.P
end
section
namespace Go.Proofs.Ytelngmkfjpcbgaa.P
open Go.RowKit Go.Proofs.YtelngmkfjpcbgaaW.PrintWords Go.Proofs.YtelngmkfjpcbgaaW.PrintLast Go.Proofs.YtelngmkfjpcbgaaW.PrintMore
attribute [local go_sem] max2_int min2_int max_two min_two max_three min_three max_four min_four
end Go.Proofs.Ytelngmkfjpcbgaa.P
end
section
namespace Go.Proofs.Ytelngmkfjpcbgaa.P
open Go.RowKit Go.Proofs.YtelngmkfjpcbgaaW.PrintWords Go.Proofs.YtelngmkfjpcbgaaW.PrintLast Go.Proofs.YtelngmkfjpcbgaaW.PrintMore
attribute [local go_sem] max2_int min2_int max_two min_two max_three min_three max_four min_four
end Go.Proofs.Ytelngmkfjpcbgaa.P
end
section
set_option linter.unusedVariables false
set_option linter.unusedSimpArgs false
namespace Go.Proofs.Ytelngmkfjpcbgaa.P
open Go.RowKit Go.Proofs.YtelngmkfjpcbgaaW.PrintWords Go.Proofs.YtelngmkfjpcbgaaW.PrintLast
theorem sz_loop (xs : List ByteArray) (hx : ∀ x ∈ xs, x.size ≤ 9223372036854775807) (hl : xs.length ≤ 9223372036854775807) : ∀ (d i : Nat) (n : Int), xs.length - i = d → i ≤ xs.length → 0 ≤ n → n ≤ 1048576 →
    ∃ r, Ev (fun k => laws_szStringS.l0 k xs n (i : Int)) r ∧ (r < 0 ∨ (0 ≤ r ∧ r ≤ n ∧ (total (xs.drop i) : Int) = n - r)) := by
 intro d
 induction d with
 | zero =>
  intro i n hd hi h0 h1;(have : i = xs.length := by omega);subst this;refine ⟨n, Ev.step (fun k => by rw [laws_szStringS.l0]) (Ev_neg (by omega) (Ev.now _)), .inr ⟨h0, Int.le_refl _, ?_⟩⟩;rw [List.drop_length];simp [total]
 | succ d ih =>
  intro i n hd hi h0 h1;(have hlt : i < xs.length := by omega);have hs := hx xs[i] (List.getElem_mem hlt);by_cases hc : n - (xs[i].size : Int) < 0;(·refine ⟨-1, Ev.step (fun k => by rw [laws_szStringS.l0]) (Ev_pos (by omega) (Ev_pos (by omega) ?_)), .inl (by omega)⟩;rw [rd_nat _ hlt, wid (by omega) (by omega)];exact Ev_pos hc (Ev.now _));obtain ⟨r, hr, hp⟩ := ih (i + 1) (n - (xs[i].size : Int)) (by omega) (by omega) (by omega) (by omega);refine ⟨r, Ev.step (fun k => by rw [laws_szStringS.l0]) (Ev_pos (by omega) (Ev_pos (by omega) ?_)), ?_⟩;(·rw [rd_nat _ hlt, wid (by omega) (by omega), wsucc hlt hl];exact Ev_neg hc hr);(rcases hp with hp | ⟨h2, h3, h4⟩);(·exact .inl hp);refine .inr ⟨h2, by omega, ?_⟩;rw [drop_at hlt];simp only [total];omega
theorem sz_tells (xs : List ByteArray) (hg : xs.length ≤ 9223372036854775807 ∧ ∀ x ∈ xs, x.size ≤ 9223372036854775807) (n : Int) (h0 : 0 ≤ n) (h1 : n ≤ 1048576) :
    ∃ r, Ev (fun k => laws_szStringS.f k xs n) r ∧ (r < 0 ∨ (0 ≤ r ∧ r ≤ n ∧ (xs.length : Int) + (total xs : Int) = n - r)) := by
 by_cases hc : n - (xs.length : Int) < 0;(·refine ⟨-1, ?_, .inl (by omega)⟩;unfold laws_szStringS.f;rw [wid (by omega) (by omega)];exact Ev_pos hc (Ev.now _));obtain ⟨r, hr, hp⟩ := sz_loop xs hg.2 hg.1 _ 0 (n - (xs.length : Int)) rfl (by omega) (by omega) (by omega);refine ⟨r, ?_, ?_⟩;(·unfold laws_szStringS.f;rw [wid (by omega) (by omega)];exact Ev_neg hc hr);(rcases hp with hp | ⟨h2, h3, h4⟩);(·exact .inl hp);rw [List.drop_zero] at h4;exact .inr ⟨h2, by omega, by omega⟩
theorem to_loop (xs : List ByteArray) (hl : xs.length ≤ 9223372036854775807) : ∀ (d i : Nat) (ys : List ByteArray), xs.length - i = d → i ≤ xs.length → ys.length = xs.length →
    Ev (fun k => laws_toStringS.l0 k xs ys (i : Int)) (ys.take i ++ xs.drop i) := by
 intro d
 induction d with
 | zero =>
  intro i ys hd hi hy;(have : i = xs.length := by omega);subst this;refine Ev.step (fun k => by rw [laws_toStringS.l0]) (Ev_neg (by omega) (Ev_val ?_));rw [List.drop_length, List.append_nil, ← hy, List.take_length]
 | succ d ih =>
  intro i ys hd hi hy;(have hlt : i < xs.length := by omega);refine Ev.step (fun k => by rw [laws_toStringS.l0]) (Ev_pos (by omega) (Ev_pos (by omega) (Ev_pos (by omega) ?_)));rw [rd_nat _ hlt, wsucc hlt hl, Int.toNat_natCast];have h := ih (i + 1) (ys.set i xs[i]) (by omega) (by omega) (by rw [List.length_set];exact hy);refine Ev_eq h ?_;rw [drop_at hlt, List.take_succ_eq_append_getElem (by rw [List.length_set];omega), List.getElem_set_self, List.take_set_of_le (by omega), List.append_assoc];rfl
theorem to_tells (xs : List ByteArray) (hl : xs.length ≤ 17592186044416) : Ev (fun k => laws_toStringS.f k xs) xs := by
 unfold laws_toStringS.f;refine Ev_pos (by omega) (Ev_pos (by rw [Int.toNat_natCast];exact hl) ?_);have h := to_loop xs (by omega) _ 0 (List.replicate ((xs.length : Int) : Int).toNat (⟨#[]⟩ : ByteArray)) rfl (by omega) (by simp);exact Ev_eq h (by simp)
theorem eq_loop (xs : List ByteArray) (hl : xs.length ≤ 9223372036854775807) : ∀ (d i : Nat), xs.length - i = d → i ≤ xs.length → Ev (fun k => laws_eqStringS.l0 k xs xs (i : Int)) true := by
 intro d
 induction d with
 | zero => intro i hd hi;exact Ev.step (fun k => by rw [laws_eqStringS.l0]) (Ev_neg (by omega) (Ev.now _))
 | succ d ih =>
  intro i hd hi;(have hlt : i < xs.length := by omega);refine Ev.step (fun k => by rw [laws_eqStringS.l0]) (Ev_pos (by omega) (Ev_pos (by omega) (Ev_pos (by omega) (Ev_pos rfl ?_))));rw [wsucc hlt hl];exact ih (i + 1) (by omega) (by omega)
theorem eq_tells (xs : List ByteArray) (hl : xs.length ≤ 9223372036854775807) : Ev (fun k => laws_eqStringS.f k xs xs) true := by
 unfold laws_eqStringS.f;exact Ev_pos rfl (eq_loop xs hl _ 0 rfl (by omega))
def Small (xs : List ByteArray) : Prop := (∀ x ∈ xs, x.size ≤ 9223372036854775807) ∧ xs.length ≤ 1048576 ∧ total xs ≤ 1048576
theorem Small.slf {xs : List ByteArray} (h : Small xs) : Ev (fun k => spec_LinesFault.f k xs) (LF xs) := slf_tells xs h.1 (by have := h.2.1;omega) (by have := h.2.2;omega)
theorem Small.ilf {xs : List ByteArray} (h : Small xs) : Ev (fun k => impl_LinesFault.f k xs) (LF xs) := ilf_tells xs h.1 (by have := h.2.1;omega) (by have := h.2.2;omega)
theorem LF_zero {xs : List ByteArray} (h : LF xs = 0) : xs.length ≤ 100 ∧ total xs ≤ 2000 ∧ linesBad xs = false := by
 unfold LF at h;split at h;(·omega);rename_i h1;split at h;(·omega);rename_i h2;exact ⟨by omega, by omega, by simpa using h2⟩
def LF2 (a b : List ByteArray) : Int := if LF a = 0 then LF b else LF a
theorem LF2_zero {a b : List ByteArray} (h : LF2 a b = 0) : LF a = 0 ∧ LF b = 0 := by
 unfold LF2 at h;split at h;(·exact ⟨by assumption, h⟩);exact absurd h (by assumption)
theorem asked_tells {a b : List ByteArray} (ha : Small a) (hb : Small b) : Ev (fun k => spec_l2Asked.f k a b) (LF2 a b) := by
 unfold spec_l2Asked.f LF2;refine Ev_call ha.slf (Ev_if (fun h => ?_) (fun h => ?_));(·rw [if_pos h];exact Ev_call hb.slf (Ev.now _));rw [if_neg h];exact Ev.now _
def firstOf : List Int → Int
  | [] => 0
  | c :: l => if c = 0 then firstOf l else c
theorem first_loop (xs : List Int) (hl : xs.length ≤ 9223372036854775807) : ∀ (d i : Nat), xs.length - i = d → i ≤ xs.length → Ev (fun k => impl_firstCode.l0 k xs (xs.length : Int) (i : Int)) (firstOf (xs.drop i)) := by
 intro d
 induction d with
 | zero =>
  intro i hd hi;refine Ev.step (fun k => by rw [impl_firstCode.l0]) (Ev_neg (by omega) (Ev_val ?_));rw [List.drop_eq_nil_of_le (by omega)];rfl
 | succ d ih =>
  intro i hd hi;(have hlt : i < xs.length := by omega);refine Ev.step (fun k => by rw [impl_firstCode.l0]) (Ev_pos (by omega) (Ev_pos (by omega) (Ev_pos (by omega) ?_)));rw [rdi_nat hlt, drop_at hlt, wsucc hlt hl, firstOf];refine Ev_if (fun h => ?_) (fun h => ?_);(·rw [if_pos h];exact ih (i + 1) (by omega) (by omega));rw [if_neg h];exact Ev.now _
theorem first_tells (xs : List Int) (hl : xs.length ≤ 9223372036854775807) : Ev (fun k => impl_firstCode.f k xs) (firstOf xs) := by
 unfold impl_firstCode.f;have := first_loop xs hl _ 0 rfl (by omega);rw [List.drop_zero] at this;exact this
theorem both_tells {a b : List ByteArray} (ha : Small a) (hb : Small b) : Ev (fun k => impl_bothLines.f k a b) (LF2 a b) := by
 unfold impl_bothLines.f LF2;refine Ev_call ha.ilf (Ev_call hb.ilf (Ev_call (first_tells _ (by simp)) (Ev_val ?_)));simp only [firstOf];split;(·split <;> omega);rfl
theorem guard_lines (xs : List ByteArray) (hg : xs.length ≤ 9223372036854775807 ∧ ∀ x ∈ xs, x.size ≤ 9223372036854775807) (n : Int) (h0 : 0 ≤ n) (h1 : n ≤ 1048576) {F : Nat → Int → Option Bool}
    (h : ∀ r, 0 ≤ r → r ≤ n → Small xs → Ev (fun k => F k r) true) : Ev (fun k => (laws_szStringS.f k xs n).bind fun t => (if t < 0 then (some true) else F k t)) true := by
 obtain ⟨r, hr, hp⟩ := sz_tells xs hg n h0 h1;refine Ev_call hr ?_;(rcases hp with hp | ⟨h2, h3, h4⟩);(·exact Ev_pos hp (Ev.now _));exact Ev_neg (by omega) (h r h2 h3 ⟨hg.2, by omega, by omega⟩)
theorem Small.to {xs : List ByteArray} (h : Small xs) : Ev (fun k => laws_toStringS.f k xs) xs := to_tells xs (by have := h.2.1;omega)
theorem Small.eq {xs : List ByteArray} (h : Small xs) : Ev (fun k => laws_eqStringS.f k xs xs) true := eq_tells xs (by have := h.2.1;omega)
end Go.Proofs.Ytelngmkfjpcbgaa.P
end
section
set_option linter.unusedVariables false
namespace Go.Proofs.Ytelngmkfjpcbgaa.P
def lw (l : List ByteArray) : Nat := l.length + total l
theorem total_append (x y : List ByteArray) : total (x ++ y) = total x + total y := by
 induction x with
 | nil => simp [total]
 | cons a x ih => simp only [List.cons_append, total, ih];omega
theorem lw_small {x : List ByteArray} (h : ∀ a ∈ x, a.size ≤ 9223372036854775807) (hw : lw x ≤ 1048576) : Small x := ⟨h, by unfold lw at hw;omega, by unfold lw at hw;omega⟩
end Go.Proofs.Ytelngmkfjpcbgaa.P
end
section
namespace Go.Proofs.Ytelngmkfjpcbgaa.P
open Go.RowKit Go.Proofs.YtelngmkfjpcbgaaW.PrintWords Go.Proofs.YtelngmkfjpcbgaaW.PrintLast Go.Proofs.YtelngmkfjpcbgaaW.PrintMore
attribute [local go_sem] max2_int min2_int max_two min_two max_three min_three max_four min_four
end Go.Proofs.Ytelngmkfjpcbgaa.P
end
section
set_option linter.unusedVariables false
set_option linter.unusedSimpArgs false
namespace Go.Proofs.Ytelngmkfjpcbgaa.P
open Go.RowKit Go.Proofs.YtelngmkfjpcbgaaW.PrintWords Go.Proofs.YtelngmkfjpcbgaaW.PrintLast
def mk (s : ByteArray) : Int := bt s 0
def tl (s : ByteArray) : List UInt8 := s.data.toList.drop 1
def hbad (s : ByteArray) : Prop := s.size < 2 ∨ ¬ (mk s = 32 ∨ mk s = 45 ∨ mk s = 43) ∨ 10 ∈ (tl s).dropLast
instance (s : ByteArray) : Decidable (hbad s) := by unfold hbad;infer_instance
theorem tl_ext (s : ByteArray) : (s.extract 1 s.size).data.toList = tl s := by
 rw [← ByteArray.toList_eq, Lib.extract_toList];unfold tl;rw [List.take_of_length_le (by rw [List.length_drop, size_data];omega)]
theorem tl_len (s : ByteArray) : (tl s).length = s.size - 1 := by
 unfold tl;rw [List.length_drop, size_data]
theorem ext_size (s : ByteArray) : (s.extract 1 s.size).size = s.size - 1 := by
 rw [← size_data, tl_ext, tl_len]
def HB (l : List ByteArray) : Bool := l.any (fun s => decide (hbad s))
def hA : List ByteArray → Nat
  | [] => 0
  | s :: l => (if mk s = 43 then 0 else 1) + hA l
def hB : List ByteArray → Nat
  | [] => 0
  | s :: l => (if mk s = 45 then 0 else 1) + hB l
def hS : List ByteArray → Nat
  | [] => 0
  | s :: l => (if mk s = 32 then 1 else 0) + hS l
theorem hS_le : ∀ l, hS l ≤ l.length := by
 intro l
 induction l with
 | nil => simp [hS]
 | cons s l ih => simp only [hS, List.length_cons];split <;> omega
theorem eqh_tells (a b : Int) {l : List ByteArray} (h : Small l) : Ev (fun k => laws_eqHunk.f k a b l a b l) true := by
 unfold laws_eqHunk.f;exact Ev_pos rfl (Ev_pos rfl (Ev_call h.eq (Ev_pos rfl (Ev.now _))))
end Go.Proofs.Ytelngmkfjpcbgaa.P
end
section
namespace Go.Proofs.Ytelngmkfjpcbgaa.P
open Go.RowKit Go.Proofs.YtelngmkfjpcbgaaW.PrintWords Go.Proofs.YtelngmkfjpcbgaaW.PrintLast Go.Proofs.YtelngmkfjpcbgaaW.PrintMore
attribute [local go_sem] max2_int min2_int max_two min_two max_three min_three max_four min_four
end Go.Proofs.Ytelngmkfjpcbgaa.P
end
section
namespace Go.Proofs.Ytelngmkfjpcbgaa.P
open Go.RowKit Go.Proofs.YtelngmkfjpcbgaaW.PrintWords Go.Proofs.YtelngmkfjpcbgaaW.PrintLast Go.Proofs.YtelngmkfjpcbgaaW.PrintMore
attribute [local go_sem] max2_int min2_int max_two min_two max_three min_three max_four min_four
end Go.Proofs.Ytelngmkfjpcbgaa.P
end
section
set_option linter.unusedVariables false
set_option linter.unusedSimpArgs false
namespace Go.Proofs.Ytelngmkfjpcbgaa.P
open Go.RowKit Go.Proofs.YtelngmkfjpcbgaaW.PrintWords Go.Proofs.YtelngmkfjpcbgaaW.PrintLast
theorem rdh_nat {l : List S56} {i : Nat} (h : i < l.length) : rd_T56 l (i : Int) = l[i] := by
 unfold rd_T56;rw [Int.toNat_natCast, List.getD_eq_getElem?_getD, List.getElem?_eq_getElem h];rfl
def hw : List S56 → Nat
  | [] => 0
  | c :: l => lw c.f2 + hw l
theorem hw_at : ∀ (l : List S56) (i : Nat) (h : i < l.length), lw l[i].f2 ≤ hw l := by
 intro l
 induction l with
 | nil => intro i h;exact absurd h (by simp)
 | cons c l ih =>
  intro i h
  cases i with
  | zero => simp only [List.getElem_cons_zero, hw];omega
  | succ i => simp only [List.getElem_cons_succ, hw];have := ih i (by simpa using h);omega
def SmallH (l : List S56) : Prop := (∀ c ∈ l, ∀ a ∈ c.f2, a.size ≤ 9223372036854775807) ∧ l.length ≤ 1048576 ∧ hw l ≤ 1048576
theorem SmallH.at {l : List S56} (h : SmallH l) {i : Nat} (hi : i < l.length) : Small l[i].f2 :=
  lw_small (h.1 l[i] (List.getElem_mem hi)) (by have := hw_at l i hi;have := h.2.2;omega)
theorem eqhs_loop (xs : List S56) (hs : SmallH xs) : ∀ (d i : Nat), xs.length - i = d → i ≤ xs.length → Ev (fun k => laws_eqHunkS.l0 k xs xs (i : Int)) true := by
 have hl := hs.2.1;intro d
 induction d with
 | zero => intro i hd hi;exact Ev.step (fun k => by rw [laws_eqHunkS.l0]) (Ev_neg (by omega) (Ev.now _))
 | succ d ih =>
  intro i hd hi;(have hlt : i < xs.length := by omega);have hk := hs.at hlt;refine Ev.step (fun k => by rw [laws_eqHunkS.l0]) (Ev_pos (by omega) (Ev_pos (by omega) (Ev_pos (by omega) ?_)));rw [rdh_nat hlt, wsucc hlt (by omega)];exact Ev_call (eqh_tells _ _ hk) (Ev_pos rfl (ih (i + 1) (by omega) (by omega)))
theorem eqhs_tells {xs : List S56} (hs : SmallH xs) : Ev (fun k => laws_eqHunkS.f k xs xs) true := by
 unfold laws_eqHunkS.f;exact Ev_pos rfl (eqhs_loop xs hs _ 0 rfl (by omega))
theorem mtext_loop : ∀ (n : Nat) (s : ByteArray), n + s.size ≤ 4611686018427387904 → ∃ t, Ev (fun k => laws_markText.l0 k (n : Int) s) t := by
 intro n
 induction n using Nat.strongRecOn with
 | _ n ih =>
  intro s hs;by_cases h : n = 0;(·subst h;exact ⟨_, Ev.step (fun k => by rw [laws_markText.l0]) (Ev_neg (by omega) (Ev_pos (by omega) (Ev.now _)))⟩);(have hq : Int.tdiv (n : Int) 10 = ((n / 10 : Nat) : Int) := by rw [Int.tdiv_eq_ediv_of_nonneg (by omega)];omega);(have hsz : (strOfNums [(wrap64 (48 + (Int.tmod (n : Int) 10))) % 256] ++ s).size = 1 + s.size := by rw [ByteArray.size_append, strOfNums_size];rfl);obtain ⟨t, ht⟩ := ih (n / 10) (by omega) (strOfNums [(wrap64 (48 + (Int.tmod (n : Int) 10))) % 256] ++ s) (by rw [hsz];omega);refine ⟨t, Ev.step (fun k => by rw [laws_markText.l0]) (Ev_pos (by omega) ?_)⟩;refine Ev_const rfl ?_;refine Ev_pos (by rw [strOfNums_size];simp;omega) ?_;rw [hq, wid (by omega) (by omega)];exact ht
theorem mtext_some (n : Nat) (hn : n ≤ 4611686018427387904) : ∃ t, Ev (fun k => laws_markText.f k (n : Int)) t := by
 unfold laws_markText.f;by_cases h : n = 0;(·subst h;exact ⟨_, Ev_pos (by omega) (Ev.now _)⟩);obtain ⟨t, ht⟩ := mtext_loop n (⟨#[]⟩ : ByteArray) (by simp [ByteArray.size];exact hn);exact ⟨t, Ev_neg (by omega) ht⟩
noncomputable def mtx (n : Nat) : ByteArray := @Classical.epsilon ByteArray ⟨⟨#[]⟩⟩ (fun t => Ev (fun k => laws_markText.f k (n : Int)) t)
theorem mtx_tells (n : Nat) (hn : n ≤ 4611686018427387904) : Ev (fun k => laws_markText.f k (n : Int)) (mtx n) := @Classical.epsilon_spec _ _ (mtext_some n hn)
noncomputable def mks : Nat → Nat → List ByteArray
  | _, 0 => []
  | n, d + 1 => mtx n :: mks (n + 1) d
theorem mks_length : ∀ (d n : Nat), (mks n d).length = d
  | 0, _ => rfl
  | d + 1, n => by rw [mks, List.length_cons, mks_length d (n + 1)]
theorem mark_loop (L : Nat) (hL : L ≤ 1000000000) : ∀ (d i n : Nat) (x : List ByteArray), L - i = d → i ≤ L → x.length = L → n + d ≤ 4611686018427387904 →
    Ev (fun k => laws_markStringS.l0 k x (n : Int) (i : Int)) (((n + d : Nat) : Int), x.take i ++ mks n d) := by
 intro d
 induction d with
 | zero =>
  intro i n x hd hi hx hn;refine Ev.step (fun k => by rw [laws_markStringS.l0]) (Ev_neg (by omega) (Ev_val ?_));rw [mks, List.append_nil, List.take_of_length_le (by omega)];rfl
 | succ d ih =>
  intro i n x hd hi hx hn;refine Ev.step (fun k => by rw [laws_markStringS.l0]) (Ev_pos (by omega) ?_);refine Ev_call (mtx_tells n (by omega)) ?_;refine Ev_pos (by omega) ?_;rw [wsucc' (i := n) (by omega), wsucc' (i := i) (by omega), Int.toNat_natCast];refine Ev_eq (ih (i + 1) (n + 1) (x.set i (mtx n)) (by omega) (by omega) (by rw [List.length_set];exact hx) (by omega)) ?_;rw [mks, List.take_succ_eq_append_getElem (by rw [List.length_set];omega), List.getElem_set_self, List.take_set_of_le (by omega), List.append_assoc, show n + 1 + d = n + (d + 1) by omega];rfl
theorem mark_tells (x : List ByteArray) (n : Nat) (hx : x.length ≤ 1000000000) (hn : n ≤ 4611686017427387904) : Ev (fun k => laws_markStringS.f k x (n : Int)) (((n + x.length : Nat) : Int), mks n x.length) := by
 unfold laws_markStringS.f;have h := mark_loop x.length hx _ 0 n x rfl (by omega) rfl (by omega);rw [List.take_zero, List.nil_append, Nat.sub_zero] at h;exact h
theorem held_loop : ∀ (d n : Nat) (p : List ByteArray), p.length + d ≤ 1000000000 → n + d ≤ 4611686018427387904 → Ev (fun k => laws_heldStringS.l0 k (p ++ mks n d) (n : Int) (p.length : Int)) ((n + d : Nat) : Int) := by
 intro d
 induction d with
 | zero =>
  intro n p hp hn;refine Ev.step (fun k => by rw [laws_heldStringS.l0]) ?_;exact Ev_neg (by rw [mks, List.append_nil];omega) (Ev.now _)
 | succ d ih =>
  intro n p hp hn;(have hl : (p ++ mks n (d + 1)).length = p.length + (d + 1) := by rw [List.length_append, mks_length]);refine Ev.step (fun k => by rw [laws_heldStringS.l0]) (Ev_pos (by omega) (Ev_pos (by omega) ?_));refine Ev_call (mtx_tells n (by omega)) ?_;(have hg : rdOf ByteArray.empty (p ++ mks n (d + 1)) (p.length : Int) = mtx n := by rw [rd_nat _ (by omega), List.getElem_append_right (by omega)];simp [mks]);rw [hg, wsucc' (i := n) (by omega), wsucc' (i := p.length) (by omega)];refine Ev_pos rfl ?_;have h := ih (n + 1) (p ++ [mtx n]) (by simp;omega) (by omega);rw [List.append_assoc, List.length_append, List.length_singleton] at h;rw [show n + (d + 1) = n + 1 + d by omega, mks];exact h
theorem held_tells (n d : Nat) (hd : d ≤ 1000000000) (hn : n ≤ 4611686017427387904) : Ev (fun k => laws_heldStringS.f k (mks n d) (n : Int)) ((n + d : Nat) : Int) := by
 unfold laws_heldStringS.f;exact held_loop d n [] (by simp;exact hd) (by omega)
noncomputable def mkh : Nat → List S56 → List S56
  | _, [] => []
  | n, c :: l => ⟨(n : Int), ((n + 1 : Nat) : Int), mks (n + 2) c.f2.length⟩ :: mkh (n + 2 + c.f2.length) l
def hs : Nat → List S56 → Nat
  | n, [] => n
  | n, c :: l => hs (n + 2 + c.f2.length) l
theorem hs_ge : ∀ (l : List S56) (n : Nat), n ≤ hs n l := by
 intro l
 induction l with
 | nil => intro n;exact Nat.le_refl _
 | cons c l ih => intro n;rw [hs];have := ih (n + 2 + c.f2.length);omega
theorem hs_le : ∀ (l : List S56) (n : Nat), (∀ c ∈ l, c.f2.length ≤ 1048576) → hs n l ≤ n + l.length * 1048578 := by
 intro l
 induction l with
 | nil => intro n h;simp [hs]
 | cons c l ih =>
  intro n h;rw [hs];have h1 := h c (by simp);have := ih (n + 2 + c.f2.length) (fun x hx => h x (by simp [hx]));simp only [List.length_cons];omega
theorem set_mid {α : Type} (p : List α) (c v : α) (r : List α) : (p ++ c :: r).set p.length v = p ++ v :: r := by
 rw [List.set_append_right _ _ (Nat.le_refl _), Nat.sub_self];rfl
theorem rdh_mid (p : List S56) (c : S56) (r : List S56) : rd_T56 (p ++ c :: r) (p.length : Int) = c := by
 rw [rdh_nat (by simp)];simp
theorem markhs_loop : ∀ (l p : List S56) (n : Nat), p.length + l.length ≤ 1048576 → (∀ c ∈ l, c.f2.length ≤ 1048576) → hs n l ≤ 4611686017427387000 →
    Ev (fun k => laws_markHunkS.l0 k (p ++ l) (n : Int) (p.length : Int)) (((hs n l : Nat) : Int), p ++ mkh n l) := by
 intro l
 induction l with
 | nil =>
  intro p n hp hc hn;refine Ev.step (fun k => by rw [laws_markHunkS.l0]) ?_;refine Ev_neg (by rw [List.append_nil];omega) (Ev_val ?_);rw [hs, mkh]
 | cons c l ih =>
  intro p n hp hc hn;have h0 := hs_ge (c :: l) n;have h1 := hs_ge l (n + 2 + c.f2.length);rw [hs] at hn;have hc0 := hc c (by simp);simp only [List.length_cons] at hp;refine Ev.step (fun k => by rw [laws_markHunkS.l0]) ?_;refine Ev_pos (by rw [List.length_append, List.length_cons];omega) (Ev_pos (by omega) ?_);refine Ev_const rfl ?_;rw [Int.toNat_natCast, rdh_mid, set_mid];refine Ev_const rfl ?_;rw [rdh_mid, set_mid, rdh_mid, wsucc' (i := n) (by omega), wsucc' (i := n + 1) (by omega), wsucc' (i := p.length) (by omega)];refine Ev_call (mark_tells c.f2 (n + 1 + 1) (by omega) (by omega)) ?_;rw [set_mid];have e := ih (p ++ [⟨(n : Int), ((n + 1 : Nat) : Int), mks (n + 2) c.f2.length⟩]) (n + 2 + c.f2.length) (by simp;omega) (fun x hx => hc x (by simp [hx])) (by omega);rw [List.append_assoc, List.length_append, List.append_assoc] at e;exact e
theorem markhs_tells {l : List S56} (h : SmallH l) : Ev (fun k => laws_markHunkS.f k l 1) (((hs 1 l : Nat) : Int), mkh 1 l) := by
 unfold laws_markHunkS.f;(have hc : ∀ c ∈ l, c.f2.length ≤ 1048576 := fun c hc => by obtain ⟨i, hi, rfl⟩ := List.mem_iff_getElem.1 hc;exact (h.at hi).2.1);have h1 := hs_le l 1 hc;have h2 := h.2.1;exact markhs_loop l [] 1 (by simp;omega) hc (by have : l.length * 1048578 ≤ 1048576 * 1048578 := Nat.mul_le_mul_right _ h2;omega)
theorem heldhs_loop : ∀ (l p : List S56) (n : Nat), p.length + l.length ≤ 1048576 → (∀ c ∈ l, c.f2.length ≤ 1048576) → hs n l ≤ 4611686017427387000 →
    Ev (fun k => laws_heldHunkS.l0 k (p ++ mkh n l) (n : Int) (p.length : Int)) ((hs n l : Nat) : Int) := by
 intro l
 induction l with
 | nil =>
  intro p n hp hc hn;refine Ev.step (fun k => by rw [laws_heldHunkS.l0]) ?_;rw [mkh, hs];exact Ev_neg (by rw [List.append_nil];omega) (Ev_val rfl)
 | cons c l ih =>
  intro p n hp hc hn;have h0 := hs_ge (c :: l) n;have h1 := hs_ge l (n + 2 + c.f2.length);rw [hs] at hn;have hc0 := hc c (by simp);simp only [List.length_cons] at hp;rw [mkh];refine Ev.step (fun k => by rw [laws_heldHunkS.l0]) ?_;refine Ev_pos (by rw [List.length_append, List.length_cons];omega) (Ev_pos (by omega) ?_);rw [rdh_mid, wsucc' (i := n) (by omega), wsucc' (i := n + 1) (by omega), wsucc' (i := p.length) (by omega)];refine Ev_pos rfl (Ev_pos rfl (Ev_call (held_tells (n + 1 + 1) c.f2.length (by omega) (by omega)) (Ev_neg (by omega) ?_)));have e := ih (p ++ [⟨(n : Int), ((n + 1 : Nat) : Int), mks (n + 2) c.f2.length⟩]) (n + 2 + c.f2.length) (by simp;omega) (fun x hx => hc x (by simp [hx])) (by omega);rw [List.append_assoc, List.length_append] at e;exact e
theorem heldhs_tells {l : List S56} (h : SmallH l) : Ev (fun k => laws_heldHunkS.f k (mkh 1 l) 1) ((hs 1 l : Nat) : Int) := by
 unfold laws_heldHunkS.f;(have hc : ∀ c ∈ l, c.f2.length ≤ 1048576 := fun c hc => by obtain ⟨i, hi, rfl⟩ := List.mem_iff_getElem.1 hc;exact (h.at hi).2.1);have h1 := hs_le l 1 hc;have h2 := h.2.1;exact heldhs_loop l [] 1 (by simp;omega) hc (by have : l.length * 1048578 ≤ 1048576 * 1048578 := Nat.mul_le_mul_right _ h2;omega)
end Go.Proofs.Ytelngmkfjpcbgaa.P
end
section
namespace Go.Proofs.Ytelngmkfjpcbgaa.P
open Go.RowKit Go.Proofs.YtelngmkfjpcbgaaW.PrintWords Go.Proofs.YtelngmkfjpcbgaaW.PrintLast Go.Proofs.YtelngmkfjpcbgaaW.PrintMore
attribute [local go_sem] max2_int min2_int max_two min_two max_three min_three max_four min_four
end Go.Proofs.Ytelngmkfjpcbgaa.P
end
section
namespace Go.Proofs.Ytelngmkfjpcbgaa.P
open Go.RowKit Go.Proofs.YtelngmkfjpcbgaaW.PrintWords Go.Proofs.YtelngmkfjpcbgaaW.PrintLast Go.Proofs.YtelngmkfjpcbgaaW.PrintMore
attribute [local go_sem] max2_int min2_int max_two min_two max_three min_three max_four min_four
end Go.Proofs.Ytelngmkfjpcbgaa.P
end
section
set_option linter.unusedVariables false
set_option linter.unusedSimpArgs false
namespace Go.Proofs.Ytelngmkfjpcbgaa.P
open Go.RowKit Go.Proofs.YtelngmkfjpcbgaaW.PrintWords Go.Proofs.YtelngmkfjpcbgaaW.PrintLast
def tlB (s : ByteArray) : ByteArray := s.extract 1 s.size
def Bd (o : List ByteArray) : Prop := ∀ x ∈ o, x.size ≤ 1048576
theorem Bd.total : ∀ {l : List ByteArray}, Bd l → total l ≤ 1048576 * l.length := by
 intro l
 induction l with
 | nil => intro _;exact Nat.zero_le _
 | cons a l ih =>
  intro h;have h1 := h a (by simp);have h2 := ih (fun x hx => h x (by simp [hx]));rw [_root_.Go.Proofs.Ytelngmkfjpcbgaa.P.total, List.length_cons];omega
theorem size_le_total : ∀ (l : List ByteArray), ∀ x ∈ l, x.size ≤ total l := by
 intro l
 induction l with
 | nil => intro x hx;exact absurd hx (by simp)
 | cons a l ih =>
  intro x hx;rw [total];(rcases List.mem_cons.1 hx with rfl | hx);(·omega);have := ih x hx;omega
theorem Small.bd {l : List ByteArray} (h : Small l) : Bd l := fun x hx => by have := size_le_total l x hx;have := h.2.2;omega
theorem cut_len (a : List ByteArray) (i j : Nat) : ((a.take i).drop j).length ≤ a.length := by
 rw [List.length_drop, List.length_take];omega
theorem cut_bd {a : List ByteArray} (h : Bd a) (i j : Nat) : Bd ((a.take i).drop j) := fun x hx => h x (List.mem_of_mem_take (List.mem_of_mem_drop hx))
end Go.Proofs.Ytelngmkfjpcbgaa.P
end
section
namespace Go.Proofs.Ytelngmkfjpcbgaa.P
open Go.RowKit Go.Proofs.YtelngmkfjpcbgaaW.PrintWords Go.Proofs.YtelngmkfjpcbgaaW.PrintLast Go.Proofs.YtelngmkfjpcbgaaW.PrintMore
attribute [local go_sem] max2_int min2_int max_two min_two max_three min_three max_four min_four
end Go.Proofs.Ytelngmkfjpcbgaa.P
end
section
set_option linter.unusedVariables false
set_option linter.unusedSimpArgs false
namespace Go.Proofs.Ytelngmkfjpcbgaa.P
open Go.RowKit Go.Proofs.YtelngmkfjpcbgaaW.PrintWords Go.Proofs.YtelngmkfjpcbgaaW.PrintLast
theorem eqhr_tells (a b : Int) {l : List S56} (hs : SmallH l) : Ev (fun k => laws_eqHunksResult.f k a b l a b l) true := by
 unfold laws_eqHunksResult.f;exact Ev_pos rfl (Ev_pos rfl (Ev_call (eqhs_tells hs) (Ev_pos rfl (Ev.now _))))
abbrev HK := S56
def sg (l : List ByteArray) (i j : Nat) : List ByteArray := (l.take j).drop i
theorem sg_len {l : List ByteArray} {i j : Nat} (h : j ≤ l.length) : (sg l i j).length = j - i := by
 unfold sg;rw [List.length_drop, List.length_take];omega
theorem sg_same (l : List ByteArray) (i : Nat) : sg l i i = [] := by
 unfold sg;rw [List.drop_eq_nil_iff, List.length_take];omega
theorem sg_next {l : List ByteArray} {i j : Nat} (h : i < j) (hj : j ≤ l.length) : sg l i j = l[i]'(by omega) :: sg l (i + 1) j := by
 unfold sg;(have hlt : i < (l.take j).length := by rw [List.length_take];omega);rw [List.drop_eq_getElem_cons hlt, List.getElem_take]
theorem sg_cat {l : List ByteArray} {i j k : Nat} (h : i ≤ j) (h2 : j ≤ k) (hk : k ≤ l.length) : sg l i j ++ sg l j k = sg l i k := by
 unfold sg;(have e : l.take k = l.take j ++ (l.take k).drop j := by (conv => lhs;rw [← List.take_append_drop j (l.take k)]);rw [List.take_take, Nat.min_eq_left h2]);(conv => rhs;rw [e]);rw [List.drop_append_of_le_length (by rw [List.length_take];omega)]
theorem sg_rest {l : List ByteArray} {i j : Nat} (h : i ≤ j) (hj : j ≤ l.length) : sg l i j ++ l.drop j = l.drop i := by
 unfold sg;rw [← List.drop_append_of_le_length (by rw [List.length_take];omega), List.take_append_drop]
inductive Ld (a b : List ByteArray) : List ByteArray → Nat → Nat → Nat → Nat → Prop
  | nil {i j : Nat} : Ld a b [] i j i j
  | stay {s : ByteArray} {l : List ByteArray} {i j i' j' : Nat} (hm : mk s = 32) (hi : i < a.length) (hj : j < b.length) (h1 : a[i] = tlB s) (h2 : b[j] = tlB s) (h : Ld a b l (i + 1) (j + 1) i' j') : Ld a b (s :: l) i j i' j'
  | goes {s : ByteArray} {l : List ByteArray} {i j i' j' : Nat} (hm : mk s = 45) (hi : i < a.length) (h1 : a[i] = tlB s) (h : Ld a b l (i + 1) j i' j') : Ld a b (s :: l) i j i' j'
  | come {s : ByteArray} {l : List ByteArray} {i j i' j' : Nat} (hm : mk s = 43) (hj : j < b.length) (h2 : b[j] = tlB s) (h : Ld a b l i (j + 1) i' j') : Ld a b (s :: l) i j i' j'
theorem Ld.le {a b l : List ByteArray} {i j i' j' : Nat} (h : Ld a b l i j i' j') : i ≤ i' ∧ j ≤ j' ∧ i' = i + hA l ∧ j' = j + hB l ∧ (i ≤ a.length → i' ≤ a.length) ∧ (j ≤ b.length → j' ≤ b.length) := by
 induction h with
 | nil => simp [hA, hB]
 | stay hm hi hj h1 h2 h ih => rw [hA, hB, hm, if_neg (by decide), if_neg (by decide)];omega
 | goes hm hi h1 h ih => rw [hA, hB, hm, if_neg (by decide), if_pos rfl];omega
 | come hm hj h2 h ih => rw [hA, hB, hm, if_pos rfl, if_neg (by decide)];omega
theorem Ld.cat {a b l m : List ByteArray} {i j i' j' i2 j2 : Nat} (h : Ld a b l i j i' j') (g : Ld a b m i' j' i2 j2) : Ld a b (l ++ m) i j i2 j2 := by
 induction h with
 | nil => exact g
 | stay hm hi hj h1 h2 h ih => exact .stay hm hi hj h1 h2 (ih g)
 | goes hm hi h1 h ih => exact .goes hm hi h1 (ih g)
 | come hm hj h2 h ih => exact .come hm hj h2 (ih g)
theorem mk_front (x : UInt8) (t : ByteArray) : mk ((⟨#[x]⟩ : ByteArray) ++ t) = (x.toNat : Int) := by
 unfold mk;(have hlt : 0 < ((⟨#[x]⟩ : ByteArray) ++ t).data.toList.length := by rw [ByteArray.data_append, Array.toList_append];simp);have := bt_nat hlt;rw [show (((0 : Nat)) : Int) = 0 from rfl] at this;rw [this];congr 2
theorem tl_front (x : UInt8) (t : ByteArray) : tlB ((⟨#[x]⟩ : ByteArray) ++ t) = t := by
 unfold tlB;apply data_eq.1;rw [ByteArray.toList_eq, tl_ext];unfold tl;rw [ByteArray.toList_eq, ByteArray.data_append, Array.toList_append];rfl
inductive Chn (a b : List ByteArray) : List HK → Nat → Nat → Prop
  | nil {i j : Nat} (hi : i ≤ a.length) (hj : j ≤ b.length) (h : a.drop i = b.drop j) : Chn a b [] i j
  | cons {h : HK} {r : List HK} {i j p q i' j' : Nat} (e0 : h.f0 = (p : Int)) (e1 : h.f1 = (q : Int)) (hi : i ≤ p) (hj : j ≤ q) (hd : p - i = q - j) (ha : p ≤ a.length) (hb : q ≤ b.length) (hs : sg a i p = sg b j q) (hl : Ld a b h.f2 p q i' j') (hr : Chn a b r i' j') : Chn a b (h :: r) i j
end Go.Proofs.Ytelngmkfjpcbgaa.P
end
section
set_option linter.unusedVariables false
namespace Go.Proofs.Ytelngmkfjpcbgaa.P
open Go.RowKit Go.Proofs.YtelngmkfjpcbgaaW.PrintWords Go.Proofs.YtelngmkfjpcbgaaW.PrintLast
theorem rdc_nat {l : List S53} {i : Nat} (h : i < l.length) : rd_T53 l (i : Int) = l[i] := by
 unfold rd_T53;rw [Int.toNat_natCast, List.getD_eq_getElem?_getD, List.getElem?_eq_getElem h];rfl
end Go.Proofs.Ytelngmkfjpcbgaa.P
end
section
set_option linter.unusedVariables false
set_option linter.unusedSimpArgs false
namespace Go.Proofs.Ytelngmkfjpcbgaa.P
end Go.Proofs.Ytelngmkfjpcbgaa.P
end
section
set_option linter.unusedVariables false
set_option linter.unusedSimpArgs false
namespace Go.Proofs.Ytelngmkfjpcbgaa.P
open Go.RowKit Go.Proofs.YtelngmkfjpcbgaaW.PrintWords Go.Proofs.YtelngmkfjpcbgaaW.PrintLast
def ChIn (la lb : Int) (c : S53) : Prop := 0 ≤ c.f0 ∧ c.f0 ≤ la ∧ 0 ≤ c.f1 ∧ c.f1 ≤ la - c.f0 ∧ 0 ≤ c.f2 ∧ c.f2 ≤ lb ∧ 0 ≤ c.f3 ∧ c.f3 ≤ lb - c.f2
instance (la lb : Int) (c : S53) : Decidable (ChIn la lb c) := by unfold ChIn;infer_instance
def CF (la lb : Int) : List S53 → Int → Int → Bool → Int
  | [], _, _, _ => 0
  | c :: l, i, j, fst => if ¬ ChIn la lb c then 3 else if (c.f1 = 0 ∧ c.f3 = 0) ∨ c.f0 - i ≠ c.f2 - j ∨ c.f0 < i ∨ (fst = false ∧ c.f0 = i) then 1 else CF la lb l (c.f0 + c.f1) (c.f2 + c.f3) false
theorem CF_cons (la lb : Int) (c : S53) (l : List S53) (i j : Int) (fst : Bool) : CF la lb (c :: l) i j fst = if ¬ ChIn la lb c then 3 else if (c.f1 = 0 ∧ c.f3 = 0) ∨ c.f0 - i ≠ c.f2 - j ∨ c.f0 < i ∨ (fst = false ∧ c.f0 = i) then 1 else CF la lb l (c.f0 + c.f1) (c.f2 + c.f3) false := rfl
theorem total_app_ (x y : List ByteArray) : total (x ++ y) = total x + total y := by
 induction x with
 | nil => simp [total]
 | cons a l ih => rw [List.cons_append, total, total, ih];omega
theorem total_drop (x : List ByteArray) (n : Nat) : total (x.drop n) ≤ total x := by
 (have h : total x = total (x.take n) + total (x.drop n) := by rw [← total_app_, List.take_append_drop]);omega
structure In3 (x : List ByteArray) (n t : Nat) : Prop where
  each : ∀ s ∈ x, s.size ≤ 9223372036854775807
  many : x.length ≤ n
  all : total x ≤ t
theorem In3.rest {x : List ByteArray} {n t : Nat} (h : In3 x n t) (j : Nat) : In3 (x.drop j) n t :=
  ⟨fun s hs => h.each s (List.mem_of_mem_drop hs), by simp only [List.length_drop];have := h.many;omega, Nat.le_trans (total_drop _ _) h.all⟩
theorem In3.mono {x : List ByteArray} {n t m u : Nat} (h : In3 x n t) (h1 : n ≤ m) (h2 : t ≤ u) : In3 x m u := ⟨h.each, Nat.le_trans h.many h1, Nat.le_trans h.all h2⟩
def WV (a b : List ByteArray) : List S53 → Int → List ByteArray
  | [], i => a.drop i.toNat
  | c :: l, i => (a.take c.f0.toNat).drop i.toNat ++ ((b.take (c.f2 + c.f3).toNat).drop c.f2.toNat ++ WV a b l (c.f0 + c.f1))
theorem WV_cons (a b : List ByteArray) (c : S53) (l : List S53) (i : Int) : WV a b (c :: l) i = (a.take c.f0.toNat).drop i.toNat ++ ((b.take (c.f2 + c.f3).toNat).drop c.f2.toNat ++ WV a b l (c.f0 + c.f1)) := rfl
theorem CF_good {la lb : Int} {c : S53} {l : List S53} {i j : Int} {fst : Bool} (h : CF la lb (c :: l) i j fst = 0) : ChIn la lb c ∧ i ≤ c.f0 ∧ CF la lb l (c.f0 + c.f1) (c.f2 + c.f3) false = 0 := by
 rw [CF_cons] at h;split at h;(·cases h);rename_i h1;split at h;(·cases h);rename_i h2;refine ⟨Classical.byContradiction h1, ?_, h⟩;exact Classical.byContradiction fun e => h2 (.inr (.inr (.inl (by omega))))
end Go.Proofs.Ytelngmkfjpcbgaa.P
end
section
set_option linter.unusedVariables false
set_option linter.unusedSimpArgs false
namespace Go.Proofs.Ytelngmkfjpcbgaa.P
section
variable {α : Type} [DecidableEq α]
def lcs : List α → List α → Nat
  | [], _ => 0
  | _ :: _, [] => 0
  | x :: a, y :: b => if x = y then lcs a b + 1 else max (lcs a (y :: b)) (lcs (x :: a) b)
termination_by a b => a.length + b.length
theorem lcs_nil (b : List α) : lcs [] b = 0 := by rw [lcs]
theorem lcs_nil' (a : List α) : lcs a [] = 0 := by cases a <;> rw [lcs]
theorem lcs_cons (x y : α) (a b : List α) : lcs (x :: a) (y :: b) = if x = y then lcs a b + 1 else max (lcs a (y :: b)) (lcs (x :: a) b) := by rw [lcs]
theorem lcs_both : ∀ (n : Nat) (a b : List α), a.length + b.length = n → (∀ x, lcs a b ≤ lcs (x :: a) b) ∧ (∀ y, lcs a (y :: b) ≤ lcs a b + 1) := by
 intro n
 induction n using Nat.strongRecOn with
 | _ n ih =>
  intro a b hn;constructor
  ·intro x
   cases b with
   | nil => rw [lcs_nil', lcs_nil'];exact Nat.le_refl _
   | cons y b =>
    rw [lcs_cons];split;(·exact (ih (a.length + b.length) (by simp at hn;omega) a b rfl).2 y);exact Nat.le_max_left _ _
  intro y
  cases a with
  | nil => rw [lcs_nil, lcs_nil];omega
  | cons x a =>
   have h := ih (a.length + b.length) (by simp at hn;omega) a b rfl;have h1 := h.1 x;have h2 := h.2 y;rw [lcs_cons];split <;> omega
theorem lcs_step (y : α) (a b : List α) : lcs a (y :: b) ≤ lcs a b + 1 := (lcs_both _ a b rfl).2 y
theorem lcs_comm : ∀ (n : Nat) (a b : List α), a.length + b.length = n → lcs a b = lcs b a := by
 intro n
 induction n using Nat.strongRecOn with
 | _ n ih =>
  intro a b hn
  cases a with
  | nil => rw [lcs_nil, lcs_nil']
  | cons x a =>
   cases b with
   | nil => rw [lcs_nil, lcs_nil']
   | cons y b =>
    simp only [List.length_cons] at hn;have h0 := ih (a.length + b.length) (by omega) a b rfl;have h1 := ih (a.length + (b.length + 1)) (by omega) a (y :: b) rfl;have h2 := ih (a.length + 1 + b.length) (by omega) (x :: a) b rfl;rw [lcs_cons, lcs_cons];by_cases h : x = y;(·rw [if_pos h, if_pos h.symm, h0]);rw [if_neg h, if_neg (fun e => h e.symm), h1, h2];exact Nat.max_comm _ _
theorem lcs_symm (a b : List α) : lcs a b = lcs b a := lcs_comm _ a b rfl
theorem lcs_step' (x : α) (a b : List α) : lcs (x :: a) b ≤ lcs a b + 1 := by rw [lcs_symm (x :: a) b, lcs_symm a b];exact lcs_step x b a
theorem lcs_le : ∀ (a b : List α), lcs a b ≤ a.length := by
 intro a b
 induction a with
 | nil => rw [lcs_nil];exact Nat.le_refl _
 | cons x a ih =>
  have := lcs_step' x a b;simp only [List.length_cons];omega
theorem lcs_at {a b : List α} {i j : Nat} (hi : i < a.length) (hj : j < b.length) :
    lcs (a.drop i) (b.drop j) = if a[i] = b[j] then lcs (a.drop (i + 1)) (b.drop (j + 1)) + 1 else max (lcs (a.drop (i + 1)) (b.drop j)) (lcs (a.drop i) (b.drop (j + 1))) := by
 rw [drop_at hi, drop_at hj, lcs_cons]
theorem lcs_at3 {a b : List α} {i j : Nat} (hi : i < a.length) (hj : j < b.length) (h : a[i] = b[j]) :
    lcs (a.drop i) (b.drop j) = max (max (lcs (a.drop (i + 1)) (b.drop j)) (lcs (a.drop i) (b.drop (j + 1)))) (lcs (a.drop (i + 1)) (b.drop (j + 1)) + 1) := by
 have e := lcs_at hi hj;rw [if_pos h] at e;(have h1 : lcs (a.drop (i + 1)) (b.drop j) ≤ lcs (a.drop (i + 1)) (b.drop (j + 1)) + 1 := by rw [drop_at hj];exact lcs_step _ _ _);(have h2 : lcs (a.drop i) (b.drop (j + 1)) ≤ lcs (a.drop (i + 1)) (b.drop (j + 1)) + 1 := by rw [drop_at hi];exact lcs_step' _ _ _);omega
end
theorem getD_set {β : Type} {l : List β} {i r : Nat} {x d : β} (h : i < l.length) : (l.set i x).getD r d = if r = i then x else l.getD r d := by
 rw [List.getD_eq_getElem?_getD, List.getD_eq_getElem?_getD, List.getElem?_set];by_cases e : i = r;rotate_left;(·rw [if_neg e, if_neg (fun z => e z.symm)]);subst e;simp [h]
structure TabInv {α : Type} [DecidableEq α] (a b : List α) (t : List (List Int)) (i j : Nat) : Prop where
  len : t.length = a.length + 1
  rows : ∀ r, r ≤ a.length → (t.getD r []).length = b.length + 1
  val : ∀ r c, r ≤ a.length → c ≤ b.length → (i ≤ r ∨ (r + 1 = i ∧ j ≤ c) ∨ c = b.length ∨ r = a.length) → (t.getD r []).getD c 0 = (lcs (a.drop r) (b.drop c) : Int)
theorem TabInv.start {α : Type} [DecidableEq α] (a b : List α) : TabInv a b (List.replicate (a.length + 1) (List.replicate (b.length + 1) 0)) (a.length) (b.length) := by
 (have hg : ∀ r, r ≤ a.length → (List.replicate (a.length + 1) (List.replicate (b.length + 1) (0 : Int))).getD r [] = List.replicate (b.length + 1) 0 := fun r hr => by rw [List.getD_eq_getElem?_getD, List.getElem?_replicate, if_pos (by omega)];rfl);refine ⟨by simp, fun r hr => by rw [hg r hr];simp, fun r c hr hc h => ?_⟩;rw [hg r hr, List.getD_eq_getElem?_getD, List.getElem?_replicate, if_pos (by omega), Option.getD_some];(have : lcs (a.drop r) (b.drop c) = 0 := by (have hcase : c = b.length ∨ r = a.length := by omega);(rcases hcase with e | e);(·rw [List.drop_eq_nil_of_le (show b.length ≤ c by omega), lcs_nil']);rw [List.drop_eq_nil_of_le (show a.length ≤ r by omega), lcs_nil]);rw [this];rfl
theorem TabInv.put {α : Type} [DecidableEq α] {a b : List α} {t : List (List Int)} {i j : Nat} (h : TabInv a b t (i + 1) (j + 1)) (hi : i < a.length) (hj : j < b.length) {v : Int} (hv : v = (lcs (a.drop i) (b.drop j) : Int)) :
    TabInv a b (t.set i ((t.getD i []).set j v)) (i + 1) j := by
 have hl := h.len;have hr0 := h.rows i (by omega);refine ⟨by rw [List.length_set];exact hl, fun r hr => ?_, fun r c hr hc hcase => ?_⟩;(·rw [getD_set (by omega)];split;(·rw [List.length_set];exact hr0);exact h.rows r hr);rw [getD_set (by omega)];by_cases e : r = i;rotate_left;(·rw [if_neg e];exact h.val r c hr hc (by omega));subst e;rw [if_pos rfl, getD_set (by omega)];by_cases e2 : c = j;(·subst e2;rw [if_pos rfl, hv]);rw [if_neg e2];exact h.val r c hr hc (by omega)
theorem TabInv.next {α : Type} [DecidableEq α] {a b : List α} {t : List (List Int)} {i : Nat} (h : TabInv a b t (i + 1) 0) : TabInv a b t i b.length :=
  ⟨h.len, h.rows, fun r c hr hc hcase => h.val r c hr hc (by omega)⟩
theorem TabInv.all {α : Type} [DecidableEq α] {a b : List α} {t : List (List Int)} {j : Nat} (h : TabInv a b t 0 j) {r c : Nat} (hr : r ≤ a.length) (hc : c ≤ b.length) : (t.getD r []).getD c 0 = (lcs (a.drop r) (b.drop c) : Int) := h.val r c hr hc (.inl (by omega))
end Go.Proofs.Ytelngmkfjpcbgaa.P
end
section
set_option linter.unusedVariables false
set_option linter.unusedSimpArgs false
namespace Go.Proofs.Ytelngmkfjpcbgaa.P
open Go.RowKit Go.Proofs.YtelngmkfjpcbgaaW.PrintWords Go.Proofs.YtelngmkfjpcbgaaW.PrintLast
theorem rdl_nat (t : List (List Int)) (i : Nat) : rd_L2 t (i : Int) = t.getD i [] := by
 unfold rd_L2;rw [Int.toNat_natCast]
theorem rd_getD (t : List Int) (i : Nat) : rd t (i : Int) = t.getD i 0 := by
 unfold rd;rw [Int.toNat_natCast]
theorem max_tells (x y : Int) : spec_l1Max.f x y = some (max x y) := by
 unfold spec_l1Max.f;split;(·rw [Int.max_def, if_neg (by omega)]);rw [Int.max_def, if_pos (by omega)]
theorem mx_max (x y : Int) : mx x y = max x y := by
 unfold mx;split;(·rw [Int.max_def, if_pos (by omega)]);rw [Int.max_def];split <;> omega
theorem stab2 (a b : List ByteArray) (ha : a.length ≤ 1000000) (hb : b.length ≤ 1000000) (i : Nat) (hi : i < a.length) (K : List (List Int) → Prop)
    (hK : ∀ t, TabInv a b t (i + 1) 0 → ∃ t', K t' ∧ Ev (fun k => spec_l2Table.l1 k a b t (wrap64 ((i : Int) - 1))) t') : ∀ (j : Nat) (t : List (List Int)), j ≤ b.length → TabInv a b t (i + 1) j →
    ∃ t', K t' ∧ Ev (fun k => spec_l2Table.l2 k a b t (i : Int) ((j : Int) - 1)) t' := by
 intro j
 induction j with
 | zero =>
  intro t hj ht;obtain ⟨t', h1, h2⟩ := hK t ht;exact ⟨t', h1, Ev.step (fun k => by rw [spec_l2Table.l2]) (Ev_neg (by omega) h2)⟩
 | succ j ih =>
  intro t hj ht;have hl := ht.len;have hri := ht.rows i (by omega);have hri1 := ht.rows (i + 1) (by omega);have e1 := ht.val (i + 1) j (by omega) (by omega) (.inl (by omega));have e2 := ht.val i (j + 1) (by omega) (by omega) (by omega);have e3 := ht.val (i + 1) (j + 1) (by omega) (by omega) (.inl (by omega));have hat := lcs_at (a := a) (b := b) hi (show j < b.length by omega);have hb1 := lcs_le (a.drop i) (b.drop j);have hb3 := lcs_le (a.drop (i + 1)) (b.drop (j + 1));rw [List.length_drop] at hb1 hb3;obtain ⟨t', h1, h2⟩ := ih (t.set i ((t.getD i []).set j ((lcs (a.drop i) (b.drop j) : Nat) : Int))) (by omega) (ht.put hi (by omega) rfl);refine ⟨t', h1, Ev.step (fun k => by rw [spec_l2Table.l2]) ?_⟩;rw [wsucc' (i := i) (by omega), rdl_nat, rdl_nat, show ((((j + 1 : Nat) : Int)) - 1) = (j : Int) by omega, wsucc' (i := j) (by omega), rd_getD, rd_getD, rd_getD, rd_nat _ hi, rd_nat _ (show j < b.length by omega), e1, e2, e3, Int.toNat_natCast, Int.toNat_natCast];refine Ev_pos (by omega) (Ev_pos (by omega) (Ev_pos (by omega) (Ev_pos (by omega) (Ev_pos (by omega) (Ev_pos (by omega) (Ev_pos (by omega) (Ev_pos (by omega) (Ev_pos (by omega) (Ev_const (max_tells _ _) (Ev_pos (by omega) (Ev_pos (by omega) ?_)))))))))));refine Ev_if (fun h => ?_) (fun h => ?_);rotate_left;(·(have hx : ¬ a[i] = b[j] := fun e => h (data_eq.2 e));rw [if_neg hx] at hat;refine Ev_pos (by omega) ?_;rw [show max ((lcs (a.drop (i + 1)) (b.drop j) : Nat) : Int) ((lcs (a.drop i) (b.drop (j + 1)) : Nat) : Int) = ((lcs (a.drop i) (b.drop j) : Nat) : Int) by omega, wid (by omega) (by omega)];exact h2);have hx := data_eq.1 h;have h3 := lcs_at3 (a := a) (b := b) hi (show j < b.length by omega) hx;rw [wid (by omega) (by omega)];refine Ev_pos (by omega) (Ev_const (max_tells _ _) (Ev_pos (by omega) ?_));rw [show max (max ((lcs (a.drop (i + 1)) (b.drop j) : Nat) : Int) ((lcs (a.drop i) (b.drop (j + 1)) : Nat) : Int)) (1 + ((lcs (a.drop (i + 1)) (b.drop (j + 1)) : Nat) : Int)) = ((lcs (a.drop i) (b.drop j) : Nat) : Int) by omega, wid (by omega) (by omega)];exact h2
theorem stab1 (a b : List ByteArray) (ha : a.length ≤ 1000000) (hb : b.length ≤ 1000000) : ∀ (i : Nat) (t : List (List Int)), i ≤ a.length → TabInv a b t i b.length → ∃ t', TabInv a b t' 0 b.length ∧ Ev (fun k => spec_l2Table.l1 k a b t ((i : Int) - 1)) t' := by
 intro i
 induction i with
 | zero =>
  intro t hi ht;exact ⟨t, ht, Ev.step (fun k => by rw [spec_l2Table.l1]) (Ev_neg (by omega) (Ev.now _))⟩
 | succ i ih =>
  intro t hi ht
  obtain ⟨t', h1, h2⟩ := stab2 a b ha hb i (by omega) (fun t' => TabInv a b t' 0 b.length) (fun t ht => by
    obtain ⟨t', h1, h2⟩ := ih t (by omega) ht.next
    exact ⟨t', h1, by rw [wid (by omega) (by omega)];exact h2⟩) b.length t (Nat.le_refl _) ht
  refine ⟨t', h1, Ev.step (fun k => by rw [spec_l2Table.l1]) (Ev_pos (by omega) ?_)⟩;rw [wid (x := (b.length : Int) - 1) (by omega) (by omega), show (((i + 1 : Nat) : Int) - 1) = (i : Int) by omega];exact h2
theorem stab0 (a b : List ByteArray) (ha : a.length ≤ 1000000) (hb : b.length ≤ 1000000) (t' : List (List Int)) (h : Ev (fun k => spec_l2Table.l1 k a b (List.replicate (a.length + 1) (List.replicate (b.length + 1) 0)) ((a.length : Int) - 1)) t') :
    ∀ (d i : Nat), a.length + 1 - i = d → i ≤ a.length + 1 → Ev (fun k => spec_l2Table.l0 k a b (List.replicate i (List.replicate (b.length + 1) 0)) (i : Int)) t' := by
 intro d
 induction d with
 | zero =>
  intro i hd hi;(have : i = a.length + 1 := by omega);subst this;refine Ev.step (fun k => by rw [spec_l2Table.l0]) (Ev_neg (by omega) ?_);rw [wid (by omega) (by omega)];exact h
 | succ d ih =>
  intro i hd hi;refine Ev.step (fun k => by rw [spec_l2Table.l0]) (Ev_pos (by omega) ?_);rw [wsucc' (i := b.length) (by omega), wsucc' (i := i) (by omega), Int.toNat_natCast];refine Ev_pos (by omega) (Ev_pos (by omega) (Ev_pos (by rw [List.length_replicate];omega) ?_));rw [← List.replicate_succ'];exact ih (i + 1) (by omega) (by omega)
theorem stab_tells (a b : List ByteArray) (ha : a.length ≤ 1000000) (hb : b.length ≤ 1000000) : ∃ t, TabInv a b t 0 b.length ∧ Ev (fun k => spec_l2Table.f k a b) t := by
 obtain ⟨t, h1, h2⟩ := stab1 a b ha hb a.length _ (Nat.le_refl _) (TabInv.start a b);refine ⟨t, h1, ?_⟩;unfold spec_l2Table.f;exact stab0 a b ha hb t h2 _ 0 rfl (by omega)
theorem itab2 (a b : List ByteArray) (ha : a.length ≤ 1000000) (hb : b.length ≤ 1000000) (i : Nat) (hi : i < a.length) (K : List (List Int) → Prop)
    (hK : ∀ t, TabInv a b t (i + 1) 0 → ∃ t', K t' ∧ Ev (fun k => impl_commons.l1 k a b t (wrap64 ((i : Int) - 1))) t') : ∀ (j : Nat) (t : List (List Int)), j ≤ b.length → TabInv a b t (i + 1) j →
    ∃ t', K t' ∧ Ev (fun k => impl_commons.l2 k a b t (i : Int) ((j : Int) - 1)) t' := by
 intro j
 induction j with
 | zero =>
  intro t hj ht;obtain ⟨t', h1, h2⟩ := hK t ht;exact ⟨t', h1, Ev.step (fun k => by rw [impl_commons.l2]) (Ev_neg (by omega) h2)⟩
 | succ j ih =>
  intro t hj ht;have hl := ht.len;have hri := ht.rows i (by omega);have hri1 := ht.rows (i + 1) (by omega);have e1 := ht.val (i + 1) j (by omega) (by omega) (.inl (by omega));have e2 := ht.val i (j + 1) (by omega) (by omega) (by omega);have e3 := ht.val (i + 1) (j + 1) (by omega) (by omega) (.inl (by omega));have hat := lcs_at (a := a) (b := b) hi (show j < b.length by omega);have hb1 := lcs_le (a.drop i) (b.drop j);have hb3 := lcs_le (a.drop (i + 1)) (b.drop (j + 1));rw [List.length_drop] at hb1 hb3;obtain ⟨t', h1, h2⟩ := ih (t.set i ((t.getD i []).set j ((lcs (a.drop i) (b.drop j) : Nat) : Int))) (by omega) (ht.put hi (by omega) rfl);refine ⟨t', h1, Ev.step (fun k => by rw [impl_commons.l2]) ?_⟩;rw [wsucc' (i := i) (by omega), rdl_nat, rdl_nat, show ((((j + 1 : Nat) : Int)) - 1) = (j : Int) by omega, wsucc' (i := j) (by omega), rd_getD, rd_getD, e1, e2, Int.toNat_natCast, Int.toNat_natCast, mx_max];refine Ev_pos (by omega) (Ev_pos (by omega) (Ev_pos (by omega) (Ev_pos (by omega) (Ev_pos (by omega) (Ev_pos (by omega) (Ev_pos (by omega) (Ev_pos (by omega) (Ev_pos (by omega) (Ev_pos (by omega) ?_)))))))));refine Ev_const rfl ?_;rw [rd_nat _ hi, rd_nat _ (show j < b.length by omega), rdl_nat, rdl_nat, getD_set (by omega), getD_set (by omega), if_neg (by omega), if_pos rfl, rd_getD, e3];refine Ev_pos (by omega) (Ev_pos (by omega) ?_);refine Ev_if (fun h => ?_) (fun h => ?_);rotate_left;(·(have hx : ¬ a[i] = b[j] := fun e => h (data_eq.2 e));rw [if_neg hx] at hat;rw [show max ((lcs (a.drop (i + 1)) (b.drop j) : Nat) : Int) ((lcs (a.drop i) (b.drop (j + 1)) : Nat) : Int) = ((lcs (a.drop i) (b.drop j) : Nat) : Int) by omega, wid (by omega) (by omega)];exact h2);have hx := data_eq.1 h;rw [if_pos hx] at hat;refine Ev_pos (by omega) (Ev_pos (by rw [List.length_set];omega) ?_);rw [wid (by omega) (by omega), wid (by omega) (by omega), List.set_set, List.set_set, show ((lcs (a.drop (i + 1)) (b.drop (j + 1)) : Nat) : Int) + 1 = ((lcs (a.drop i) (b.drop j) : Nat) : Int) by omega];exact h2
theorem itab1 (a b : List ByteArray) (ha : a.length ≤ 1000000) (hb : b.length ≤ 1000000) : ∀ (i : Nat) (t : List (List Int)), i ≤ a.length → TabInv a b t i b.length → ∃ t', TabInv a b t' 0 b.length ∧ Ev (fun k => impl_commons.l1 k a b t ((i : Int) - 1)) t' := by
 intro i
 induction i with
 | zero =>
  intro t hi ht;exact ⟨t, ht, Ev.step (fun k => by rw [impl_commons.l1]) (Ev_neg (by omega) (Ev.now _))⟩
 | succ i ih =>
  intro t hi ht
  obtain ⟨t', h1, h2⟩ := itab2 a b ha hb i (by omega) (fun t' => TabInv a b t' 0 b.length) (fun t ht => by
    obtain ⟨t', h1, h2⟩ := ih t (by omega) ht.next
    exact ⟨t', h1, by rw [wid (by omega) (by omega)];exact h2⟩) b.length t (Nat.le_refl _) ht
  refine ⟨t', h1, Ev.step (fun k => by rw [impl_commons.l1]) (Ev_pos (by omega) ?_)⟩;rw [wid (x := (b.length : Int) - 1) (by omega) (by omega), show (((i + 1 : Nat) : Int) - 1) = (i : Int) by omega];exact h2
theorem set_rep {β : Type} (z y : β) (i d : Nat) : (List.replicate i z ++ List.replicate (d + 1) y).set i z = List.replicate (i + 1) z ++ List.replicate d y := by
 rw [List.set_append_right _ _ (by simp), List.length_replicate, Nat.sub_self, List.replicate_succ (n := d), List.set_cons_zero, List.replicate_succ', List.append_assoc];rfl
theorem itab0 (a b : List ByteArray) (ha : a.length ≤ 1000000) (hb : b.length ≤ 1000000) (t' : List (List Int)) (h : Ev (fun k => impl_commons.l1 k a b (List.replicate (a.length + 1) (List.replicate (b.length + 1) 0)) ((a.length : Int) - 1)) t') :
    ∀ (d i : Nat), a.length + 1 - i = d → i ≤ a.length + 1 → Ev (fun k => impl_commons.l0 k a b (List.replicate i (List.replicate (b.length + 1) 0) ++ List.replicate d []) ((a.length + 1 : Nat) : Int) (i : Int)) t' := by
 intro d
 induction d with
 | zero =>
  intro i hd hi;(have : i = a.length + 1 := by omega);subst this;refine Ev.step (fun k => by rw [impl_commons.l0]) (Ev_neg (by omega) ?_);rw [wid (by omega) (by omega), List.replicate_zero, List.append_nil];exact h
 | succ d ih =>
  intro i hd hi;refine Ev.step (fun k => by rw [impl_commons.l0]) (Ev_pos (by omega) ?_);rw [wsucc' (i := b.length) (by omega), wsucc' (i := i) (by omega), Int.toNat_natCast, Int.toNat_natCast];refine Ev_pos (by omega) (Ev_pos (by omega) (Ev_pos (by omega) (Ev_pos (by simp;omega) ?_)));rw [set_rep];exact ih (i + 1) (by omega) (by omega)
theorem itab_tells (a b : List ByteArray) (ha : a.length ≤ 1000000) (hb : b.length ≤ 1000000) : ∃ t, TabInv a b t 0 b.length ∧ Ev (fun k => impl_commons.f k a b) t := by
 obtain ⟨t, h1, h2⟩ := itab1 a b ha hb a.length _ (Nat.le_refl _) (TabInv.start a b);refine ⟨t, h1, ?_⟩;unfold impl_commons.f;rw [wsucc' (i := a.length) (by omega), Int.toNat_natCast];refine Ev_pos (by omega) (Ev_pos (by omega) (Ev_const rfl ?_));rw [List.length_replicate];have h := itab0 a b ha hb t h2 _ 0 rfl (by omega);rw [List.replicate_zero, List.nil_append, Nat.sub_zero] at h;exact h
def mt : List ByteArray → List ByteArray → Nat → Nat → List Int × List Int
  | [], _, _, _ => ([], [])
  | _ :: _, [], _, _ => ([], [])
  | x :: a, y :: b, i, j => if x = y then ((i : Int) :: (mt a b (i + 1) (j + 1)).1, (j : Int) :: (mt a b (i + 1) (j + 1)).2) else if lcs (x :: a) b ≤ lcs a (y :: b) then mt a (y :: b) (i + 1) j else mt (x :: a) b i (j + 1)
termination_by a b => a.length + b.length
theorem mt_nil (b : List ByteArray) (i j : Nat) : mt [] b i j = ([], []) := by rw [mt]
theorem mt_nil' (a : List ByteArray) (i j : Nat) : mt a [] i j = ([], []) := by cases a <;> rw [mt]
theorem mt_eq {a b : List ByteArray} {i j : Nat} (hi : i < a.length) (hj : j < b.length) (h : a[i] = b[j]) (p q : Nat) :
    mt (a.drop i) (b.drop j) p q = ((p : Int) :: (mt (a.drop (i + 1)) (b.drop (j + 1)) (p + 1) (q + 1)).1, (q : Int) :: (mt (a.drop (i + 1)) (b.drop (j + 1)) (p + 1) (q + 1)).2) := by
 rw [drop_at hi, drop_at hj, mt, if_pos h]
theorem mt_a {a b : List ByteArray} {i j : Nat} (hi : i < a.length) (hj : j < b.length) (h : ¬ a[i] = b[j]) (h2 : lcs (a.drop i) (b.drop (j + 1)) ≤ lcs (a.drop (i + 1)) (b.drop j)) (p q : Nat) :
    mt (a.drop i) (b.drop j) p q = mt (a.drop (i + 1)) (b.drop j) (p + 1) q := by
 rw [drop_at hi, drop_at hj] at *;rw [mt, if_neg h, if_pos h2]
theorem mt_b {a b : List ByteArray} {i j : Nat} (hi : i < a.length) (hj : j < b.length) (h : ¬ a[i] = b[j]) (h2 : ¬ lcs (a.drop i) (b.drop (j + 1)) ≤ lcs (a.drop (i + 1)) (b.drop j)) (p q : Nat) :
    mt (a.drop i) (b.drop j) p q = mt (a.drop i) (b.drop (j + 1)) p (q + 1) := by
 rw [drop_at hi, drop_at hj] at *;rw [mt, if_neg h, if_neg h2]
def Inc (A B : Int) : List Int → List Int → Int → Int → Prop
  | [], [], i, j => i ≤ A ∧ j ≤ B
  | u :: us, v :: vs, i, j => i ≤ u ∧ j ≤ v ∧ Inc A B us vs (u + 1) (v + 1)
  | [], _ :: _, _, _ => False
  | _ :: _, [], _, _ => False
theorem mt_inc : ∀ (n : Nat) (a b : List ByteArray) (i j : Nat) (i' j' : Int), a.length + b.length = n → i' ≤ i → j' ≤ j → Inc ((i + a.length : Nat) : Int) ((j + b.length : Nat) : Int) (mt a b i j).1 (mt a b i j).2 i' j' := by
 intro n
 induction n using Nat.strongRecOn with
 | _ n ih =>
  intro a b i j i' j' hn hi hj
  cases a with
  | nil =>
   rw [mt_nil];exact ⟨by simp only [List.length_nil];omega, by omega⟩
  | cons x a =>
   cases b with
   | nil =>
    rw [mt_nil'];exact ⟨by omega, by simp only [List.length_nil];omega⟩
   | cons y b =>
    simp only [List.length_cons] at hn ⊢;rw [mt];split;(·have := ih _ (by omega) a b (i + 1) (j + 1) ((i : Int) + 1) ((j : Int) + 1) rfl (by omega) (by omega);rw [show i + (a.length + 1) = i + 1 + a.length by omega, show j + (b.length + 1) = j + 1 + b.length by omega];exact ⟨hi, hj, this⟩);split;(·have := ih _ (by simp only [List.length_cons];omega) a (y :: b) (i + 1) j i' j' rfl (by omega) (by omega);rw [show i + (a.length + 1) = i + 1 + a.length by omega];exact this);have := ih _ (by simp only [List.length_cons];omega) (x :: a) b i (j + 1) i' j' rfl (by omega) (by omega);rw [show j + (b.length + 1) = j + 1 + b.length by omega];exact this
theorem mt_len : ∀ (n : Nat) (a b : List ByteArray) (i j : Nat), a.length + b.length = n → (mt a b i j).1.length = lcs a b ∧ (mt a b i j).2.length = lcs a b := by
 intro n
 induction n using Nat.strongRecOn with
 | _ n ih =>
  intro a b i j hn
  cases a with
  | nil => rw [mt_nil, lcs_nil];exact ⟨rfl, rfl⟩
  | cons x a =>
   cases b with
   | nil => rw [mt_nil', lcs_nil'];exact ⟨rfl, rfl⟩
   | cons y b =>
    simp only [List.length_cons] at hn;rw [mt, lcs_cons];split;(·have := ih _ (by omega) a b (i + 1) (j + 1) rfl;exact ⟨by rw [List.length_cons, this.1], by rw [List.length_cons, this.2]⟩);split;(·rename_i h1 h2;have := ih _ (by simp only [List.length_cons];omega) a (y :: b) (i + 1) j rfl;rw [Nat.max_eq_left h2];exact this);rename_i h1 h2;have := ih _ (by simp only [List.length_cons];omega) (x :: a) b i (j + 1) rfl;rw [Nat.max_eq_right (by omega)];exact this
theorem spec_l2Match_loop (a b : List ByteArray) (ha : a.length ≤ 1000000) (hb : b.length ≤ 1000000) (t : List (List Int)) (ht : TabInv a b t 0 b.length) : ∀ (n i j : Nat) (x y : List Int), (a.length - i) + (b.length - j) = n → i ≤ a.length → j ≤ b.length → x.length ≤ i → y.length ≤ j →
    Ev (fun k => spec_l2Match.l0 k a b t x y (i : Int) (j : Int)) (x ++ (mt (a.drop i) (b.drop j) i j).1, y ++ (mt (a.drop i) (b.drop j) i j).2) := by
 intro n
 induction n using Nat.strongRecOn with
 | _ n ih =>
  intro i j x y hn hi hj hx hy;by_cases h : i < a.length ∧ j < b.length;rotate_left;(·(have hm : mt (a.drop i) (b.drop j) i j = ([], []) := by by_cases h1 : i < a.length;(·rw [List.drop_eq_nil_of_le (show b.length ≤ j by omega), mt_nil']);rw [List.drop_eq_nil_of_le (show a.length ≤ i by omega), mt_nil]);rw [hm, List.append_nil, List.append_nil];have e : Ev (fun k => spec_l2Match.j1 k a b t x y (i : Int) (j : Int) false) (x, y) := Ev.step (fun k => by rw [spec_l2Match.j1]) (Ev_neg (by simp) (Ev.now _));refine Ev.step (fun k => by rw [spec_l2Match.l0]) (Ev_if (fun h1 => ?_) (fun h1 => e));rw [show (decide ((j : Int) < (b.length : Int))) = false from decide_eq_false (by omega)];exact e);obtain ⟨h1, h2⟩ := h;have hl := ht.len;have r0 := ht.rows i (by omega);have r1 := ht.rows (i + 1) (by omega);have v1 := ht.all (r := i + 1) (c := j) (by omega) (by omega);have v2 := ht.all (r := i) (c := j + 1) (by omega) (by omega);refine Ev.step (fun k => by rw [spec_l2Match.l0]) (Ev_pos (by omega) ?_);rw [show (decide ((j : Int) < (b.length : Int))) = true from decide_eq_true (by omega)];refine Ev.step (fun k => by rw [spec_l2Match.j1]) (Ev_pos rfl (Ev_pos (by omega) (Ev_pos (by omega) (Ev_pos (by omega) (Ev_pos (by omega) ?_)))));rw [rd_nat _ h1, rd_nat _ h2, wsucc' (i := i) (by omega), wsucc' (i := j) (by omega), rdl_nat, rdl_nat, rd_getD, rd_getD, v1, v2];refine Ev_if (fun h => ?_) (fun h => ?_);(·rw [mt_eq h1 h2 (data_eq.1 h)];refine Ev_pos (by omega) (Ev_pos (by omega) ?_);have e := ih _ (by omega) (i + 1) (j + 1) (x ++ [(i : Int)]) (y ++ [(j : Int)]) rfl (by omega) (by omega) (by simp;omega) (by simp;omega);rw [List.append_assoc, List.append_assoc] at e;exact e);(have hne : ¬ a[i] = b[j] := fun e => h (data_eq.2 e));refine Ev_pos (by omega) (Ev_pos (by omega) (Ev_pos (by omega) (Ev_pos (by omega) (Ev_pos (by omega) (Ev_pos (by omega) ?_)))));refine Ev_if (fun h3 => ?_) (fun h3 => ?_);(·rw [mt_a h1 h2 hne (by omega)];exact ih _ (by omega) (i + 1) j x y rfl (by omega) (by omega) (by omega) (by omega));rw [mt_b h1 h2 hne (by omega)];exact ih _ (by omega) i (j + 1) x y rfl (by omega) (by omega) (by omega) (by omega)
theorem spec_l2Match_tells (a b : List ByteArray) (ha : a.length ≤ 1000000) (hb : b.length ≤ 1000000) : Ev (fun k => spec_l2Match.f k a b) (mt a b 0 0) := by
 obtain ⟨t, h1, h2⟩ := stab_tells a b ha hb;unfold spec_l2Match.f;refine Ev_call h2 ?_;have e := spec_l2Match_loop a b ha hb t h1 _ 0 0 [] [] rfl (by omega) (by omega) (by simp) (by simp);rw [List.drop_zero, List.drop_zero, List.nil_append, List.nil_append] at e;exact e
theorem impl_match_loop (a b : List ByteArray) (ha : a.length ≤ 1000000) (hb : b.length ≤ 1000000) (t : List (List Int)) (ht : TabInv a b t 0 b.length) : ∀ (n i j : Nat) (x y : List Int), (a.length - i) + (b.length - j) = n → i ≤ a.length → j ≤ b.length → x.length ≤ i → y.length ≤ j →
    Ev (fun k => impl_match.l0 k a b t x y (i : Int) (j : Int)) (x ++ (mt (a.drop i) (b.drop j) i j).1, y ++ (mt (a.drop i) (b.drop j) i j).2) := by
 intro n
 induction n using Nat.strongRecOn with
 | _ n ih =>
  intro i j x y hn hi hj hx hy;by_cases h : i < a.length ∧ j < b.length;rotate_left;(·(have hm : mt (a.drop i) (b.drop j) i j = ([], []) := by by_cases h1 : i < a.length;(·rw [List.drop_eq_nil_of_le (show b.length ≤ j by omega), mt_nil']);rw [List.drop_eq_nil_of_le (show a.length ≤ i by omega), mt_nil]);rw [hm, List.append_nil, List.append_nil];have e : Ev (fun k => impl_match.j1 k a b t x y (i : Int) (j : Int) false) (x, y) := Ev.step (fun k => by rw [impl_match.j1]) (Ev_neg (by simp) (Ev.now _));refine Ev.step (fun k => by rw [impl_match.l0]) (Ev_if (fun h1 => ?_) (fun h1 => e));rw [show (decide ((j : Int) < (b.length : Int))) = false from decide_eq_false (by omega)];exact e);obtain ⟨h1, h2⟩ := h;have hl := ht.len;have r0 := ht.rows i (by omega);have r1 := ht.rows (i + 1) (by omega);have v1 := ht.all (r := i + 1) (c := j) (by omega) (by omega);have v2 := ht.all (r := i) (c := j + 1) (by omega) (by omega);refine Ev.step (fun k => by rw [impl_match.l0]) (Ev_pos (by omega) ?_);rw [show (decide ((j : Int) < (b.length : Int))) = true from decide_eq_true (by omega)];refine Ev.step (fun k => by rw [impl_match.j1]) (Ev_pos rfl (Ev_pos (by omega) (Ev_pos (by omega) (Ev_pos (by omega) (Ev_pos (by omega) ?_)))));rw [rd_nat _ h1, rd_nat _ h2, wsucc' (i := i) (by omega), wsucc' (i := j) (by omega), rdl_nat, rdl_nat, rd_getD, rd_getD, v1, v2];refine Ev_if (fun h => ?_) (fun h => ?_);(·rw [mt_eq h1 h2 (data_eq.1 h)];refine Ev_pos (by omega) (Ev_pos (by omega) ?_);have e := ih _ (by omega) (i + 1) (j + 1) (x ++ [(i : Int)]) (y ++ [(j : Int)]) rfl (by omega) (by omega) (by simp;omega) (by simp;omega);rw [List.append_assoc, List.append_assoc] at e;exact e);(have hne : ¬ a[i] = b[j] := fun e => h (data_eq.2 e));refine Ev_pos (by omega) (Ev_pos (by omega) (Ev_pos (by omega) (Ev_pos (by omega) (Ev_pos (by omega) (Ev_pos (by omega) ?_)))));refine Ev_if (fun h3 => ?_) (fun h3 => ?_);(·rw [mt_a h1 h2 hne (by omega)];exact ih _ (by omega) (i + 1) j x y rfl (by omega) (by omega) (by omega) (by omega));rw [mt_b h1 h2 hne (by omega)];exact ih _ (by omega) i (j + 1) x y rfl (by omega) (by omega) (by omega) (by omega)
theorem impl_match_tells (a b : List ByteArray) (ha : a.length ≤ 1000000) (hb : b.length ≤ 1000000) : Ev (fun k => impl_match.f k a b) (mt a b 0 0) := by
 obtain ⟨t, h1, h2⟩ := itab_tells a b ha hb;unfold impl_match.f;refine Ev_call h2 ?_;have e := impl_match_loop a b ha hb t h1 _ 0 0 [] [] rfl (by omega) (by omega) (by simp) (by simp);rw [List.drop_zero, List.drop_zero, List.nil_append, List.nil_append] at e;exact e
end Go.Proofs.Ytelngmkfjpcbgaa.P
end
section
set_option linter.unusedVariables false
set_option linter.unusedSimpArgs false
namespace Go.Proofs.Ytelngmkfjpcbgaa.P
end Go.Proofs.Ytelngmkfjpcbgaa.P
end
section
set_option linter.unusedVariables false
set_option linter.unusedSimpArgs false
namespace Go.Proofs.Ytelngmkfjpcbgaa.P
open Go.RowKit Go.Proofs.YtelngmkfjpcbgaaW.PrintWords Go.Proofs.YtelngmkfjpcbgaaW.PrintLast
def Inc2 (M : Int) : List Int → List Int → Int → Int → Prop
  | [], [], _, _ => True
  | u :: us, v :: vs, i, j => i ≤ u ∧ j ≤ v ∧ u ≤ M ∧ v ≤ M ∧ Inc2 M us vs (u + 1) (v + 1)
  | [], _ :: _, _, _ => False
  | _ :: _, [], _, _ => False
theorem Inc.two {A B M : Int} (hA : A ≤ M) (hB : B ≤ M) : ∀ (p q : List Int) (i j : Int), Inc A B p q i j → i ≤ A ∧ j ≤ B ∧ Inc2 M (p ++ [A]) (q ++ [B]) i j
  | [], [], i, j, h => ⟨h.1, h.2, h.1, h.2, hA, hB, trivial⟩
  | u :: us, v :: vs, i, j, h => by
    obtain ⟨h1, h2, h3⟩ := h
    obtain ⟨h4, h5, h6⟩ := Inc.two hA hB us vs _ _ h3
    exact ⟨by omega, by omega, h1, h2, by omega, by omega, h6⟩
  | [], _ :: _, _, _, h => h.elim
  | _ :: _, [], _, _, h => h.elim
theorem Inc2.len {M : Int} : ∀ (p q : List Int) (i j : Int), Inc2 M p q i j → p.length = q.length
  | [], [], _, _, _ => rfl
  | _ :: us, _ :: vs, _, _, h => by rw [List.length_cons, List.length_cons, Inc2.len us vs _ _ h.2.2.2.2]
  | [], _ :: _, _, _, h => h.elim
  | _ :: _, [], _, _, h => h.elim
def chs : List Int → List Int → Int → Int → List S53
  | u :: us, v :: vs, i, j => if u > i ∨ v > j then ⟨i, u - i, j, v - j⟩ :: chs us vs (u + 1) (v + 1) else chs us vs (u + 1) (v + 1)
  | _, _, _, _ => []
theorem chs_cons (u v : Int) (us vs : List Int) (i j : Int) : chs (u :: us) (v :: vs) i j = if u > i ∨ v > j then ⟨i, u - i, j, v - j⟩ :: chs us vs (u + 1) (v + 1) else chs us vs (u + 1) (v + 1) := rfl
theorem sch_loop (us vs : List Int) (hl : us.length ≤ 2000000) (he : us.length = vs.length) : ∀ (d n : Nat) (o : List S53) (i j : Int), us.length - n = d → n ≤ us.length → o.length ≤ n → 0 ≤ i → 0 ≤ j → Inc2 1000000 (us.drop n) (vs.drop n) i j →
    Ev (fun k => spec_l2Changes.l0 k us vs o i j (n : Int)) (o ++ chs (us.drop n) (vs.drop n) i j) := by
 intro d
 induction d with
 | zero =>
  intro n o i j hd hn ho hi hj h;refine Ev.step (fun k => by rw [spec_l2Changes.l0]) (Ev_neg (by omega) (Ev_val ?_));rw [List.drop_eq_nil_of_le (show us.length ≤ n by omega), List.drop_eq_nil_of_le (show vs.length ≤ n by omega)];exact (List.append_nil _).symm
 | succ d ih =>
  intro n o i j hd hn ho hi hj h;(have h1 : n < us.length := by omega);(have h2 : n < vs.length := by omega);rw [drop_at h1, drop_at h2] at h ⊢;obtain ⟨g1, g2, g3, g4, g5⟩ := h;rw [chs_cons];refine Ev.step (fun k => by rw [spec_l2Changes.l0]) (Ev_pos (by omega) (Ev_pos (by omega) ?_));rw [rdi_nat h1, rdi_nat h2, wid (x := us[n] - i) (by omega) (by omega), wid (x := vs[n] - j) (by omega) (by omega), wid (x := us[n] + 1) (by omega) (by omega), wid (x := vs[n] + 1) (by omega) (by omega), wsucc' (by omega)];(have go1 : Ev (fun k => spec_l2Changes.l0 k us vs (o ++ [⟨i, us[n] - i, j, vs[n] - j⟩]) (us[n] + 1) (vs[n] + 1) ((n + 1 : Nat) : Int)) (o ++ ⟨i, us[n] - i, j, vs[n] - j⟩ :: chs (us.drop (n + 1)) (vs.drop (n + 1)) (us[n] + 1) (vs[n] + 1)) := by have := ih (n + 1) (o ++ [⟨i, us[n] - i, j, vs[n] - j⟩]) (us[n] + 1) (vs[n] + 1) (by omega) (by omega) (by simp;omega) (by omega) (by omega) g5;rw [List.append_assoc] at this;exact this);refine Ev_if (fun h => ?_) (fun h => ?_);(·rw [if_pos (.inl h)];exact Ev_pos (by omega) (Ev_pos (by omega) go1));refine Ev_pos (by omega) (Ev_if (fun h3 => ?_) (fun h3 => ?_));(·rw [if_pos (.inr h3)];exact Ev_pos (by omega) go1);rw [if_neg (by omega)];exact ih (n + 1) o (us[n] + 1) (vs[n] + 1) (by omega) (by omega) (by omega) (by omega) (by omega) g5
theorem ich_loop (us vs : List Int) (hl : us.length ≤ 2000000) (he : us.length = vs.length) : ∀ (d n : Nat) (o : List S53) (i j : Int), us.length - n = d → n ≤ us.length → o.length ≤ n → 0 ≤ i → 0 ≤ j → Inc2 1000000 (us.drop n) (vs.drop n) i j →
    Ev (fun k => impl_changesOf.l0 k vs o i j us (us.length : Int) (n : Int)) (o ++ chs (us.drop n) (vs.drop n) i j) := by
 intro d
 induction d with
 | zero =>
  intro n o i j hd hn ho hi hj h;refine Ev.step (fun k => by rw [impl_changesOf.l0]) (Ev_neg (by omega) (Ev_val ?_));rw [List.drop_eq_nil_of_le (show us.length ≤ n by omega), List.drop_eq_nil_of_le (show vs.length ≤ n by omega)];exact (List.append_nil _).symm
 | succ d ih =>
  intro n o i j hd hn ho hi hj h;(have h1 : n < us.length := by omega);(have h2 : n < vs.length := by omega);rw [drop_at h1, drop_at h2] at h ⊢;obtain ⟨g1, g2, g3, g4, g5⟩ := h;rw [chs_cons];refine Ev.step (fun k => by rw [impl_changesOf.l0]) (Ev_pos (by omega) (Ev_pos (by omega) (Ev_pos (by omega) (Ev_pos (by omega) ?_))));rw [rdi_nat h1, rdi_nat h2, wid (x := us[n] - i) (by omega) (by omega), wid (x := vs[n] - j) (by omega) (by omega), wid (x := us[n] + 1) (by omega) (by omega), wid (x := vs[n] + 1) (by omega) (by omega), wsucc' (by omega)];(have go1 : Ev (fun k => impl_changesOf.l0 k vs (o ++ [⟨i, us[n] - i, j, vs[n] - j⟩]) (us[n] + 1) (vs[n] + 1) us (us.length : Int) ((n + 1 : Nat) : Int)) (o ++ ⟨i, us[n] - i, j, vs[n] - j⟩ :: chs (us.drop (n + 1)) (vs.drop (n + 1)) (us[n] + 1) (vs[n] + 1)) := by have := ih (n + 1) (o ++ [⟨i, us[n] - i, j, vs[n] - j⟩]) (us[n] + 1) (vs[n] + 1) (by omega) (by omega) (by simp;omega) (by omega) (by omega) g5;rw [List.append_assoc] at this;exact this);refine Ev_if (fun h => ?_) (fun h => ?_);(·rw [if_pos (.inl h)];exact Ev_pos (by omega) go1);refine Ev_if (fun h3 => ?_) (fun h3 => ?_);(·rw [if_pos (.inr h3)];exact Ev_pos (by omega) go1);rw [if_neg (by omega)];exact ih (n + 1) o (us[n] + 1) (vs[n] + 1) (by omega) (by omega) (by omega) (by omega) (by omega) g5
def CHS (a b : List ByteArray) : List S53 := chs ((mt a b 0 0).1 ++ [(a.length : Int)]) ((mt a b 0 0).2 ++ [(b.length : Int)]) 0 0
theorem chs_ready (a b : List ByteArray) (ha : a.length ≤ 1000000) (hb : b.length ≤ 1000000) : Inc2 1000000 ((mt a b 0 0).1 ++ [(a.length : Int)]) ((mt a b 0 0).2 ++ [(b.length : Int)]) 0 0 ∧ ((mt a b 0 0).1 ++ [(a.length : Int)]).length ≤ 1000001 ∧ ((mt a b 0 0).2 ++ [(b.length : Int)]).length ≤ 1000001 := by
 have h := mt_inc _ a b 0 0 0 0 rfl (by omega) (by omega);rw [Nat.zero_add, Nat.zero_add] at h;have h2 := (Inc.two (M := 1000000) (by omega) (by omega) _ _ _ _ h).2.2;have hl := mt_len _ a b 0 0 rfl;have hle := lcs_le a b;refine ⟨h2, ?_, ?_⟩;(·rw [List.length_append, hl.1];simp;omega);rw [List.length_append, hl.2];simp;omega
theorem sch_tells (a b : List ByteArray) (ha : a.length ≤ 1000000) (hb : b.length ≤ 1000000) : Ev (fun k => spec_l2Changes.f k a b) (CHS a b) := by
 obtain ⟨h1, h2, h3⟩ := chs_ready a b ha hb;have he := Inc2.len _ _ _ _ h1;unfold spec_l2Changes.f;refine Ev_call (spec_l2Match_tells a b ha hb) (Ev_pos (by rw [List.length_append] at h2;simp at h2;omega) (Ev_pos (by rw [List.length_append] at h3;simp at h3;omega) ?_));have := sch_loop _ _ (by omega) he _ 0 [] 0 0 rfl (by omega) (by simp) (by omega) (by omega) (by rw [List.drop_zero, List.drop_zero];exact h1);rw [List.drop_zero, List.drop_zero, List.nil_append] at this;exact this
theorem ich_tells (a b : List ByteArray) (ha : a.length ≤ 1000000) (hb : b.length ≤ 1000000) : Ev (fun k => impl_changesOf.f k a b) (CHS a b) := by
 obtain ⟨h1, h2, h3⟩ := chs_ready a b ha hb;have he := Inc2.len _ _ _ _ h1;unfold impl_changesOf.f;refine Ev_call (impl_match_tells a b ha hb) (Ev_pos (by rw [List.length_append] at h2;simp at h2;omega) ?_);refine Ev_const rfl ?_;refine Ev_pos (by rw [List.length_append] at h3;simp at h3;omega) ?_;have := ich_loop _ _ (by omega) he _ 0 [] 0 0 rfl (by omega) (by simp) (by omega) (by omega) (by rw [List.drop_zero, List.drop_zero];exact h1);rw [List.drop_zero, List.drop_zero, List.nil_append] at this;exact this
end Go.Proofs.Ytelngmkfjpcbgaa.P
end
section
namespace Go.Proofs.Ytelngmkfjpcbgaa.P
open Go.RowKit Go.Proofs.YtelngmkfjpcbgaaW.PrintWords Go.Proofs.YtelngmkfjpcbgaaW.PrintLast Go.Proofs.YtelngmkfjpcbgaaW.PrintMore
attribute [local go_sem] max2_int min2_int max_two min_two max_three min_three max_four min_four
end Go.Proofs.Ytelngmkfjpcbgaa.P
end
section
namespace Go.Proofs.Ytelngmkfjpcbgaa.P
open Go.RowKit Go.Proofs.YtelngmkfjpcbgaaW.PrintWords Go.Proofs.YtelngmkfjpcbgaaW.PrintLast Go.Proofs.YtelngmkfjpcbgaaW.PrintMore
attribute [local go_sem] max2_int min2_int max_two min_two max_three min_three max_four min_four
end Go.Proofs.Ytelngmkfjpcbgaa.P
end
section
namespace Go.Proofs.Ytelngmkfjpcbgaa.P
open Go.RowKit Go.Proofs.YtelngmkfjpcbgaaW.PrintWords Go.Proofs.YtelngmkfjpcbgaaW.PrintLast Go.Proofs.YtelngmkfjpcbgaaW.PrintMore
attribute [local go_sem] max2_int min2_int max_two min_two max_three min_three max_four min_four
end Go.Proofs.Ytelngmkfjpcbgaa.P
end
section
namespace Go.Proofs.Ytelngmkfjpcbgaa.P
open Go.RowKit Go.Proofs.YtelngmkfjpcbgaaW.PrintWords Go.Proofs.YtelngmkfjpcbgaaW.PrintLast Go.Proofs.YtelngmkfjpcbgaaW.PrintMore
attribute [local go_sem] max2_int min2_int max_two min_two max_three min_three max_four min_four
end Go.Proofs.Ytelngmkfjpcbgaa.P
end
section
namespace Go.Proofs.Ytelngmkfjpcbgaa.P
open Go.RowKit Go.Proofs.YtelngmkfjpcbgaaW.PrintWords Go.Proofs.YtelngmkfjpcbgaaW.PrintLast Go.Proofs.YtelngmkfjpcbgaaW.PrintMore
attribute [local go_sem] max2_int min2_int max_two min_two max_three min_three max_four min_four
end Go.Proofs.Ytelngmkfjpcbgaa.P
end
section
namespace Go.Proofs.Ytelngmkfjpcbgaa.P
open Go.RowKit Go.Proofs.YtelngmkfjpcbgaaW.PrintWords Go.Proofs.YtelngmkfjpcbgaaW.PrintLast Go.Proofs.YtelngmkfjpcbgaaW.PrintMore
attribute [local go_sem] max2_int min2_int max_two min_two max_three min_three max_four min_four
end Go.Proofs.Ytelngmkfjpcbgaa.P
end
section
namespace Go.Proofs.Ytelngmkfjpcbgaa.P
open Go.RowKit Go.Proofs.YtelngmkfjpcbgaaW.PrintWords Go.Proofs.YtelngmkfjpcbgaaW.PrintLast Go.Proofs.YtelngmkfjpcbgaaW.PrintMore
attribute [local go_sem] max2_int min2_int max_two min_two max_three min_three max_four min_four
end Go.Proofs.Ytelngmkfjpcbgaa.P
end
section
set_option linter.unusedVariables false
set_option linter.unusedSimpArgs false
namespace Go.Proofs.Ytelngmkfjpcbgaa.P
open Go.RowKit Go.Proofs.YtelngmkfjpcbgaaW.PrintWords Go.Proofs.YtelngmkfjpcbgaaW.PrintLast
def Code (c : List Int) : Prop := ∀ x ∈ c, 0 ≤ x ∧ x ≤ 255
theorem Code.rd {c : List Int} (hc : Code c) {i : Int} (h0 : 0 ≤ i) (h1 : i < (c.length : Int)) : 0 ≤ rd c i ∧ rd c i ≤ 255 := by
 obtain ⟨n, rfl⟩ := Int.eq_ofNat_of_zero_le h0;(have hn : n < c.length := by omega);rw [rdi_nat hn];exact hc _ (List.getElem_mem hn)
def Lin (lo hi : Nat) (l : List ByteArray) : Prop := ∀ x ∈ l, lo ≤ x.size ∧ x.size ≤ hi
theorem Lin.mono {lo hi lo' hi' : Nat} {l : List ByteArray} (h : Lin lo hi l) (h1 : lo' ≤ lo) (h2 : hi ≤ hi') : Lin lo' hi' l := fun x hx => ⟨Nat.le_trans h1 (h x hx).1, Nat.le_trans (h x hx).2 h2⟩
theorem Lin.one {lo hi : Nat} {s : ByteArray} (h : lo ≤ s.size ∧ s.size ≤ hi) : Lin lo hi [s] := fun x hx => by
  rw [List.mem_singleton.1 hx]
  exact h
theorem Lin.take {lo hi : Nat} {l : List ByteArray} (h : Lin lo hi l) (n : Nat) : Lin lo hi (l.take n) := fun x hx => h x (List.mem_of_mem_take hx)
theorem Lin.drop {lo hi : Nat} {l : List ByteArray} (h : Lin lo hi l) (n : Nat) : Lin lo hi (l.drop n) := fun x hx => h x (List.mem_of_mem_drop hx)
theorem Lin.set {lo hi : Nat} {l : List ByteArray} (h : Lin lo hi l) (i : Nat) {s : ByteArray} (hs : lo ≤ s.size ∧ s.size ≤ hi) : Lin lo hi (l.set i s) := fun x hx => by
  rcases List.mem_or_eq_of_mem_set hx with hx | rfl
  · exact h x hx
  · exact hs
theorem Lin.total {lo hi : Nat} : ∀ {l : List ByteArray}, Lin lo hi l → total l ≤ hi * l.length := by
 intro l
 induction l with
 | nil => intro _;simp [Go.Proofs.Ytelngmkfjpcbgaa.P.total]
 | cons x l ih =>
  intro h;have h1 := (h x (by simp)).2;have h2 := ih (fun y hy => h y (by simp [hy]));simp only [Go.Proofs.Ytelngmkfjpcbgaa.P.total, List.length_cons, Nat.mul_add, Nat.mul_one];omega
end Go.Proofs.Ytelngmkfjpcbgaa.P
end
section
namespace Go.Proofs.Ytelngmkfjpcbgaa.P
open Go.RowKit Go.Proofs.YtelngmkfjpcbgaaW.PrintWords Go.Proofs.YtelngmkfjpcbgaaW.PrintLast Go.Proofs.YtelngmkfjpcbgaaW.PrintMore
attribute [local go_sem] max2_int min2_int max_two min_two max_three min_three max_four min_four
end Go.Proofs.Ytelngmkfjpcbgaa.P
end
section
set_option linter.unusedVariables false
set_option linter.unusedSimpArgs false
set_option linter.unusedSectionVars false
namespace Go.Proofs.Ytelngmkfjpcbgaa.P
end Go.Proofs.Ytelngmkfjpcbgaa.P
end
section
set_option linter.unusedVariables false
set_option linter.unusedSimpArgs false
namespace Go.Proofs.Ytelngmkfjpcbgaa.P
open Go.RowKit Go.Proofs.YtelngmkfjpcbgaaW.PrintWords Go.Proofs.YtelngmkfjpcbgaaW.PrintLast
def Mat (a b : List ByteArray) : List Int → List Int → Nat → Nat → Prop
  | [], [], i, j => i ≤ a.length ∧ j ≤ b.length
  | u :: us, v :: vs, i, j => ∃ m n : Nat, u = (m : Int) ∧ v = (n : Int) ∧ i ≤ m ∧ j ≤ n ∧ (∃ (hm : m < a.length) (hn : n < b.length), a[m] = b[n]) ∧ Mat a b us vs (m + 1) (n + 1)
  | [], _ :: _, _, _ => False
  | _ :: _, [], _, _ => False
theorem Mat.lower {a b : List ByteArray} : ∀ {p q : List Int} {i j i' j' : Nat}, Mat a b p q i j → i' ≤ i → j' ≤ j → Mat a b p q i' j'
  | [], [], _, _, _, _, h, h1, h2 => ⟨Nat.le_trans h1 h.1, Nat.le_trans h2 h.2⟩
  | _ :: _, _ :: _, _, _, _, _, ⟨m, n, e1, e2, g1, g2, g3, g4⟩, h1, h2 => ⟨m, n, e1, e2, Nat.le_trans h1 g1, Nat.le_trans h2 g2, g3, g4⟩
  | [], _ :: _, _, _, _, _, h, _, _ => h.elim
  | _ :: _, [], _, _, _, _, h, _, _ => h.elim
theorem mt_mat (a b : List ByteArray) : ∀ (d i j : Nat), (a.length - i) + (b.length - j) = d → i ≤ a.length → j ≤ b.length → Mat a b (mt (a.drop i) (b.drop j) i j).1 (mt (a.drop i) (b.drop j) i j).2 i j := by
 intro d
 induction d using Nat.strongRecOn with
 | _ d ih =>
  intro i j hd hi hj;by_cases c0 : i < a.length;rotate_left;(·rw [List.drop_eq_nil_of_le (show a.length ≤ i by omega), mt_nil];exact ⟨hi, hj⟩);by_cases c1 : j < b.length;rotate_left;(·rw [List.drop_eq_nil_of_le (show b.length ≤ j by omega), mt_nil'];exact ⟨hi, hj⟩);by_cases h : a[i] = b[j];(·rw [mt_eq c0 c1 h];exact ⟨i, j, rfl, rfl, Nat.le_refl _, Nat.le_refl _, ⟨c0, c1, h⟩, ih _ (by omega) (i + 1) (j + 1) rfl (by omega) (by omega)⟩);by_cases h2 : lcs (a.drop i) (b.drop (j + 1)) ≤ lcs (a.drop (i + 1)) (b.drop j);(·rw [mt_a c0 c1 h h2];exact (ih _ (by omega) (i + 1) j rfl (by omega) hj).lower (by omega) (Nat.le_refl _));rw [mt_b c0 c1 h h2];exact (ih _ (by omega) i (j + 1) rfl hi (by omega)).lower (Nat.le_refl _) (by omega)
theorem seg_cat (b : List ByteArray) {j0 j : Nat} (h : j0 ≤ j) (hj : j ≤ b.length) : (b.take j).drop j0 ++ b.drop j = b.drop j0 := by
 rw [← List.drop_append_of_le_length (by rw [List.length_take];omega), List.take_append_drop]
theorem seg_cat3 (b : List ByteArray) {j0 j n : Nat} (h : j0 ≤ j) (h2 : j ≤ n) (hn : n ≤ b.length) : (b.take j).drop j0 ++ ((b.take n).drop j ++ b.drop n) = b.drop j0 := by
 rw [seg_cat b h2 hn, seg_cat b h (by omega)]
theorem seg_one (a : List ByteArray) {i0 m : Nat} (h : i0 ≤ m) (hm : m < a.length) : (a.take (m + 1)).drop i0 = (a.take m).drop i0 ++ [a[m]] := by
 rw [List.take_succ_eq_append_getElem hm, List.drop_append_of_le_length (by rw [List.length_take];omega)]
theorem seg_none (a : List ByteArray) (m : Nat) : (a.take m).drop m = [] := by
 rw [List.drop_eq_nil_iff, List.length_take];omega
theorem wv_chs (a b : List ByteArray) : ∀ (p q : List Int) (i j i0 j0 : Nat), Mat a b p q i j → i0 ≤ i → j0 ≤ j → (a.take i).drop i0 = (b.take j).drop j0 →
    WV a b (chs (p ++ [(a.length : Int)]) (q ++ [(b.length : Int)]) (i : Int) (j : Int)) (i0 : Int) = b.drop j0
  | [], [], i, j, i0, j0, h, h1, h2, hs => by
    obtain ⟨g1, g2⟩ := h
    rw [List.nil_append, List.nil_append, chs_cons]
    split
    · rw [WV_cons]
      dsimp only
      rw [show (j : Int) + ((b.length : Int) - (j : Int)) = ((b.length : Nat) : Int) by omega, show (i : Int) + ((a.length : Int) - (i : Int)) = ((a.length : Nat) : Int) by omega, Int.toNat_natCast, Int.toNat_natCast, Int.toNat_natCast, Int.toNat_natCast, hs, List.take_length]
      show _ ++ (_ ++ a.drop ((a.length : Nat) : Int).toNat) = _
      rw [Int.toNat_natCast, List.drop_length, List.append_nil]
      exact seg_cat b h2 g2
    · have e1 : i = a.length := by omega
      have e2 : j = b.length := by omega
      show a.drop ((i0 : Nat) : Int).toNat = _
      rw [Int.toNat_natCast]
      rw [e1, e2, List.take_length, List.take_length] at hs
      exact hs
  | u :: us, v :: vs, i, j, i0, j0, h, h1, h2, hs => by
    obtain ⟨m, n, rfl, rfl, g1, g2, ⟨hm, hn, g3⟩, g4⟩ := h
    rw [List.cons_append, List.cons_append, chs_cons]
    split
    · have ih := wv_chs a b us vs (m + 1) (n + 1) m n g4 (by omega) (by omega) (by rw [seg_one a (Nat.le_refl _) hm, seg_one b (Nat.le_refl _) hn, g3, seg_none, seg_none])
      rw [WV_cons]
      dsimp only
      rw [show (j : Int) + ((n : Int) - (j : Int)) = ((n : Nat) : Int) by omega, show (i : Int) + ((m : Int) - (i : Int)) = ((m : Nat) : Int) by omega, Int.toNat_natCast, Int.toNat_natCast, Int.toNat_natCast, Int.toNat_natCast, hs]
      rw [show ((m : Nat) : Int) + 1 = ((m + 1 : Nat) : Int) from rfl, show ((n : Nat) : Int) + 1 = ((n + 1 : Nat) : Int) from rfl, ih]
      exact seg_cat3 b h2 g2 (by omega)
    · have e1 : m = i := by omega
      have e2 : n = j := by omega
      subst e1 e2
      rw [show ((m : Nat) : Int) + 1 = ((m + 1 : Nat) : Int) from rfl, show ((n : Nat) : Int) + 1 = ((n + 1 : Nat) : Int) from rfl]
      exact wv_chs a b us vs (m + 1) (n + 1) i0 j0 g4 (by omega) (by omega) (by rw [seg_one a h1 hm, seg_one b h2 hn, g3, hs])
  | [], _ :: _, _, _, _, _, h, _, _, _ => h.elim
  | _ :: _, [], _, _, _, _, h, _, _, _ => h.elim
theorem CF_ok {la lb : Int} {c : S53} {l : List S53} {i j : Int} {fst : Bool} (h1 : ChIn la lb c) (h2 : ¬ (c.f1 = 0 ∧ c.f3 = 0)) (h3 : c.f0 - i = c.f2 - j) (h4 : i ≤ c.f0) (h5 : fst = false → c.f0 ≠ i) :
    CF la lb (c :: l) i j fst = CF la lb l (c.f0 + c.f1) (c.f2 + c.f3) false := by
 rw [CF_cons, if_neg (fun e => e h1), if_neg];rintro (e | e | e | e);(·exact h2 e);(·exact e h3);(·omega);exact h5 e.1 e.2
theorem cf_chs (a b : List ByteArray) : ∀ (p q : List Int) (i j i0 j0 : Nat) (fst : Bool), Mat a b p q i j → i0 ≤ i → j0 ≤ j → (i : Int) - i0 = (j : Int) - j0 → (fst = false → i0 < i) →
    CF a.length b.length (chs (p ++ [(a.length : Int)]) (q ++ [(b.length : Int)]) (i : Int) (j : Int)) (i0 : Int) (j0 : Int) fst = 0
  | [], [], i, j, i0, j0, fst, h, h1, h2, hs, hf => by
    obtain ⟨g1, g2⟩ := h
    rw [List.nil_append, List.nil_append, chs_cons]
    split
    · rw [CF_ok (by unfold ChIn;dsimp only;omega) (by dsimp only;omega) hs (by dsimp only;omega) (fun e => by have := hf e;dsimp only;omega)]
      rfl
    · rfl
  | u :: us, v :: vs, i, j, i0, j0, fst, h, h1, h2, hs, hf => by
    obtain ⟨m, n, rfl, rfl, g1, g2, ⟨hm, hn, g3⟩, g4⟩ := h
    rw [List.cons_append, List.cons_append, chs_cons]
    split
    · rw [CF_ok (by unfold ChIn;dsimp only;omega) (by dsimp only;omega) hs (by dsimp only;omega) (fun e => by have := hf e;dsimp only;omega)]
      dsimp only
      have ih := cf_chs a b us vs (m + 1) (n + 1) m n false g4 (by omega) (by omega) (by omega) (fun _ => by omega)
      rw [show (j : Int) + ((n : Int) - (j : Int)) = ((n : Nat) : Int) by omega, show (i : Int) + ((m : Int) - (i : Int)) = ((m : Nat) : Int) by omega]
      exact ih
    · have e1 : m = i := by omega
      have e2 : n = j := by omega
      subst e1 e2
      exact cf_chs a b us vs (m + 1) (n + 1) i0 j0 fst g4 (by omega) (by omega) (by omega) (fun e => by have := hf e;omega)
  | [], _ :: _, _, _, _, _, _, h, _, _, _, _ => h.elim
  | _ :: _, [], _, _, _, _, _, h, _, _, _, _ => h.elim
theorem mat_all (a b : List ByteArray) : Mat a b (mt a b 0 0).1 (mt a b 0 0).2 0 0 := by
 have := mt_mat a b _ 0 0 rfl (by omega) (by omega);rw [List.drop_zero, List.drop_zero] at this;exact this
theorem CHS_makes (a b : List ByteArray) : WV a b (CHS a b) 0 = b := wv_chs a b _ _ 0 0 0 0 (mat_all a b) (by omega) (by omega) rfl
theorem CHS_right (a b : List ByteArray) : CF a.length b.length (CHS a b) 0 0 true = 0 := cf_chs a b _ _ 0 0 0 0 true (mat_all a b) (by omega) (by omega) rfl (fun e => by cases e)
abbrev CH := S53
def mkd (m : UInt8) (l : List ByteArray) : List ByteArray := l.map (fun s => (⟨#[m]⟩ : ByteArray) ++ s)
theorem mkd_len (m : UInt8) (l : List ByteArray) : (mkd m l).length = l.length := by unfold mkd;rw [List.length_map]
def pie (a b : List ByteArray) (c : CH) : List ByteArray := mkd 45 (sg a c.f0.toNat (c.f0 + c.f1).toNat) ++ mkd 43 (sg b c.f2.toNat (c.f2 + c.f3).toNat)
def endc (a : List ByteArray) (ctx e : Int) : List ByteArray := mkd 32 (sg a e.toNat (min (e + ctx) (a.length : Int)).toNat)
def ahd (ctx : Int) (c : CH) : Int := min ctx c.f0
def opn (a b : List ByteArray) (ctx : Int) (c : CH) : HK := ⟨c.f0 - ahd ctx c, c.f2 - ahd ctx c, mkd 32 (sg a (c.f0 - ahd ctx c).toNat c.f0.toNat) ++ pie a b c⟩
def gos (a b : List ByteArray) (ctx : Int) : List CH → Int → HK → List HK
  | [], e, h => [⟨h.f0, h.f1, h.f2 ++ endc a ctx e⟩]
  | c :: l, e, h => if c.f0 - e > 2 * ctx then (⟨h.f0, h.f1, h.f2 ++ endc a ctx e⟩ : HK) :: gos a b ctx l (c.f0 + c.f1) (opn a b ctx c) else gos a b ctx l (c.f0 + c.f1) ⟨h.f0, h.f1, h.f2 ++ (mkd 32 (sg a e.toNat c.f0.toNat) ++ pie a b c)⟩
def HUN (a b : List ByteArray) (ctx : Int) : List CH → List HK
  | [] => []
  | c :: l => gos a b ctx l (c.f0 + c.f1) (opn a b ctx c)
theorem ld_stay {a b : List ByteArray} : ∀ (n i j : Nat), i + n ≤ a.length → j + n ≤ b.length → sg a i (i + n) = sg b j (j + n) → Ld a b (mkd 32 (sg a i (i + n))) i j (i + n) (j + n) := by
 intro n
 induction n with
 | zero => intro i j hi hj _;rw [Nat.add_zero, sg_same];exact .nil
 | succ n ih =>
  intro i j hi hj h;(have e1 : i + (n + 1) = i + 1 + n := by omega);(have e2 : j + (n + 1) = j + 1 + n := by omega);rw [e1, e2] at h ⊢;rw [e1] at hi;rw [e2] at hj;rw [sg_next (by omega) hi, sg_next (by omega) hj] at h;rw [sg_next (by omega) hi];(injection h with h1 h2);exact .stay (mk_front 32 _) (by omega) (by omega) (tl_front _ _).symm (by rw [tl_front];exact h1.symm) (ih (i + 1) (j + 1) (by omega) (by omega) h2)
theorem ld_goes {a b : List ByteArray} : ∀ (n i j : Nat), i + n ≤ a.length → Ld a b (mkd 45 (sg a i (i + n))) i j (i + n) j := by
 intro n
 induction n with
 | zero => intro i j hi;rw [Nat.add_zero, sg_same];exact .nil
 | succ n ih =>
  intro i j hi;(have e1 : i + (n + 1) = i + 1 + n := by omega);rw [e1] at hi ⊢;rw [sg_next (by omega) hi];exact .goes (mk_front 45 _) (by omega) (tl_front _ _).symm (ih (i + 1) j (by omega))
theorem ld_come {a b : List ByteArray} : ∀ (n i j : Nat), j + n ≤ b.length → Ld a b (mkd 43 (sg b j (j + n))) i j i (j + n) := by
 intro n
 induction n with
 | zero => intro i j hi;rw [Nat.add_zero, sg_same];exact .nil
 | succ n ih =>
  intro i j hi;(have e1 : j + (n + 1) = j + 1 + n := by omega);rw [e1] at hi ⊢;rw [sg_next (by omega) hi];exact .come (mk_front 43 _) (by omega) (tl_front _ _).symm (ih i (j + 1) (by omega))
theorem sg_pre {a b : List ByteArray} {i j n : Nat} (h : sg a i (i + n) = sg b j (j + n)) (hi : i + n ≤ a.length) (hj : j + n ≤ b.length) {m : Nat} (hm : m ≤ n) : sg a i (i + m) = sg b j (j + m) ∧ sg a (i + m) (i + n) = sg b (j + m) (j + n) := by
 rw [← sg_cat (j := i + m) (by omega) (by omega) hi, ← sg_cat (j := j + m) (by omega) (by omega) hj] at h;exact List.append_inj h (by rw [sg_len (by omega), sg_len (by omega)];omega)
theorem cf_step {a b : List ByteArray} {c : CH} {l : List CH} {i j : Nat} {fst : Bool} (hi : i ≤ a.length) (hj : j ≤ b.length) (h : CF a.length b.length (c :: l) (i : Int) (j : Int) fst = 0) (hw : WV a b (c :: l) (i : Int) = b.drop j) :
    ∃ n x y : Nat, c.f0 = ((i + n : Nat) : Int) ∧ c.f1 = (x : Int) ∧ c.f2 = ((j + n : Nat) : Int) ∧ c.f3 = (y : Int) ∧ i + n + x ≤ a.length ∧ j + n + y ≤ b.length ∧ sg a i (i + n) = sg b j (j + n) ∧ 0 < x + y ∧ (fst = false → 0 < n) ∧
      CF a.length b.length l ((i + n + x : Nat) : Int) ((j + n + y : Nat) : Int) false = 0 ∧ WV a b l ((i + n + x : Nat) : Int) = b.drop (j + n + y) := by
 obtain ⟨hin, hle, hn⟩ := CF_good h;(have h5 : ¬ (c.f1 = 0 ∧ c.f3 = 0) ∧ c.f0 - (i : Int) = c.f2 - (j : Int) ∧ (fst = false → c.f0 ≠ (i : Int)) := by rw [CF_cons, if_neg (fun e => e hin)] at h;split at h;(·cases h);rename_i h2;exact ⟨fun e => h2 (.inl e), Classical.byContradiction fun e => h2 (.inr (.inl e)), fun e q => h2 (.inr (.inr (.inr ⟨e, q⟩)))⟩);unfold ChIn at hin;obtain ⟨n, hn0⟩ : ∃ n : Nat, c.f0 = ((i + n : Nat) : Int) := ⟨(c.f0 - i).toNat, by omega⟩;obtain ⟨x, hx⟩ : ∃ x : Nat, c.f1 = (x : Int) := ⟨c.f1.toNat, by omega⟩;obtain ⟨y, hy⟩ : ∃ y : Nat, c.f3 = (y : Int) := ⟨c.f3.toNat, by omega⟩;(have h2 : c.f2 = ((j + n : Nat) : Int) := by omega);(have ba : i + n + x ≤ a.length := by omega);(have bb : j + n + y ≤ b.length := by omega);rw [WV_cons, hn0, h2, hx, hy, show ((j + n : Nat) : Int) + (y : Int) = ((j + n + y : Nat) : Int) by omega, show ((i + n : Nat) : Int) + (x : Int) = ((i + n + x : Nat) : Int) by omega, Int.toNat_natCast, Int.toNat_natCast, Int.toNat_natCast, Int.toNat_natCast] at hw;(have e : b.drop j = sg b j (j + n) ++ (sg b (j + n) (j + n + y) ++ b.drop (j + n + y)) := by rw [sg_rest (by omega) bb, sg_rest (by omega) (by omega)]);rw [e] at hw;obtain ⟨w1, w2⟩ := List.append_inj hw (by rw [show ((a.take (i + n)).drop i).length = i + n - i from sg_len (by omega), sg_len (by omega)];omega);have w3 := List.append_cancel_left w2;refine ⟨n, x, y, hn0, hx, h2, hy, ba, bb, w1, ?_, fun e => ?_, ?_, w3⟩;(·have := h5.1;omega);(·have := h5.2.2 e;omega);rw [hn0, h2, hx, hy] at hn;exact hn
theorem pie_ld {a b : List ByteArray} {c : CH} {p q x y : Nat} (h0 : c.f0 = (p : Int)) (h1 : c.f1 = (x : Int)) (h2 : c.f2 = (q : Int)) (h3 : c.f3 = (y : Int)) (ha : p + x ≤ a.length) (hb : q + y ≤ b.length) : Ld a b (pie a b c) p q (p + x) (q + y) := by
 unfold pie;rw [h0, h1, h2, h3, show (p : Int) + (x : Int) = ((p + x : Nat) : Int) by omega, show (q : Int) + (y : Int) = ((q + y : Nat) : Int) by omega, Int.toNat_natCast, Int.toNat_natCast, Int.toNat_natCast, Int.toNat_natCast];exact (ld_goes x p q ha).cat (ld_come y (p + x) q hb)
theorem hS_app (x y : List ByteArray) : hS (x ++ y) = hS x + hS y := by
 induction x with
 | nil => simp [hS]
 | cons s x ih => simp only [List.cons_append, hS, ih];omega
theorem hS_mkd {m : UInt8} (h : m ≠ 32) (l : List ByteArray) : hS (mkd m l) = 0 := by
 induction l with
 | nil => rfl
 | cons s l ih =>
  show hS (((⟨#[m]⟩ : ByteArray) ++ s) :: mkd m l) = 0;rw [hS, ih, mk_front, if_neg];intro e;apply h;apply UInt8.toNat_inj.1;show m.toNat = 32;omega
theorem pie_busy {a b : List ByteArray} {c : CH} {p q x y : Nat} (h0 : c.f0 = (p : Int)) (h1 : c.f1 = (x : Int)) (h2 : c.f2 = (q : Int)) (h3 : c.f3 = (y : Int)) (ha : p + x ≤ a.length) (hb : q + y ≤ b.length) (hp : 0 < x + y) : hS (pie a b c) < (pie a b c).length := by
 unfold pie;rw [hS_app, hS_mkd (by decide), hS_mkd (by decide), List.length_append, mkd_len, mkd_len];rw [h0, h1, h2, h3, show (p : Int) + (x : Int) = ((p + x : Nat) : Int) by omega, show (q : Int) + (y : Int) = ((q + y : Nat) : Int) by omega, Int.toNat_natCast, Int.toNat_natCast, Int.toNat_natCast, Int.toNat_natCast, sg_len ha, sg_len hb];omega
theorem gos_chn {a b : List ByteArray} {ctx : Nat} : ∀ (l : List CH) (e f i j p q : Nat) (h : HK), CF a.length b.length l (e : Int) (f : Int) false = 0 → WV a b l (e : Int) = b.drop f → e ≤ a.length → f ≤ b.length → h.f0 = (p : Int) → h.f1 = (q : Int) → i ≤ p → j ≤ q → p - i = q - j → sg a i p = sg b j q → Ld a b h.f2 p q e f → hS h.f2 < h.f2.length →
    Chn a b (gos a b (ctx : Int) l (e : Int) h) i j ∧ ∀ c ∈ gos a b (ctx : Int) l (e : Int) h, hS c.f2 < c.f2.length := by
 intro l
 induction l with
 | nil =>
  intro e f i j p q h hc hw he hf h0 h1 hi hj hd hs hl hb;(have hw' : a.drop e = b.drop f := by have : WV a b [] (e : Int) = a.drop ((e : Int)).toNat := rfl;rw [this, Int.toNat_natCast] at hw;exact hw);have hle := hl.le;(have hlen : a.length - e = b.length - f := by have := congrArg List.length hw';simpa using this);obtain ⟨n, hn⟩ : ∃ n, n = min ctx (a.length - e) := ⟨_, rfl⟩;(have ez : (min ((e : Int) + (ctx : Int)) (a.length : Int)).toNat = e + n := by omega);(have hfull : sg a e a.length = sg b f b.length := by unfold sg;rw [List.take_length, List.take_length, hw']);(have e1 : a.length = e + (a.length - e) := by omega);(have e2 : b.length = f + (a.length - e) := by omega);(have hsub : sg a e (e + n) = sg b f (f + n) := by (have h5 : sg a e (e + (a.length - e)) = sg b f (f + (a.length - e)) := by rw [← e1, ← e2];exact hfull);exact (sg_pre h5 (by omega) (by omega) (m := n) (by omega)).1);(have hE : Ld a b (endc a (ctx : Int) (e : Int)) e f (e + n) (f + n) := by unfold endc;rw [ez, Int.toNat_natCast];exact ld_stay n e f (by omega) (by omega) hsub);refine ⟨.cons h0 h1 hi hj hd (by omega) (by omega) hs (hl.cat hE) (.nil (by omega) (by omega) ?_), fun c hc => ?_⟩;(·have := congrArg (List.drop n) hw';rw [List.drop_drop, List.drop_drop] at this;exact this);rw [gos, List.mem_singleton] at hc;subst hc;show hS (h.f2 ++ _) < (h.f2 ++ _).length;rw [hS_app, List.length_append];have := hS_le (endc a (ctx : Int) (e : Int));omega
 | cons c l ih =>
  intro e f i j p q h hc hw he hf h0 h1 hi hj hd hs hl hb;obtain ⟨n, x, y, c0, c1, c2, c3, ba, bb, hsn, hxy, hn0, hc', hw'⟩ := cf_step he hf hc hw;have hle := hl.le;have hpi := pie_ld (a := a) (b := b) c0 c1 c2 c3 ba bb;have hpb := pie_busy (a := a) (b := b) c0 c1 c2 c3 ba bb hxy;(have ec : c.f0 + c.f1 = ((e + n + x : Nat) : Int) := by omega);rw [gos];by_cases hfar : c.f0 - (e : Int) > 2 * (ctx : Int);rotate_left;(·rw [if_neg hfar, ec];refine ih (e + n + x) (f + n + y) i j p q _ hc' hw' ba bb h0 h1 hi hj hd hs ?_ ?_;(·rw [c0, Int.toNat_natCast, Int.toNat_natCast];exact hl.cat ((ld_stay n e f (by omega) (by omega) hsn).cat hpi));show hS (h.f2 ++ (_ ++ pie a b c)) < (h.f2 ++ (_ ++ pie a b c)).length;rw [hS_app, hS_app, List.length_append, List.length_append];have := hS_le (mkd 32 (sg a ((e : Int)).toNat c.f0.toNat));omega);rw [if_pos hfar, ec];(have hn2 : 2 * ctx < n := by omega);obtain ⟨s1, s2⟩ := sg_pre hsn (by omega) (by omega) (m := ctx) (by omega);(have hah : ahd (ctx : Int) c = (ctx : Int) := by unfold ahd;omega);have t1 := sg_pre (i := e + ctx) (j := f + ctx) (n := n - ctx) (m := n - ctx - ctx) (by rw [show e + ctx + (n - ctx) = e + n by omega, show f + ctx + (n - ctx) = f + n by omega];exact s2) (by omega) (by omega) (by omega);obtain ⟨t1, t2⟩ := t1;rw [show e + ctx + (n - ctx - ctx) = e + n - ctx by omega, show f + ctx + (n - ctx - ctx) = f + n - ctx by omega] at t1 t2;rw [show e + ctx + (n - ctx) = e + n by omega, show f + ctx + (n - ctx) = f + n by omega] at t2;(have hE : Ld a b (endc a (ctx : Int) (e : Int)) e f (e + ctx) (f + ctx) := by unfold endc;rw [show (min ((e : Int) + (ctx : Int)) (a.length : Int)).toNat = e + ctx by omega, Int.toNat_natCast];exact ld_stay ctx e f (by omega) (by omega) s1);(have hO : Ld a b (opn a b (ctx : Int) c).f2 (e + n - ctx) (f + n - ctx) (e + n + x) (f + n + y) := by show Ld a b (mkd 32 (sg a (c.f0 - ahd (ctx : Int) c).toNat c.f0.toNat) ++ pie a b c) _ _ _ _;rw [hah, c0, show (((e + n : Nat) : Int) - (ctx : Int)).toNat = e + n - ctx by omega, Int.toNat_natCast];refine Ld.cat ?_ hpi;have := ld_stay (a := a) (b := b) ctx (e + n - ctx) (f + n - ctx) (by omega) (by omega);rw [show e + n - ctx + ctx = e + n by omega, show f + n - ctx + ctx = f + n by omega] at this;exact this t2);(have hob : hS (opn a b (ctx : Int) c).f2 < (opn a b (ctx : Int) c).f2.length := by show hS (_ ++ pie a b c) < (_ ++ pie a b c).length;rw [hS_app, List.length_append];have := hS_le (mkd 32 (sg a (c.f0 - ahd (ctx : Int) c).toNat c.f0.toNat));omega);obtain ⟨r1, r2⟩ := ih (e + n + x) (f + n + y) (e + ctx) (f + ctx) (e + n - ctx) (f + n - ctx) (opn a b (ctx : Int) c) hc' hw' ba bb (by show c.f0 - ahd (ctx : Int) c = _;rw [hah];omega) (by show c.f2 - ahd (ctx : Int) c = _;rw [hah];omega) (by omega) (by omega) (by omega) t1 hO hob;refine ⟨.cons h0 h1 hi hj hd (by omega) (by omega) hs (hl.cat hE) r1, fun d hd' => ?_⟩;(rcases List.mem_cons.1 hd' with rfl | hd');rotate_left;(·exact r2 d hd');show hS (h.f2 ++ _) < (h.f2 ++ _).length;rw [hS_app, List.length_append];have := hS_le (endc a (ctx : Int) (e : Int));omega
theorem HUN_chn (a b : List ByteArray) (ctx : Nat) : Chn a b (HUN a b (ctx : Int) (CHS a b)) 0 0 ∧ ∀ c ∈ HUN a b (ctx : Int) (CHS a b), hS c.f2 < c.f2.length := by
 have hc := CHS_right a b;have hw := CHS_makes a b
 cases hl : CHS a b with
 | nil =>
  rw [hl] at hw;(have : a = b := by have e : WV a b [] 0 = a.drop (0 : Int).toNat := rfl;rw [e] at hw;simpa using hw);refine ⟨.nil (by omega) (by omega) (by rw [this]), fun c hc => absurd hc (by simp [HUN])⟩
 | cons c l =>
  rw [hl] at hc hw;obtain ⟨n, x, y, c0, c1, c2, c3, ba, bb, hsn, hxy, hn0, hc', hw'⟩ := cf_step (i := 0) (j := 0) (by omega) (by omega) hc (by rw [List.drop_zero];exact hw);simp only [Nat.zero_add] at c0 c2 ba bb hsn hc' hw';have hpi := pie_ld (a := a) (b := b) c0 c1 c2 c3 ba bb;have hpb := pie_busy (a := a) (b := b) c0 c1 c2 c3 ba bb hxy;obtain ⟨m, hm⟩ : ∃ m, m = min ctx n := ⟨_, rfl⟩;(have hah : ahd (ctx : Int) c = (m : Int) := by unfold ahd;omega);(have hsn0 : sg a 0 (0 + n) = sg b 0 (0 + n) := by rw [Nat.zero_add];exact hsn);obtain ⟨s1, s2⟩ := sg_pre hsn0 (by omega) (by omega) (m := n - m) (by omega);simp only [Nat.zero_add] at s1 s2;(have hO : Ld a b (opn a b (ctx : Int) c).f2 (n - m) (n - m) (n + x) (n + y) := by show Ld a b (mkd 32 (sg a (c.f0 - ahd (ctx : Int) c).toNat c.f0.toNat) ++ pie a b c) _ _ _ _;rw [hah, c0, show ((n : Int) - (m : Int)).toNat = n - m by omega, Int.toNat_natCast];refine Ld.cat ?_ hpi;have := ld_stay (a := a) (b := b) m (n - m) (n - m) (by omega) (by omega);rw [show n - m + m = n by omega] at this;exact this s2);(have hob : hS (opn a b (ctx : Int) c).f2 < (opn a b (ctx : Int) c).f2.length := by show hS (_ ++ pie a b c) < (_ ++ pie a b c).length;rw [hS_app, List.length_append];have := hS_le (mkd 32 (sg a (c.f0 - ahd (ctx : Int) c).toNat c.f0.toNat));omega);(have ec : c.f0 + c.f1 = ((n + x : Nat) : Int) := by omega);rw [HUN, ec];exact gos_chn l (n + x) (n + y) 0 0 (n - m) (n - m) (opn a b (ctx : Int) c) hc' hw' ba bb (by show c.f0 - ahd (ctx : Int) c = _;rw [hah];omega) (by show c.f2 - ahd (ctx : Int) c = _;rw [hah];omega) (by omega) (by omega) (by omega) s1 hO hob
theorem cf_few {a b : List ByteArray} : ∀ (l : List CH) (i j : Nat), i ≤ a.length → j ≤ b.length → CF a.length b.length l (i : Int) (j : Int) false = 0 → WV a b l (i : Int) = b.drop j → 3 * l.length ≤ (a.length - i) + (b.length - j) := by
 intro l
 induction l with
 | nil => intro i j _ _ _ _;simp
 | cons c l ih =>
  intro i j hi hj h hw;obtain ⟨n, x, y, c0, c1, c2, c3, ba, bb, hsn, hxy, hn0, hc', hw'⟩ := cf_step hi hj h hw;have := ih (i + n + x) (j + n + y) ba bb hc' hw';have := hn0 rfl;rw [List.length_cons];omega
theorem CHS_few (a b : List ByteArray) : 3 * (CHS a b).length ≤ a.length + b.length + 2 := by
 have hc := CHS_right a b;have hw := CHS_makes a b
 cases hl : CHS a b with
 | nil => simp
 | cons c l =>
  rw [hl] at hc hw;obtain ⟨n, x, y, c0, c1, c2, c3, ba, bb, hsn, hxy, hn0, hc', hw'⟩ := cf_step (i := 0) (j := 0) (by omega) (by omega) hc (by rw [List.drop_zero];exact hw);have := cf_few l _ _ ba bb hc' hw';rw [List.length_cons];omega
theorem gos_len (a b : List ByteArray) (ctx : Int) : ∀ (l : List CH) (e : Int) (h : HK), (gos a b ctx l e h).length ≤ l.length + 1 := by
 intro l
 induction l with
 | nil => intro e h;simp [gos]
 | cons c l ih =>
  intro e h;rw [gos];split;(·have := ih (c.f0 + c.f1) (opn a b ctx c);simp only [List.length_cons];omega);have := ih (c.f0 + c.f1) ⟨h.f0, h.f1, h.f2 ++ (mkd 32 (sg a e.toNat c.f0.toNat) ++ pie a b c)⟩;simp only [List.length_cons];omega
theorem HUN_len (a b : List ByteArray) (ctx : Int) (l : List CH) : (HUN a b ctx l).length ≤ l.length := by
 cases l with
 | nil => simp [HUN]
 | cons c l => have := gos_len a b ctx l (c.f0 + c.f1) (opn a b ctx c);simp only [HUN, List.length_cons];omega
theorem total_sg_next {l : List ByteArray} {i j : Nat} (h : i < j) (hj : j ≤ l.length) : total (sg l i j) = (l[i]'(by omega)).size + total (sg l (i + 1) j) := by
 rw [sg_next h hj, total]
theorem size_tl (s : ByteArray) : s.size ≤ (tlB s).size + 1 := by
 unfold tlB;rw [ext_size];omega
theorem Ld.weigh {a b l : List ByteArray} {i j i' j' : Nat} (h : Ld a b l i j i' j') (ha : i ≤ a.length) (hb : j ≤ b.length) : total l + i + j ≤ total (sg a i i') + total (sg b j j') + i' + j' ∧ l.length + i + j ≤ i' + j' := by
 induction h with
 | nil => simp [total, sg_same]
 | @stay s l i j i' j' hm hi hj h1 h2 h ih =>
  have hle := h.le;have h3 := ih (by omega) (by omega);have hz := size_tl s;rw [total, total_sg_next (show i < i' by omega) (hle.2.2.2.2.1 (by omega)), total_sg_next (show j < j' by omega) (hle.2.2.2.2.2 (by omega)), h1, List.length_cons];omega
 | @goes s l i j i' j' hm hi h1 h ih =>
  have hle := h.le;have h3 := ih (by omega) (by omega);have hz := size_tl s;rw [total, total_sg_next (show i < i' by omega) (hle.2.2.2.2.1 (by omega)), h1, List.length_cons];omega
 | @come s l i j i' j' hm hj h2 h ih =>
  have hle := h.le;have h3 := ih (by omega) (by omega);have hz := size_tl s;rw [total, total_sg_next (show j < j' by omega) (hle.2.2.2.2.2 (by omega)), h2, List.length_cons];omega
theorem total_drop_sg {l : List ByteArray} {i j k : Nat} (h : i ≤ j) (h2 : j ≤ k) (hk : k ≤ l.length) : total (sg l j k) + total (l.drop k) ≤ total (l.drop i) := by
 (have e : l.drop i = sg l i j ++ (sg l j k ++ l.drop k) := by rw [sg_rest h2 hk, sg_rest h (by omega)]);rw [e, total_append, total_append];omega
theorem Chn.weigh {a b : List ByteArray} {x : List HK} {i j : Nat} (h : Chn a b x i j) (ha : i ≤ a.length) (hb : j ≤ b.length) : hw x + 2 * i + 2 * j ≤ total (a.drop i) + total (b.drop j) + 2 * a.length + 2 * b.length := by
 induction h with
 | nil hi hj h => simp only [hw];omega
 | @cons h r i j p q i' j' e0 e1 hi hj hd hpa hqb hs hl hr ih =>
  have hle := hl.le;obtain ⟨w1, w2⟩ := hl.weigh hpa hqb;have hi' := hle.2.2.2.2.1 hpa;have hj' := hle.2.2.2.2.2 hqb;have h3 := ih hi' hj';have t1 := total_drop_sg hi hle.1 hi';have t2 := total_drop_sg hj hle.2.1 hj';rw [hw];unfold lw;omega
theorem hw_size : ∀ {x : List HK} {c : HK}, c ∈ x → ∀ s ∈ c.f2, s.size ≤ hw x := by
 intro x
 induction x with
 | nil => intro c hc;exact absurd hc (by simp)
 | cons d x ih =>
  intro c hc s hs;rw [hw];(rcases List.mem_cons.1 hc with rfl | hc);rotate_left;(·have := ih hc s hs;omega);have := size_le_total _ s hs;unfold lw;omega
theorem HUN_small {a b : List ByteArray} (ha : LF a = 0) (hb : LF b = 0) (ctx : Nat) : SmallH (HUN a b (ctx : Int) (CHS a b)) := by
 have hw1 := (HUN_chn a b ctx).1.weigh (Nat.zero_le _) (Nat.zero_le _);rw [List.drop_zero, List.drop_zero] at hw1;have l1 := HUN_len a b (ctx : Int) (CHS a b);have l2 := CHS_few a b;have la := LF_zero ha;have lb := LF_zero hb;refine ⟨fun c hc s hs => ?_, by omega, by omega⟩;have := hw_size hc s hs;omega
end Go.Proofs.Ytelngmkfjpcbgaa.P
end
section
set_option linter.unusedVariables false
set_option linter.unusedSimpArgs false
namespace Go.Proofs.Ytelngmkfjpcbgaa.P
open Go.RowKit Go.Proofs.YtelngmkfjpcbgaaW.PrintWords Go.Proofs.YtelngmkfjpcbgaaW.PrintLast Go.Proofs.YtelngmkfjpcbgaaW.PrintMore
theorem mn_min (x y : Int) : mn x y = min x y := by
 unfold mn;split <;> omega
theorem smin_tells (x y : Int) : spec_l1Min.f x y = some (min x y) := by
 unfold spec_l1Min.f;split <;> (congr 1;omega)
theorem one_size (m : UInt8) (s : ByteArray) (h : s.size ≤ 1048576) : (⟨#[m]⟩ : ByteArray).size + s.size ≤ 9223372036854775807 := by
 have : (⟨#[m]⟩ : ByteArray).size = 1 := rfl;omega
theorem mkd_at (m : UInt8) {l : List ByteArray} {i : Nat} (h : i < l.length) : mkd m (l.drop i) = ((⟨#[m]⟩ : ByteArray) ++ l[i]) :: mkd m (l.drop (i + 1)) := by
 unfold mkd;rw [drop_at h, List.map_cons]
theorem sput_loop (m : UInt8) {l : List ByteArray} (hz : Bd l) (hl : l.length ≤ 1000000) : ∀ (d i : Nat) (acc : List ByteArray), l.length - i = d → i ≤ l.length → acc.length + l.length ≤ 1000000 + i → Ev (fun k => spec_l3Put.l0 k acc (⟨#[m]⟩ : ByteArray) l (i : Int)) (acc ++ mkd m (l.drop i)) := by
 intro d
 induction d with
 | zero =>
  intro i acc hd hi ha;refine Ev.step (fun k => by rw [spec_l3Put.l0]) (Ev_neg (by omega) (Ev_val ?_));rw [List.drop_eq_nil_of_le (by omega)];simp [mkd]
 | succ d ih =>
  intro i acc hd hi ha;(have hlt : i < l.length := by omega);refine Ev.step (fun k => by rw [spec_l3Put.l0]) (Ev_pos (by omega) (Ev_pos (by omega) ?_));rw [rd_nat _ hlt, wsucc hlt (by omega), mkd_at m hlt];refine Ev_pos (one_size m _ (hz _ (List.getElem_mem hlt))) (Ev_pos (by omega) ?_);refine Ev_eq (ih (i + 1) _ (by omega) (by omega) (by rw [List.length_append, List.length_singleton];omega)) ?_;rw [List.append_assoc];rfl
theorem sput3 (m : UInt8) {l acc : List ByteArray} (hz : Bd l) (hl : l.length + acc.length ≤ 1000000) : Ev (fun k => spec_l3Put.f k acc (⟨#[m]⟩ : ByteArray) l) (acc ++ mkd m l) := by
 have := sput_loop m hz (by omega) _ 0 acc rfl (by omega) (by omega);rw [List.drop_zero] at this;exact this
theorem imark_loop (m : UInt8) {l : List ByteArray} (hz : Bd l) (hl : l.length ≤ 1000000) : ∀ (d i : Nat) (acc : List ByteArray), l.length - i = d → i ≤ l.length → acc.length + l.length ≤ 1000000 + i → Ev (fun k => impl_marked.l0 k (⟨#[m]⟩ : ByteArray) acc l (l.length : Int) (i : Int)) (acc ++ mkd m (l.drop i)) := by
 intro d
 induction d with
 | zero =>
  intro i acc hd hi ha;refine Ev.step (fun k => by rw [impl_marked.l0]) (Ev_neg (by omega) (Ev_val ?_));rw [List.drop_eq_nil_of_le (by omega)];simp [mkd]
 | succ d ih =>
  intro i acc hd hi ha;(have hlt : i < l.length := by omega);refine Ev.step (fun k => by rw [impl_marked.l0]) (Ev_pos (by omega) (Ev_pos (by omega) (Ev_pos (by omega) ?_)));rw [rd_nat _ hlt, wsucc hlt (by omega), mkd_at m hlt];refine Ev_pos (one_size m _ (hz _ (List.getElem_mem hlt))) (Ev_pos (by omega) ?_);refine Ev_eq (ih (i + 1) _ (by omega) (by omega) (by rw [List.length_append, List.length_singleton];omega)) ?_;rw [List.append_assoc];rfl
theorem imark3 (m : UInt8) {l : List ByteArray} (hz : Bd l) (hl : l.length ≤ 100000) : Ev (fun k => impl_marked.f k (⟨#[m]⟩ : ByteArray) l) (mkd m l) := by
 have := imark_loop m hz (by omega) _ 0 [] rfl (by omega) (by simp only [List.length_nil];omega);rw [List.drop_zero, List.nil_append] at this;exact this
def Okc (la lb : Int) : List CH → Int → Prop
  | [], x => 0 ≤ x ∧ x ≤ la
  | c :: l, x => 0 ≤ x ∧ x ≤ c.f0 ∧ 0 ≤ c.f1 ∧ c.f0 + c.f1 ≤ la ∧ 0 ≤ c.f2 ∧ 0 ≤ c.f3 ∧ c.f2 + c.f3 ≤ lb ∧ Okc la lb l (c.f0 + c.f1)
theorem okc_of {la lb : Int} : ∀ (l : List CH) (i j : Int) (fst : Bool), 0 ≤ i → i ≤ la → CF la lb l i j fst = 0 → Okc la lb l i := by
 intro l
 induction l with
 | nil => intro i j fst h0 h1 _;exact ⟨h0, h1⟩
 | cons c l ih =>
  intro i j fst h0 h1 h;obtain ⟨g1, g2, g3⟩ := CF_good h;unfold ChIn at g1;exact ⟨h0, g2, by omega, by omega, by omega, by omega, by omega, ih _ _ _ (by omega) (by omega) g3⟩
theorem okc_len {la lb : Int} {l : List CH} {x : Int} (h : Okc la lb l x) : 0 ≤ x ∧ x ≤ la := by
 cases l with
 | nil => exact h
 | cons c l => obtain ⟨a, b, c', d, _⟩ := h;omega
theorem sg_bd {l : List ByteArray} (h : Bd l) (i j : Nat) : Bd (sg l i j) := cut_bd h j i
theorem sg_le (l : List ByteArray) (i j : Nat) : (sg l i j).length ≤ l.length := cut_len l j i
def bod (a b : List ByteArray) : List CH → Int → List ByteArray
  | [], _ => []
  | c :: l, x => mkd 32 (sg a x.toNat c.f0.toNat) ++ pie a b c ++ bod a b l (c.f0 + c.f1)
def lst : List CH → Int → Int
  | [], e => e
  | c :: l, _ => lst l (c.f0 + c.f1)
theorem bod_app (a b : List ByteArray) (c : CH) : ∀ (l : List CH) (x : Int), bod a b (l ++ [c]) x = bod a b l x ++ (mkd 32 (sg a (lst l x).toNat c.f0.toNat) ++ pie a b c) := by
 intro l
 induction l with
 | nil => intro x;simp [bod, lst]
 | cons d l ih => intro x;simp only [List.cons_append, bod, lst, ih, List.append_assoc]
theorem lst_app (c : CH) : ∀ (l : List CH) (x : Int), lst (l ++ [c]) x = c.f0 + c.f1 := by
 intro l
 induction l with
 | nil => intro x;rfl
 | cons d l ih => intro x;simp only [List.cons_append, lst, ih]
theorem okc_app {la lb : Int} (c : CH) (r : List CH) : ∀ (l : List CH) (x : Int), Okc la lb l x → Okc la lb (c :: r) (lst l x) → Okc la lb (l ++ [c]) x ∧ Okc la lb r (c.f0 + c.f1) := by
 intro l
 induction l with
 | nil =>
  intro x h g;obtain ⟨g1, g2, g3, g4, g5, g6, g7, g8⟩ := g;exact ⟨⟨g1, g2, g3, g4, g5, g6, g7, okc_len g8⟩, g8⟩
 | cons d l ih =>
  intro x h g;obtain ⟨h1, h2, h3, h4, h5, h6, h7, h8⟩ := h;obtain ⟨i1, i2⟩ := ih _ h8 g;exact ⟨⟨h1, h2, h3, h4, h5, h6, h7, i1⟩, i2⟩
section
variable {a b : List ByteArray} (ha : a.length ≤ 100) (hb : b.length ≤ 100) (za : Bd a) (zb : Bd b) {ctx : Int} (c0 : 0 ≤ ctx) (c5 : ctx ≤ 5)
include ha hb za zb
omit za zb in
theorem pie_len (c : CH) : (pie a b c).length ≤ 200 := by
 unfold pie;rw [List.length_append, mkd_len, mkd_len];have h1 := sg_le a c.f0.toNat (c.f0 + c.f1).toNat;have h2 := sg_le b c.f2.toNat (c.f2 + c.f3).toNat;omega
include c0 c5
theorem shk_loop (L : List CH) (hL : L.length ≤ 1000) (e p q : Int) (e0 : 0 ≤ e) (e1 : e ≤ a.length) : ∀ (d i : Nat) (x : Int) (acc : List ByteArray), L.length - i = d → i ≤ L.length → Okc a.length b.length (L.drop i) x → acc.length ≤ 500 * i →
    Ev (fun k => spec_l3Hunk.l0 k a b L ctx e x (i : Int) p q acc) (p, q, acc ++ bod a b (L.drop i) x ++ endc a ctx e) := by
 intro d
 induction d with
 | zero =>
  intro i x acc hd hi hk hacc;refine Ev.step (fun k => by rw [spec_l3Hunk.l0]) (Ev_neg (by omega) (Ev_const (smin_tells _ _) ?_));rw [wid (by omega) (by omega), Int.min_comm];have hz := sg_le a e.toNat (min (e + ctx) (a.length : Int)).toNat;have hz' := hz;unfold sg at hz';refine Ev_pos e0 (Ev_pos (by omega) (Ev_pos (by omega) (Ev_call (sput3 32 (sg_bd za e.toNat (min (e + ctx) (a.length : Int)).toNat) (by omega)) (Ev_val ?_))));have e9 : L.drop i = [] := List.drop_eq_nil_of_le (by omega);rw [e9, bod, List.append_nil];rfl
 | succ d ih =>
  intro i x acc hd hi hk hacc;(have hlt : i < L.length := by omega);rw [drop_at hlt] at hk ⊢;obtain ⟨k1, k2, k3, k4, k5, k6, k7, k8⟩ := hk;have z1 := sg_le a x.toNat L[i].f0.toNat;have z1' := z1;unfold sg at z1';have z2 := sg_le a L[i].f0.toNat (L[i].f0 + L[i].f1).toNat;have z2' := z2;unfold sg at z2';have z3 := sg_le b L[i].f2.toNat (L[i].f2 + L[i].f3).toNat;have z3' := z3;unfold sg at z3';have nx := ih (i + 1) (L[i].f0 + L[i].f1) (acc ++ mkd 32 (sg a x.toNat L[i].f0.toNat) ++ mkd 45 (sg a L[i].f0.toNat (L[i].f0 + L[i].f1).toNat) ++ mkd 43 (sg b L[i].f2.toNat (L[i].f2 + L[i].f3).toNat)) (by omega) (by omega) k8 (by simp only [List.length_append, mkd_len];omega);have okl := okc_len k8;refine Ev.step (fun k => by rw [spec_l3Hunk.l0]) (Ev_pos (by omega) (Ev_pos (by omega) ?_));rw [rdc_nat hlt, wsucc hlt (by omega), wid (x := L[i].f0 + L[i].f1) (by omega) (by omega), wid (x := L[i].f2 + L[i].f3) (by omega) (by omega)];refine Ev_pos k1 (Ev_pos k2 (Ev_pos (by omega) (Ev_call (sput3 32 (sg_bd za x.toNat L[i].f0.toNat) (by omega)) ?_)));refine Ev_pos (by omega) (Ev_pos (by omega) (Ev_pos (by omega) (Ev_call (sput3 45 (sg_bd za L[i].f0.toNat (L[i].f0 + L[i].f1).toNat) (by simp only [List.length_append, mkd_len];omega)) ?_)));refine Ev_pos (by omega) (Ev_pos (by omega) (Ev_pos (by omega) (Ev_call (sput3 43 (sg_bd zb L[i].f2.toNat (L[i].f2 + L[i].f3).toNat) (by simp only [List.length_append, mkd_len];omega)) ?_)));refine Ev_eq nx ?_;simp only [bod, pie, List.append_assoc]
theorem shk_tells (c : CH) (L : List CH) (hL : (c :: L).length ≤ 1000) (hok : Okc a.length b.length (c :: L) (c.f0 - ahd ctx c)) (h2 : -1000 ≤ c.f2 ∧ c.f2 ≤ 1000) : Ev (fun k => spec_l3Hunk.f k a b (c :: L) ctx) (c.f0 - ahd ctx c, c.f2 - ahd ctx c, bod a b (c :: L) (c.f0 - ahd ctx c) ++ endc a ctx (lst (c :: L) 0)) := by
 obtain ⟨n, hn⟩ : ∃ n, (c :: L).length = n + 1 := ⟨L.length, rfl⟩;(have hlt : n < (c :: L).length := by omega);(have ew : wrap64 (((c :: L).length : Int) - 1) = (n : Int) := by rw [wid (by omega) (by omega)];omega);(have el : (c :: L)[n].f0 + (c :: L)[n].f1 = lst (c :: L) 0 := by (have e : c :: L = ((c :: L).take n) ++ [(c :: L)[n]] := by (conv => lhs;rw [← List.take_length (l := c :: L), hn]);exact List.take_succ_eq_append_getElem hlt);conv => rhs;rw [e, lst_app])
 have hend : 0 ≤ lst (c :: L) 0 ∧ lst (c :: L) 0 ≤ (a.length : Int) := by
  have : ∀ (l : List CH) (x : Int), Okc a.length b.length l x → 0 ≤ lst l x ∧ lst l x ≤ (a.length : Int) := by
   intro l
   induction l with
   | nil => intro x h;exact h
   | cons d l ih => intro x h;exact ih _ h.2.2.2.2.2.2.2
  exact this (c :: L) (c.f0 - ahd ctx c) hok
 have h0 : rd_T53 (c :: L) 0 = c := rdc_nat (l := c :: L) (i := 0) (by simp);obtain ⟨k1, k2, k3, k4, k5, k6, k7, k8⟩ := hok;have e1 : min ctx c.f0 = ahd ctx c := rfl;(have b0 : 0 ≤ c.f0 ∧ c.f0 ≤ a.length := by have := okc_len k8;omega);(have b1 : 0 ≤ ahd ctx c ∧ ahd ctx c ≤ 5 := by unfold ahd;omega);unfold spec_l3Hunk.f;refine Ev_pos (by omega) ?_;rw [ew];refine Ev_pos (by omega) (Ev_pos (by omega) (Ev_const (smin_tells _ _) ?_));rw [rdc_nat hlt, h0, e1, el, wid (x := c.f0 - ahd ctx c) (by omega) (by omega), wid (x := c.f2 - ahd ctx c) (by omega) (by omega)];rw [wid (by omega) (by omega)];have := shk_loop ha hb za zb c0 c5 (c :: L) hL (lst (c :: L) 0) (c.f0 - ahd ctx c) (c.f2 - ahd ctx c) hend.1 hend.2 _ 0 (c.f0 - ahd ctx c) [] rfl (by omega) ⟨k1, k2, k3, k4, k5, k6, k7, k8⟩ (by simp);rw [List.drop_zero, List.nil_append] at this;exact this
def bld (a b : List ByteArray) (ctx : Int) : List CH → HK
  | [] => ⟨0, 0, []⟩
  | c :: L => ⟨c.f0 - ahd ctx c, c.f2 - ahd ctx c, bod a b (c :: L) (c.f0 - ahd ctx c)⟩
omit ha hb za zb c0 c5 in
theorem bld_app (c d : CH) (L : List CH) : bld a b ctx (c :: L ++ [d]) = ⟨(bld a b ctx (c :: L)).f0, (bld a b ctx (c :: L)).f1, (bld a b ctx (c :: L)).f2 ++ (mkd 32 (sg a (lst (c :: L) 0).toNat d.f0.toNat) ++ pie a b d)⟩ := by
 show (⟨_, _, bod a b ((c :: L) ++ [d]) _⟩ : HK) = _;rw [bod_app];rfl
theorem shs_loop (l : List CH) (hl : l.length ≤ 500) (h2 : ∀ c ∈ l, -1000 ≤ c.f2 ∧ c.f2 ≤ 1000) : ∀ (d k : Nat) (m : Nat) (O : List HK) (c : CH) (L : List CH), l.length - k = d → 1 ≤ k → k ≤ l.length → m < k → (l.take k).drop m = c :: L → Okc a.length b.length (c :: L) (c.f0 - ahd ctx c) → Okc a.length b.length (l.drop k) (lst (c :: L) 0) → O.length ≤ k →
    Ev (fun n => spec_l3Hunks.l0 n a b ctx l O (m : Int) (k : Int)) (O ++ gos a b ctx (l.drop k) (lst (c :: L) 0) (bld a b ctx (c :: L))) := by
 intro d
 induction d with
 | zero =>
  intro k m O c L hd hk1 hk hm hs hok hokr hO;have hc : c ∈ l := List.mem_of_mem_take (List.mem_of_mem_drop (by rw [hs];simp));(have hLl : (c :: L).length ≤ 1000 := by rw [← hs, List.length_drop, List.length_take];omega);refine Ev.step (fun n => by rw [spec_l3Hunks.l0]) (Ev_pos (by omega) (Ev_neg (by omega) (Ev_pos (by omega) (Ev_pos (by omega) ?_))));rw [Int.toNat_natCast, Int.toNat_natCast, hs];refine Ev_call (shk_tells ha hb za zb c0 c5 c L hLl hok (h2 c hc)) (Ev_pos (by omega) ?_);rw [wsucc' (by omega)];refine Ev.step (fun n => by rw [spec_l3Hunks.l0]) (Ev_neg (by omega) (Ev_val ?_));rw [List.drop_eq_nil_of_le (by omega), gos];rfl
 | succ d ih =>
  intro k m O c L hd hk1 hk hm hs hok hokr hO;(have hlt : k < l.length := by omega);have hc : c ∈ l := List.mem_of_mem_take (List.mem_of_mem_drop (by rw [hs];simp));(have hLl : (c :: L).length ≤ 1000 := by rw [← hs, List.length_drop, List.length_take];omega);obtain ⟨j, rfl⟩ : ∃ j, k = j + 1 := ⟨k - 1, by omega⟩;(have hjl : j < l.length := by omega);(have hseg : (l.take (j + 1 + 1)).drop m = (c :: L) ++ [l[j + 1]] := by rw [List.take_succ_eq_append_getElem hlt, List.drop_append_of_le_length (by rw [List.length_take];omega), hs]);(have hlast : lst (c :: L) 0 = l[j].f0 + l[j].f1 := by (have e : (l.take (j + 1)).drop m = (l.take j).drop m ++ [l[j]] := by rw [List.take_succ_eq_append_getElem hjl, List.drop_append_of_le_length (by rw [List.length_take];omega)]);rw [← hs, e, lst_app]);rw [drop_at hlt] at hokr ⊢;have hok2 := okc_app l[j + 1] _ (c :: L) (c.f0 - ahd ctx c) hok hokr;obtain ⟨r1, r2, r3, r4, r5, r6, r7, r8⟩ := hokr;have bnd := okc_len r8;have hj : 0 ≤ lst (c :: L) 0 := r1;(have ew : wrap64 (((j + 1 : Nat) : Int) - 1) = (j : Int) := by rw [wid (by omega) (by omega)];omega)
  have hjf : Ev (fun n => spec_l3Hunks.l0 n a b ctx l O (m : Int) ((j + 1 : Nat) : Int)) (O ++ gos a b ctx (l[j + 1] :: l.drop (j + 1 + 1)) (lst (c :: L) 0) (bld a b ctx (c :: L))) := by
   refine Ev.step (fun n => by rw [spec_l3Hunks.l0]) (Ev_pos (by omega) (Ev_pos (by omega) (Ev_pos (by omega) ?_)));rw [ew, rdc_nat hlt, rdc_nat hjl, wsucc' (by omega)];have ei : l[j].f0 + l[j].f1 ≤ l[j + 1].f0 ∧ l[j + 1].f0 ≤ a.length := ⟨by omega, by omega⟩
   have hb1 : -1000000 ≤ l[j].f0 ∧ l[j].f0 ≤ 1000000 ∧ -1000000 ≤ l[j].f1 ∧ l[j].f1 ≤ 1000000 := by
    have : ∀ (x : List CH) (y : Int), Okc a.length b.length x y → ∀ z ∈ x, 0 ≤ z.f0 ∧ z.f0 ≤ a.length ∧ 0 ≤ z.f1 ∧ z.f1 ≤ a.length := by
     intro x
     induction x with
     | nil => intro y _ z hz;exact absurd hz (by simp)
     | cons u x ihx =>
      intro y hy z hz;obtain ⟨y1, y2, y3, y4, y5, y6, y7, y8⟩ := hy;(rcases List.mem_cons.1 hz with rfl | hz);(·omega);exact ihx _ y8 z hz
    (have hmem : l[j] ∈ c :: L := by rw [← hs];refine List.mem_iff_getElem.2 ⟨j - m, by rw [List.length_drop, List.length_take];omega, ?_⟩;rw [List.getElem_drop, List.getElem_take];congr 1;omega);have := this _ _ hok _ hmem;omega
   rw [wid (x := l[j + 1].f0 - l[j].f0) (by omega) (by omega), wid (x := l[j + 1].f0 - l[j].f0 - l[j].f1) (by omega) (by omega), wid (x := 2 * ctx) (by omega) (by omega)];refine Ev_pos (by omega) (Ev_pos (by omega) ?_);rw [gos];refine Ev_if (fun hcl => ?_) (fun hcl => ?_);(·rw [if_neg (by omega)];have := ih (j + 1 + 1) m O c (L ++ [l[j + 1]]) (by omega) (by omega) (by omega) (by omega) (by rw [hseg];rfl) hok2.1 (by rw [← List.cons_append, lst_app];exact r8) (by omega);rw [← List.cons_append, lst_app, bld_app] at this;exact this);rw [if_pos (by omega)];refine Ev_pos (by omega) (Ev_pos (by omega) ?_);rw [Int.toNat_natCast, Int.toNat_natCast, hs];refine Ev_call (shk_tells ha hb za zb c0 c5 c L hLl hok (h2 c hc)) (Ev_pos (by omega) ?_);(have hone : (l.take (j + 1 + 1)).drop (j + 1) = [l[j + 1]] := by rw [List.take_succ_eq_append_getElem hlt, List.drop_append_of_le_length (by rw [List.length_take];omega), List.drop_eq_nil_of_le (by rw [List.length_take];omega)];rfl);(have hah : 0 ≤ ahd ctx l[j + 1] ∧ ahd ctx l[j + 1] ≤ l[j + 1].f0 := by unfold ahd;omega);have := ih (j + 1 + 1) (j + 1) (O ++ [(⟨c.f0 - ahd ctx c, c.f2 - ahd ctx c, bod a b (c :: L) (c.f0 - ahd ctx c) ++ endc a ctx (lst (c :: L) 0)⟩ : HK)]) l[j + 1] [] (by omega) (by omega) (by omega) (by omega) hone ⟨by omega, by omega, r3, r4, r5, r6, r7, bnd⟩ r8 (by rw [List.length_append, List.length_singleton];omega);refine Ev_eq this ?_;rw [List.append_assoc];(have eb : bld a b ctx [l[j + 1]] = opn a b ctx l[j + 1] := by show (⟨_, _, _ ++ _ ++ []⟩ : HK) = ⟨_, _, _⟩;rw [List.append_nil]);rw [eb];rfl
  exact hjf
omit ha hb za zb c0 c5 in
theorem put_last (O : List HK) (g : HK) (ls : List ByteArray) (h : g.f2.length + ls.length < 8796093022208) : impl_putAt.f (O ++ [g]) (O.length : Int) ls = some (O ++ [⟨g.f0, g.f1, g.f2 ++ ls⟩]) := by
 unfold impl_putAt.f;rw [rdh_mid O g [], if_pos h, Int.toNat_natCast, set_mid]
def hnx (a : List ByteArray) (ctx : Int) : List CH → Int → HK → HK
  | [], e, h => ⟨h.f0, h.f1, h.f2 ++ endc a ctx e⟩
  | c :: _, e, h => if c.f0 - e > 2 * ctx then ⟨h.f0, h.f1, h.f2 ++ endc a ctx e⟩ else h
theorem ihs_j2 (l : List CH) (hl : l.length ≤ 500) (n : Nat) (hn : n < l.length) (O : List HK) (g : HK) (hO : O.length ≤ n) (hg : g.f2.length ≤ 1000 * n + 200) {x : Int} (hok : Okc a.length b.length (l[n] :: l.drop (n + 1)) x)
    (nx : ∀ h : HK, h.f2.length ≤ 1000 * n + 500 → Ev (fun k => impl_HunksOf.l0 k a b ctx (O ++ [hnx a ctx (l.drop (n + 1)) (l[n].f0 + l[n].f1) h]) (l[n].f0 + l[n].f1) l l (l.length : Int) ((n + 1 : Nat) : Int)) (0, 0, O ++ gos a b ctx (l.drop (n + 1)) (l[n].f0 + l[n].f1) h)) :
    Ev (fun k => impl_HunksOf.j2 k a b ctx (O ++ [g]) l (n : Int) l (l.length : Int) (n : Int) l[n].f0 l[n].f1 l[n].f2 l[n].f3) (0, 0, O ++ gos a b ctx (l.drop (n + 1)) (l[n].f0 + l[n].f1) ⟨g.f0, g.f1, g.f2 ++ pie a b l[n]⟩) := by
 obtain ⟨k1, k2, k3, k4, k5, k6, k7, k8⟩ := hok;have bnd := okc_len k8;(have hlen : ∀ z : HK, (O ++ [z]).length = O.length + 1 := fun z => by rw [List.length_append, List.length_singleton]);(have ew : wrap64 (((O ++ [g]).length : Int) - 1) = (O.length : Int) := by rw [hlen, wid (by omega) (by omega)];omega);have z2 := sg_le a l[n].f0.toNat (l[n].f0 + l[n].f1).toNat;have z2' := z2;unfold sg at z2';have z3 := sg_le b l[n].f2.toNat (l[n].f2 + l[n].f3).toNat;have z3' := z3;unfold sg at z3';refine Ev.step (fun k => by rw [impl_HunksOf.j2]) ?_;rw [ew, wid (x := l[n].f0 + l[n].f1) (by omega) (by omega), wid (x := l[n].f2 + l[n].f3) (by omega) (by omega), wsucc' (i := n) (by omega)];refine Ev_pos (by omega) (Ev_pos (by rw [hlen];omega) (Ev_pos (by omega) (Ev_pos (by omega) (Ev_pos (by omega) (Ev_call (imark3 45 (sg_bd za l[n].f0.toNat (l[n].f0 + l[n].f1).toNat) (by omega)) (Ev_const (put_last O g _ (by rw [mkd_len];omega)) ?_))))));refine Ev_pos (by rw [hlen];omega) (Ev_pos (by omega) (Ev_pos (by omega) (Ev_pos (by omega) (Ev_call (imark3 43 (sg_bd zb l[n].f2.toNat (l[n].f2 + l[n].f3).toNat) (by omega)) (Ev_const (put_last O _ _ (by dsimp only;rw [List.length_append, mkd_len, mkd_len];omega)) ?_)))));(have ep : g.f2 ++ mkd 45 (List.drop l[n].f0.toNat (List.take (l[n].f0 + l[n].f1).toNat a)) ++ mkd 43 (List.drop l[n].f2.toNat (List.take (l[n].f2 + l[n].f3).toNat b)) = g.f2 ++ pie a b l[n] := by rw [List.append_assoc];rfl);have hpl := pie_len ha hb l[n];dsimp only;rw [ep];have nx' := nx ⟨g.f0, g.f1, g.f2 ++ pie a b l[n]⟩ (by dsimp only;rw [List.length_append];omega);(have hfl : (g.f2 ++ pie a b l[n]).length ≤ 1000 * n + 400 := by rw [List.length_append];omega);generalize hH : (⟨g.f0, g.f1, g.f2 ++ pie a b l[n]⟩ : HK) = H at nx' ⊢;(have hHl : H.f2.length ≤ 1000 * n + 400 := by rw [← hH];exact hfl);clear hH;(have close : ∀ {r : Int × Int × List HK}, Ev (fun k => impl_HunksOf.l0 k a b ctx (O ++ [(⟨H.f0, H.f1, H.f2 ++ endc a ctx (l[n].f0 + l[n].f1)⟩ : HK)]) (l[n].f0 + l[n].f1) l l (l.length : Int) ((n + 1 : Nat) : Int)) r → Ev (fun k => impl_HunksOf.j3 k a b ctx (O ++ [H]) (l[n].f0 + l[n].f1) l (O.length : Int) l (l.length : Int) (n : Int) true) r := by intro r hr;have z4 := sg_le a (l[n].f0 + l[n].f1).toNat (min (l[n].f0 + l[n].f1 + ctx) (a.length : Int)).toNat;have z4' := z4;unfold sg at z4';refine Ev.step (fun k => by rw [impl_HunksOf.j3]) (Ev_pos rfl (Ev_pos (by omega) (Ev_pos (by rw [hlen];omega) ?_)));rw [mn_min, wid (x := l[n].f0 + l[n].f1 + ctx) (by omega) (by omega), wsucc' (i := n) (by omega)];refine Ev_pos (by omega) (Ev_pos (by omega) (Ev_pos (by omega) (Ev_call (imark3 32 (sg_bd za (l[n].f0 + l[n].f1).toNat (min (l[n].f0 + l[n].f1 + ctx) (a.length : Int)).toNat) (by omega)) (Ev_const (put_last O H _ (by rw [mkd_len];omega)) hr)))));have ew2 : wrap64 ((l.length : Int) - 1) = (l.length : Int) - 1 := wid (by omega) (by omega);rw [ew2];refine Ev_if (fun hq => ?_) (fun hq => ?_);(·have e : l.drop (n + 1) = [] := List.drop_eq_nil_of_le (by omega);rw [e] at nx' ⊢;exact close nx');(have hlt : n + 1 < l.length := by omega);rw [drop_at hlt] at k8 nx' ⊢;obtain ⟨r1, r2, r3, r4, r5, r6, r7, r8⟩ := k8;have bn2 := okc_len r8;refine Ev_pos (by omega) (Ev_pos (by omega) ?_);rw [rdc_nat hlt, wid (x := l[n + 1].f0 - (l[n].f0 + l[n].f1)) (by omega) (by omega), wid (x := 2 * ctx) (by omega) (by omega)];rw [hnx] at nx';by_cases hfar : l[n + 1].f0 - (l[n].f0 + l[n].f1) > 2 * ctx;(·rw [if_pos hfar] at nx';rw [decide_eq_true hfar];exact close nx');rw [if_neg hfar] at nx';rw [decide_eq_false hfar];refine Ev.step (fun k => by rw [impl_HunksOf.j3]) (Ev_neg (by simp) ?_);rw [wsucc' (i := n) (by omega)];exact nx'
theorem ihs_new (l : List CH) (hl : l.length ≤ 500) (n : Nat) (hn : n < l.length) (O : List HK) (hO : O.length ≤ n) {x y : Int} (hok : Okc a.length b.length (l[n] :: l.drop (n + 1)) x)
    (nx : ∀ h : HK, h.f2.length ≤ 1000 * n + 500 → Ev (fun k => impl_HunksOf.l0 k a b ctx (O ++ [hnx a ctx (l.drop (n + 1)) (l[n].f0 + l[n].f1) h]) (l[n].f0 + l[n].f1) l l (l.length : Int) ((n + 1 : Nat) : Int)) (0, 0, O ++ gos a b ctx (l.drop (n + 1)) (l[n].f0 + l[n].f1) h)) :
    Ev (fun k => impl_HunksOf.j1 k a b ctx O y l (n : Int) l (l.length : Int) (n : Int) true l[n].f0 l[n].f1 l[n].f2 l[n].f3) (0, 0, O ++ gos a b ctx (l.drop (n + 1)) (l[n].f0 + l[n].f1) (opn a b ctx l[n])) := by
 have hok' := hok;obtain ⟨k1, k2, k3, k4, k5, k6, k7, k8⟩ := hok;(have hah : 0 ≤ ahd ctx l[n] ∧ ahd ctx l[n] ≤ l[n].f0 ∧ ahd ctx l[n] ≤ 5 := by unfold ahd;omega);have z1 := sg_le a (l[n].f0 - ahd ctx l[n]).toNat l[n].f0.toNat;have z1' := z1;unfold sg at z1';have em : mn ctx l[n].f0 = ahd ctx l[n] := mn_min _ _;refine Ev.step (fun k => by rw [impl_HunksOf.j1]) (Ev_pos rfl ?_);rw [em, wid (x := l[n].f0 - ahd ctx l[n]) (by omega) (by omega), wid (x := l[n].f2 - ahd ctx l[n]) (by omega) (by omega)];refine Ev_pos (by omega) (Ev_pos (by omega) (Ev_pos (by omega) (Ev_call (imark3 32 (sg_bd za (l[n].f0 - ahd ctx l[n]).toNat l[n].f0.toNat) (by omega)) (Ev_pos (by omega) ?_))));exact ihs_j2 ha hb za zb c0 c5 l hl n hn O _ hO (by dsimp only;rw [mkd_len];omega) hok' nx
theorem ihs_loop (l : List CH) (hl : l.length ≤ 500) : ∀ (d n : Nat) (O : List HK) (e : Int) (h : HK), l.length - n = d → 1 ≤ n → n ≤ l.length → O.length + 1 ≤ n → h.f2.length ≤ 1000 * n → Okc a.length b.length (l.drop n) e →
    Ev (fun k => impl_HunksOf.l0 k a b ctx (O ++ [hnx a ctx (l.drop n) e h]) e l l (l.length : Int) (n : Int)) (0, 0, O ++ gos a b ctx (l.drop n) e h) := by
 intro d
 induction d with
 | zero =>
  intro n O e h hd hn1 hn hO hh hok;rw [List.drop_eq_nil_of_le (by omega)];refine Ev.step (fun k => by rw [impl_HunksOf.l0]) (Ev_neg (by omega) (Ev_val ?_));rfl
 | succ d ih =>
  intro n O e h hd hn1 hn hO hh hok;(have hlt : n < l.length := by omega);rw [drop_at hlt] at hok ⊢;have hok' := hok;obtain ⟨k1, k2, k3, k4, k5, k6, k7, k8⟩ := hok;have bnd := okc_len k8;refine Ev.step (fun k => by rw [impl_HunksOf.l0]) (Ev_pos (by omega) (Ev_pos (by omega) (Ev_pos (by omega) (Ev_neg (by omega) ?_))));rw [rdc_nat hlt, wid (x := l[n].f0 - e) (by omega) (by omega), wid (x := 2 * ctx) (by omega) (by omega), hnx, gos];by_cases hfar : l[n].f0 - e > 2 * ctx;(·rw [if_pos hfar, if_pos hfar, decide_eq_true hfar];have := ihs_new ha hb za zb c0 c5 (y := e) l hl n hlt (O ++ [(⟨h.f0, h.f1, h.f2 ++ endc a ctx e⟩ : HK)]) (by rw [List.length_append, List.length_singleton];omega) hok' (fun h' hl' => ih (n + 1) _ _ h' (by omega) (by omega) (by omega) (by rw [List.length_append, List.length_singleton];omega) (by omega) k8);refine Ev_eq this ?_;rw [List.append_assoc];rfl);rw [if_neg hfar, if_neg hfar, decide_eq_false hfar];(have hlen : (O ++ [h]).length = O.length + 1 := by rw [List.length_append, List.length_singleton]);(have ew : wrap64 (((O ++ [h]).length : Int) - 1) = (O.length : Int) := by rw [hlen, wid (by omega) (by omega)];omega);have z1 := sg_le a e.toNat l[n].f0.toNat;have z1' := z1;unfold sg at z1';refine Ev.step (fun k => by rw [impl_HunksOf.j1]) (Ev_neg (by simp) ?_);rw [ew];refine Ev_pos (by omega) (Ev_pos (by rw [hlen];omega) (Ev_pos (by omega) (Ev_pos (by omega) (Ev_pos (by omega) (Ev_call (imark3 32 (sg_bd za e.toNat l[n].f0.toNat) (by omega)) (Ev_const (put_last O h _ (by rw [mkd_len];omega)) ?_))))));have := ihs_j2 ha hb za zb c0 c5 l hl n hlt O ⟨h.f0, h.f1, h.f2 ++ mkd 32 (sg a e.toNat l[n].f0.toNat)⟩ (by omega) (by dsimp only;rw [List.length_append, mkd_len];omega) hok' (fun h' hl' => ih (n + 1) _ _ h' (by omega) (by omega) (by omega) (by omega) (by omega) k8);refine Ev_eq this ?_;dsimp only;rw [List.append_assoc]
end
def HKO (a b : List ByteArray) (ctx : Int) : Int × Int × List HK := if LF2 a b = 0 then (if 0 ≤ ctx ∧ ctx ≤ 5 then (0, 0, HUN a b ctx (CHS a b)) else (3, 0, [])) else (LF2 a b, 0, [])
theorem hun_hyp {a b : List ByteArray} (sa : Small a) (sb : Small b) (h : LF2 a b = 0) : a.length ≤ 100 ∧ b.length ≤ 100 ∧ Bd a ∧ Bd b ∧ (CHS a b).length ≤ 500 ∧ Okc a.length b.length (CHS a b) 0 ∧ ∀ c ∈ CHS a b, -1000 ≤ c.f2 ∧ c.f2 ≤ 1000 := by
 have fa := LF_zero (LF2_zero h).1;have fb := LF_zero (LF2_zero h).2;have l2 := CHS_few a b;have hok := okc_of (CHS a b) 0 0 true (by omega) (by omega) (CHS_right a b);refine ⟨fa.1, fb.1, sa.bd, sb.bd, by omega, hok, ?_⟩
 have : ∀ (x : List CH) (y : Int), Okc a.length b.length x y → ∀ z ∈ x, -1000 ≤ z.f2 ∧ z.f2 ≤ 1000 := by
  intro x
  induction x with
  | nil => intro y _ z hz;exact absurd hz (by simp)
  | cons u x ihx =>
   intro y hy z hz;obtain ⟨y1, y2, y3, y4, y5, y6, y7, y8⟩ := hy;(rcases List.mem_cons.1 hz with rfl | hz);(·omega);exact ihx _ y8 z hz
 exact this _ _ hok
theorem shunks_tells {a b : List ByteArray} (sa : Small a) (sb : Small b) (ctx : Int) : Ev (fun k => spec_HunksOf.f k a b ctx) (HKO a b ctx) := by
 unfold spec_HunksOf.f HKO;refine Ev_call (asked_tells sa sb) (Ev_if (fun h => ?_) (fun h => by rw [if_neg h];exact Ev.now _));rw [if_pos h];refine Ev_const (in_tells ctx 0 5) (Ev_if (fun hc => ?_) (fun hc => ?_));rotate_left;(·rw [if_neg (fun e => hc (decide_eq_true e))];exact Ev.now _);have hc := of_decide_eq_true hc;rw [if_pos hc];obtain ⟨ha, hb, za, zb, hl, hok, h2⟩ := hun_hyp sa sb h
 have main : Ev (fun k => spec_l3Hunks.f k a b ctx) (HUN a b ctx (CHS a b)) := by
  unfold spec_l3Hunks.f;refine Ev_call (sch_tells a b (by omega) (by omega)) ?_
  cases hL : CHS a b with
  | nil =>
   refine Ev.step (fun n => by rw [spec_l3Hunks.l0]) (Ev_neg (by simp) (Ev_val ?_));rfl
  | cons c l =>
   rw [hL] at hl hok h2;obtain ⟨k1, k2, k3, k4, k5, k6, k7, k8⟩ := hok;(have hah : 0 ≤ ahd ctx c ∧ ahd ctx c ≤ c.f0 := by unfold ahd;omega);have bn := okc_len k8;have := shs_loop ha hb za zb hc.1 hc.2 (c :: l) hl h2 _ 1 0 [] c [] rfl (by omega) (by simp) (by omega) rfl ⟨by omega, by omega, k3, k4, k5, k6, k7, bn⟩ k8 (by simp);refine Ev_eq this ?_;(have eb : bld a b ctx [c] = opn a b ctx c := by show (⟨_, _, _ ++ _ ++ []⟩ : HK) = ⟨_, _, _⟩;rw [List.append_nil]);rw [eb];rfl
 exact Ev_call main (Ev.now _)
theorem ihunks_tells {a b : List ByteArray} (sa : Small a) (sb : Small b) (ctx : Int) : Ev (fun k => impl_HunksOf.f k a b ctx) (HKO a b ctx) := by
 unfold impl_HunksOf.f HKO;refine Ev_call (both_tells sa sb) (Ev_const (within_tells ctx 0 5) ?_);(have ecode : ∀ q : Bool, impl_codeIf.f q 3 = some (if q = true then 3 else 0) := fun q => by cases q <;> rfl);refine Ev_const (ecode _) (Ev_call (first_tells _ (by simp)) ?_);by_cases h : LF2 a b = 0;rotate_left;(·rw [if_neg h];(have e : ∀ z : Int, firstOf [LF2 a b, z] = LF2 a b := fun z => by simp [firstOf, h]);rw [e];exact Ev_neg h (Ev.now _));rw [if_pos h, h];by_cases hc : 0 ≤ ctx ∧ ctx ≤ 5;rotate_left;(·rw [if_neg hc, decide_eq_false hc];exact Ev_neg (by simp [firstOf]) (Ev_val (by simp [firstOf])));rw [if_pos hc, decide_eq_true hc];refine Ev_pos (by simp [firstOf]) ?_;obtain ⟨ha, hb, za, zb, hl, hok, h2⟩ := hun_hyp sa sb h;refine Ev_call (ich_tells a b (by omega) (by omega)) ?_
 cases hL : CHS a b with
 | nil =>
  refine Ev.step (fun n => by rw [impl_HunksOf.l0]) (Ev_neg (by simp) (Ev_val ?_));rfl
 | cons c l =>
  rw [hL] at hl hok h2;have hok' := hok;obtain ⟨k1, k2, k3, k4, k5, k6, k7, k8⟩ := hok;have := ihs_new ha hb za zb hc.1 hc.2 (y := 0) (c :: l) hl 0 (by simp) [] (by simp) (x := 0) hok' (fun h' hl' => ihs_loop ha hb za zb hc.1 hc.2 (c :: l) hl _ 1 [] (c.f0 + c.f1) h' rfl (by omega) (by simp) (by simp) (by omega) k8);have h0 : rd_T53 (c :: l) 0 = c := rdc_nat (l := c :: l) (i := 0) (by simp);refine Ev.step (fun k => by rw [impl_HunksOf.l0]) (Ev_pos (by simp) (Ev_pos (by omega) (Ev_pos (by simp) (Ev_pos rfl ?_))));rw [h0];exact this
theorem HKO_small {a b : List ByteArray} (ctx : Int) : SmallH (HKO a b ctx).2.2 := by
 unfold HKO;split;rotate_left;(·exact ⟨fun c hc => absurd hc (by simp), by simp, by simp [hw]⟩);rename_i h;split;rotate_left;(·exact ⟨fun c hc => absurd hc (by simp), by simp, by simp [hw]⟩);rename_i hc;obtain ⟨n, hn⟩ : ∃ n : Nat, ctx = (n : Int) := ⟨ctx.toNat, by omega⟩;rw [hn];exact HUN_small (LF2_zero h).1 (LF2_zero h).2 n
end Go.Proofs.Ytelngmkfjpcbgaa.P
end
section
set_option linter.unusedVariables false
set_option linter.unusedSimpArgs false
namespace Go.Proofs.Ytelngmkfjpcbgaa.P.VFnExactHunksOf
open Go.RowKit Go.Proofs.YtelngmkfjpcbgaaW.PrintWords Go.Proofs.YtelngmkfjpcbgaaW.PrintLast
theorem behind (a b : List ByteArray) (ctx : Int) (ha : Small a) (hb : Small b) (p q : Int) (x : List HK) (h : HKO a b ctx = (p, q, x)) (hx : SmallH x) : Ev (fun k => laws_FnExactHunksOf.j0 k a b ctx false p q x p q x) true := by
 have heq := eqhr_tells p q hx;(have hmark : Ev (fun k => laws_markHunksResult.f k p q x 1) (((hs 1 x : Nat) : Int), mkh 1 x) := by unfold laws_markHunksResult.f;exact Ev_call (markhs_tells hx) (Ev.now _));(have hheld : Ev (fun k => laws_heldHunksResult.f k p q (mkh 1 x) 1) ((hs 1 x : Nat) : Int) := by unfold laws_heldHunksResult.f;exact Ev_call (heldhs_tells hx) (Ev_neg (by omega) (Ev.now _)));have hi := ihunks_tells ha hb ctx;rw [h] at hi;refine Ev.step (fun k => by rw [laws_FnExactHunksOf.j0]) (Ev_neg (by simp) ?_);refine Ev_call hmark (Ev_call hheld (Ev_neg (by omega) (Ev_pos rfl ?_)));exact Ev_call ha.to (Ev_call hb.to (Ev_call hi (Ev_call heq (Ev_pos rfl (Ev_call hheld (Ev_neg (by omega) (Ev_pos rfl (Ev.now _))))))))
theorem proof : UFnExactHunksOf.Pure := by
 intro l0 l1 a2 g0 g1 g2;apply Ev.rounds;unfold laws_FnExactHunksOf.f;refine guard_lines l0 g0 1048576 (by omega) (by omega) (fun r h0 h1 hs => guard_lines l1 g1 r (by omega) (by omega) (fun r2 h2 h3 ht => ?_));obtain ⟨p, q, x, hm⟩ : ∃ p q x, HKO l0 l1 a2 = (p, q, x) := ⟨_, _, _, rfl⟩;(have hx : SmallH x := by have := HKO_small (a := l0) (b := l1) a2;rw [hm] at this;exact this);have s1 := shunks_tells hs ht a2;have s2 := ihunks_tells hs ht a2;rw [hm] at s1 s2;have n1 := hs.2.1;have n2 := ht.2.1;have e := eqhr_tells p q hx;refine Ev_call hs.to (Ev_call ht.to (Ev_call s1 (Ev_call hs.to (Ev_call ht.to (Ev_call s2 (Ev_call e (Ev_pos rfl (Ev_call hs.to (Ev_call hs.eq (Ev_pos rfl (Ev_call ht.to (Ev_call ht.eq (Ev_pos rfl ?_)))))))))))));refine Ev_call (mark_tells l0 1 (by omega) (by omega)) (Ev_call (mark_tells l1 (1 + l0.length) (by omega) (by omega)) (Ev_neg (by omega) (Ev_call e ?_)));exact behind l0 l1 a2 hs ht p q x hm hx
end Go.Proofs.Ytelngmkfjpcbgaa.P.VFnExactHunksOf
end
section
set_option linter.unusedVariables false
set_option linter.unusedSimpArgs false
namespace Go.Proofs.Ytelngmkfjpcbgaa.O
open Go.RowKit Go.ChangeShapes Go.WideShapes Go.Proofs.YtelngmkfjpcbgaaW.PrintWords
def Opens {α : Type} (P : Program) (t : TypeId) (d : Kd α) (G : α → Prop) : Prop :=
  P.cellsOf t = d.sz ∧ ∀ {H : Type} {enc : TypeId × Value → H} {w : World} {base : Nat} {spare : Nat → Bool} {held : Bool} {fuel : Nat} {cs : List Value} {x : DataW H × List MemPlace},
    DataW.trod enc P w base spare held fuel t cs = some x → ∃ a, d.K w a cs ∧ G a
theorem list_of {α : Type} {Q : Nat → α → Prop} : ∀ n : Nat, (∀ j, j < n → ∃ p, Q j p) → ∃ xs : List α, xs.length = n ∧ ∀ j p, xs[j]? = some p → Q j p
  | 0, _ => ⟨[], rfl, fun j p h => by simp at h⟩
  | n + 1, h => by
    obtain ⟨xs, hl, hx⟩ := list_of n (fun j hj => h j (Nat.lt_succ_of_lt hj))
    obtain ⟨p, hp⟩ := h n (Nat.lt_succ_self n)
    refine ⟨xs ++ [p], by simp [hl], fun j q hq => ?_⟩
    rcases Nat.lt_or_ge j xs.length with hj | hj
    · rw [List.getElem?_append_left hj] at hq
      exact hx j q hq
    · have hj' : j = xs.length := by
        have := (List.getElem?_eq_some_iff.1 hq).1
        rw [List.length_append, List.length_singleton] at this
        omega
      subst hj'
      have e : p = q := by simpa using hq
      subst e
      rw [hl]
      exact hp
theorem cells_get {w : World} {base : Nat} {a : Addr} {n : Nat} {cs : List Value} (h : w.cells? base a n = some cs) : cs.length = n ∧ ∀ i u, cs[i]? = some u → w.cell? (a.add i) = some u := by
 unfold World.cells? at h;split at h;rotate_left;(·simp at h);have hl := mapM_some_length h;rw [List.length_range] at hl;refine ⟨hl, fun i u hu => ?_⟩;(have hi : i < n := by have := (List.getElem?_eq_some_iff.1 hu).1;omega);have := mapM_some_get h i i (by simp [hi]);rw [this, hu]
theorem opens_string {P : Program} {t : TypeId} (ht : P.underlying t = some .string) (hc : P.cellsOf t = 1) : Opens P t Kd.string (fun s => s.size ≤ 9223372036854775807) :=
  ⟨hc, fun h => by
    obtain ⟨s, rfl, _, hw⟩ := DataW.trod_string ht h
    exact ⟨s, rfl, hw⟩⟩
theorem opens_slice {α : Type} {P : Program} {t e : TypeId} {d : Kd α} {G : α → Prop} (ht : P.underlying t = some (.slice e)) (hc : P.cellsOf t = 1) (he : Opens P e d G) :
    Opens P t (Kd.slice e d) (fun l => l.length ≤ 9223372036854775807 ∧ ∀ x ∈ l, G x) := by
 refine ⟨hc, fun {H enc w base spare held fuel cs x} h => ?_⟩;(rcases DataW.trod_slice ht h with ⟨rfl, _⟩ | ⟨a, len, cap, elems, rest, n, _, rfl, _, hb, hl, hm, hlen, hel, _, _⟩);(·exact ⟨[], ⟨none, 0, rfl, Nat.le_refl _, rfl, by simp, fun hp => absurd hp (by simp)⟩, by simp, by simp⟩);have hcap : cap ≤ 9223372036854775807 := hm
 obtain ⟨xs, hxl, hx⟩ := list_of (Q := fun j p => (∃ c : List Value, c.length = d.sz ∧ d.K w p c ∧ ∀ i u, c[i]? = some u → w.cell? (a.add (j * d.sz + i)) = some u) ∧ G p) len (fun j hj => by
   have h1 := hel j hj
   rw [List.getElem?_eq_getElem (by omega), Option.bind_eq_some_iff] at h1
   obtain ⟨cs', hcs, hy⟩ := h1
   obtain ⟨p, hK, hG⟩ := he.2 hy
   obtain ⟨hcl, hcell⟩ := cells_get hcs
   refine ⟨p, ⟨cs', by rw [hcl, he.1], hK, fun i u hu => ?_⟩, hG⟩
   have := hcell i u hu
   rw [he.1] at this
   rw [← Addr.add_add]
   exact this)
 (have hlen2 : xs.length ≤ cap := by omega);refine ⟨xs, ⟨some a, cap, ?_, hlen2, rfl, by omega, fun _ => ⟨a, rfl, fun j p hj => (hx j p hj).1⟩⟩, by omega, fun y hy => ?_⟩;(·rw [hxl]);obtain ⟨j, hj⟩ := List.getElem?_of_mem hy;exact (hx j y hj).2
end Go.Proofs.Ytelngmkfjpcbgaa.O
end
namespace Go.Proofs.Ytelngmkfjpcbgaa.fnExactHunksOf
open Go.ChangeShapes Go.WideShapes Go.ChangeAt Go.RowKit
open Go.ChangeMaps (open_string shut_string)
open Go.Proofs.Ytelngmkfjpcbgaa.P Go.Proofs.Ytelngmkfjpcbgaa.P.UFnExactHunksOf Go.Proofs.YtelngmkfjpcbgaaW.PrintWords
set_option linter.unusedVariables false
theorem own : ownKnob Try.prog.godebug = none := by kernel_rfl
theorem laidOut : laidOutB Try.prog = true := by kernel_rfl
set_option maxRecDepth 100000 in
theorem lifted (os : Os) (started : os.Started) (H : Type) (enc : TypeId × Value → H) :
    ReturnsInHanded {} Try.checked os 3 .any (Rows.fnExactHunksOfSpec.pre6 enc Try.prog Try.f3 Rows.fnExactHunksOfRow.domain false) (Rows.fnExactHunksOfSpec.post enc Try.prog Try.f3 false true false false) := by
 refine returnsInHanded_of_change_sized (C := Try.checked) own started (by kernel_rfl) Try.func3
   (ChangeSpec.witness6 (enc := enc) (C := Try.checked) false ⟨#[], #[.slice none 0 0, .slice none 0 0, .int .i64 0], []⟩ 8 (by kernel_rfl) (by kernel_rfl) (by kernel_rfl) (by kernel_rfl)) ?_
 intro W base args ds gs before hval0 hW hcnd hsz0 _;have hval : ∀ (j : Nat) t v, Try.f3.params[j]? = some t → args[j]? = some v → Value.okWide Try.prog W .any base t v := hval0;have hW' := hW;obtain ⟨p, q, hA0, hV, rfl, hfz, hnd⟩ := hW;have hA : DataW.TrodAll enc Try.prog W 0 (fun _ => true) true Try.f3.params.toList args.toList ds p := hA0;rw [Try.params3] at hA hval;obtain ⟨v0, vs0, d0, ds0, p0, q0, hargs, rfl, rfl, h0, r0⟩ := trodAll_cons hA;obtain ⟨v1, vs1, d1, ds1, p1, q1, rfl, rfl, rfl, h1, r1⟩ := trodAll_cons r0;obtain ⟨v2, vs2, d2, ds2, p2, q2, rfl, rfl, rfl, h2, r2⟩ := trodAll_cons r1;obtain ⟨rfl, rfl, rfl⟩ := trodAll_nil r2;(obtain rfl : args = #[v0, v1, v2] := by cases args;simp_all);obtain ⟨rfl, rfl⟩ := trodVars_none hV;have k0_ := h0;(have lt0 : ∀ x ∈ p0, x.block < W.heap.size := by obtain ⟨m, hm⟩ := k0_;exact DataW.trod_lt m _ _ _ hm);obtain ⟨b0, len0, cap0, rfl⟩ := okWide_slice Try.underlying22 (hval 0 22 v0 rfl rfl);obtain ⟨fuel0, hf0⟩ := h0;obtain ⟨l0, ⟨A0, c0, hcs0, hc0, hr0⟩, g0⟩ := (O.opens_slice Try.underlying22 (by kernel_rfl) (O.opens_string Try.underlying9 (by kernel_rfl))).2 hf0;simp [Value.cells] at hcs0;obtain ⟨rfl, rfl, rfl⟩ := hcs0;have k1_ := h1;(have lt1 : ∀ x ∈ p1, x.block < W.heap.size := by obtain ⟨m, hm⟩ := k1_;exact DataW.trod_lt m _ _ _ hm);obtain ⟨b1, len1, cap1, rfl⟩ := okWide_slice Try.underlying22 (hval 1 22 v1 rfl rfl);obtain ⟨fuel1, hf1⟩ := h1;obtain ⟨l1, ⟨A1, c1, hcs1, hc1, hr1⟩, g1⟩ := (O.opens_slice Try.underlying22 (by kernel_rfl) (O.opens_string Try.underlying9 (by kernel_rfl))).2 hf1;simp [Value.cells] at hcs1;obtain ⟨rfl, rfl, rfl⟩ := hcs1;obtain ⟨a2, rfl, rfl, rfl, w2⟩ := open_int Try.underlying2 (hval 2 2 v2 rfl rfl) h2;clear hA0 hval0 hsz0;obtain ⟨k, h⟩ := VFnExactHunksOf.proof l0 l1 a2 g0 g1 w2;(refine (laws_FnExactHunksOf.calls k _ _ l0 _ _ l1 a2 true W hr0 hc0 hr1 hc1 h rfl).mono fun e W' hend => ?_);obtain ⟨rfl, hbel⟩ := hend;have bel : Below W.heap.size W W' := hbel;exact ⟨_, rfl, _, _, _, [], _, [], hW', trodAll_mk1 (shut_bool Try.underlying4 _), (trodAll_cons_mk (Below.trod laidOut (by kernel_rfl) (of_decide_eq_true (by kernel_rfl)) k0_ bel lt0) (trodAll_cons_mk (Below.trod laidOut (by kernel_rfl) (of_decide_eq_true (by kernel_rfl)) k1_ bel lt1) (trodAll_cons_mk (shut_int Try.underlying2 w2) trodAll_mk0))), rfl, bel.frame _, fun h => by cases h⟩
theorem over : Rows.fnExactHunksOfRow.holds Try.pinned (OpenSpec.ofChange Rows.fnExactHunksOfSpec) :=
  OpenClaim.holds_of_wide 3 Try.f3 rfl rfl rfl rfl rfl rfl rfl ⟨rfl, rfl, rfl, rfl, rfl⟩ rfl rfl rfl rfl rfl (by kernel_rfl) Try.func3 (by kernel_rfl)
    (of_decide_eq_true (by kernel_rfl)) (by unfold Func.isWrapper;first | (rw [if_pos (by decide +kernel)];kernel_rfl) | (rw [if_neg (by decide +kernel)];exact ⟨rfl, rfl⟩))
    (fun os started H enc _ => lifted os started H enc)
theorem proved : Rows.FnExactHunksOfSaid := over
#print axioms proved
end Go.Proofs.Ytelngmkfjpcbgaa.fnExactHunksOf
namespace Go.Proofs.Ytelngmkfjpcbgaa
theorem fnExactHunksOf_holds : Rows.FnExactHunksOfSaid := fnExactHunksOf.proved
end Go.Proofs.Ytelngmkfjpcbgaa
