/- Part 6 of the proof of FnMatches: words, the Go functions' contracts, what they compute, and the law on plain values. Words that the kit's print.sh wrote for this seat are among it, as far as they are used. -/
import Derived.Lib.Strings
import Derived.Laws.BytesArg
import Derived.Lib.Bytealg
import Derived.Test.YtihbalbcocfnfaaCFnMatches1
import Derived.Test.YtihbalbcocfnfaaCFnMatches2
import Derived.Test.YtihbalbcocfnfaaCFnMatches3
import Derived.Test.YtihbalbcocfnfaaCFnMatches4
import Derived.Test.YtihbalbcocfnfaaCFnMatches5
section
namespace Go.Proofs.Ytihbalbcocfnfaa.P
open Go.RowKit Go.Proofs.YtihbalbcocfnfaaW.PrintWords Go.Proofs.YtihbalbcocfnfaaW.PrintLast Go.Proofs.YtihbalbcocfnfaaW.PrintMore
attribute [local go_sem] max2_int min2_int max_two min_two max_three min_three max_four min_four
set_option linter.unusedVariables false
set_option linter.unusedSimpArgs false
attribute [local go_sem high] eqA32
mutual
def laws_FnMatches.j0 : Nat → List ByteArray → List ByteArray → Bool → Int → List Int → List Int → Option (Bool)
 | 0, _, _, _, _, _, _ => none
 | k + 1, x3, x4, x52, x976000, x976001, x976002 => if x52 = true then (some false) else (laws_FnMatches.l0 k x3 x4 0 x976000 x976001 x976002)
def laws_FnMatches.l0 : Nat → List ByteArray → List ByteArray → Int → Int → List Int → List Int → Option (Bool)
 | 0, _, _, _, _, _, _ => none
 | k + 1, x3, x4, x6, x976000, x976001, x976002 => if x6 < (x976001.length : Int) then (if x6 > 0 then (if 0 ≤ x6 then (if 0 ≤ (wrap64 (x6 - 1)) then (if (wrap64 (x6 - 1)) < (x976001.length : Int) then (if (rd x976001 x6) ≤ (rd x976001 (wrap64 (x6 - 1))) then (some false) else (if x6 < (x976002.length : Int) then (if (wrap64 (x6 - 1)) < (x976002.length : Int) then (if (rd x976002 x6) ≤ (rd x976002 (wrap64 (x6 - 1))) then (some false) else (if 0 ≤ (rd x976001 x6) then (if (rd x976001 x6) < (x3.length : Int) then (if 0 ≤ (rd x976002 x6) then (if (rd x976002 x6) < (x4.length : Int) then (if (rdOf ByteArray.empty x3 (rd x976001 x6)).toList = (rdOf ByteArray.empty x4 (rd x976002 x6)).toList then (laws_FnMatches.l0 k x3 x4 (wrap64 (x6 + 1)) x976000 x976001 x976002) else (some false)) else (none)) else (none)) else (none)) else (none))) else (none)) else (none))) else (none)) else (none)) else (none)) else (if 0 ≤ x6 then (if 0 ≤ (rd x976001 x6) then (if (rd x976001 x6) < (x3.length : Int) then (if x6 < (x976002.length : Int) then (if 0 ≤ (rd x976002 x6) then (if (rd x976002 x6) < (x4.length : Int) then (if (rdOf ByteArray.empty x3 (rd x976001 x6)).toList = (rdOf ByteArray.empty x4 (rd x976002 x6)).toList then (laws_FnMatches.l0 k x3 x4 (wrap64 (x6 + 1)) x976000 x976001 x976002) else (some false)) else (none)) else (none)) else (none)) else (none)) else (none)) else (none))) else ((impl_CommonOf.f k x3 x3).bind fun bt1001 => (if bt1001.2 = (x3.length : Int) then ((impl_EditCount.f k x3 x4).bind fun bt1003 => (some (bt1003.2 == (wrap64 ((wrap64 ((x3.length : Int) + (x4.length : Int))) - (wrap64 (2 * (x976001.length : Int)))))))) else (some false)))
end
def laws_FnMatches.f (k : Nat) (l0 : List Int) : Option (Bool) := (laws_lwBig.f l0).bind fun t961 => (if t961 = true then (some true) else ((spec_DrawMatchLines.f k l0).bind fun bt962 => ((impl_MatchLines.f k bt962.1 bt962.2).bind fun bt968 => (if bt968.1 = 0 then (if (bt968.2.1.length : Int) = (bt968.2.2.length : Int) then ((impl_CommonOf.f k bt962.1 bt962.2).bind fun bt983 => (if (bt968.2.1.length : Int) = bt983.2 then ((impl_CommonOf.f k bt962.1 bt962.2).bind fun bt985 => ((impl_CommonOf.f k bt962.2 bt962.1).bind fun bt987 => (laws_FnMatches.j0 k bt962.1 bt962.2 (!(bt985.1 == bt987.1) || (!(bt985.2 == bt987.2))) bt968.1 bt968.2.1 bt968.2.2))) else (laws_FnMatches.j0 k bt962.1 bt962.2 true bt968.1 bt968.2.1 bt968.2.2))) else (laws_FnMatches.j0 k bt962.1 bt962.2 true bt968.1 bt968.2.1 bt968.2.2)) else ((spec_MatchLines.f k bt962.1 bt962.2).bind fun bt976 => (some (bt976.1 == bt968.1)))))))
def laws_FnMatches.T6 : Bool × List (List Nat × List Nat) := (true, [([], []), ([], []), ([0, 1], [0, 1]), ([2], [2]), ([], []), ([4], [4]), ([3, 5], [3, 5]), ([6, 2, 0, 1, 2, 3, 4, 5, 6], [6])])
def laws_FnMatches.B6 : List Nat := [0, 0, 3, 7, 0, 16, 63, 127]
theorem laws_FnMatches.tab6 : rtab .any (opsOf Try.f11 6) = laws_FnMatches.T6 := by kernel_rfl
theorem laws_FnMatches.bits6 : waitsOk laws_FnMatches.T6.2 laws_FnMatches.B6 = true := by kernel_rfl
def laws_FnMatches.T7 : Bool × List (List Nat × List Nat) := (true, [([], []), ([0], [0]), ([1], [1]), ([], []), ([3], [3]), ([4], [4]), ([2, 5], [2, 5]), ([6], [6]), ([7], [7]), ([8, 7], [7, 8]), ([9, 7], [7, 9]), ([7], [7]), ([7], [7]), ([11, 12, 7, 7], [7, 11, 12]), ([13, 7], [7, 13]), ([10, 14, 7], [7, 10, 14]), ([7, 15], [7, 15]), ([16, 13], [16]), ([17], [17]), ([17], [17]), ([18, 19, 17, 17], [17, 18, 19]), ([17], [17]), ([17], [17]), ([21, 22, 20, 17], [17, 21, 22]), ([20, 23, 17], [17, 20, 23]), ([17, 24], [17, 24])])
def laws_FnMatches.B7 : List Nat := [0, 1, 3, 0, 8, 24, 63, 127, 255, 511, 1023, 255, 255, 6399, 14591, 32767, 65535, 131071, 262143, 262143, 1048575, 262143, 262143, 8388607, 16777215, 33554431]
theorem laws_FnMatches.tab7 : rtab .any (opsOf Try.f11 7) = laws_FnMatches.T7 := by kernel_rfl
theorem laws_FnMatches.bits7 : waitsOk laws_FnMatches.T7.2 laws_FnMatches.B7 = true := by kernel_rfl
def laws_FnMatches.T12 : Bool × List (List Nat × List Nat) := (true, [([], []), ([0], [0]), ([1], [1]), ([2], [2]), ([3, 2], [2, 3]), ([2], [2]), ([4, 5, 2], [2, 4, 5]), ([6, 2], [2, 6]), ([2], [2]), ([8, 2], [2, 8]), ([2], [2]), ([10, 2], [2, 10]), ([9, 11, 2], [2, 9, 11]), ([12, 2], [2, 12]), ([7, 13, 2], [2, 7, 13]), ([14, 2, 2], [2, 14]), ([15], [15]), ([16, 15], [15, 16]), ([15], [15]), ([17, 18, 15], [15, 17, 18]), ([19, 15], [15, 19]), ([15], [15]), ([21, 15], [15, 21]), ([15], [15]), ([23, 15], [15, 23]), ([22, 24, 15], [15, 22, 24]), ([25, 15], [15, 25]), ([20, 26, 15], [15, 20, 26]), ([15, 27, 2], [2, 15, 27]), ([2, 28], [2, 28]), ([29, 15], [29]), ([30], [30]), ([30], [30]), ([32, 30], [30, 32]), ([30], [30]), ([33, 34, 30], [30, 33, 34]), ([35, 30], [30, 35]), ([31, 36, 30], [30, 31, 36]), ([37, 30], [30, 37]), ([30], [30]), ([30], [30]), ([40, 30], [30, 40]), ([30], [30]), ([41, 42, 30], [30, 41, 42]), ([43, 30], [30, 43]), ([39, 44, 30], [30, 39, 44]), ([45, 30], [30, 45]), ([38, 46, 30], [30, 38, 46]), ([30, 47], [30, 47])])
def laws_FnMatches.B12 : List Nat := [0, 1, 3, 7, 15, 7, 63, 127, 7, 263, 7, 1031, 3847, 7943, 16383, 32767, 65535, 131071, 65535, 524287, 1048575, 65535, 2162687, 65535, 8454143, 31522815, 65077247, 134217727, 268435455, 536870911, 1073741823, 2147483647, 2147483647, 6442450943, 2147483647, 32212254719, 66571993087, 137438953471, 274877906943, 2147483647, 2147483647, 1101659111423, 2147483647, 7698728878079, 16494821900287, 34636763758591, 69821135847423, 140737488355327, 281474976710655]
theorem laws_FnMatches.tab12 : rtab .any (opsOf Try.f11 12) = laws_FnMatches.T12 := by kernel_rfl
theorem laws_FnMatches.bits12 : waitsOk laws_FnMatches.T12.2 laws_FnMatches.B12 = true := by kernel_rfl
def laws_FnMatches.T14 : Bool × List (List Nat × List Nat) := (true, [([], []), ([], []), ([0, 1], [0, 1]), ([2], [2]), ([], []), ([4], [4]), ([3, 5], [3, 5]), ([6, 2], [6]), ([7], [7]), ([7], [7]), ([8, 9, 7, 7], [7, 8, 9]), ([10, 7], [7, 10]), ([7], [7]), ([12, 7], [7, 12]), ([7], [7]), ([14, 7], [7, 14]), ([13, 15, 7], [7, 13, 15]), ([7], [7]), ([17, 7], [7, 17]), ([18, 7], [7, 18]), ([19, 7], [7, 19]), ([16, 20, 7], [7, 16, 20]), ([11, 21, 7], [7, 11, 21]), ([7, 22], [7, 22]), ([23, 10, 0, 1, 2, 3, 4, 5, 6, 7, 8, 9, 10, 11, 12, 13, 14, 15, 16, 17, 18, 19, 20, 21, 22, 23], [23])])
def laws_FnMatches.B14 : List Nat := [0, 0, 3, 7, 0, 16, 63, 127, 255, 255, 1023, 2047, 255, 4351, 255, 16639, 61695, 255, 131327, 393471, 917759, 2093311, 4194303, 8388607, 16777215]
theorem laws_FnMatches.tab14 : rtab .any (opsOf Try.f11 14) = laws_FnMatches.T14 := by kernel_rfl
theorem laws_FnMatches.bits14 : waitsOk laws_FnMatches.T14.2 laws_FnMatches.B14 = true := by kernel_rfl
set_option maxHeartbeats 8000000 in
set_option maxRecDepth 100000 in
theorem laws_FnMatches.calls (k : Nat) (A0 : Option Addr) (c0 : Nat) (l0 : List Int) (r : Bool) (w : World) (hr0 : Kd.C (Kd.int .u8) w A0 l0.length l0) (hc0 : l0.length ≤ c0) (h : laws_FnMatches.f k l0 = some r) (hlaw : r = true) :
  Calls Try.prog 11 #[.slice A0 l0.length c0] w fun e w' => e = .returned (.bool r) ∧ Below w.heap.size w w' := by
 have hu44 := Try.underlying44
 have hfd32_0 : ∀ (x0_ x1_ : Value) (w_ : World), (Instr.field 32 (.agg #[x0_, x1_]) 0).run Try.prog w_ = .ok x0_ w_ := fun _ _ _ => by kernel_rfl
 have hfd32_1 : ∀ (x0_ x1_ : Value) (w_ : World), (Instr.field 32 (.agg #[x0_, x1_]) 1).run Try.prog w_ = .ok x1_ w_ := fun _ _ _ => by kernel_rfl
 have hfd44_0 : ∀ (x0_ x1_ x2_ : Value) (w_ : World), (Instr.field 44 (.agg #[x0_, x1_, x2_]) 0).run Try.prog w_ = .ok x0_ w_ := fun _ _ _ _ => by kernel_rfl
 have hfd44_1 : ∀ (x0_ x1_ x2_ : Value) (w_ : World), (Instr.field 44 (.agg #[x0_, x1_, x2_]) 1).run Try.prog w_ = .ok x1_ w_ := fun _ _ _ _ => by kernel_rfl
 have hfd44_2 : ∀ (x0_ x1_ x2_ : Value) (w_ : World), (Instr.field 44 (.agg #[x0_, x1_, x2_]) 2).run Try.prog w_ = .ok x2_ w_ := fun _ _ _ _ => by kernel_rfl
 have HR0 := Aside0.mk hr0
 have HC0 := Aside0.mk hc0
 clear hr0 hc0
 have HB := Aside0.mk (Below.refl w.heap.size w)
 have HLAW := Aside0.mk hlaw
 clear hlaw
 have H : ((laws_lwBig.f l0).bind fun t961 => (if t961 = true then (some true) else ((spec_DrawMatchLines.f k l0).bind fun bt962 => ((impl_MatchLines.f k bt962.1 bt962.2).bind fun bt968 => (if bt968.1 = 0 then (if (bt968.2.1.length : Int) = (bt968.2.2.length : Int) then ((impl_CommonOf.f k bt962.1 bt962.2).bind fun bt983 => (if (bt968.2.1.length : Int) = bt983.2 then ((impl_CommonOf.f k bt962.1 bt962.2).bind fun bt985 => ((impl_CommonOf.f k bt962.2 bt962.1).bind fun bt987 => (laws_FnMatches.j0 k bt962.1 bt962.2 (!(bt985.1 == bt987.1) || (!(bt985.2 == bt987.2))) bt968.1 bt968.2.1 bt968.2.2))) else (laws_FnMatches.j0 k bt962.1 bt962.2 true bt968.1 bt968.2.1 bt968.2.2))) else (laws_FnMatches.j0 k bt962.1 bt962.2 true bt968.1 bt968.2.1 bt968.2.2)) else ((spec_MatchLines.f k bt962.1 bt962.2).bind fun bt976 => (some (bt976.1 == bt968.1)))))))) = some r := h
 clear h
 replace H := Option.bind_eq_some_iff.mp H
 obtain ⟨t961, A20, H⟩ := H
 replace H : (if t961 = true then (some true) else ((spec_DrawMatchLines.f k l0).bind fun bt962 => ((impl_MatchLines.f k bt962.1 bt962.2).bind fun bt968 => (if bt968.1 = 0 then (if (bt968.2.1.length : Int) = (bt968.2.2.length : Int) then ((impl_CommonOf.f k bt962.1 bt962.2).bind fun bt983 => (if (bt968.2.1.length : Int) = bt983.2 then ((impl_CommonOf.f k bt962.1 bt962.2).bind fun bt985 => ((impl_CommonOf.f k bt962.2 bt962.1).bind fun bt987 => (laws_FnMatches.j0 k bt962.1 bt962.2 (!(bt985.1 == bt987.1) || (!(bt985.2 == bt987.2))) bt968.1 bt968.2.1 bt968.2.2))) else (laws_FnMatches.j0 k bt962.1 bt962.2 true bt968.1 bt968.2.1 bt968.2.2))) else (laws_FnMatches.j0 k bt962.1 bt962.2 true bt968.1 bt968.2.1 bt968.2.2)) else ((spec_MatchLines.f k bt962.1 bt962.2).bind fun bt976 => (some (bt976.1 == bt968.1))))))) = some r := H
 have A2 := Aside0.mk A20
 clear A20
 by_cases c3 : t961 = true
 ·subst c3
  have H1 : (some true) = some r := by rw [if_pos rfl] at H; exact H
  clear H
  have H := H1
  clear H1
  obtain rfl := Option.some.inj H
  go_enter Try.func11, Try.ntmps11
  go_wp2_with (first | ((with_reducible refine gate_callee (f := 46) rfl ?_); refine goesL_ (some 8) rfl rfl Try.func46 (by kernel_rfl) rfl #[.slice A0 l0.length c0] rfl (by (try simp only [List.map_toArray, List.map_cons, List.map_nil]); first | done | rfl | (simp only [List.length_drop, List.length_take]; rfl)) ?_; (with_reducible refine (laws_lwBig.calls _ _ l0 true _ ?side1 ?side2 A2.out).mono ?_); (case side1 => repeat (first | exact HR0.out | (with_reducible refine Kd.C_alloc ?_ _) | (with_reducible refine Kd.C_drewN ?_ _) | (with_reducible refine Kd.C_drew ?_))); (case side2 => exact HC0.out); rintro e w' ⟨rfl, ⟨nd, rfl⟩⟩; refine ⟨_, rfl, ?_⟩))
  go_ret
  exact ⟨by first | rfl | (simp [errW_none, errW_some] <;> rfl) | (simp [*, errW_none, errW_some] <;> rfl), by repeat (first | (with_reducible first | exact HB.out | apply below_alloc | apply pw_below_drewN | apply below_drew1) | exact HB.out)⟩
 ·replace c3 := Bool.eq_false_iff.mpr c3
  subst c3
  have H1 : ((spec_DrawMatchLines.f k l0).bind fun bt962 => ((impl_MatchLines.f k bt962.1 bt962.2).bind fun bt968 => (if bt968.1 = 0 then (if (bt968.2.1.length : Int) = (bt968.2.2.length : Int) then ((impl_CommonOf.f k bt962.1 bt962.2).bind fun bt983 => (if (bt968.2.1.length : Int) = bt983.2 then ((impl_CommonOf.f k bt962.1 bt962.2).bind fun bt985 => ((impl_CommonOf.f k bt962.2 bt962.1).bind fun bt987 => (laws_FnMatches.j0 k bt962.1 bt962.2 (!(bt985.1 == bt987.1) || (!(bt985.2 == bt987.2))) bt968.1 bt968.2.1 bt968.2.2))) else (laws_FnMatches.j0 k bt962.1 bt962.2 true bt968.1 bt968.2.1 bt968.2.2))) else (laws_FnMatches.j0 k bt962.1 bt962.2 true bt968.1 bt968.2.1 bt968.2.2)) else ((spec_MatchLines.f k bt962.1 bt962.2).bind fun bt976 => (some (bt976.1 == bt968.1)))))) = some r := by rw [if_neg (show ¬ (false = true) by decide)] at H; exact H
  clear H
  have H := H1
  clear H1
  replace H := Option.bind_eq_some_iff.mp H
  obtain ⟨⟨t962, t963⟩, A40, H⟩ := H
  replace H : ((impl_MatchLines.f k t962 t963).bind fun bt968 => (if bt968.1 = 0 then (if (bt968.2.1.length : Int) = (bt968.2.2.length : Int) then ((impl_CommonOf.f k t962 t963).bind fun bt983 => (if (bt968.2.1.length : Int) = bt983.2 then ((impl_CommonOf.f k t962 t963).bind fun bt985 => ((impl_CommonOf.f k t963 t962).bind fun bt987 => (laws_FnMatches.j0 k t962 t963 (!(bt985.1 == bt987.1) || (!(bt985.2 == bt987.2))) bt968.1 bt968.2.1 bt968.2.2))) else (laws_FnMatches.j0 k t962 t963 true bt968.1 bt968.2.1 bt968.2.2))) else (laws_FnMatches.j0 k t962 t963 true bt968.1 bt968.2.1 bt968.2.2)) else ((spec_MatchLines.f k t962 t963).bind fun bt976 => (some (bt976.1 == bt968.1))))) = some r := H
  have A4 := Aside0.mk A40
  clear A40
  replace H := Option.bind_eq_some_iff.mp H
  obtain ⟨⟨t968, t969, t972⟩, A50, H⟩ := H
  replace H : (if t968 = 0 then (if (t969.length : Int) = (t972.length : Int) then ((impl_CommonOf.f k t962 t963).bind fun bt983 => (if (t969.length : Int) = bt983.2 then ((impl_CommonOf.f k t962 t963).bind fun bt985 => ((impl_CommonOf.f k t963 t962).bind fun bt987 => (laws_FnMatches.j0 k t962 t963 (!(bt985.1 == bt987.1) || (!(bt985.2 == bt987.2))) t968 t969 t972))) else (laws_FnMatches.j0 k t962 t963 true t968 t969 t972))) else (laws_FnMatches.j0 k t962 t963 true t968 t969 t972)) else ((spec_MatchLines.f k t962 t963).bind fun bt976 => (some (bt976.1 == t968)))) = some r := H
  have A5 := Aside0.mk A50
  clear A50
  by_cases c6 : t968 = 0
  ·rw [if_pos c6] at H
   have c6b0 : (t968 == 0) = true := beq_iff_eq.mpr c6
   have c6b1 : (t968 != 0) = false := bne_eq_false_iff_eq.mpr c6
   clear c6
   have HC7 := Aside0.mk H
   clear H
   go_enter Try.func11, Try.ntmps11
   go_upto_region 7 with (first | ((with_reducible refine gate_callee (f := 46) rfl ?_); refine goesL_ (some 8) rfl rfl Try.func46 (by kernel_rfl) rfl #[.slice A0 l0.length c0] rfl (by (try simp only [List.map_toArray, List.map_cons, List.map_nil]); first | done | rfl | (simp only [List.length_drop, List.length_take]; rfl)) ?_; (with_reducible refine (laws_lwBig.calls _ _ l0 false _ ?side1 ?side2 A2.out).mono ?_); (case side1 => repeat (first | exact HR0.out | (with_reducible refine Kd.C_alloc ?_ _) | (with_reducible refine Kd.C_drewN ?_ _) | (with_reducible refine Kd.C_drew ?_))); (case side2 => exact HC0.out); rintro e w' ⟨rfl, ⟨nd, rfl⟩⟩; refine ⟨_, rfl, ?_⟩) | ((with_reducible refine gate_callee (f := 49) rfl ?_); refine goesL_ (some 11) rfl rfl Try.func49 (by kernel_rfl) rfl #[.slice A0 l0.length c0] rfl (by (try simp only [List.map_toArray, List.map_cons, List.map_nil]); first | done | rfl | (simp only [List.length_drop, List.length_take]; rfl)) ?_; (with_reducible refine (spec_DrawMatchLines.calls k _ _ l0 t962 t963 _ ?side1 ?side2 A4.out).mono ?_); (case side1 => repeat (first | exact HR0.out | (with_reducible refine Kd.C_alloc ?_ _) | (with_reducible refine Kd.C_drewN ?_ _) | (with_reducible refine Kd.C_drew ?_))); (case side2 => exact HC0.out); rintro e w8 ⟨v964, v966, rfl, ho0, ho1, hb⟩; refine ⟨_, rfl, ?_⟩; have n0_ := Aside0.mk (Kd.R_lower ho0 (below_size (by repeat (first | (with_reducible first | exact HB.out | apply below_alloc | apply pw_below_drewN | apply below_drew1) | exact HB.out)))); have n1_ := Aside0.mk (Kd.R_lower ho1 (below_size (by repeat (first | (with_reducible first | exact HB.out | apply below_alloc | apply pw_below_drewN | apply below_drew1) | exact HB.out)))); have n2_ := Aside0.mk (below_step (by repeat (first | (with_reducible first | exact HB.out | apply below_alloc | apply pw_below_drewN | apply below_drew1) | exact HB.out)) hb); clear HB; have HO965 := n0_; have HO967 := n1_; have HB := n2_; clear n0_ n1_ n2_; (try clear hb); (try clear hb2); (try clear hk); (try clear hi); (try clear ho0); (try clear ho1); obtain ⟨Ao9, co9, eo9⟩ := Kd.R_slice HO965.out; subst eo9; obtain ⟨Ao10, co10, eo10⟩ := Kd.R_slice HO967.out; subst eo10) | ((with_reducible refine gate_callee (f := 30) rfl ?_); refine goesL_ (some 16) rfl rfl Try.func30 (by kernel_rfl) rfl #[.slice Ao9 t962.length co9, .slice Ao10 t963.length co10] rfl (by (try simp only [List.map_toArray, List.map_cons, List.map_nil]); first | done | rfl | (simp only [List.length_drop, List.length_take]; rfl)) ?_; (with_reducible refine (impl_MatchLines.calls k _ _ t962 _ _ t963 t968 t969 t972 _ ?side1 ?side2 ?side3 ?side4 A5.out).mono ?_); (case side1 => repeat (first | exact (Kd.R_reads' HO965.out).2.2 | (with_reducible refine Kd.C_alloc ?_ _) | (with_reducible refine Kd.C_drewN ?_ _) | (with_reducible refine Kd.C_drew ?_))); (case side2 => exact (Kd.R_reads' HO965.out).2.1); (case side3 => repeat (first | exact (Kd.R_reads' HO967.out).2.2 | (with_reducible refine Kd.C_alloc ?_ _) | (with_reducible refine Kd.C_drewN ?_ _) | (with_reducible refine Kd.C_drew ?_))); (case side4 => exact (Kd.R_reads' HO967.out).2.1); rintro e w11 ⟨v970, v973, rfl, ho0, ho1, hb⟩; refine ⟨_, rfl, ?_⟩; have n0_ := Aside0.mk (Kd.R_below (by (with_reducible repeat (first | apply Kd.R_alloc | apply Kd.R_drewN | apply Kd.R_drew)); exact HO965.out) hb); have n1_ := Aside0.mk (Kd.R_below (by (with_reducible repeat (first | apply Kd.R_alloc | apply Kd.R_drewN | apply Kd.R_drew)); exact HO967.out) hb); have n2_ := Aside0.mk (Kd.R_lower ho0 (below_size (by repeat (first | (with_reducible first | exact HB.out | apply below_alloc | apply pw_below_drewN | apply below_drew1) | exact HB.out)))); have n3_ := Aside0.mk (Kd.R_lower ho1 (below_size (by repeat (first | (with_reducible first | exact HB.out | apply below_alloc | apply pw_below_drewN | apply below_drew1) | exact HB.out)))); have n4_ := Aside0.mk (below_step (by repeat (first | (with_reducible first | exact HB.out | apply below_alloc | apply pw_below_drewN | apply below_drew1) | exact HB.out)) hb); clear HO965; clear HO967; clear HB; have HO965 := n0_; have HO967 := n1_; have HO971 := n2_; have HO974 := n3_; have HB := n4_; clear n0_ n1_ n2_ n3_ n4_; (try clear hb); (try clear hb2); (try clear hk); (try clear hi); (try clear ho0); (try clear ho1)) | ((with_reducible refine gate_dst (N := 5) rfl ?_); (try (refine gate_guard (by rfl) ?_; dsimp only)); refine box_event ?hg (N := 5) ?hd (cs := #[.int .i64 0, .slice none 0 0, .slice none 0 0]) (t := 44) ?hr ?_; (case hd => rfl); (case hg => rfl); (case hr => first | (go_simp; done) | (go_simp; rfl)); intro gb975 hg w12 hbox hb; have n0_ := Aside0.mk (Kd.R_below (by (with_reducible repeat (first | apply Kd.R_alloc | apply Kd.R_drewN | apply Kd.R_drew)); exact HO965.out) hb); have n1_ := Aside0.mk (Kd.R_below (by (with_reducible repeat (first | apply Kd.R_alloc | apply Kd.R_drewN | apply Kd.R_drew)); exact HO967.out) hb); have n2_ := Aside0.mk (Kd.R_below (by (with_reducible repeat (first | apply Kd.R_alloc | apply Kd.R_drewN | apply Kd.R_drew)); exact HO971.out) hb); have n3_ := Aside0.mk (Kd.R_below (by (with_reducible repeat (first | apply Kd.R_alloc | apply Kd.R_drewN | apply Kd.R_drew)); exact HO974.out) hb); have n4_ := Aside0.mk (below_step (by repeat (first | (with_reducible first | exact HB.out | apply below_alloc | apply pw_below_drewN | apply below_drew1) | exact HB.out)) hb); have n5_ := Aside0.mk (hbox); have n6_ := Aside0.mk ((by rw [hg]; exact (below_size (by repeat (first | (with_reducible first | exact HB.out | apply below_alloc | apply pw_below_drewN | apply below_drew1) | exact HB.out))) : w.heap.size ≤ gb975)); have n7_ := Aside0.mk ((by rw [hg]; exact (below_size (by repeat (first | (with_reducible first | exact HB.out | apply below_alloc | apply pw_below_drewN | apply below_drew1) | exact HB.out))) : w.heap.size ≤ gb975)); clear HO965; clear HO967; clear HO971; clear HO974; clear HB; have HO965 := n0_; have HO967 := n1_; have HO971 := n2_; have HO974 := n3_; have HB := n4_; have BK975 := n5_; have GW975 := n6_; have GE975 := n7_; clear n0_ n1_ n2_ n3_ n4_ n5_ n6_ n7_; clear hb hbox hg; have hcz13_0 : w12.cell? ⟨gb975, 0, none⟩ = some (.int .i64 0) := (blk_cell BK975.out 0).trans rfl; have hcz13_1 : w12.cell? ⟨gb975, 1, none⟩ = some (.slice none 0 0) := (blk_cell BK975.out 1).trans rfl; have hcz13_2 : w12.cell? ⟨gb975, 2, none⟩ = some (.slice none 0 0) := (blk_cell BK975.out 2).trans rfl; have hfz13_0 := blk_frozen BK975.out 0; have hfz13_1 := blk_frozen BK975.out 1; have hfz13_2 := blk_frozen BK975.out 2; obtain ⟨Ao14, co14, eo14⟩ := Kd.R_slice HO971.out; subst eo14; obtain ⟨Ao15, co15, eo15⟩ := Kd.R_slice HO974.out; subst eo15))
   (try simp only [Act.put, List.setIfInBounds_toArray, List.set_cons_zero, List.set_cons_succ])
   go_cut [52] (fun v52 wc => ∃ (kq : Nat) (x52_6 : Bool), v52 = .bool x52_6 ∧ Aside0 (laws_FnMatches.j0 kq t962 t963 x52_6 t968 t969 t972 = some r) ∧ Aside0 (kq ≤ k) ∧ Aside0 (Kd.R Kd.string 9 wc w.heap.size (fun k_ => some k_ ≠ ((.slice Ao10 t963.length co10) : Value).ownBlock) (.slice Ao9 t962.length co9) t962) ∧ Aside0 (Kd.R Kd.string 9 wc w.heap.size (fun k_ => some k_ ≠ ((.slice Ao9 t962.length co9) : Value).ownBlock) (.slice Ao10 t963.length co10) t963) ∧ Aside0 (Kd.R (Kd.int .i64) 2 wc w.heap.size (fun k_ => some k_ ≠ ((.slice Ao15 t972.length co15) : Value).ownBlock) (.slice Ao14 t969.length co14) t969) ∧ Aside0 (Kd.R (Kd.int .i64) 2 wc w.heap.size (fun k_ => some k_ ≠ ((.slice Ao14 t969.length co14) : Value).ownBlock) (.slice Ao15 t972.length co15) t972) ∧ Aside0 (wc.heap[gb975]? = some (.cells #[.int .i64 t968, (.slice Ao14 t969.length co14), (.slice Ao15 t972.length co15)] 44 (0, 0))) ∧ Aside0 (Below w.heap.size w wc))
   case first =>
    have H := HC7.out
    clear HC7
    by_cases c16 : (t969.length : Int) = (t972.length : Int)
    ·rw [if_pos c16] at H
     have c16b0 : ((t969.length : Int) == (t972.length : Int)) = true := beq_iff_eq.mpr c16
     have c16b1 : ((t969.length : Int) != (t972.length : Int)) = false := bne_eq_false_iff_eq.mpr c16
     have c16b2 : (t969.length == t972.length) = true := by first | simpa using c16 | (simp at c16 ⊢; omega)
     clear c16
     (first | rw [c16b0] | (simp only [i64_w, i32_w]; rw [c16b0]) | skip)
     replace H := Option.bind_eq_some_iff.mp H
     obtain ⟨⟨t983, t984⟩, A170, H⟩ := H
     replace H : (if (t969.length : Int) = t984 then ((impl_CommonOf.f k t962 t963).bind fun bt985 => ((impl_CommonOf.f k t963 t962).bind fun bt987 => (laws_FnMatches.j0 k t962 t963 (!(bt985.1 == bt987.1) || (!(bt985.2 == bt987.2))) t968 t969 t972))) else (laws_FnMatches.j0 k t962 t963 true t968 t969 t972)) = some r := H
     have A17 := Aside0.mk A170
     clear A170
     by_cases c18 : (t969.length : Int) = t984
     ·rw [if_pos c18] at H
      have c18b0 : ((t969.length : Int) == t984) = true := beq_iff_eq.mpr c18
      have c18b1 : ((t969.length : Int) != t984) = false := bne_eq_false_iff_eq.mpr c18
      clear c18
      replace H := Option.bind_eq_some_iff.mp H
      obtain ⟨⟨t985, t986⟩, A190, H⟩ := H
      replace H : ((impl_CommonOf.f k t963 t962).bind fun bt987 => (laws_FnMatches.j0 k t962 t963 (!(t985 == bt987.1) || (!(t986 == bt987.2))) t968 t969 t972)) = some r := H
      have A19 := Aside0.mk A190
      clear A190
      replace H := Option.bind_eq_some_iff.mp H
      obtain ⟨⟨t987, t988⟩, A200, H⟩ := H
      replace H : (laws_FnMatches.j0 k t962 t963 (!(t985 == t987) || (!(t986 == t988))) t968 t969 t972) = some r := H
      have A20 := Aside0.mk A200
      clear A200
      have H' := Aside0.mk H
      clear H
      try go_wp2
      have n0_ : Aside0 (Kd.R Kd.string 9 (((w12.setCell ⟨gb975, 0, none⟩ (.int .i64 t968)).setCell ⟨gb975, 1, none⟩ (.slice Ao14 t969.length co14)).setCell ⟨gb975, 2, none⟩ (.slice Ao15 t972.length co15)) w.heap.size (fun k_ => some k_ ≠ (.slice Ao10 t963.length co10 : Value).ownBlock) (.slice Ao9 t962.length co9) t962) := ⟨by (with_reducible repeat (first | apply Kd.R_alloc | apply Kd.R_drewN | apply Kd.R_drew)); exact Kd.R_mono (Kd.R_far (p := ⟨gb975, 2, none⟩) (Kd.R_far (p := ⟨gb975, 1, none⟩) (Kd.R_far (p := ⟨gb975, 0, none⟩) (Kd.R_types HO965.out BK975.out (by decide)) (fun _ hk => hk.2) (.int .i64 t968)) (fun _ hk => hk.2) (.slice Ao14 t969.length co14)) (fun _ hk => hk.2) (.slice Ao15 t972.length co15)) (fun _ hk => hk.1)⟩
      have n1_ : Aside0 (Kd.R Kd.string 9 (((w12.setCell ⟨gb975, 0, none⟩ (.int .i64 t968)).setCell ⟨gb975, 1, none⟩ (.slice Ao14 t969.length co14)).setCell ⟨gb975, 2, none⟩ (.slice Ao15 t972.length co15)) w.heap.size (fun k_ => some k_ ≠ (.slice Ao9 t962.length co9 : Value).ownBlock) (.slice Ao10 t963.length co10) t963) := ⟨by (with_reducible repeat (first | apply Kd.R_alloc | apply Kd.R_drewN | apply Kd.R_drew)); exact Kd.R_mono (Kd.R_far (p := ⟨gb975, 2, none⟩) (Kd.R_far (p := ⟨gb975, 1, none⟩) (Kd.R_far (p := ⟨gb975, 0, none⟩) (Kd.R_types HO967.out BK975.out (by decide)) (fun _ hk => hk.2) (.int .i64 t968)) (fun _ hk => hk.2) (.slice Ao14 t969.length co14)) (fun _ hk => hk.2) (.slice Ao15 t972.length co15)) (fun _ hk => hk.1)⟩
      have n2_ : Aside0 (Kd.R (Kd.int .i64) 2 (((w12.setCell ⟨gb975, 0, none⟩ (.int .i64 t968)).setCell ⟨gb975, 1, none⟩ (.slice Ao14 t969.length co14)).setCell ⟨gb975, 2, none⟩ (.slice Ao15 t972.length co15)) w.heap.size (fun k_ => some k_ ≠ (.slice Ao15 t972.length co15 : Value).ownBlock) (.slice Ao14 t969.length co14) t969) := ⟨by (with_reducible repeat (first | apply Kd.R_alloc | apply Kd.R_drewN | apply Kd.R_drew)); exact Kd.R_mono (Kd.R_far (p := ⟨gb975, 2, none⟩) (Kd.R_far (p := ⟨gb975, 1, none⟩) (Kd.R_far (p := ⟨gb975, 0, none⟩) (Kd.R_types HO971.out BK975.out (by decide)) (fun _ hk => hk.2) (.int .i64 t968)) (fun _ hk => hk.2) (.slice Ao14 t969.length co14)) (fun _ hk => hk.2) (.slice Ao15 t972.length co15)) (fun _ hk => hk.1)⟩
      have n3_ : Aside0 (Kd.R (Kd.int .i64) 2 (((w12.setCell ⟨gb975, 0, none⟩ (.int .i64 t968)).setCell ⟨gb975, 1, none⟩ (.slice Ao14 t969.length co14)).setCell ⟨gb975, 2, none⟩ (.slice Ao15 t972.length co15)) w.heap.size (fun k_ => some k_ ≠ (.slice Ao14 t969.length co14 : Value).ownBlock) (.slice Ao15 t972.length co15) t972) := ⟨by (with_reducible repeat (first | apply Kd.R_alloc | apply Kd.R_drewN | apply Kd.R_drew)); exact Kd.R_mono (Kd.R_far (p := ⟨gb975, 2, none⟩) (Kd.R_far (p := ⟨gb975, 1, none⟩) (Kd.R_far (p := ⟨gb975, 0, none⟩) (Kd.R_types HO974.out BK975.out (by decide)) (fun _ hk => hk.2) (.int .i64 t968)) (fun _ hk => hk.2) (.slice Ao14 t969.length co14)) (fun _ hk => hk.2) (.slice Ao15 t972.length co15)) (fun _ hk => hk.1)⟩
      have n4_ : Aside0 ((((w12.setCell ⟨gb975, 0, none⟩ (.int .i64 t968)).setCell ⟨gb975, 1, none⟩ (.slice Ao14 t969.length co14)).setCell ⟨gb975, 2, none⟩ (.slice Ao15 t972.length co15)).heap[gb975]? = some (.cells #[.int .i64 t968, .slice Ao14 t969.length co14, .slice Ao15 t972.length co15] 44 (0, 0))) := ⟨by (with_reducible repeat (first | refine blk_drewN ?_ _ | refine blk_drew ?_ | refine blk_alloc ?_ _)); refine blk_put (cs := #[.int .i64 t968, .slice Ao14 t969.length co14, .slice none 0 0]) ?_ 2 _ rfl; (with_reducible repeat (first | refine blk_drewN ?_ _ | refine blk_drew ?_ | refine blk_alloc ?_ _)); refine blk_put (cs := #[.int .i64 t968, .slice none 0 0, .slice none 0 0]) ?_ 1 _ rfl; (with_reducible repeat (first | refine blk_drewN ?_ _ | refine blk_drew ?_ | refine blk_alloc ?_ _)); refine blk_put (cs := #[.int .i64 0, .slice none 0 0, .slice none 0 0]) ?_ 0 _ rfl; (with_reducible repeat (first | refine blk_drewN ?_ _ | refine blk_drew ?_ | refine blk_alloc ?_ _)); exact BK975.out⟩
      have n5_ : Aside0 (Below w.heap.size w (((w12.setCell ⟨gb975, 0, none⟩ (.int .i64 t968)).setCell ⟨gb975, 1, none⟩ (.slice Ao14 t969.length co14)).setCell ⟨gb975, 2, none⟩ (.slice Ao15 t972.length co15))) := ⟨by repeat (first | (with_reducible first | exact HB.out | apply below_alloc | apply pw_below_drewN | apply below_drew1 | refine below_set ?_ GE975.out) | exact HB.out)⟩
      (try clear HO965)
      (try clear HO967)
      (try clear HO971)
      (try clear HO974)
      (try clear BK975)
      (try clear HB)
      generalize (((w12.setCell ⟨gb975, 0, none⟩ (.int .i64 t968)).setCell ⟨gb975, 1, none⟩ (.slice Ao14 t969.length co14)).setCell ⟨gb975, 2, none⟩ (.slice Ao15 t972.length co15)) = w21 at n0_ n1_ n2_ n3_ n4_ n5_ ⊢
      have HO965 := n0_
      have HO967 := n1_
      have HO971 := n2_
      have HO974 := n3_
      have BK975 := n4_
      have HB := n5_
      clear n0_ n1_ n2_ n3_ n4_ n5_
      have n0_ := Aside0.mk (Kd.R_drew HO965.out)
      have n1_ := Aside0.mk (Kd.R_drew HO967.out)
      have n2_ := Aside0.mk (Kd.R_drew HO971.out)
      have n3_ := Aside0.mk (Kd.R_drew HO974.out)
      have n4_ := Aside0.mk (blk_drew BK975.out)
      have n5_ := Aside0.mk (below_drew1 HB.out)
      clear HO965
      clear HO967
      clear HO971
      clear HO974
      clear BK975
      clear HB
      have HO965 := n0_
      have HO967 := n1_
      have HO971 := n2_
      have HO974 := n3_
      have BK975 := n4_
      have HB := n5_
      clear n0_ n1_ n2_ n3_ n4_ n5_
      refine start_ (n := 26) (S := fun w' => w'.cell? ⟨gb975, 0, none⟩ = some (.int .i64 t968) ∧ w'.cell? ⟨gb975, 1, none⟩ = some (.slice Ao14 t969.length co14) ∧ w'.cell? ⟨gb975, 2, none⟩ = some (.slice Ao15 t972.length co15)) (ds := []) #[false, false, false, false, false, false, false, false, false, false, false, false, false, false, false, false, false, false, false, false, false, false, false, false, false, false] (by kernel_rfl) rfl rfl ⟨(blk_cell BK975.out 0).trans rfl, (blk_cell BK975.out 1).trans rfl, (blk_cell BK975.out 2).trans rfl⟩ (fun hHeld => ?_); refine with_tabW laws_FnMatches.tab7 laws_FnMatches.bits7 (fun HT_ HW_ => ?_)
      generalize w21.drew = w22 at HO965 HO967 HO971 HO974 BK975 HB hHeld ⊢
      refine pure_ (i := 0) (N := some 27) (v := ?_) (a' := ?_) #[true, false, false, false, false, false, false, false, false, false, false, false, false, false, false, false, false, false, false, false, false, false, false, false, false, false] rfl rfl (any_of HT_.out (by kernel_rfl)) (fun _ _ _ h => h) (Or.inl ⟨by rfl, ?_⟩) ?_ ?_
      rotate_left
      ·intro w'
       go_simp
       first | with_reducible rfl | (simp only [hfd32_0, hfd32_1, hfd44_0, hfd44_1, hfd44_2]; with_reducible rfl)
      rotate_left
      ·simp only [Act.put, List.setIfInBounds_toArray, List.set_cons_zero, List.set_cons_succ, i64_w, i32_w]
       rfl
      refine pure_ (i := 3) (N := some 30) (v := ?_) (a' := ?_) #[true, false, false, true, false, false, false, false, false, false, false, false, false, false, false, false, false, false, false, false, false, false, false, false, false, false] rfl rfl (any_of HT_.out (by kernel_rfl)) (fun _ _ _ h => h) (Or.inl ⟨by rfl, ?_⟩) ?_ ?_
      rotate_left
      ·intro w'
       go_simp
       first | with_reducible rfl | (simp only [hfd32_0, hfd32_1, hfd44_0, hfd44_1, hfd44_2]; with_reducible rfl)
      rotate_left
      ·simp only [Act.put, List.setIfInBounds_toArray, List.set_cons_zero, List.set_cons_succ, i64_w, i32_w]
       rfl
      refine take_ (i := 1) (N := some 28) (v := ?_) (a' := ?_) #[true, true, false, true, false, false, false, false, false, false, false, false, false, false, false, false, false, false, false, false, false, false, false, false, false, false] rfl rfl (take_ofW HT_.out HW_.out (by kernel_rfl)) (fun _ _ _ h => h) (Or.inl ⟨by rfl, ?_⟩) hHeld ?_ ?_
      rotate_left
      ·rintro w' ⟨s0, s1, s2⟩
       go_simp
       first | with_reducible rfl | (simp only [hfd32_0, hfd32_1, hfd44_0, hfd44_1, hfd44_2]; with_reducible rfl)
      rotate_left
      ·simp only [Act.put, List.setIfInBounds_toArray, List.set_cons_zero, List.set_cons_succ, i64_w, i32_w]
       rfl
      refine pure_ (i := 2) (N := some 29) (v := ?_) (a' := ?_) #[true, true, true, true, false, false, false, false, false, false, false, false, false, false, false, false, false, false, false, false, false, false, false, false, false, false] rfl rfl (any_of HT_.out (by kernel_rfl)) (fun _ _ _ h => h) (Or.inl ⟨by rfl, ?_⟩) ?_ ?_
      rotate_left
      ·intro w'
       go_simp
       first | with_reducible rfl | (simp only [hfd32_0, hfd32_1, hfd44_0, hfd44_1, hfd44_2]; with_reducible rfl)
      rotate_left
      ·simp only [Act.put, List.setIfInBounds_toArray, List.set_cons_zero, List.set_cons_succ, i64_w, i32_w]
       rfl
      refine take_ (i := 4) (N := some 31) (v := ?_) (a' := ?_) #[true, true, true, true, true, false, false, false, false, false, false, false, false, false, false, false, false, false, false, false, false, false, false, false, false, false] rfl rfl (take_ofW HT_.out HW_.out (by kernel_rfl)) (fun _ _ _ h => h) (Or.inl ⟨by rfl, ?_⟩) hHeld ?_ ?_
      rotate_left
      ·rintro w' ⟨s0, s1, s2⟩
       go_simp
       first | with_reducible rfl | (simp only [hfd32_0, hfd32_1, hfd44_0, hfd44_1, hfd44_2]; with_reducible rfl)
      rotate_left
      ·simp only [Act.put, List.setIfInBounds_toArray, List.set_cons_zero, List.set_cons_succ, i64_w, i32_w]
       rfl
      refine pure_ (i := 5) (N := some 32) (v := ?_) (a' := ?_) #[true, true, true, true, true, true, false, false, false, false, false, false, false, false, false, false, false, false, false, false, false, false, false, false, false, false] rfl rfl (any_of HT_.out (by kernel_rfl)) (fun _ _ _ h => h) (Or.inl ⟨by rfl, ?_⟩) ?_ ?_
      rotate_left
      ·intro w'
       go_simp
       first | with_reducible rfl | (simp only [hfd32_0, hfd32_1, hfd44_0, hfd44_1, hfd44_2]; with_reducible rfl)
      rotate_left
      ·simp only [Act.put, List.setIfInBounds_toArray, List.set_cons_zero, List.set_cons_succ, i64_w, i32_w]
       rfl
      refine pure_ (i := 6) (N := some 33) (v := ?_) (a' := ?_) #[true, true, true, true, true, true, true, false, false, false, false, false, false, false, false, false, false, false, false, false, false, false, false, false, false, false] rfl rfl (any_of HT_.out (by kernel_rfl)) (fun _ _ _ h => h) (Or.inl ⟨by rfl, ?_⟩) ?_ ?_
      rotate_left
      ·intro w'
       go_simp
       first | with_reducible rfl | (simp only [hfd32_0, hfd32_1, hfd44_0, hfd44_1, hfd44_2]; with_reducible rfl)
      rotate_left
      ·simp only [Act.put, List.setIfInBounds_toArray, List.set_cons_zero, List.set_cons_succ, i64_w, i32_w]
       rfl
      refine pure_ (i := 7) (N := some 34) (v := ?_) (a' := ?_) #[true, true, true, true, true, true, true, true, false, false, false, false, false, false, false, false, false, false, false, false, false, false, false, false, false, false] rfl rfl (any_of HT_.out (by kernel_rfl)) (fun _ _ _ h => h) (Or.inl ⟨by rfl, ?_⟩) ?_ ?_
      rotate_left
      ·intro w'
       go_simp
       first | with_reducible rfl | (simp only [hfd32_0, hfd32_1, hfd44_0, hfd44_1, hfd44_2]; with_reducible rfl)
      rotate_left
      ·simp only [Act.put, List.setIfInBounds_toArray, List.set_cons_zero, List.set_cons_succ, i64_w, i32_w]
       rfl
      refine pure_ (i := 8) (N := some 35) (v := ?_) (a' := ?_) #[true, true, true, true, true, true, true, true, true, false, false, false, false, false, false, false, false, false, false, false, false, false, false, false, false, false] rfl rfl (any_of HT_.out (by kernel_rfl)) (fun _ _ _ h => h) (Or.inl ⟨by rfl, ?_⟩) ?_ ?_
      rotate_left
      ·intro w'
       go_simp
       first | with_reducible rfl | (simp only [hfd32_0, hfd32_1, hfd44_0, hfd44_1, hfd44_2]; with_reducible rfl)
      rotate_left
      ·simp only [Act.put, List.setIfInBounds_toArray, List.set_cons_zero, List.set_cons_succ, i64_w, i32_w]
       rfl
      refine pure_ (i := 11) (N := some 38) (v := ?_) (a' := ?_) #[true, true, true, true, true, true, true, true, true, false, false, true, false, false, false, false, false, false, false, false, false, false, false, false, false, false] rfl rfl (any_of HT_.out (by kernel_rfl)) (fun _ _ _ h => h) (Or.inl ⟨by rfl, ?_⟩) ?_ ?_
      rotate_left
      ·intro w'
       go_simp
       first | with_reducible rfl | (simp only [hfd32_0, hfd32_1, hfd44_0, hfd44_1, hfd44_2]; with_reducible rfl)
      rotate_left
      ·simp only [Act.put, List.setIfInBounds_toArray, List.set_cons_zero, List.set_cons_succ, i64_w, i32_w]
       rfl
      refine pure_ (i := 12) (N := some 39) (v := ?_) (a' := ?_) #[true, true, true, true, true, true, true, true, true, false, false, true, true, false, false, false, false, false, false, false, false, false, false, false, false, false] rfl rfl (any_of HT_.out (by kernel_rfl)) (fun _ _ _ h => h) (Or.inl ⟨by rfl, ?_⟩) ?_ ?_
      rotate_left
      ·intro w'
       go_simp
       first | with_reducible rfl | (simp only [hfd32_0, hfd32_1, hfd44_0, hfd44_1, hfd44_2]; with_reducible rfl)
      rotate_left
      ·simp only [Act.put, List.setIfInBounds_toArray, List.set_cons_zero, List.set_cons_succ, i64_w, i32_w]
       rfl
      refine take_ (i := 9) (N := some 36) (v := ?_) (a' := ?_) #[true, true, true, true, true, true, true, true, true, true, false, true, true, false, false, false, false, false, false, false, false, false, false, false, false, false] rfl rfl (take_ofW HT_.out HW_.out (by kernel_rfl)) (fun _ _ _ h => h) (Or.inl ⟨by rfl, ?_⟩) hHeld ?_ ?_
      rotate_left
      ·rintro w' ⟨s0, s1, s2⟩
       go_simp
       first | with_reducible rfl | (simp only [hfd32_0, hfd32_1, hfd44_0, hfd44_1, hfd44_2]; with_reducible rfl)
      rotate_left
      ·simp only [Act.put, List.setIfInBounds_toArray, List.set_cons_zero, List.set_cons_succ, i64_w, i32_w]
       rfl
      refine pure_ (i := 10) (N := some 37) (v := ?_) (a' := ?_) #[true, true, true, true, true, true, true, true, true, true, true, true, true, false, false, false, false, false, false, false, false, false, false, false, false, false] rfl rfl (any_of HT_.out (by kernel_rfl)) (fun _ _ _ h => h) (Or.inl ⟨by rfl, ?_⟩) ?_ ?_
      rotate_left
      ·intro w'
       go_simp
       first | with_reducible rfl | (simp only [hfd32_0, hfd32_1, hfd44_0, hfd44_1, hfd44_2]; with_reducible rfl)
      rotate_left
      ·simp only [Act.put, List.setIfInBounds_toArray, List.set_cons_zero, List.set_cons_succ, i64_w, i32_w]
       rfl
      refine one_ (i := 13) (N := some 40) #[true, true, true, true, true, true, true, true, true, true, true, true, true, true, false, false, false, false, false, false, false, false, false, false, false, false] rfl rfl (one_of HT_.out (by kernel_rfl)) (by decide) (fun K hK => ?_)
      refine goes_ Try.func20 (by kernel_rfl) rfl #[.slice Ao9 t962.length co9, .slice Ao10 t963.length co10] (by rfl) rfl rfl (by (try simp only [List.map_toArray, List.map_cons, List.map_nil]); first | done | rfl | (simp only [List.length_drop, List.length_take]; rfl)) ?_
      with_reducible refine (impl_CommonOf.calls k _ _ t962 _ _ t963 t983 t984 _ ?side1 ?side2 ?side3 ?side4 A17.out).mono ?_
      (case side1 => repeat (first | exact (Kd.R_reads' HO965.out).2.2 | (with_reducible refine Kd.C_alloc ?_ _) | (with_reducible refine Kd.C_drewN ?_ _) | (with_reducible refine Kd.C_drew ?_)))
      (case side2 => exact (Kd.R_reads' HO965.out).2.1)
      (case side3 => repeat (first | exact (Kd.R_reads' HO967.out).2.2 | (with_reducible refine Kd.C_alloc ?_ _) | (with_reducible refine Kd.C_drewN ?_ _) | (with_reducible refine Kd.C_drew ?_)))
      (case side4 => exact (Kd.R_reads' HO967.out).2.1)
      rintro e w23 ⟨rfl, hb⟩
      refine ⟨_, rfl, ?_⟩
      have n0_ := Aside0.mk (Kd.R_below (by (with_reducible repeat (first | apply Kd.R_alloc | apply Kd.R_drewN | apply Kd.R_drew)); exact HO965.out) hb)
      have n1_ := Aside0.mk (Kd.R_below (by (with_reducible repeat (first | apply Kd.R_alloc | apply Kd.R_drewN | apply Kd.R_drew)); exact HO967.out) hb)
      have n2_ := Aside0.mk (Kd.R_below (by (with_reducible repeat (first | apply Kd.R_alloc | apply Kd.R_drewN | apply Kd.R_drew)); exact HO971.out) hb)
      have n3_ := Aside0.mk (Kd.R_below (by (with_reducible repeat (first | apply Kd.R_alloc | apply Kd.R_drewN | apply Kd.R_drew)); exact HO974.out) hb)
      have n4_ := Aside0.mk (blk_below (g := gb975) (o := .cells #[.int .i64 t968, .slice Ao14 t969.length co14, .slice Ao15 t972.length co15] 44 (0, 0)) (by (with_reducible repeat (first | refine blk_drewN ?_ _ | refine blk_drew ?_ | refine blk_alloc ?_ _)); exact BK975.out) hb)
      have n5_ := Aside0.mk (below_step (by repeat (first | (with_reducible first | exact HB.out | apply below_alloc | apply pw_below_drewN | apply below_drew1 | refine below_set ?_ GE975.out) | exact HB.out)) hb)
      clear HO965
      clear HO967
      clear HO971
      clear HO974
      clear BK975
      clear HB
      have HO965 := n0_
      have HO967 := n1_
      have HO971 := n2_
      have HO974 := n3_
      have BK975 := n4_
      have HB := n5_
      clear n0_ n1_ n2_ n3_ n4_ n5_
      (try clear hb)
      (try clear hb2)
      (try clear hk)
      (try clear hi)
      refine hK.out _ _ ⟨(blk_cell BK975.out 0).trans rfl, (blk_cell BK975.out 1).trans rfl, (blk_cell BK975.out 2).trans rfl⟩ (fun hHeld => ?_)
      clear hK K
      refine norm_ (a' := ?_) ?_ ?_
      rotate_left
      ·show Act.put _ (some 40) _ = _
       simp only [Act.put, List.setIfInBounds_toArray, List.set_cons_zero, List.set_cons_succ, i64_w, i32_w]
       rfl
      refine pure_ (i := 14) (N := some 41) (v := ?_) (a' := ?_) #[true, true, true, true, true, true, true, true, true, true, true, true, true, true, true, false, false, false, false, false, false, false, false, false, false, false] rfl rfl (any_of HT_.out (by kernel_rfl)) (fun _ _ _ h => h) (Or.inl ⟨by rfl, ?_⟩) ?_ ?_
      rotate_left
      ·intro w'
       go_simp
       first | with_reducible rfl | (simp only [hfd32_0, hfd32_1, hfd44_0, hfd44_1, hfd44_2]; with_reducible rfl)
      rotate_left
      ·simp only [Act.put, List.setIfInBounds_toArray, List.set_cons_zero, List.set_cons_succ, i64_w, i32_w]
       rfl
      refine pure_ (i := 15) (N := some 42) (v := ?_) (a' := ?_) #[true, true, true, true, true, true, true, true, true, true, true, true, true, true, true, true, false, false, false, false, false, false, false, false, false, false] rfl rfl (any_of HT_.out (by kernel_rfl)) (fun _ _ _ h => h) (Or.inl ⟨by rfl, ?_⟩) ?_ ?_
      rotate_left
      ·intro w'
       go_simp
       first | with_reducible rfl | (simp only [hfd32_0, hfd32_1, hfd44_0, hfd44_1, hfd44_2]; with_reducible rfl)
      rotate_left
      ·simp only [Act.put, List.setIfInBounds_toArray, List.set_cons_zero, List.set_cons_succ, i64_w, i32_w]
       rfl
      refine pure_ (i := 16) (N := some 43) (v := ?_) (a' := ?_) #[true, true, true, true, true, true, true, true, true, true, true, true, true, true, true, true, true, false, false, false, false, false, false, false, false, false] rfl rfl (any_of HT_.out (by kernel_rfl)) (fun _ _ _ h => h) (Or.inl ⟨by rfl, ?_⟩) ?_ ?_
      rotate_left
      ·intro w'
       go_simp
       first | with_reducible rfl | (simp only [hfd32_0, hfd32_1, hfd44_0, hfd44_1, hfd44_2]; with_reducible rfl)
      rotate_left
      ·simp only [Act.put, List.setIfInBounds_toArray, List.set_cons_zero, List.set_cons_succ, i64_w, i32_w]
       rfl
      refine pure_ (i := 17) (N := some 44) (v := ?_) (a' := ?_) #[true, true, true, true, true, true, true, true, true, true, true, true, true, true, true, true, true, true, false, false, false, false, false, false, false, false] rfl rfl (any_of HT_.out (by kernel_rfl)) (fun _ _ _ h => h) (Or.inl ⟨by rfl, ?_⟩) ?_ ?_
      rotate_left
      ·intro w'
       go_simp
       first | with_reducible rfl | (simp only [hfd32_0, hfd32_1, hfd44_0, hfd44_1, hfd44_2]; with_reducible rfl)
      rotate_left
      ·simp only [Act.put, List.setIfInBounds_toArray, List.set_cons_zero, List.set_cons_succ, i64_w, i32_w]
       rfl
      refine pure_ (i := 18) (N := some 45) (v := ?_) (a' := ?_) #[true, true, true, true, true, true, true, true, true, true, true, true, true, true, true, true, true, true, true, false, false, false, false, false, false, false] rfl rfl (any_of HT_.out (by kernel_rfl)) (fun _ _ _ h => h) (Or.inl ⟨by rfl, ?_⟩) ?_ ?_
      rotate_left
      ·intro w'
       go_simp
       first | with_reducible rfl | (simp only [hfd32_0, hfd32_1, hfd44_0, hfd44_1, hfd44_2]; with_reducible rfl)
      rotate_left
      ·simp only [Act.put, List.setIfInBounds_toArray, List.set_cons_zero, List.set_cons_succ, i64_w, i32_w]
       rfl
      refine pure_ (i := 19) (N := some 46) (v := ?_) (a' := ?_) #[true, true, true, true, true, true, true, true, true, true, true, true, true, true, true, true, true, true, true, true, false, false, false, false, false, false] rfl rfl (any_of HT_.out (by kernel_rfl)) (fun _ _ _ h => h) (Or.inl ⟨by rfl, ?_⟩) ?_ ?_
      rotate_left
      ·intro w'
       go_simp
       first | with_reducible rfl | (simp only [hfd32_0, hfd32_1, hfd44_0, hfd44_1, hfd44_2]; with_reducible rfl)
      rotate_left
      ·simp only [Act.put, List.setIfInBounds_toArray, List.set_cons_zero, List.set_cons_succ, i64_w, i32_w]
       rfl
      refine pure_ (i := 21) (N := some 48) (v := ?_) (a' := ?_) #[true, true, true, true, true, true, true, true, true, true, true, true, true, true, true, true, true, true, true, true, false, true, false, false, false, false] rfl rfl (any_of HT_.out (by kernel_rfl)) (fun _ _ _ h => h) (Or.inl ⟨by rfl, ?_⟩) ?_ ?_
      rotate_left
      ·intro w'
       go_simp
       first | with_reducible rfl | (simp only [hfd32_0, hfd32_1, hfd44_0, hfd44_1, hfd44_2]; with_reducible rfl)
      rotate_left
      ·simp only [Act.put, List.setIfInBounds_toArray, List.set_cons_zero, List.set_cons_succ, i64_w, i32_w]
       rfl
      refine pure_ (i := 22) (N := some 49) (v := ?_) (a' := ?_) #[true, true, true, true, true, true, true, true, true, true, true, true, true, true, true, true, true, true, true, true, false, true, true, false, false, false] rfl rfl (any_of HT_.out (by kernel_rfl)) (fun _ _ _ h => h) (Or.inl ⟨by rfl, ?_⟩) ?_ ?_
      rotate_left
      ·intro w'
       go_simp
       first | with_reducible rfl | (simp only [hfd32_0, hfd32_1, hfd44_0, hfd44_1, hfd44_2]; with_reducible rfl)
      rotate_left
      ·simp only [Act.put, List.setIfInBounds_toArray, List.set_cons_zero, List.set_cons_succ, i64_w, i32_w]
       rfl
      refine one_ (i := 20) (N := some 47) #[true, true, true, true, true, true, true, true, true, true, true, true, true, true, true, true, true, true, true, true, true, true, true, false, false, false] rfl rfl (one_of HT_.out (by kernel_rfl)) (by decide) (fun K hK => ?_)
      refine goes_ Try.func20 (by kernel_rfl) rfl #[.slice Ao9 t962.length co9, .slice Ao10 t963.length co10] (by rfl) rfl rfl (by (try simp only [List.map_toArray, List.map_cons, List.map_nil]); first | done | rfl | (simp only [List.length_drop, List.length_take]; rfl)) ?_
      with_reducible refine (impl_CommonOf.calls k _ _ t962 _ _ t963 t985 t986 _ ?side1 ?side2 ?side3 ?side4 A19.out).mono ?_
      (case side1 => repeat (first | exact (Kd.R_reads' HO965.out).2.2 | (with_reducible refine Kd.C_alloc ?_ _) | (with_reducible refine Kd.C_drewN ?_ _) | (with_reducible refine Kd.C_drew ?_)))
      (case side2 => exact (Kd.R_reads' HO965.out).2.1)
      (case side3 => repeat (first | exact (Kd.R_reads' HO967.out).2.2 | (with_reducible refine Kd.C_alloc ?_ _) | (with_reducible refine Kd.C_drewN ?_ _) | (with_reducible refine Kd.C_drew ?_)))
      (case side4 => exact (Kd.R_reads' HO967.out).2.1)
      rintro e w24 ⟨rfl, hb⟩
      refine ⟨_, rfl, ?_⟩
      have n0_ := Aside0.mk (Kd.R_below (by (with_reducible repeat (first | apply Kd.R_alloc | apply Kd.R_drewN | apply Kd.R_drew)); exact HO965.out) hb)
      have n1_ := Aside0.mk (Kd.R_below (by (with_reducible repeat (first | apply Kd.R_alloc | apply Kd.R_drewN | apply Kd.R_drew)); exact HO967.out) hb)
      have n2_ := Aside0.mk (Kd.R_below (by (with_reducible repeat (first | apply Kd.R_alloc | apply Kd.R_drewN | apply Kd.R_drew)); exact HO971.out) hb)
      have n3_ := Aside0.mk (Kd.R_below (by (with_reducible repeat (first | apply Kd.R_alloc | apply Kd.R_drewN | apply Kd.R_drew)); exact HO974.out) hb)
      have n4_ := Aside0.mk (blk_below (g := gb975) (o := .cells #[.int .i64 t968, .slice Ao14 t969.length co14, .slice Ao15 t972.length co15] 44 (0, 0)) (by (with_reducible repeat (first | refine blk_drewN ?_ _ | refine blk_drew ?_ | refine blk_alloc ?_ _)); exact BK975.out) hb)
      have n5_ := Aside0.mk (below_step (by repeat (first | (with_reducible first | exact HB.out | apply below_alloc | apply pw_below_drewN | apply below_drew1 | refine below_set ?_ GE975.out) | exact HB.out)) hb)
      clear HO965
      clear HO967
      clear HO971
      clear HO974
      clear BK975
      clear HB
      have HO965 := n0_
      have HO967 := n1_
      have HO971 := n2_
      have HO974 := n3_
      have BK975 := n4_
      have HB := n5_
      clear n0_ n1_ n2_ n3_ n4_ n5_
      (try clear hb)
      (try clear hb2)
      (try clear hk)
      (try clear hi)
      refine hK.out _ _ ⟨(blk_cell BK975.out 0).trans rfl, (blk_cell BK975.out 1).trans rfl, (blk_cell BK975.out 2).trans rfl⟩ (fun hHeld => ?_)
      clear hK K
      refine norm_ (a' := ?_) ?_ ?_
      rotate_left
      ·show Act.put _ (some 47) _ = _
       simp only [Act.put, List.setIfInBounds_toArray, List.set_cons_zero, List.set_cons_succ, i64_w, i32_w]
       rfl
      refine one_ (i := 23) (N := some 50) #[true, true, true, true, true, true, true, true, true, true, true, true, true, true, true, true, true, true, true, true, true, true, true, true, false, false] rfl rfl (one_of HT_.out (by kernel_rfl)) (by decide) (fun K hK => ?_)
      refine goes_ Try.func20 (by kernel_rfl) rfl #[.slice Ao10 t963.length co10, .slice Ao9 t962.length co9] (by rfl) rfl rfl (by (try simp only [List.map_toArray, List.map_cons, List.map_nil]); first | done | rfl | (simp only [List.length_drop, List.length_take]; rfl)) ?_
      with_reducible refine (impl_CommonOf.calls k _ _ t963 _ _ t962 t987 t988 _ ?side1 ?side2 ?side3 ?side4 A20.out).mono ?_
      (case side1 => repeat (first | exact (Kd.R_reads' HO967.out).2.2 | (with_reducible refine Kd.C_alloc ?_ _) | (with_reducible refine Kd.C_drewN ?_ _) | (with_reducible refine Kd.C_drew ?_)))
      (case side2 => exact (Kd.R_reads' HO967.out).2.1)
      (case side3 => repeat (first | exact (Kd.R_reads' HO965.out).2.2 | (with_reducible refine Kd.C_alloc ?_ _) | (with_reducible refine Kd.C_drewN ?_ _) | (with_reducible refine Kd.C_drew ?_)))
      (case side4 => exact (Kd.R_reads' HO965.out).2.1)
      rintro e w25 ⟨rfl, hb⟩
      refine ⟨_, rfl, ?_⟩
      have n0_ := Aside0.mk (Kd.R_below (by (with_reducible repeat (first | apply Kd.R_alloc | apply Kd.R_drewN | apply Kd.R_drew)); exact HO965.out) hb)
      have n1_ := Aside0.mk (Kd.R_below (by (with_reducible repeat (first | apply Kd.R_alloc | apply Kd.R_drewN | apply Kd.R_drew)); exact HO967.out) hb)
      have n2_ := Aside0.mk (Kd.R_below (by (with_reducible repeat (first | apply Kd.R_alloc | apply Kd.R_drewN | apply Kd.R_drew)); exact HO971.out) hb)
      have n3_ := Aside0.mk (Kd.R_below (by (with_reducible repeat (first | apply Kd.R_alloc | apply Kd.R_drewN | apply Kd.R_drew)); exact HO974.out) hb)
      have n4_ := Aside0.mk (blk_below (g := gb975) (o := .cells #[.int .i64 t968, .slice Ao14 t969.length co14, .slice Ao15 t972.length co15] 44 (0, 0)) (by (with_reducible repeat (first | refine blk_drewN ?_ _ | refine blk_drew ?_ | refine blk_alloc ?_ _)); exact BK975.out) hb)
      have n5_ := Aside0.mk (below_step (by repeat (first | (with_reducible first | exact HB.out | apply below_alloc | apply pw_below_drewN | apply below_drew1 | refine below_set ?_ GE975.out) | exact HB.out)) hb)
      clear HO965
      clear HO967
      clear HO971
      clear HO974
      clear BK975
      clear HB
      have HO965 := n0_
      have HO967 := n1_
      have HO971 := n2_
      have HO974 := n3_
      have BK975 := n4_
      have HB := n5_
      clear n0_ n1_ n2_ n3_ n4_ n5_
      (try clear hb)
      (try clear hb2)
      (try clear hk)
      (try clear hi)
      refine hK.out _ _ ⟨(blk_cell BK975.out 0).trans rfl, (blk_cell BK975.out 1).trans rfl, (blk_cell BK975.out 2).trans rfl⟩ (fun hHeld => ?_)
      clear hK K
      refine norm_ (a' := ?_) ?_ ?_
      rotate_left
      ·show Act.put _ (some 50) _ = _
       simp only [Act.put, List.setIfInBounds_toArray, List.set_cons_zero, List.set_cons_succ, i64_w, i32_w]
       rfl
      refine pure_ (i := 24) (N := some 51) (v := ?_) (a' := ?_) #[true, true, true, true, true, true, true, true, true, true, true, true, true, true, true, true, true, true, true, true, true, true, true, true, true, false] rfl rfl (any_of HT_.out (by kernel_rfl)) (fun _ _ _ h => h) (Or.inl ⟨by rfl, ?_⟩) ?_ ?_
      rotate_left
      ·intro w'
       go_simp
       first | with_reducible rfl | (simp only [hfd32_0, hfd32_1, hfd44_0, hfd44_1, hfd44_2]; with_reducible rfl)
      rotate_left
      ·simp only [Act.put, List.setIfInBounds_toArray, List.set_cons_zero, List.set_cons_succ, i64_w, i32_w]
       rfl
      refine pure_ (i := 25) (N := some 52) (v := ?_) (a' := ?_) #[true, true, true, true, true, true, true, true, true, true, true, true, true, true, true, true, true, true, true, true, true, true, true, true, true, true] rfl rfl (any_of HT_.out (by kernel_rfl)) (fun _ _ _ h => h) (Or.inl ⟨by rfl, ?_⟩) ?_ ?_
      rotate_left
      ·intro w'
       go_simp
       first | with_reducible rfl | (simp only [hfd32_0, hfd32_1, hfd44_0, hfd44_1, hfd44_2]; with_reducible rfl)
      rotate_left
      ·simp only [Act.put, List.setIfInBounds_toArray, List.set_cons_zero, List.set_cons_succ, i64_w, i32_w]
       rfl
      refine done_ (done_of HT_.out (by kernel_rfl)) ?_
      try go_wp2
      go_meet
      case rel => exact ⟨_, ((!(t985 == t987) || (!(t986 == t988)))), (by first | rfl | (simp; done) | (simp [*]; done)), H', ⟨by first | omega | exact Nat.le_refl _⟩, ⟨by (with_reducible repeat (first | apply Kd.R_alloc | apply Kd.R_drewN | apply Kd.R_drew)); exact HO965.out⟩, ⟨by (with_reducible repeat (first | apply Kd.R_alloc | apply Kd.R_drewN | apply Kd.R_drew)); exact HO967.out⟩, ⟨by (with_reducible repeat (first | apply Kd.R_alloc | apply Kd.R_drewN | apply Kd.R_drew)); exact HO971.out⟩, ⟨by (with_reducible repeat (first | apply Kd.R_alloc | apply Kd.R_drewN | apply Kd.R_drew)); exact HO974.out⟩, ⟨by (with_reducible repeat (first | refine blk_drewN ?_ _ | refine blk_drew ?_ | refine blk_alloc ?_ _)); exact BK975.out⟩, ⟨by repeat (first | (with_reducible first | exact HB.out | apply below_alloc | apply pw_below_drewN | apply below_drew1 | refine below_set ?_ GE975.out) | exact HB.out)⟩⟩
     ·rw [if_neg c18] at H
      have c18b0 : ((t969.length : Int) == t984) = false := beq_eq_false_iff_ne.mpr c18
      have c18b1 : ((t969.length : Int) != t984) = true := bne_iff_ne.mpr c18
      have H' := Aside0.mk H
      clear H
      try go_wp2
      have n0_ : Aside0 (Kd.R Kd.string 9 (((w12.setCell ⟨gb975, 0, none⟩ (.int .i64 t968)).setCell ⟨gb975, 1, none⟩ (.slice Ao14 t969.length co14)).setCell ⟨gb975, 2, none⟩ (.slice Ao15 t972.length co15)) w.heap.size (fun k_ => some k_ ≠ (.slice Ao10 t963.length co10 : Value).ownBlock) (.slice Ao9 t962.length co9) t962) := ⟨by (with_reducible repeat (first | apply Kd.R_alloc | apply Kd.R_drewN | apply Kd.R_drew)); exact Kd.R_mono (Kd.R_far (p := ⟨gb975, 2, none⟩) (Kd.R_far (p := ⟨gb975, 1, none⟩) (Kd.R_far (p := ⟨gb975, 0, none⟩) (Kd.R_types HO965.out BK975.out (by decide)) (fun _ hk => hk.2) (.int .i64 t968)) (fun _ hk => hk.2) (.slice Ao14 t969.length co14)) (fun _ hk => hk.2) (.slice Ao15 t972.length co15)) (fun _ hk => hk.1)⟩
      have n1_ : Aside0 (Kd.R Kd.string 9 (((w12.setCell ⟨gb975, 0, none⟩ (.int .i64 t968)).setCell ⟨gb975, 1, none⟩ (.slice Ao14 t969.length co14)).setCell ⟨gb975, 2, none⟩ (.slice Ao15 t972.length co15)) w.heap.size (fun k_ => some k_ ≠ (.slice Ao9 t962.length co9 : Value).ownBlock) (.slice Ao10 t963.length co10) t963) := ⟨by (with_reducible repeat (first | apply Kd.R_alloc | apply Kd.R_drewN | apply Kd.R_drew)); exact Kd.R_mono (Kd.R_far (p := ⟨gb975, 2, none⟩) (Kd.R_far (p := ⟨gb975, 1, none⟩) (Kd.R_far (p := ⟨gb975, 0, none⟩) (Kd.R_types HO967.out BK975.out (by decide)) (fun _ hk => hk.2) (.int .i64 t968)) (fun _ hk => hk.2) (.slice Ao14 t969.length co14)) (fun _ hk => hk.2) (.slice Ao15 t972.length co15)) (fun _ hk => hk.1)⟩
      have n2_ : Aside0 (Kd.R (Kd.int .i64) 2 (((w12.setCell ⟨gb975, 0, none⟩ (.int .i64 t968)).setCell ⟨gb975, 1, none⟩ (.slice Ao14 t969.length co14)).setCell ⟨gb975, 2, none⟩ (.slice Ao15 t972.length co15)) w.heap.size (fun k_ => some k_ ≠ (.slice Ao15 t972.length co15 : Value).ownBlock) (.slice Ao14 t969.length co14) t969) := ⟨by (with_reducible repeat (first | apply Kd.R_alloc | apply Kd.R_drewN | apply Kd.R_drew)); exact Kd.R_mono (Kd.R_far (p := ⟨gb975, 2, none⟩) (Kd.R_far (p := ⟨gb975, 1, none⟩) (Kd.R_far (p := ⟨gb975, 0, none⟩) (Kd.R_types HO971.out BK975.out (by decide)) (fun _ hk => hk.2) (.int .i64 t968)) (fun _ hk => hk.2) (.slice Ao14 t969.length co14)) (fun _ hk => hk.2) (.slice Ao15 t972.length co15)) (fun _ hk => hk.1)⟩
      have n3_ : Aside0 (Kd.R (Kd.int .i64) 2 (((w12.setCell ⟨gb975, 0, none⟩ (.int .i64 t968)).setCell ⟨gb975, 1, none⟩ (.slice Ao14 t969.length co14)).setCell ⟨gb975, 2, none⟩ (.slice Ao15 t972.length co15)) w.heap.size (fun k_ => some k_ ≠ (.slice Ao14 t969.length co14 : Value).ownBlock) (.slice Ao15 t972.length co15) t972) := ⟨by (with_reducible repeat (first | apply Kd.R_alloc | apply Kd.R_drewN | apply Kd.R_drew)); exact Kd.R_mono (Kd.R_far (p := ⟨gb975, 2, none⟩) (Kd.R_far (p := ⟨gb975, 1, none⟩) (Kd.R_far (p := ⟨gb975, 0, none⟩) (Kd.R_types HO974.out BK975.out (by decide)) (fun _ hk => hk.2) (.int .i64 t968)) (fun _ hk => hk.2) (.slice Ao14 t969.length co14)) (fun _ hk => hk.2) (.slice Ao15 t972.length co15)) (fun _ hk => hk.1)⟩
      have n4_ : Aside0 ((((w12.setCell ⟨gb975, 0, none⟩ (.int .i64 t968)).setCell ⟨gb975, 1, none⟩ (.slice Ao14 t969.length co14)).setCell ⟨gb975, 2, none⟩ (.slice Ao15 t972.length co15)).heap[gb975]? = some (.cells #[.int .i64 t968, .slice Ao14 t969.length co14, .slice Ao15 t972.length co15] 44 (0, 0))) := ⟨by (with_reducible repeat (first | refine blk_drewN ?_ _ | refine blk_drew ?_ | refine blk_alloc ?_ _)); refine blk_put (cs := #[.int .i64 t968, .slice Ao14 t969.length co14, .slice none 0 0]) ?_ 2 _ rfl; (with_reducible repeat (first | refine blk_drewN ?_ _ | refine blk_drew ?_ | refine blk_alloc ?_ _)); refine blk_put (cs := #[.int .i64 t968, .slice none 0 0, .slice none 0 0]) ?_ 1 _ rfl; (with_reducible repeat (first | refine blk_drewN ?_ _ | refine blk_drew ?_ | refine blk_alloc ?_ _)); refine blk_put (cs := #[.int .i64 0, .slice none 0 0, .slice none 0 0]) ?_ 0 _ rfl; (with_reducible repeat (first | refine blk_drewN ?_ _ | refine blk_drew ?_ | refine blk_alloc ?_ _)); exact BK975.out⟩
      have n5_ : Aside0 (Below w.heap.size w (((w12.setCell ⟨gb975, 0, none⟩ (.int .i64 t968)).setCell ⟨gb975, 1, none⟩ (.slice Ao14 t969.length co14)).setCell ⟨gb975, 2, none⟩ (.slice Ao15 t972.length co15))) := ⟨by repeat (first | (with_reducible first | exact HB.out | apply below_alloc | apply pw_below_drewN | apply below_drew1 | refine below_set ?_ GE975.out) | exact HB.out)⟩
      (try clear HO965)
      (try clear HO967)
      (try clear HO971)
      (try clear HO974)
      (try clear BK975)
      (try clear HB)
      generalize (((w12.setCell ⟨gb975, 0, none⟩ (.int .i64 t968)).setCell ⟨gb975, 1, none⟩ (.slice Ao14 t969.length co14)).setCell ⟨gb975, 2, none⟩ (.slice Ao15 t972.length co15)) = w26 at n0_ n1_ n2_ n3_ n4_ n5_ ⊢
      have HO965 := n0_
      have HO967 := n1_
      have HO971 := n2_
      have HO974 := n3_
      have BK975 := n4_
      have HB := n5_
      clear n0_ n1_ n2_ n3_ n4_ n5_
      have n0_ := Aside0.mk (Kd.R_drew HO965.out)
      have n1_ := Aside0.mk (Kd.R_drew HO967.out)
      have n2_ := Aside0.mk (Kd.R_drew HO971.out)
      have n3_ := Aside0.mk (Kd.R_drew HO974.out)
      have n4_ := Aside0.mk (blk_drew BK975.out)
      have n5_ := Aside0.mk (below_drew1 HB.out)
      clear HO965
      clear HO967
      clear HO971
      clear HO974
      clear BK975
      clear HB
      have HO965 := n0_
      have HO967 := n1_
      have HO971 := n2_
      have HO974 := n3_
      have BK975 := n4_
      have HB := n5_
      clear n0_ n1_ n2_ n3_ n4_ n5_
      refine start_ (n := 26) (S := fun w' => w'.cell? ⟨gb975, 0, none⟩ = some (.int .i64 t968) ∧ w'.cell? ⟨gb975, 1, none⟩ = some (.slice Ao14 t969.length co14) ∧ w'.cell? ⟨gb975, 2, none⟩ = some (.slice Ao15 t972.length co15)) (ds := []) #[false, false, false, false, false, false, false, false, false, false, false, false, false, false, false, false, false, false, false, false, false, false, false, false, false, false] (by kernel_rfl) rfl rfl ⟨(blk_cell BK975.out 0).trans rfl, (blk_cell BK975.out 1).trans rfl, (blk_cell BK975.out 2).trans rfl⟩ (fun hHeld => ?_); refine with_tabW laws_FnMatches.tab7 laws_FnMatches.bits7 (fun HT_ HW_ => ?_)
      generalize w26.drew = w27 at HO965 HO967 HO971 HO974 BK975 HB hHeld ⊢
      refine pure_ (i := 0) (N := some 27) (v := ?_) (a' := ?_) #[true, false, false, false, false, false, false, false, false, false, false, false, false, false, false, false, false, false, false, false, false, false, false, false, false, false] rfl rfl (any_of HT_.out (by kernel_rfl)) (fun _ _ _ h => h) (Or.inl ⟨by rfl, ?_⟩) ?_ ?_
      rotate_left
      ·intro w'
       go_simp
       first | with_reducible rfl | (simp only [hfd32_0, hfd32_1, hfd44_0, hfd44_1, hfd44_2]; with_reducible rfl)
      rotate_left
      ·simp only [Act.put, List.setIfInBounds_toArray, List.set_cons_zero, List.set_cons_succ, i64_w, i32_w]
       rfl
      refine pure_ (i := 3) (N := some 30) (v := ?_) (a' := ?_) #[true, false, false, true, false, false, false, false, false, false, false, false, false, false, false, false, false, false, false, false, false, false, false, false, false, false] rfl rfl (any_of HT_.out (by kernel_rfl)) (fun _ _ _ h => h) (Or.inl ⟨by rfl, ?_⟩) ?_ ?_
      rotate_left
      ·intro w'
       go_simp
       first | with_reducible rfl | (simp only [hfd32_0, hfd32_1, hfd44_0, hfd44_1, hfd44_2]; with_reducible rfl)
      rotate_left
      ·simp only [Act.put, List.setIfInBounds_toArray, List.set_cons_zero, List.set_cons_succ, i64_w, i32_w]
       rfl
      refine take_ (i := 1) (N := some 28) (v := ?_) (a' := ?_) #[true, true, false, true, false, false, false, false, false, false, false, false, false, false, false, false, false, false, false, false, false, false, false, false, false, false] rfl rfl (take_ofW HT_.out HW_.out (by kernel_rfl)) (fun _ _ _ h => h) (Or.inl ⟨by rfl, ?_⟩) hHeld ?_ ?_
      rotate_left
      ·rintro w' ⟨s0, s1, s2⟩
       go_simp
       first | with_reducible rfl | (simp only [hfd32_0, hfd32_1, hfd44_0, hfd44_1, hfd44_2]; with_reducible rfl)
      rotate_left
      ·simp only [Act.put, List.setIfInBounds_toArray, List.set_cons_zero, List.set_cons_succ, i64_w, i32_w]
       rfl
      refine pure_ (i := 2) (N := some 29) (v := ?_) (a' := ?_) #[true, true, true, true, false, false, false, false, false, false, false, false, false, false, false, false, false, false, false, false, false, false, false, false, false, false] rfl rfl (any_of HT_.out (by kernel_rfl)) (fun _ _ _ h => h) (Or.inl ⟨by rfl, ?_⟩) ?_ ?_
      rotate_left
      ·intro w'
       go_simp
       first | with_reducible rfl | (simp only [hfd32_0, hfd32_1, hfd44_0, hfd44_1, hfd44_2]; with_reducible rfl)
      rotate_left
      ·simp only [Act.put, List.setIfInBounds_toArray, List.set_cons_zero, List.set_cons_succ, i64_w, i32_w]
       rfl
      refine take_ (i := 4) (N := some 31) (v := ?_) (a' := ?_) #[true, true, true, true, true, false, false, false, false, false, false, false, false, false, false, false, false, false, false, false, false, false, false, false, false, false] rfl rfl (take_ofW HT_.out HW_.out (by kernel_rfl)) (fun _ _ _ h => h) (Or.inl ⟨by rfl, ?_⟩) hHeld ?_ ?_
      rotate_left
      ·rintro w' ⟨s0, s1, s2⟩
       go_simp
       first | with_reducible rfl | (simp only [hfd32_0, hfd32_1, hfd44_0, hfd44_1, hfd44_2]; with_reducible rfl)
      rotate_left
      ·simp only [Act.put, List.setIfInBounds_toArray, List.set_cons_zero, List.set_cons_succ, i64_w, i32_w]
       rfl
      refine pure_ (i := 5) (N := some 32) (v := ?_) (a' := ?_) #[true, true, true, true, true, true, false, false, false, false, false, false, false, false, false, false, false, false, false, false, false, false, false, false, false, false] rfl rfl (any_of HT_.out (by kernel_rfl)) (fun _ _ _ h => h) (Or.inl ⟨by rfl, ?_⟩) ?_ ?_
      rotate_left
      ·intro w'
       go_simp
       first | with_reducible rfl | (simp only [hfd32_0, hfd32_1, hfd44_0, hfd44_1, hfd44_2]; with_reducible rfl)
      rotate_left
      ·simp only [Act.put, List.setIfInBounds_toArray, List.set_cons_zero, List.set_cons_succ, i64_w, i32_w]
       rfl
      refine pure_ (i := 6) (N := some 33) (v := ?_) (a' := ?_) #[true, true, true, true, true, true, true, false, false, false, false, false, false, false, false, false, false, false, false, false, false, false, false, false, false, false] rfl rfl (any_of HT_.out (by kernel_rfl)) (fun _ _ _ h => h) (Or.inl ⟨by rfl, ?_⟩) ?_ ?_
      rotate_left
      ·intro w'
       go_simp
       first | with_reducible rfl | (simp only [hfd32_0, hfd32_1, hfd44_0, hfd44_1, hfd44_2]; with_reducible rfl)
      rotate_left
      ·simp only [Act.put, List.setIfInBounds_toArray, List.set_cons_zero, List.set_cons_succ, i64_w, i32_w]
       rfl
      refine pure_ (i := 7) (N := some 34) (v := ?_) (a' := ?_) #[true, true, true, true, true, true, true, true, false, false, false, false, false, false, false, false, false, false, false, false, false, false, false, false, false, false] rfl rfl (any_of HT_.out (by kernel_rfl)) (fun _ _ _ h => h) (Or.inl ⟨by rfl, ?_⟩) ?_ ?_
      rotate_left
      ·intro w'
       go_simp
       first | with_reducible rfl | (simp only [hfd32_0, hfd32_1, hfd44_0, hfd44_1, hfd44_2]; with_reducible rfl)
      rotate_left
      ·simp only [Act.put, List.setIfInBounds_toArray, List.set_cons_zero, List.set_cons_succ, i64_w, i32_w]
       rfl
      refine pure_ (i := 8) (N := some 35) (v := ?_) (a' := ?_) #[true, true, true, true, true, true, true, true, true, false, false, false, false, false, false, false, false, false, false, false, false, false, false, false, false, false] rfl rfl (any_of HT_.out (by kernel_rfl)) (fun _ _ _ h => h) (Or.inl ⟨by rfl, ?_⟩) ?_ ?_
      rotate_left
      ·intro w'
       go_simp
       first | with_reducible rfl | (simp only [hfd32_0, hfd32_1, hfd44_0, hfd44_1, hfd44_2]; with_reducible rfl)
      rotate_left
      ·simp only [Act.put, List.setIfInBounds_toArray, List.set_cons_zero, List.set_cons_succ, i64_w, i32_w]
       rfl
      refine pure_ (i := 11) (N := some 38) (v := ?_) (a' := ?_) #[true, true, true, true, true, true, true, true, true, false, false, true, false, false, false, false, false, false, false, false, false, false, false, false, false, false] rfl rfl (any_of HT_.out (by kernel_rfl)) (fun _ _ _ h => h) (Or.inl ⟨by rfl, ?_⟩) ?_ ?_
      rotate_left
      ·intro w'
       go_simp
       first | with_reducible rfl | (simp only [hfd32_0, hfd32_1, hfd44_0, hfd44_1, hfd44_2]; with_reducible rfl)
      rotate_left
      ·simp only [Act.put, List.setIfInBounds_toArray, List.set_cons_zero, List.set_cons_succ, i64_w, i32_w]
       rfl
      refine pure_ (i := 12) (N := some 39) (v := ?_) (a' := ?_) #[true, true, true, true, true, true, true, true, true, false, false, true, true, false, false, false, false, false, false, false, false, false, false, false, false, false] rfl rfl (any_of HT_.out (by kernel_rfl)) (fun _ _ _ h => h) (Or.inl ⟨by rfl, ?_⟩) ?_ ?_
      rotate_left
      ·intro w'
       go_simp
       first | with_reducible rfl | (simp only [hfd32_0, hfd32_1, hfd44_0, hfd44_1, hfd44_2]; with_reducible rfl)
      rotate_left
      ·simp only [Act.put, List.setIfInBounds_toArray, List.set_cons_zero, List.set_cons_succ, i64_w, i32_w]
       rfl
      refine take_ (i := 9) (N := some 36) (v := ?_) (a' := ?_) #[true, true, true, true, true, true, true, true, true, true, false, true, true, false, false, false, false, false, false, false, false, false, false, false, false, false] rfl rfl (take_ofW HT_.out HW_.out (by kernel_rfl)) (fun _ _ _ h => h) (Or.inl ⟨by rfl, ?_⟩) hHeld ?_ ?_
      rotate_left
      ·rintro w' ⟨s0, s1, s2⟩
       go_simp
       first | with_reducible rfl | (simp only [hfd32_0, hfd32_1, hfd44_0, hfd44_1, hfd44_2]; with_reducible rfl)
      rotate_left
      ·simp only [Act.put, List.setIfInBounds_toArray, List.set_cons_zero, List.set_cons_succ, i64_w, i32_w]
       rfl
      refine pure_ (i := 10) (N := some 37) (v := ?_) (a' := ?_) #[true, true, true, true, true, true, true, true, true, true, true, true, true, false, false, false, false, false, false, false, false, false, false, false, false, false] rfl rfl (any_of HT_.out (by kernel_rfl)) (fun _ _ _ h => h) (Or.inl ⟨by rfl, ?_⟩) ?_ ?_
      rotate_left
      ·intro w'
       go_simp
       first | with_reducible rfl | (simp only [hfd32_0, hfd32_1, hfd44_0, hfd44_1, hfd44_2]; with_reducible rfl)
      rotate_left
      ·simp only [Act.put, List.setIfInBounds_toArray, List.set_cons_zero, List.set_cons_succ, i64_w, i32_w]
       rfl
      refine one_ (i := 13) (N := some 40) #[true, true, true, true, true, true, true, true, true, true, true, true, true, true, false, false, false, false, false, false, false, false, false, false, false, false] rfl rfl (one_of HT_.out (by kernel_rfl)) (by decide) (fun K hK => ?_)
      refine goes_ Try.func20 (by kernel_rfl) rfl #[.slice Ao9 t962.length co9, .slice Ao10 t963.length co10] (by rfl) rfl rfl (by (try simp only [List.map_toArray, List.map_cons, List.map_nil]); first | done | rfl | (simp only [List.length_drop, List.length_take]; rfl)) ?_
      with_reducible refine (impl_CommonOf.calls k _ _ t962 _ _ t963 t983 t984 _ ?side1 ?side2 ?side3 ?side4 A17.out).mono ?_
      (case side1 => repeat (first | exact (Kd.R_reads' HO965.out).2.2 | (with_reducible refine Kd.C_alloc ?_ _) | (with_reducible refine Kd.C_drewN ?_ _) | (with_reducible refine Kd.C_drew ?_)))
      (case side2 => exact (Kd.R_reads' HO965.out).2.1)
      (case side3 => repeat (first | exact (Kd.R_reads' HO967.out).2.2 | (with_reducible refine Kd.C_alloc ?_ _) | (with_reducible refine Kd.C_drewN ?_ _) | (with_reducible refine Kd.C_drew ?_)))
      (case side4 => exact (Kd.R_reads' HO967.out).2.1)
      rintro e w28 ⟨rfl, hb⟩
      refine ⟨_, rfl, ?_⟩
      have n0_ := Aside0.mk (Kd.R_below (by (with_reducible repeat (first | apply Kd.R_alloc | apply Kd.R_drewN | apply Kd.R_drew)); exact HO965.out) hb)
      have n1_ := Aside0.mk (Kd.R_below (by (with_reducible repeat (first | apply Kd.R_alloc | apply Kd.R_drewN | apply Kd.R_drew)); exact HO967.out) hb)
      have n2_ := Aside0.mk (Kd.R_below (by (with_reducible repeat (first | apply Kd.R_alloc | apply Kd.R_drewN | apply Kd.R_drew)); exact HO971.out) hb)
      have n3_ := Aside0.mk (Kd.R_below (by (with_reducible repeat (first | apply Kd.R_alloc | apply Kd.R_drewN | apply Kd.R_drew)); exact HO974.out) hb)
      have n4_ := Aside0.mk (blk_below (g := gb975) (o := .cells #[.int .i64 t968, .slice Ao14 t969.length co14, .slice Ao15 t972.length co15] 44 (0, 0)) (by (with_reducible repeat (first | refine blk_drewN ?_ _ | refine blk_drew ?_ | refine blk_alloc ?_ _)); exact BK975.out) hb)
      have n5_ := Aside0.mk (below_step (by repeat (first | (with_reducible first | exact HB.out | apply below_alloc | apply pw_below_drewN | apply below_drew1 | refine below_set ?_ GE975.out) | exact HB.out)) hb)
      clear HO965
      clear HO967
      clear HO971
      clear HO974
      clear BK975
      clear HB
      have HO965 := n0_
      have HO967 := n1_
      have HO971 := n2_
      have HO974 := n3_
      have BK975 := n4_
      have HB := n5_
      clear n0_ n1_ n2_ n3_ n4_ n5_
      (try clear hb)
      (try clear hb2)
      (try clear hk)
      (try clear hi)
      refine hK.out _ _ ⟨(blk_cell BK975.out 0).trans rfl, (blk_cell BK975.out 1).trans rfl, (blk_cell BK975.out 2).trans rfl⟩ (fun hHeld => ?_)
      clear hK K
      refine norm_ (a' := ?_) ?_ ?_
      rotate_left
      ·show Act.put _ (some 40) _ = _
       simp only [Act.put, List.setIfInBounds_toArray, List.set_cons_zero, List.set_cons_succ, i64_w, i32_w]
       rfl
      refine pure_ (i := 14) (N := some 41) (v := ?_) (a' := ?_) #[true, true, true, true, true, true, true, true, true, true, true, true, true, true, true, false, false, false, false, false, false, false, false, false, false, false] rfl rfl (any_of HT_.out (by kernel_rfl)) (fun _ _ _ h => h) (Or.inl ⟨by rfl, ?_⟩) ?_ ?_
      rotate_left
      ·intro w'
       go_simp
       first | with_reducible rfl | (simp only [hfd32_0, hfd32_1, hfd44_0, hfd44_1, hfd44_2]; with_reducible rfl)
      rotate_left
      ·simp only [Act.put, List.setIfInBounds_toArray, List.set_cons_zero, List.set_cons_succ, i64_w, i32_w]
       rfl
      refine pure_ (i := 15) (N := some 42) (v := ?_) (a' := ?_) #[true, true, true, true, true, true, true, true, true, true, true, true, true, true, true, true, false, false, false, false, false, false, false, false, false, false] rfl rfl (any_of HT_.out (by kernel_rfl)) (fun _ _ _ h => h) (Or.inl ⟨by rfl, ?_⟩) ?_ ?_
      rotate_left
      ·intro w'
       go_simp
       first | with_reducible rfl | (simp only [hfd32_0, hfd32_1, hfd44_0, hfd44_1, hfd44_2]; with_reducible rfl)
      rotate_left
      ·simp only [Act.put, List.setIfInBounds_toArray, List.set_cons_zero, List.set_cons_succ, i64_w, i32_w]
       rfl
      refine pure_ (i := 16) (N := some 43) (v := ?_) (a' := ?_) #[true, true, true, true, true, true, true, true, true, true, true, true, true, true, true, true, true, false, false, false, false, false, false, false, false, false] rfl rfl (any_of HT_.out (by kernel_rfl)) (fun _ _ _ h => h) (Or.inl ⟨by rfl, ?_⟩) ?_ ?_
      rotate_left
      ·intro w'
       go_simp
       first | with_reducible rfl | (simp only [hfd32_0, hfd32_1, hfd44_0, hfd44_1, hfd44_2]; with_reducible rfl)
      rotate_left
      ·simp only [Act.put, List.setIfInBounds_toArray, List.set_cons_zero, List.set_cons_succ, i64_w, i32_w]
       rfl
      refine pure_ (i := 17) (N := some 44) (v := ?_) (a' := ?_) #[true, true, true, true, true, true, true, true, true, true, true, true, true, true, true, true, true, true, false, false, false, false, false, false, false, false] rfl rfl (any_of HT_.out (by kernel_rfl)) (fun _ _ _ h => h) (Or.inl ⟨by rfl, ?_⟩) ?_ ?_
      rotate_left
      ·intro w'
       go_simp
       first | with_reducible rfl | (simp only [hfd32_0, hfd32_1, hfd44_0, hfd44_1, hfd44_2]; with_reducible rfl)
      rotate_left
      ·simp only [Act.put, List.setIfInBounds_toArray, List.set_cons_zero, List.set_cons_succ, i64_w, i32_w]
       rfl
      refine pure_ (i := 18) (N := some 45) (v := undef) (a' := ?_) #[true, true, true, true, true, true, true, true, true, true, true, true, true, true, true, true, true, true, true, false, false, false, false, false, false, false] rfl rfl (any_of HT_.out (by kernel_rfl)) (fun _ _ _ h => h) (Or.inr ⟨by rfl, rfl⟩) ?_ ?_
      rotate_left
      ·simp only [Act.put, List.setIfInBounds_toArray, List.set_cons_zero, List.set_cons_succ, i64_w, i32_w]
       rfl
      refine pure_ (i := 19) (N := some 46) (v := undef) (a' := ?_) #[true, true, true, true, true, true, true, true, true, true, true, true, true, true, true, true, true, true, true, true, false, false, false, false, false, false] rfl rfl (any_of HT_.out (by kernel_rfl)) (fun _ _ _ h => h) (Or.inr ⟨by rfl, rfl⟩) ?_ ?_
      rotate_left
      ·simp only [Act.put, List.setIfInBounds_toArray, List.set_cons_zero, List.set_cons_succ, i64_w, i32_w]
       rfl
      refine pure_ (i := 20) (N := some 47) (v := undef) (a' := ?_) #[true, true, true, true, true, true, true, true, true, true, true, true, true, true, true, true, true, true, true, true, true, false, false, false, false, false] rfl rfl (any_of HT_.out (by kernel_rfl)) (fun _ _ _ h => h) (Or.inr ⟨by rfl, rfl⟩) ?_ ?_
      rotate_left
      ·simp only [Act.put, List.setIfInBounds_toArray, List.set_cons_zero, List.set_cons_succ, i64_w, i32_w]
       rfl
      refine pure_ (i := 21) (N := some 48) (v := undef) (a' := ?_) #[true, true, true, true, true, true, true, true, true, true, true, true, true, true, true, true, true, true, true, true, true, true, false, false, false, false] rfl rfl (any_of HT_.out (by kernel_rfl)) (fun _ _ _ h => h) (Or.inr ⟨by rfl, rfl⟩) ?_ ?_
      rotate_left
      ·simp only [Act.put, List.setIfInBounds_toArray, List.set_cons_zero, List.set_cons_succ, i64_w, i32_w]
       rfl
      refine pure_ (i := 22) (N := some 49) (v := undef) (a' := ?_) #[true, true, true, true, true, true, true, true, true, true, true, true, true, true, true, true, true, true, true, true, true, true, true, false, false, false] rfl rfl (any_of HT_.out (by kernel_rfl)) (fun _ _ _ h => h) (Or.inr ⟨by rfl, rfl⟩) ?_ ?_
      rotate_left
      ·simp only [Act.put, List.setIfInBounds_toArray, List.set_cons_zero, List.set_cons_succ, i64_w, i32_w]
       rfl
      refine pure_ (i := 23) (N := some 50) (v := undef) (a' := ?_) #[true, true, true, true, true, true, true, true, true, true, true, true, true, true, true, true, true, true, true, true, true, true, true, true, false, false] rfl rfl (any_of HT_.out (by kernel_rfl)) (fun _ _ _ h => h) (Or.inr ⟨by rfl, rfl⟩) ?_ ?_
      rotate_left
      ·simp only [Act.put, List.setIfInBounds_toArray, List.set_cons_zero, List.set_cons_succ, i64_w, i32_w]
       rfl
      refine pure_ (i := 24) (N := some 51) (v := undef) (a' := ?_) #[true, true, true, true, true, true, true, true, true, true, true, true, true, true, true, true, true, true, true, true, true, true, true, true, true, false] rfl rfl (any_of HT_.out (by kernel_rfl)) (fun _ _ _ h => h) (Or.inr ⟨by rfl, rfl⟩) ?_ ?_
      rotate_left
      ·simp only [Act.put, List.setIfInBounds_toArray, List.set_cons_zero, List.set_cons_succ, i64_w, i32_w]
       rfl
      refine pure_ (i := 25) (N := some 52) (v := ?_) (a' := ?_) #[true, true, true, true, true, true, true, true, true, true, true, true, true, true, true, true, true, true, true, true, true, true, true, true, true, true] rfl rfl (any_of HT_.out (by kernel_rfl)) (fun _ _ _ h => h) (Or.inl ⟨by rfl, ?_⟩) ?_ ?_
      rotate_left
      ·intro w'
       go_simp
       first | with_reducible rfl | (simp only [hfd32_0, hfd32_1, hfd44_0, hfd44_1, hfd44_2]; with_reducible rfl)
      rotate_left
      ·simp only [Act.put, List.setIfInBounds_toArray, List.set_cons_zero, List.set_cons_succ, i64_w, i32_w]
       rfl
      refine done_ (done_of HT_.out (by kernel_rfl)) ?_
      try go_wp2
      go_meet
      case rel => exact ⟨_, (true), (by first | rfl | (simp; done) | (simp [*]; done)), H', ⟨by first | omega | exact Nat.le_refl _⟩, ⟨by (with_reducible repeat (first | apply Kd.R_alloc | apply Kd.R_drewN | apply Kd.R_drew)); exact HO965.out⟩, ⟨by (with_reducible repeat (first | apply Kd.R_alloc | apply Kd.R_drewN | apply Kd.R_drew)); exact HO967.out⟩, ⟨by (with_reducible repeat (first | apply Kd.R_alloc | apply Kd.R_drewN | apply Kd.R_drew)); exact HO971.out⟩, ⟨by (with_reducible repeat (first | apply Kd.R_alloc | apply Kd.R_drewN | apply Kd.R_drew)); exact HO974.out⟩, ⟨by (with_reducible repeat (first | refine blk_drewN ?_ _ | refine blk_drew ?_ | refine blk_alloc ?_ _)); exact BK975.out⟩, ⟨by repeat (first | (with_reducible first | exact HB.out | apply below_alloc | apply pw_below_drewN | apply below_drew1 | refine below_set ?_ GE975.out) | exact HB.out)⟩⟩
    ·rw [if_neg c16] at H
     have c16b0 : ((t969.length : Int) == (t972.length : Int)) = false := beq_eq_false_iff_ne.mpr c16
     have c16b1 : ((t969.length : Int) != (t972.length : Int)) = true := bne_iff_ne.mpr c16
     have c16b2 : (t969.length == t972.length) = false := by first | simpa using c16 | (simp at c16 ⊢; omega)
     (first | rw [c16b0] | (simp only [i64_w, i32_w]; rw [c16b0]) | skip)
     have H' := Aside0.mk H
     clear H
     try go_wp2
     have n0_ : Aside0 (Kd.R Kd.string 9 (((w12.setCell ⟨gb975, 0, none⟩ (.int .i64 t968)).setCell ⟨gb975, 1, none⟩ (.slice Ao14 t969.length co14)).setCell ⟨gb975, 2, none⟩ (.slice Ao15 t972.length co15)) w.heap.size (fun k_ => some k_ ≠ (.slice Ao10 t963.length co10 : Value).ownBlock) (.slice Ao9 t962.length co9) t962) := ⟨by (with_reducible repeat (first | apply Kd.R_alloc | apply Kd.R_drewN | apply Kd.R_drew)); exact Kd.R_mono (Kd.R_far (p := ⟨gb975, 2, none⟩) (Kd.R_far (p := ⟨gb975, 1, none⟩) (Kd.R_far (p := ⟨gb975, 0, none⟩) (Kd.R_types HO965.out BK975.out (by decide)) (fun _ hk => hk.2) (.int .i64 t968)) (fun _ hk => hk.2) (.slice Ao14 t969.length co14)) (fun _ hk => hk.2) (.slice Ao15 t972.length co15)) (fun _ hk => hk.1)⟩
     have n1_ : Aside0 (Kd.R Kd.string 9 (((w12.setCell ⟨gb975, 0, none⟩ (.int .i64 t968)).setCell ⟨gb975, 1, none⟩ (.slice Ao14 t969.length co14)).setCell ⟨gb975, 2, none⟩ (.slice Ao15 t972.length co15)) w.heap.size (fun k_ => some k_ ≠ (.slice Ao9 t962.length co9 : Value).ownBlock) (.slice Ao10 t963.length co10) t963) := ⟨by (with_reducible repeat (first | apply Kd.R_alloc | apply Kd.R_drewN | apply Kd.R_drew)); exact Kd.R_mono (Kd.R_far (p := ⟨gb975, 2, none⟩) (Kd.R_far (p := ⟨gb975, 1, none⟩) (Kd.R_far (p := ⟨gb975, 0, none⟩) (Kd.R_types HO967.out BK975.out (by decide)) (fun _ hk => hk.2) (.int .i64 t968)) (fun _ hk => hk.2) (.slice Ao14 t969.length co14)) (fun _ hk => hk.2) (.slice Ao15 t972.length co15)) (fun _ hk => hk.1)⟩
     have n2_ : Aside0 (Kd.R (Kd.int .i64) 2 (((w12.setCell ⟨gb975, 0, none⟩ (.int .i64 t968)).setCell ⟨gb975, 1, none⟩ (.slice Ao14 t969.length co14)).setCell ⟨gb975, 2, none⟩ (.slice Ao15 t972.length co15)) w.heap.size (fun k_ => some k_ ≠ (.slice Ao15 t972.length co15 : Value).ownBlock) (.slice Ao14 t969.length co14) t969) := ⟨by (with_reducible repeat (first | apply Kd.R_alloc | apply Kd.R_drewN | apply Kd.R_drew)); exact Kd.R_mono (Kd.R_far (p := ⟨gb975, 2, none⟩) (Kd.R_far (p := ⟨gb975, 1, none⟩) (Kd.R_far (p := ⟨gb975, 0, none⟩) (Kd.R_types HO971.out BK975.out (by decide)) (fun _ hk => hk.2) (.int .i64 t968)) (fun _ hk => hk.2) (.slice Ao14 t969.length co14)) (fun _ hk => hk.2) (.slice Ao15 t972.length co15)) (fun _ hk => hk.1)⟩
     have n3_ : Aside0 (Kd.R (Kd.int .i64) 2 (((w12.setCell ⟨gb975, 0, none⟩ (.int .i64 t968)).setCell ⟨gb975, 1, none⟩ (.slice Ao14 t969.length co14)).setCell ⟨gb975, 2, none⟩ (.slice Ao15 t972.length co15)) w.heap.size (fun k_ => some k_ ≠ (.slice Ao14 t969.length co14 : Value).ownBlock) (.slice Ao15 t972.length co15) t972) := ⟨by (with_reducible repeat (first | apply Kd.R_alloc | apply Kd.R_drewN | apply Kd.R_drew)); exact Kd.R_mono (Kd.R_far (p := ⟨gb975, 2, none⟩) (Kd.R_far (p := ⟨gb975, 1, none⟩) (Kd.R_far (p := ⟨gb975, 0, none⟩) (Kd.R_types HO974.out BK975.out (by decide)) (fun _ hk => hk.2) (.int .i64 t968)) (fun _ hk => hk.2) (.slice Ao14 t969.length co14)) (fun _ hk => hk.2) (.slice Ao15 t972.length co15)) (fun _ hk => hk.1)⟩
     have n4_ : Aside0 ((((w12.setCell ⟨gb975, 0, none⟩ (.int .i64 t968)).setCell ⟨gb975, 1, none⟩ (.slice Ao14 t969.length co14)).setCell ⟨gb975, 2, none⟩ (.slice Ao15 t972.length co15)).heap[gb975]? = some (.cells #[.int .i64 t968, .slice Ao14 t969.length co14, .slice Ao15 t972.length co15] 44 (0, 0))) := ⟨by (with_reducible repeat (first | refine blk_drewN ?_ _ | refine blk_drew ?_ | refine blk_alloc ?_ _)); refine blk_put (cs := #[.int .i64 t968, .slice Ao14 t969.length co14, .slice none 0 0]) ?_ 2 _ rfl; (with_reducible repeat (first | refine blk_drewN ?_ _ | refine blk_drew ?_ | refine blk_alloc ?_ _)); refine blk_put (cs := #[.int .i64 t968, .slice none 0 0, .slice none 0 0]) ?_ 1 _ rfl; (with_reducible repeat (first | refine blk_drewN ?_ _ | refine blk_drew ?_ | refine blk_alloc ?_ _)); refine blk_put (cs := #[.int .i64 0, .slice none 0 0, .slice none 0 0]) ?_ 0 _ rfl; (with_reducible repeat (first | refine blk_drewN ?_ _ | refine blk_drew ?_ | refine blk_alloc ?_ _)); exact BK975.out⟩
     have n5_ : Aside0 (Below w.heap.size w (((w12.setCell ⟨gb975, 0, none⟩ (.int .i64 t968)).setCell ⟨gb975, 1, none⟩ (.slice Ao14 t969.length co14)).setCell ⟨gb975, 2, none⟩ (.slice Ao15 t972.length co15))) := ⟨by repeat (first | (with_reducible first | exact HB.out | apply below_alloc | apply pw_below_drewN | apply below_drew1 | refine below_set ?_ GE975.out) | exact HB.out)⟩
     (try clear HO965)
     (try clear HO967)
     (try clear HO971)
     (try clear HO974)
     (try clear BK975)
     (try clear HB)
     generalize (((w12.setCell ⟨gb975, 0, none⟩ (.int .i64 t968)).setCell ⟨gb975, 1, none⟩ (.slice Ao14 t969.length co14)).setCell ⟨gb975, 2, none⟩ (.slice Ao15 t972.length co15)) = w29 at n0_ n1_ n2_ n3_ n4_ n5_ ⊢
     have HO965 := n0_
     have HO967 := n1_
     have HO971 := n2_
     have HO974 := n3_
     have BK975 := n4_
     have HB := n5_
     clear n0_ n1_ n2_ n3_ n4_ n5_
     have n0_ := Aside0.mk (Kd.R_drew HO965.out)
     have n1_ := Aside0.mk (Kd.R_drew HO967.out)
     have n2_ := Aside0.mk (Kd.R_drew HO971.out)
     have n3_ := Aside0.mk (Kd.R_drew HO974.out)
     have n4_ := Aside0.mk (blk_drew BK975.out)
     have n5_ := Aside0.mk (below_drew1 HB.out)
     clear HO965
     clear HO967
     clear HO971
     clear HO974
     clear BK975
     clear HB
     have HO965 := n0_
     have HO967 := n1_
     have HO971 := n2_
     have HO974 := n3_
     have BK975 := n4_
     have HB := n5_
     clear n0_ n1_ n2_ n3_ n4_ n5_
     refine start_ (n := 26) (S := fun w' => w'.cell? ⟨gb975, 0, none⟩ = some (.int .i64 t968) ∧ w'.cell? ⟨gb975, 1, none⟩ = some (.slice Ao14 t969.length co14) ∧ w'.cell? ⟨gb975, 2, none⟩ = some (.slice Ao15 t972.length co15)) (ds := []) #[false, false, false, false, false, false, false, false, false, false, false, false, false, false, false, false, false, false, false, false, false, false, false, false, false, false] (by kernel_rfl) rfl rfl ⟨(blk_cell BK975.out 0).trans rfl, (blk_cell BK975.out 1).trans rfl, (blk_cell BK975.out 2).trans rfl⟩ (fun hHeld => ?_); refine with_tabW laws_FnMatches.tab7 laws_FnMatches.bits7 (fun HT_ HW_ => ?_)
     generalize w29.drew = w30 at HO965 HO967 HO971 HO974 BK975 HB hHeld ⊢
     refine pure_ (i := 0) (N := some 27) (v := ?_) (a' := ?_) #[true, false, false, false, false, false, false, false, false, false, false, false, false, false, false, false, false, false, false, false, false, false, false, false, false, false] rfl rfl (any_of HT_.out (by kernel_rfl)) (fun _ _ _ h => h) (Or.inl ⟨by rfl, ?_⟩) ?_ ?_
     rotate_left
     ·intro w'
      go_simp
      first | with_reducible rfl | (simp only [hfd32_0, hfd32_1, hfd44_0, hfd44_1, hfd44_2]; with_reducible rfl)
     rotate_left
     ·simp only [Act.put, List.setIfInBounds_toArray, List.set_cons_zero, List.set_cons_succ, i64_w, i32_w]
      rfl
     refine pure_ (i := 3) (N := some 30) (v := ?_) (a' := ?_) #[true, false, false, true, false, false, false, false, false, false, false, false, false, false, false, false, false, false, false, false, false, false, false, false, false, false] rfl rfl (any_of HT_.out (by kernel_rfl)) (fun _ _ _ h => h) (Or.inl ⟨by rfl, ?_⟩) ?_ ?_
     rotate_left
     ·intro w'
      go_simp
      first | with_reducible rfl | (simp only [hfd32_0, hfd32_1, hfd44_0, hfd44_1, hfd44_2]; with_reducible rfl)
     rotate_left
     ·simp only [Act.put, List.setIfInBounds_toArray, List.set_cons_zero, List.set_cons_succ, i64_w, i32_w]
      rfl
     refine take_ (i := 1) (N := some 28) (v := ?_) (a' := ?_) #[true, true, false, true, false, false, false, false, false, false, false, false, false, false, false, false, false, false, false, false, false, false, false, false, false, false] rfl rfl (take_ofW HT_.out HW_.out (by kernel_rfl)) (fun _ _ _ h => h) (Or.inl ⟨by rfl, ?_⟩) hHeld ?_ ?_
     rotate_left
     ·rintro w' ⟨s0, s1, s2⟩
      go_simp
      first | with_reducible rfl | (simp only [hfd32_0, hfd32_1, hfd44_0, hfd44_1, hfd44_2]; with_reducible rfl)
     rotate_left
     ·simp only [Act.put, List.setIfInBounds_toArray, List.set_cons_zero, List.set_cons_succ, i64_w, i32_w]
      rfl
     refine pure_ (i := 2) (N := some 29) (v := ?_) (a' := ?_) #[true, true, true, true, false, false, false, false, false, false, false, false, false, false, false, false, false, false, false, false, false, false, false, false, false, false] rfl rfl (any_of HT_.out (by kernel_rfl)) (fun _ _ _ h => h) (Or.inl ⟨by rfl, ?_⟩) ?_ ?_
     rotate_left
     ·intro w'
      go_simp
      first | with_reducible rfl | (simp only [hfd32_0, hfd32_1, hfd44_0, hfd44_1, hfd44_2]; with_reducible rfl)
     rotate_left
     ·simp only [Act.put, List.setIfInBounds_toArray, List.set_cons_zero, List.set_cons_succ, i64_w, i32_w]
      rfl
     refine take_ (i := 4) (N := some 31) (v := ?_) (a' := ?_) #[true, true, true, true, true, false, false, false, false, false, false, false, false, false, false, false, false, false, false, false, false, false, false, false, false, false] rfl rfl (take_ofW HT_.out HW_.out (by kernel_rfl)) (fun _ _ _ h => h) (Or.inl ⟨by rfl, ?_⟩) hHeld ?_ ?_
     rotate_left
     ·rintro w' ⟨s0, s1, s2⟩
      go_simp
      first | with_reducible rfl | (simp only [hfd32_0, hfd32_1, hfd44_0, hfd44_1, hfd44_2]; with_reducible rfl)
     rotate_left
     ·simp only [Act.put, List.setIfInBounds_toArray, List.set_cons_zero, List.set_cons_succ, i64_w, i32_w]
      rfl
     refine pure_ (i := 5) (N := some 32) (v := ?_) (a' := ?_) #[true, true, true, true, true, true, false, false, false, false, false, false, false, false, false, false, false, false, false, false, false, false, false, false, false, false] rfl rfl (any_of HT_.out (by kernel_rfl)) (fun _ _ _ h => h) (Or.inl ⟨by rfl, ?_⟩) ?_ ?_
     rotate_left
     ·intro w'
      go_simp
      first | with_reducible rfl | (simp only [hfd32_0, hfd32_1, hfd44_0, hfd44_1, hfd44_2]; with_reducible rfl)
     rotate_left
     ·simp only [Act.put, List.setIfInBounds_toArray, List.set_cons_zero, List.set_cons_succ, i64_w, i32_w]
      rfl
     refine pure_ (i := 6) (N := some 33) (v := ?_) (a' := ?_) #[true, true, true, true, true, true, true, false, false, false, false, false, false, false, false, false, false, false, false, false, false, false, false, false, false, false] rfl rfl (any_of HT_.out (by kernel_rfl)) (fun _ _ _ h => h) (Or.inl ⟨by rfl, ?_⟩) ?_ ?_
     rotate_left
     ·intro w'
      go_simp
      first | with_reducible rfl | (simp only [hfd32_0, hfd32_1, hfd44_0, hfd44_1, hfd44_2]; with_reducible rfl)
     rotate_left
     ·simp only [Act.put, List.setIfInBounds_toArray, List.set_cons_zero, List.set_cons_succ, i64_w, i32_w]
      rfl
     refine pure_ (i := 7) (N := some 34) (v := ?_) (a' := ?_) #[true, true, true, true, true, true, true, true, false, false, false, false, false, false, false, false, false, false, false, false, false, false, false, false, false, false] rfl rfl (any_of HT_.out (by kernel_rfl)) (fun _ _ _ h => h) (Or.inl ⟨by rfl, ?_⟩) ?_ ?_
     rotate_left
     ·intro w'
      go_simp
      first | with_reducible rfl | (simp only [hfd32_0, hfd32_1, hfd44_0, hfd44_1, hfd44_2]; with_reducible rfl)
     rotate_left
     ·simp only [Act.put, List.setIfInBounds_toArray, List.set_cons_zero, List.set_cons_succ, i64_w, i32_w]
      rfl
     refine pure_ (i := 8) (N := some 35) (v := undef) (a' := ?_) #[true, true, true, true, true, true, true, true, true, false, false, false, false, false, false, false, false, false, false, false, false, false, false, false, false, false] rfl rfl (any_of HT_.out (by kernel_rfl)) (fun _ _ _ h => h) (Or.inr ⟨by rfl, rfl⟩) ?_ ?_
     rotate_left
     ·simp only [Act.put, List.setIfInBounds_toArray, List.set_cons_zero, List.set_cons_succ, i64_w, i32_w]
      rfl
     refine pure_ (i := 9) (N := some 36) (v := undef) (a' := ?_) #[true, true, true, true, true, true, true, true, true, true, false, false, false, false, false, false, false, false, false, false, false, false, false, false, false, false] rfl rfl (any_of HT_.out (by kernel_rfl)) (fun _ _ _ h => h) (Or.inr ⟨by rfl, rfl⟩) ?_ ?_
     rotate_left
     ·simp only [Act.put, List.setIfInBounds_toArray, List.set_cons_zero, List.set_cons_succ, i64_w, i32_w]
      rfl
     refine pure_ (i := 10) (N := some 37) (v := undef) (a' := ?_) #[true, true, true, true, true, true, true, true, true, true, true, false, false, false, false, false, false, false, false, false, false, false, false, false, false, false] rfl rfl (any_of HT_.out (by kernel_rfl)) (fun _ _ _ h => h) (Or.inr ⟨by rfl, rfl⟩) ?_ ?_
     rotate_left
     ·simp only [Act.put, List.setIfInBounds_toArray, List.set_cons_zero, List.set_cons_succ, i64_w, i32_w]
      rfl
     refine pure_ (i := 11) (N := some 38) (v := undef) (a' := ?_) #[true, true, true, true, true, true, true, true, true, true, true, true, false, false, false, false, false, false, false, false, false, false, false, false, false, false] rfl rfl (any_of HT_.out (by kernel_rfl)) (fun _ _ _ h => h) (Or.inr ⟨by rfl, rfl⟩) ?_ ?_
     rotate_left
     ·simp only [Act.put, List.setIfInBounds_toArray, List.set_cons_zero, List.set_cons_succ, i64_w, i32_w]
      rfl
     refine pure_ (i := 12) (N := some 39) (v := undef) (a' := ?_) #[true, true, true, true, true, true, true, true, true, true, true, true, true, false, false, false, false, false, false, false, false, false, false, false, false, false] rfl rfl (any_of HT_.out (by kernel_rfl)) (fun _ _ _ h => h) (Or.inr ⟨by rfl, rfl⟩) ?_ ?_
     rotate_left
     ·simp only [Act.put, List.setIfInBounds_toArray, List.set_cons_zero, List.set_cons_succ, i64_w, i32_w]
      rfl
     refine pure_ (i := 13) (N := some 40) (v := undef) (a' := ?_) #[true, true, true, true, true, true, true, true, true, true, true, true, true, true, false, false, false, false, false, false, false, false, false, false, false, false] rfl rfl (any_of HT_.out (by kernel_rfl)) (fun _ _ _ h => h) (Or.inr ⟨by rfl, rfl⟩) ?_ ?_
     rotate_left
     ·simp only [Act.put, List.setIfInBounds_toArray, List.set_cons_zero, List.set_cons_succ, i64_w, i32_w]
      rfl
     refine pure_ (i := 14) (N := some 41) (v := undef) (a' := ?_) #[true, true, true, true, true, true, true, true, true, true, true, true, true, true, true, false, false, false, false, false, false, false, false, false, false, false] rfl rfl (any_of HT_.out (by kernel_rfl)) (fun _ _ _ h => h) (Or.inr ⟨by rfl, rfl⟩) ?_ ?_
     rotate_left
     ·simp only [Act.put, List.setIfInBounds_toArray, List.set_cons_zero, List.set_cons_succ, i64_w, i32_w]
      rfl
     refine pure_ (i := 15) (N := some 42) (v := undef) (a' := ?_) #[true, true, true, true, true, true, true, true, true, true, true, true, true, true, true, true, false, false, false, false, false, false, false, false, false, false] rfl rfl (any_of HT_.out (by kernel_rfl)) (fun _ _ _ h => h) (Or.inr ⟨by rfl, rfl⟩) ?_ ?_
     rotate_left
     ·simp only [Act.put, List.setIfInBounds_toArray, List.set_cons_zero, List.set_cons_succ, i64_w, i32_w]
      rfl
     refine pure_ (i := 16) (N := some 43) (v := ?_) (a' := ?_) #[true, true, true, true, true, true, true, true, true, true, true, true, true, true, true, true, true, false, false, false, false, false, false, false, false, false] rfl rfl (any_of HT_.out (by kernel_rfl)) (fun _ _ _ h => h) (Or.inl ⟨by rfl, ?_⟩) ?_ ?_
     rotate_left
     ·intro w'
      go_simp
      first | with_reducible rfl | (simp only [hfd32_0, hfd32_1, hfd44_0, hfd44_1, hfd44_2]; with_reducible rfl)
     rotate_left
     ·simp only [Act.put, List.setIfInBounds_toArray, List.set_cons_zero, List.set_cons_succ, i64_w, i32_w]
      rfl
     refine pure_ (i := 17) (N := some 44) (v := ?_) (a' := ?_) #[true, true, true, true, true, true, true, true, true, true, true, true, true, true, true, true, true, true, false, false, false, false, false, false, false, false] rfl rfl (any_of HT_.out (by kernel_rfl)) (fun _ _ _ h => h) (Or.inl ⟨by rfl, ?_⟩) ?_ ?_
     rotate_left
     ·intro w'
      go_simp
      first | with_reducible rfl | (simp only [hfd32_0, hfd32_1, hfd44_0, hfd44_1, hfd44_2]; with_reducible rfl)
     rotate_left
     ·simp only [Act.put, List.setIfInBounds_toArray, List.set_cons_zero, List.set_cons_succ, i64_w, i32_w]
      rfl
     refine pure_ (i := 18) (N := some 45) (v := undef) (a' := ?_) #[true, true, true, true, true, true, true, true, true, true, true, true, true, true, true, true, true, true, true, false, false, false, false, false, false, false] rfl rfl (any_of HT_.out (by kernel_rfl)) (fun _ _ _ h => h) (Or.inr ⟨by rfl, rfl⟩) ?_ ?_
     rotate_left
     ·simp only [Act.put, List.setIfInBounds_toArray, List.set_cons_zero, List.set_cons_succ, i64_w, i32_w]
      rfl
     refine pure_ (i := 19) (N := some 46) (v := undef) (a' := ?_) #[true, true, true, true, true, true, true, true, true, true, true, true, true, true, true, true, true, true, true, true, false, false, false, false, false, false] rfl rfl (any_of HT_.out (by kernel_rfl)) (fun _ _ _ h => h) (Or.inr ⟨by rfl, rfl⟩) ?_ ?_
     rotate_left
     ·simp only [Act.put, List.setIfInBounds_toArray, List.set_cons_zero, List.set_cons_succ, i64_w, i32_w]
      rfl
     refine pure_ (i := 20) (N := some 47) (v := undef) (a' := ?_) #[true, true, true, true, true, true, true, true, true, true, true, true, true, true, true, true, true, true, true, true, true, false, false, false, false, false] rfl rfl (any_of HT_.out (by kernel_rfl)) (fun _ _ _ h => h) (Or.inr ⟨by rfl, rfl⟩) ?_ ?_
     rotate_left
     ·simp only [Act.put, List.setIfInBounds_toArray, List.set_cons_zero, List.set_cons_succ, i64_w, i32_w]
      rfl
     refine pure_ (i := 21) (N := some 48) (v := undef) (a' := ?_) #[true, true, true, true, true, true, true, true, true, true, true, true, true, true, true, true, true, true, true, true, true, true, false, false, false, false] rfl rfl (any_of HT_.out (by kernel_rfl)) (fun _ _ _ h => h) (Or.inr ⟨by rfl, rfl⟩) ?_ ?_
     rotate_left
     ·simp only [Act.put, List.setIfInBounds_toArray, List.set_cons_zero, List.set_cons_succ, i64_w, i32_w]
      rfl
     refine pure_ (i := 22) (N := some 49) (v := undef) (a' := ?_) #[true, true, true, true, true, true, true, true, true, true, true, true, true, true, true, true, true, true, true, true, true, true, true, false, false, false] rfl rfl (any_of HT_.out (by kernel_rfl)) (fun _ _ _ h => h) (Or.inr ⟨by rfl, rfl⟩) ?_ ?_
     rotate_left
     ·simp only [Act.put, List.setIfInBounds_toArray, List.set_cons_zero, List.set_cons_succ, i64_w, i32_w]
      rfl
     refine pure_ (i := 23) (N := some 50) (v := undef) (a' := ?_) #[true, true, true, true, true, true, true, true, true, true, true, true, true, true, true, true, true, true, true, true, true, true, true, true, false, false] rfl rfl (any_of HT_.out (by kernel_rfl)) (fun _ _ _ h => h) (Or.inr ⟨by rfl, rfl⟩) ?_ ?_
     rotate_left
     ·simp only [Act.put, List.setIfInBounds_toArray, List.set_cons_zero, List.set_cons_succ, i64_w, i32_w]
      rfl
     refine pure_ (i := 24) (N := some 51) (v := undef) (a' := ?_) #[true, true, true, true, true, true, true, true, true, true, true, true, true, true, true, true, true, true, true, true, true, true, true, true, true, false] rfl rfl (any_of HT_.out (by kernel_rfl)) (fun _ _ _ h => h) (Or.inr ⟨by rfl, rfl⟩) ?_ ?_
     rotate_left
     ·simp only [Act.put, List.setIfInBounds_toArray, List.set_cons_zero, List.set_cons_succ, i64_w, i32_w]
      rfl
     refine pure_ (i := 25) (N := some 52) (v := ?_) (a' := ?_) #[true, true, true, true, true, true, true, true, true, true, true, true, true, true, true, true, true, true, true, true, true, true, true, true, true, true] rfl rfl (any_of HT_.out (by kernel_rfl)) (fun _ _ _ h => h) (Or.inl ⟨by rfl, ?_⟩) ?_ ?_
     rotate_left
     ·intro w'
      go_simp
      first | with_reducible rfl | (simp only [hfd32_0, hfd32_1, hfd44_0, hfd44_1, hfd44_2]; with_reducible rfl)
     rotate_left
     ·simp only [Act.put, List.setIfInBounds_toArray, List.set_cons_zero, List.set_cons_succ, i64_w, i32_w]
      rfl
     refine done_ (done_of HT_.out (by kernel_rfl)) ?_
     try go_wp2
     go_meet
     case rel => exact ⟨_, (true), (by first | rfl | (simp; done) | (simp [*]; done)), H', ⟨by first | omega | exact Nat.le_refl _⟩, ⟨by (with_reducible repeat (first | apply Kd.R_alloc | apply Kd.R_drewN | apply Kd.R_drew)); exact HO965.out⟩, ⟨by (with_reducible repeat (first | apply Kd.R_alloc | apply Kd.R_drewN | apply Kd.R_drew)); exact HO967.out⟩, ⟨by (with_reducible repeat (first | apply Kd.R_alloc | apply Kd.R_drewN | apply Kd.R_drew)); exact HO971.out⟩, ⟨by (with_reducible repeat (first | apply Kd.R_alloc | apply Kd.R_drewN | apply Kd.R_drew)); exact HO974.out⟩, ⟨by (with_reducible repeat (first | refine blk_drewN ?_ _ | refine blk_drew ?_ | refine blk_alloc ?_ _)); exact BK975.out⟩, ⟨by repeat (first | (with_reducible first | exact HB.out | apply below_alloc | apply pw_below_drewN | apply below_drew1 | refine below_set ?_ GE975.out) | exact HB.out)⟩⟩
   case rest =>
    clear HC7
    try clear c1
    try clear c2
    try clear p2
    try clear c16
    try clear c16b0
    try clear c16b1
    try clear c16b2
    try clear c18
    try clear c18b0
    try clear c18b1
    try clear c20
    obtain ⟨kq, x52_6, rfl, HA, HJ6, HO_3, HO_4, HO_976001, HO_976002, BK975, HB⟩ := hcut
    cases kq with
    | zero => exact absurd HA.out (by simp [laws_FnMatches.j0])
    | succ kj6 =>
     have H := HA.out
     clear HA
     simp only [laws_FnMatches.j0] at H
     by_cases c31 : x52_6 = true
     ·subst c31
      have H1 : (some false) = some r := by rw [if_pos rfl] at H; exact H
      clear H
      have H := H1
      clear H1
      exact absurd ((Option.some.inj H).trans HLAW.out) (by decide)
     ·replace c31 := Bool.eq_false_iff.mpr c31
      subst c31
      have H1 : (laws_FnMatches.l0 kj6 t962 t963 0 t968 t969 t972) = some r := by rw [if_neg (show ¬ (false = true) by decide)] at H; exact H
      clear H
      have H := H1
      clear H1
      have H' := Aside0.mk H
      clear H
      go_wp2
      go_loopg [6] kj6 (fun kq v6 w' => ∃ (x6_2 : Int), v6 = .int .i64 x6_2 ∧ Aside0 (laws_FnMatches.l0 kq t962 t963 x6_2 t968 t969 t972 = some r) ∧ Aside0 (kq ≤ kj6) ∧ Aside0 (Kd.R Kd.string 9 w' w.heap.size (fun k_ => some k_ ≠ ((.slice Ao10 t963.length co10) : Value).ownBlock) (.slice Ao9 t962.length co9) t962) ∧ Aside0 (Kd.R Kd.string 9 w' w.heap.size (fun k_ => some k_ ≠ ((.slice Ao9 t962.length co9) : Value).ownBlock) (.slice Ao10 t963.length co10) t963) ∧ Aside0 (Kd.R (Kd.int .i64) 2 w' w.heap.size (fun k_ => some k_ ≠ ((.slice Ao15 t972.length co15) : Value).ownBlock) (.slice Ao14 t969.length co14) t969) ∧ Aside0 (Kd.R (Kd.int .i64) 2 w' w.heap.size (fun k_ => some k_ ≠ ((.slice Ao14 t969.length co14) : Value).ownBlock) (.slice Ao15 t972.length co15) t972) ∧ Aside0 (w'.heap[gb975]? = some (.cells #[.int .i64 t968, (.slice Ao14 t969.length co14), (.slice Ao15 t972.length co15)] 44 (0, 0))) ∧ Aside0 (Below w.heap.size w w'))
      case atStart => exact ⟨(0), (by first | rfl | (simp; done) | (simp [*]; done)), H', ⟨Nat.le_refl _⟩, ⟨by (with_reducible repeat (first | apply Kd.R_alloc | apply Kd.R_drewN | apply Kd.R_drew)); exact HO_3.out⟩, ⟨by (with_reducible repeat (first | apply Kd.R_alloc | apply Kd.R_drewN | apply Kd.R_drew)); exact HO_4.out⟩, ⟨by (with_reducible repeat (first | apply Kd.R_alloc | apply Kd.R_drewN | apply Kd.R_drew)); exact HO_976001.out⟩, ⟨by (with_reducible repeat (first | apply Kd.R_alloc | apply Kd.R_drewN | apply Kd.R_drew)); exact HO_976002.out⟩, ⟨by (with_reducible repeat (first | refine blk_drewN ?_ _ | refine blk_drew ?_ | refine blk_alloc ?_ _)); exact BK975.out⟩, ⟨by repeat (first | (with_reducible first | exact HB.out | apply below_alloc | apply pw_below_drewN | apply below_drew1 | refine below_set ?_ GE975.out) | exact HB.out)⟩⟩
      case round =>
       clear H'
       try clear c1
       try clear c2
       try clear p2
       try clear c3
       try clear c16
       try clear c16b0
       try clear c16b1
       try clear c16b2
       try clear c18
       try clear c18b0
       try clear c18b1
       try clear c20
       try clear c31
       try clear p2
       obtain ⟨x6_2, rfl, HA, HK2, HO_3, HO_4, HO_976001, HO_976002, BK975, HB⟩ := hrel
       cases gk with
       | zero => exact absurd HA.out (by simp [laws_FnMatches.l0])
       | succ k2 =>
        have H := HA.out
        clear HA
        simp only [laws_FnMatches.l0] at H
        by_cases c32 : x6_2 < (t969.length : Int)
        ·rw [if_pos c32] at H
         have c32b0 : decide (x6_2 < (t969.length : Int)) = true := decide_eq_true c32
         clear c32
         by_cases c33 : x6_2 > 0
         ·rw [if_pos c33] at H
          have c33b0 : decide (0 < x6_2) = true := decide_eq_true c33
          clear c33
          by_cases c34 : 0 ≤ x6_2
          ·rw [if_pos c34] at H
           have c34b0 : decide (0 ≤ x6_2) = true := decide_eq_true c34
           clear c34
           obtain ⟨ji35, hji35⟩ : ∃ j_ : Int, (wrap64 (x6_2 - 1)) = j_ := ⟨_, rfl⟩
           replace H : (if 0 ≤ (ji35) then (if (ji35) < (t969.length : Int) then (if (rd t969 x6_2) ≤ (rd t969 (ji35)) then (some false) else (if x6_2 < (t972.length : Int) then (if (ji35) < (t972.length : Int) then (if (rd t972 x6_2) ≤ (rd t972 (ji35)) then (some false) else (if 0 ≤ (rd t969 x6_2) then (if (rd t969 x6_2) < (t962.length : Int) then (if 0 ≤ (rd t972 x6_2) then (if (rd t972 x6_2) < (t963.length : Int) then (if (rdOf ByteArray.empty t962 (rd t969 x6_2)).toList = (rdOf ByteArray.empty t963 (rd t972 x6_2)).toList then (laws_FnMatches.l0 k2 t962 t963 (wrap64 (x6_2 + 1)) t968 t969 t972) else (some false)) else (none)) else (none)) else (none)) else (none))) else (none)) else (none))) else (none)) else (none)) = some r := by first | (rw [hji35] at H; exact H) | (simp only [hji35] at H ⊢; exact H)
           have hji35w : (IntKind.i64.wrap (x6_2 - 1)) = ji35 := (i64_w _).trans hji35
           by_cases c36 : 0 ≤ (ji35)
           ·rw [if_pos c36] at H
            have c36b0 : decide (0 ≤ (ji35)) = true := decide_eq_true c36
            clear c36
            by_cases c37 : (ji35) < (t969.length : Int)
            ·rw [if_pos c37] at H
             have c37b0 : decide ((ji35) < (t969.length : Int)) = true := decide_eq_true c37
             clear c37
             by_cases c38 : (rd t969 x6_2) ≤ (rd t969 (ji35))
             ·rw [if_pos c38] at H
              have c38b0 : decide ((rd t969 x6_2) ≤ (rd t969 (ji35))) = true := decide_eq_true c38
              clear c38
              exact absurd ((Option.some.inj H).trans HLAW.out) (by decide)
             ·rw [if_neg c38] at H
              have c38b0 : decide ((rd t969 x6_2) ≤ (rd t969 (ji35))) = false := decide_eq_false c38
              clear c38
              by_cases c39 : x6_2 < (t972.length : Int)
              ·rw [if_pos c39] at H
               have c39b0 : decide (x6_2 < (t972.length : Int)) = true := decide_eq_true c39
               clear c39
               by_cases c40 : (ji35) < (t972.length : Int)
               ·rw [if_pos c40] at H
                have c40b0 : decide ((ji35) < (t972.length : Int)) = true := decide_eq_true c40
                clear c40
                by_cases c41 : (rd t972 x6_2) ≤ (rd t972 (ji35))
                ·rw [if_pos c41] at H
                 have c41b0 : decide ((rd t972 x6_2) ≤ (rd t972 (ji35))) = true := decide_eq_true c41
                 clear c41
                 exact absurd ((Option.some.inj H).trans HLAW.out) (by decide)
                ·rw [if_neg c41] at H
                 have c41b0 : decide ((rd t972 x6_2) ≤ (rd t972 (ji35))) = false := decide_eq_false c41
                 clear c41
                 by_cases c42 : 0 ≤ (rd t969 x6_2)
                 ·rw [if_pos c42] at H
                  have c42b0 : decide (0 ≤ (rd t969 x6_2)) = true := decide_eq_true c42
                  clear c42
                  by_cases c43 : (rd t969 x6_2) < (t962.length : Int)
                  ·rw [if_pos c43] at H
                   have c43b0 : decide ((rd t969 x6_2) < (t962.length : Int)) = true := decide_eq_true c43
                   clear c43
                   by_cases c44 : 0 ≤ (rd t972 x6_2)
                   ·rw [if_pos c44] at H
                    have c44b0 : decide (0 ≤ (rd t972 x6_2)) = true := decide_eq_true c44
                    clear c44
                    by_cases c45 : (rd t972 x6_2) < (t963.length : Int)
                    ·rw [if_pos c45] at H
                     have c45b0 : decide ((rd t972 x6_2) < (t963.length : Int)) = true := decide_eq_true c45
                     clear c45
                     by_cases c46 : (rdOf ByteArray.empty t962 (rd t969 x6_2)).toList = (rdOf ByteArray.empty t963 (rd t972 x6_2)).toList
                     ·rw [if_pos c46] at H
                      have c46b0 : ((rdOf ByteArray.empty t962 (rd t969 x6_2)).toList == (rdOf ByteArray.empty t963 (rd t972 x6_2)).toList) = true := beq_iff_eq.mpr c46
                      have c46b1 : ((rdOf ByteArray.empty t962 (rd t969 x6_2)).toList != (rdOf ByteArray.empty t963 (rd t972 x6_2)).toList) = false := bne_eq_false_iff_eq.mpr c46
                      clear c46
                      have H' := Aside0.mk H
                      clear H
                      have hcz47_0 : wr.cell? ⟨gb975, 0, none⟩ = some (.int .i64 t968) := (blk_cell BK975.out 0).trans rfl
                      have hcz47_1 : wr.cell? ⟨gb975, 1, none⟩ = some (.slice Ao14 t969.length co14) := (blk_cell BK975.out 1).trans rfl
                      have hcz47_2 : wr.cell? ⟨gb975, 2, none⟩ = some (.slice Ao15 t972.length co15) := (blk_cell BK975.out 2).trans rfl
                      have hfz47_0 := blk_frozen BK975.out 0
                      have hfz47_1 := blk_frozen BK975.out 1
                      have hfz47_2 := blk_frozen BK975.out 2
                      try go_wp2
                      have n0_ := Aside0.mk (Kd.R_drew HO_3.out)
                      have n1_ := Aside0.mk (Kd.R_drew HO_4.out)
                      have n2_ := Aside0.mk (Kd.R_drew HO_976001.out)
                      have n3_ := Aside0.mk (Kd.R_drew HO_976002.out)
                      have n4_ := Aside0.mk (blk_drew BK975.out)
                      have n5_ := Aside0.mk (below_drew1 HB.out)
                      clear HO_3
                      clear HO_4
                      clear HO_976001
                      clear HO_976002
                      clear BK975
                      clear HB
                      have HO_3 := n0_
                      have HO_4 := n1_
                      have HO_976001 := n2_
                      have HO_976002 := n3_
                      have BK975 := n4_
                      have HB := n5_
                      clear n0_ n1_ n2_ n3_ n4_ n5_
                      have p989 : 0 ≤ (x6_2 : Int) := of_decide_eq_true (by first | (with_reducible assumption) | assumption)
                      have q989 : x6_2 < (t969.length : Int) := of_decide_eq_true (by first | (with_reducible assumption) | assumption)
                      obtain ⟨ad989, e989, hx989_0⟩ := Kd.at_int (Kd.R_reads' HO_976001.out).2.2 x6_2 p989 q989
                      cases e989
                      replace p989 := eq_true p989
                      replace q989 := eq_true q989
                      have p990 : 0 ≤ ((ji35) : Int) := of_decide_eq_true (by first | (with_reducible assumption) | assumption)
                      have q990 : (ji35) < (t969.length : Int) := of_decide_eq_true (by first | (with_reducible assumption) | assumption)
                      obtain ⟨ad990, e990, hx990_0⟩ := Kd.at_int (Kd.R_reads' HO_976001.out).2.2 (ji35) p990 q990
                      obtain rfl : ad989 = ad990 := (by injection e990)
                      replace p990 := eq_true p990
                      replace q990 := eq_true q990
                      have p991 : 0 ≤ (x6_2 : Int) := of_decide_eq_true (by first | (with_reducible assumption) | assumption)
                      have q991 : x6_2 < (t972.length : Int) := of_decide_eq_true (by first | (with_reducible assumption) | assumption)
                      obtain ⟨ad991, e991, hx991_0⟩ := Kd.at_int (Kd.R_reads' HO_976002.out).2.2 x6_2 p991 q991
                      cases e991
                      replace p991 := eq_true p991
                      replace q991 := eq_true q991
                      have p992 : 0 ≤ ((ji35) : Int) := of_decide_eq_true (by first | (with_reducible assumption) | assumption)
                      have q992 : (ji35) < (t972.length : Int) := of_decide_eq_true (by first | (with_reducible assumption) | assumption)
                      obtain ⟨ad992, e992, hx992_0⟩ := Kd.at_int (Kd.R_reads' HO_976002.out).2.2 (ji35) p992 q992
                      obtain rfl : ad991 = ad992 := (by injection e992)
                      replace p992 := eq_true p992
                      replace q992 := eq_true q992
                      have p993 : 0 ≤ (x6_2 : Int) := of_decide_eq_true (by first | (with_reducible assumption) | assumption)
                      have q993 : x6_2 < (t969.length : Int) := of_decide_eq_true (by first | (with_reducible assumption) | assumption)
                      obtain ⟨ad993, e993, hx993_0⟩ := Kd.at_int (Kd.R_reads' HO_976001.out).2.2 x6_2 p993 q993
                      obtain rfl : ad989 = ad993 := (by injection e993)
                      replace p993 := eq_true p993
                      replace q993 := eq_true q993
                      have p994 : 0 ≤ ((rd t969 x6_2) : Int) := of_decide_eq_true (by first | (with_reducible assumption) | assumption)
                      have q994 : (rd t969 x6_2) < (t962.length : Int) := of_decide_eq_true (by first | (with_reducible assumption) | assumption)
                      obtain ⟨ad994, e994, hx994_0⟩ := Kd.at_string (Kd.R_reads' HO_3.out).2.2 (rd t969 x6_2) p994 q994
                      cases e994
                      replace p994 := eq_true p994
                      replace q994 := eq_true q994
                      have p995 : 0 ≤ (x6_2 : Int) := of_decide_eq_true (by first | (with_reducible assumption) | assumption)
                      have q995 : x6_2 < (t972.length : Int) := of_decide_eq_true (by first | (with_reducible assumption) | assumption)
                      obtain ⟨ad995, e995, hx995_0⟩ := Kd.at_int (Kd.R_reads' HO_976002.out).2.2 x6_2 p995 q995
                      obtain rfl : ad991 = ad995 := (by injection e995)
                      replace p995 := eq_true p995
                      replace q995 := eq_true q995
                      have p996 : 0 ≤ ((rd t972 x6_2) : Int) := of_decide_eq_true (by first | (with_reducible assumption) | assumption)
                      have q996 : (rd t972 x6_2) < (t963.length : Int) := of_decide_eq_true (by first | (with_reducible assumption) | assumption)
                      obtain ⟨ad996, e996, hx996_0⟩ := Kd.at_string (Kd.R_reads' HO_4.out).2.2 (rd t972 x6_2) p996 q996
                      cases e996
                      replace p996 := eq_true p996
                      replace q996 := eq_true q996
                      refine start_ (n := 49) (S := fun w' => w'.cell? ⟨gb975, 0, none⟩ = some (.int .i64 t968) ∧ w'.cell? ⟨gb975, 1, none⟩ = some (.slice (some ad989) t969.length co14) ∧ w'.cell? ⟨gb975, 2, none⟩ = some (.slice (some ad991) t972.length co15) ∧ w'.cell? (ad989.add (x6_2).toNat) = some (.int .i64 (rd t969 x6_2)) ∧ w'.cell? (ad989.add ((ji35)).toNat) = some (.int .i64 (rd t969 (ji35))) ∧ w'.cell? (ad991.add (x6_2).toNat) = some (.int .i64 (rd t972 x6_2)) ∧ w'.cell? (ad991.add ((ji35)).toNat) = some (.int .i64 (rd t972 (ji35))) ∧ w'.cell? (ad989.add (x6_2).toNat) = some (.int .i64 (rd t969 x6_2)) ∧ w'.cell? (ad994.add ((rd t969 x6_2)).toNat) = some (.string (rdOf ByteArray.empty t962 (rd t969 x6_2))) ∧ w'.cell? (ad991.add (x6_2).toNat) = some (.int .i64 (rd t972 x6_2)) ∧ w'.cell? (ad996.add ((rd t972 x6_2)).toNat) = some (.string (rdOf ByteArray.empty t963 (rd t972 x6_2)))) (ds := []) #[false, false, false, false, false, false, false, false, false, false, false, false, false, false, false, false, false, false, false, false, false, false, false, false, false, false, false, false, false, false, false, false, false, false, false, false, false, false, false, false, false, false, false, false, false, false, false, false, false] (by kernel_rfl) rfl rfl ⟨(blk_cell BK975.out 0).trans rfl, (blk_cell BK975.out 1).trans rfl, (blk_cell BK975.out 2).trans rfl, hx989_0, hx990_0, hx991_0, hx992_0, hx993_0, hx994_0, hx995_0, hx996_0⟩ (fun hHeld => ?_); refine with_tabW laws_FnMatches.tab12 laws_FnMatches.bits12 (fun HT_ HW_ => ?_)
                      generalize wr.drew = w48 at HO_3 HO_4 HO_976001 HO_976002 BK975 HB hx989_0 hx990_0 hx991_0 hx992_0 hx993_0 hx994_0 hx995_0 hx996_0 hHeld ⊢
                      refine pure_ (i := 0) (N := some 60) (v := ?_) (a' := ?_) #[true, false, false, false, false, false, false, false, false, false, false, false, false, false, false, false, false, false, false, false, false, false, false, false, false, false, false, false, false, false, false, false, false, false, false, false, false, false, false, false, false, false, false, false, false, false, false, false, false] rfl rfl (any_of HT_.out (by kernel_rfl)) (fun _ _ _ h => h) (Or.inl ⟨by rfl, ?_⟩) ?_ ?_
                      rotate_left
                      ·intro w'
                       go_simp
                       first | with_reducible rfl | (simp only [hfd32_0, hfd32_1, hfd44_0, hfd44_1, hfd44_2]; with_reducible rfl)
                      rotate_left
                      ·simp only [Act.put, List.setIfInBounds_toArray, List.set_cons_zero, List.set_cons_succ, i64_w, i32_w]
                       rfl
                      refine pure_ (i := 1) (N := some 61) (v := ?_) (a' := ?_) #[true, true, false, false, false, false, false, false, false, false, false, false, false, false, false, false, false, false, false, false, false, false, false, false, false, false, false, false, false, false, false, false, false, false, false, false, false, false, false, false, false, false, false, false, false, false, false, false, false] rfl rfl (any_of HT_.out (by kernel_rfl)) (fun _ _ _ h => h) (Or.inl ⟨by rfl, ?_⟩) ?_ ?_
                      rotate_left
                      ·intro w'
                       go_simp
                       first | with_reducible rfl | (simp only [hfd32_0, hfd32_1, hfd44_0, hfd44_1, hfd44_2]; with_reducible rfl)
                      rotate_left
                      ·simp only [Act.put, List.setIfInBounds_toArray, List.set_cons_zero, List.set_cons_succ, i64_w, i32_w]
                       rfl
                      refine pure_ (i := 2) (N := some 62) (v := ?_) (a' := ?_) #[true, true, true, false, false, false, false, false, false, false, false, false, false, false, false, false, false, false, false, false, false, false, false, false, false, false, false, false, false, false, false, false, false, false, false, false, false, false, false, false, false, false, false, false, false, false, false, false, false] rfl rfl (any_of HT_.out (by kernel_rfl)) (fun _ _ _ h => h) (Or.inl ⟨by rfl, ?_⟩) ?_ ?_
                      rotate_left
                      ·intro w'
                       go_simp
                       first | with_reducible rfl | (simp only [hfd32_0, hfd32_1, hfd44_0, hfd44_1, hfd44_2]; with_reducible rfl)
                      rotate_left
                      ·simp only [Act.put, List.setIfInBounds_toArray, List.set_cons_zero, List.set_cons_succ, i64_w, i32_w]
                       rfl
                      refine pure_ (i := 3) (N := some 63) (v := ?_) (a' := ?_) #[true, true, true, true, false, false, false, false, false, false, false, false, false, false, false, false, false, false, false, false, false, false, false, false, false, false, false, false, false, false, false, false, false, false, false, false, false, false, false, false, false, false, false, false, false, false, false, false, false] rfl rfl (any_of HT_.out (by kernel_rfl)) (fun _ _ _ h => h) (Or.inl ⟨by rfl, ?_⟩) ?_ ?_
                      rotate_left
                      ·intro w'
                       go_simp
                       first | with_reducible rfl | (simp only [hfd32_0, hfd32_1, hfd44_0, hfd44_1, hfd44_2]; with_reducible rfl)
                      rotate_left
                      ·simp only [Act.put, List.setIfInBounds_toArray, List.set_cons_zero, List.set_cons_succ, i64_w, i32_w]
                       rfl
                      refine pure_ (i := 5) (N := some 65) (v := ?_) (a' := ?_) #[true, true, true, true, false, true, false, false, false, false, false, false, false, false, false, false, false, false, false, false, false, false, false, false, false, false, false, false, false, false, false, false, false, false, false, false, false, false, false, false, false, false, false, false, false, false, false, false, false] rfl rfl (any_of HT_.out (by kernel_rfl)) (fun _ _ _ h => h) (Or.inl ⟨by rfl, ?_⟩) ?_ ?_
                      rotate_left
                      ·intro w'
                       go_simp
                       first | with_reducible rfl | (simp only [hfd32_0, hfd32_1, hfd44_0, hfd44_1, hfd44_2]; with_reducible rfl)
                      rotate_left
                      ·simp only [Act.put, List.setIfInBounds_toArray, List.set_cons_zero, List.set_cons_succ, i64_w, i32_w]
                       rfl
                      refine pure_ (i := 8) (N := some 68) (v := ?_) (a' := ?_) #[true, true, true, true, false, true, false, false, true, false, false, false, false, false, false, false, false, false, false, false, false, false, false, false, false, false, false, false, false, false, false, false, false, false, false, false, false, false, false, false, false, false, false, false, false, false, false, false, false] rfl rfl (any_of HT_.out (by kernel_rfl)) (fun _ _ _ h => h) (Or.inl ⟨by rfl, ?_⟩) ?_ ?_
                      rotate_left
                      ·intro w'
                       go_simp
                       first | with_reducible rfl | (simp only [hfd32_0, hfd32_1, hfd44_0, hfd44_1, hfd44_2]; with_reducible rfl)
                      rotate_left
                      ·simp only [Act.put, List.setIfInBounds_toArray, List.set_cons_zero, List.set_cons_succ, i64_w, i32_w]
                       rfl
                      refine pure_ (i := 10) (N := some 70) (v := ?_) (a' := ?_) #[true, true, true, true, false, true, false, false, true, false, true, false, false, false, false, false, false, false, false, false, false, false, false, false, false, false, false, false, false, false, false, false, false, false, false, false, false, false, false, false, false, false, false, false, false, false, false, false, false] rfl rfl (any_of HT_.out (by kernel_rfl)) (fun _ _ _ h => h) (Or.inl ⟨by rfl, ?_⟩) ?_ ?_
                      rotate_left
                      ·intro w'
                       go_simp
                       first | with_reducible rfl | (simp only [hfd32_0, hfd32_1, hfd44_0, hfd44_1, hfd44_2]; with_reducible rfl)
                      rotate_left
                      ·simp only [Act.put, List.setIfInBounds_toArray, List.set_cons_zero, List.set_cons_succ, i64_w, i32_w]
                       rfl
                      refine pure_ (i := 11) (N := some 71) (v := ?_) (a' := ?_) #[true, true, true, true, false, true, false, false, true, false, true, true, false, false, false, false, false, false, false, false, false, false, false, false, false, false, false, false, false, false, false, false, false, false, false, false, false, false, false, false, false, false, false, false, false, false, false, false, false] rfl rfl (any_of HT_.out (by kernel_rfl)) (fun _ _ _ h => h) (Or.inl ⟨by rfl, ?_⟩) ?_ ?_
                      rotate_left
                      ·intro w'
                       go_simp
                       first | with_reducible rfl | (simp only [hfd32_0, hfd32_1, hfd44_0, hfd44_1, hfd44_2]; with_reducible rfl)
                      rotate_left
                      ·simp only [Act.put, List.setIfInBounds_toArray, List.set_cons_zero, List.set_cons_succ, i64_w, i32_w]
                       rfl
                      refine take_ (i := 4) (N := some 64) (v := ?_) (a' := ?_) #[true, true, true, true, true, true, false, false, true, false, true, true, false, false, false, false, false, false, false, false, false, false, false, false, false, false, false, false, false, false, false, false, false, false, false, false, false, false, false, false, false, false, false, false, false, false, false, false, false] rfl rfl (take_ofW HT_.out HW_.out (by kernel_rfl)) (fun _ _ _ h => h) (Or.inl ⟨by rfl, ?_⟩) hHeld ?_ ?_
                      rotate_left
                      ·rintro w' ⟨s0, s1, s2, s3, s4, s5, s6, s7, s8, s9, s10⟩
                       go_simp
                       first | with_reducible rfl | (simp only [hfd32_0, hfd32_1, hfd44_0, hfd44_1, hfd44_2]; with_reducible rfl)
                      rotate_left
                      ·simp only [Act.put, List.setIfInBounds_toArray, List.set_cons_zero, List.set_cons_succ, i64_w, i32_w]
                       rfl
                      refine pure_ (i := 6) (N := some 66) (v := ?_) (a' := ?_) #[true, true, true, true, true, true, true, false, true, false, true, true, false, false, false, false, false, false, false, false, false, false, false, false, false, false, false, false, false, false, false, false, false, false, false, false, false, false, false, false, false, false, false, false, false, false, false, false, false] rfl rfl (any_of HT_.out (by kernel_rfl)) (fun _ _ _ h => h) (Or.inl ⟨by rfl, ?_⟩) ?_ ?_
                      rotate_left
                      ·intro w'
                       go_simp
                       first | with_reducible rfl | (simp only [hfd32_0, hfd32_1, hfd44_0, hfd44_1, hfd44_2]; with_reducible rfl)
                      rotate_left
                      ·simp only [Act.put, List.setIfInBounds_toArray, List.set_cons_zero, List.set_cons_succ, i64_w, i32_w]
                       rfl
                      refine take_ (i := 7) (N := some 67) (v := ?_) (a' := ?_) #[true, true, true, true, true, true, true, true, true, false, true, true, false, false, false, false, false, false, false, false, false, false, false, false, false, false, false, false, false, false, false, false, false, false, false, false, false, false, false, false, false, false, false, false, false, false, false, false, false] rfl rfl (take_ofW HT_.out HW_.out (by kernel_rfl)) (fun _ _ _ h => h) (Or.inl ⟨by rfl, ?_⟩) hHeld ?_ ?_
                      rotate_left
                      ·rintro w' ⟨s0, s1, s2, s3, s4, s5, s6, s7, s8, s9, s10⟩
                       go_simp
                       first | with_reducible rfl | (simp only [hfd32_0, hfd32_1, hfd44_0, hfd44_1, hfd44_2]; with_reducible rfl)
                      rotate_left
                      ·simp only [Act.put, List.setIfInBounds_toArray, List.set_cons_zero, List.set_cons_succ, i64_w, i32_w]
                       rfl
                      refine take_ (i := 9) (N := some 69) (v := ?_) (a' := ?_) #[true, true, true, true, true, true, true, true, true, true, true, true, false, false, false, false, false, false, false, false, false, false, false, false, false, false, false, false, false, false, false, false, false, false, false, false, false, false, false, false, false, false, false, false, false, false, false, false, false] rfl rfl (take_ofW HT_.out HW_.out (by kernel_rfl)) (fun _ _ _ h => h) (Or.inl ⟨by rfl, ?_⟩) hHeld ?_ ?_
                      rotate_left
                      ·rintro w' ⟨s0, s1, s2, s3, s4, s5, s6, s7, s8, s9, s10⟩
                       go_simp
                       first | with_reducible rfl | (simp only [hfd32_0, hfd32_1, hfd44_0, hfd44_1, hfd44_2]; with_reducible rfl)
                      rotate_left
                      ·simp only [Act.put, List.setIfInBounds_toArray, List.set_cons_zero, List.set_cons_succ, i64_w, i32_w]
                       rfl
                      refine pure_ (i := 12) (N := some 72) (v := ?_) (a' := ?_) #[true, true, true, true, true, true, true, true, true, true, true, true, true, false, false, false, false, false, false, false, false, false, false, false, false, false, false, false, false, false, false, false, false, false, false, false, false, false, false, false, false, false, false, false, false, false, false, false, false] rfl rfl (any_of HT_.out (by kernel_rfl)) (fun _ _ _ h => h) (Or.inl ⟨by rfl, ?_⟩) ?_ ?_
                      rotate_left
                      ·intro w'
                       go_simp
                       first | with_reducible rfl | (simp only [hfd32_0, hfd32_1, hfd44_0, hfd44_1, hfd44_2]; with_reducible rfl)
                      rotate_left
                      ·simp only [Act.put, List.setIfInBounds_toArray, List.set_cons_zero, List.set_cons_succ, i64_w, i32_w]
                       rfl
                      refine take_ (i := 13) (N := some 73) (v := ?_) (a' := ?_) #[true, true, true, true, true, true, true, true, true, true, true, true, true, true, false, false, false, false, false, false, false, false, false, false, false, false, false, false, false, false, false, false, false, false, false, false, false, false, false, false, false, false, false, false, false, false, false, false, false] rfl rfl (take_ofW HT_.out HW_.out (by kernel_rfl)) (fun _ _ _ h => h) (Or.inl ⟨by rfl, ?_⟩) hHeld ?_ ?_
                      rotate_left
                      ·rintro w' ⟨s0, s1, s2, s3, s4, s5, s6, s7, s8, s9, s10⟩
                       go_simp
                       first | with_reducible rfl | (simp only [hfd32_0, hfd32_1, hfd44_0, hfd44_1, hfd44_2]; with_reducible rfl)
                      rotate_left
                      ·simp only [Act.put, List.setIfInBounds_toArray, List.set_cons_zero, List.set_cons_succ, i64_w, i32_w]
                       rfl
                      refine pure_ (i := 14) (N := some 74) (v := ?_) (a' := ?_) #[true, true, true, true, true, true, true, true, true, true, true, true, true, true, true, false, false, false, false, false, false, false, false, false, false, false, false, false, false, false, false, false, false, false, false, false, false, false, false, false, false, false, false, false, false, false, false, false, false] rfl rfl (any_of HT_.out (by kernel_rfl)) (fun _ _ _ h => h) (Or.inl ⟨by rfl, ?_⟩) ?_ ?_
                      rotate_left
                      ·intro w'
                       go_simp
                       first | with_reducible rfl | (simp only [hfd32_0, hfd32_1, hfd44_0, hfd44_1, hfd44_2]; with_reducible rfl)
                      rotate_left
                      ·simp only [Act.put, List.setIfInBounds_toArray, List.set_cons_zero, List.set_cons_succ, i64_w, i32_w]
                       rfl
                      refine pure_ (i := 15) (N := some 75) (v := ?_) (a' := ?_) #[true, true, true, true, true, true, true, true, true, true, true, true, true, true, true, true, false, false, false, false, false, false, false, false, false, false, false, false, false, false, false, false, false, false, false, false, false, false, false, false, false, false, false, false, false, false, false, false, false] rfl rfl (any_of HT_.out (by kernel_rfl)) (fun _ _ _ h => h) (Or.inl ⟨by rfl, ?_⟩) ?_ ?_
                      rotate_left
                      ·intro w'
                       go_simp
                       first | with_reducible rfl | (simp only [hfd32_0, hfd32_1, hfd44_0, hfd44_1, hfd44_2]; with_reducible rfl)
                      rotate_left
                      ·simp only [Act.put, List.setIfInBounds_toArray, List.set_cons_zero, List.set_cons_succ, i64_w, i32_w]
                       rfl
                      refine pure_ (i := 16) (N := some 76) (v := ?_) (a' := ?_) #[true, true, true, true, true, true, true, true, true, true, true, true, true, true, true, true, true, false, false, false, false, false, false, false, false, false, false, false, false, false, false, false, false, false, false, false, false, false, false, false, false, false, false, false, false, false, false, false, false] rfl rfl (any_of HT_.out (by kernel_rfl)) (fun _ _ _ h => h) (Or.inl ⟨by rfl, ?_⟩) ?_ ?_
                      rotate_left
                      ·intro w'
                       go_simp
                       first | with_reducible rfl | (simp only [hfd32_0, hfd32_1, hfd44_0, hfd44_1, hfd44_2]; with_reducible rfl)
                      rotate_left
                      ·simp only [Act.put, List.setIfInBounds_toArray, List.set_cons_zero, List.set_cons_succ, i64_w, i32_w]
                       rfl
                      refine pure_ (i := 18) (N := some 78) (v := ?_) (a' := ?_) #[true, true, true, true, true, true, true, true, true, true, true, true, true, true, true, true, true, false, true, false, false, false, false, false, false, false, false, false, false, false, false, false, false, false, false, false, false, false, false, false, false, false, false, false, false, false, false, false, false] rfl rfl (any_of HT_.out (by kernel_rfl)) (fun _ _ _ h => h) (Or.inl ⟨by rfl, ?_⟩) ?_ ?_
                      rotate_left
                      ·intro w'
                       go_simp
                       first | with_reducible rfl | (simp only [hfd32_0, hfd32_1, hfd44_0, hfd44_1, hfd44_2]; with_reducible rfl)
                      rotate_left
                      ·simp only [Act.put, List.setIfInBounds_toArray, List.set_cons_zero, List.set_cons_succ, i64_w, i32_w]
                       rfl
                      refine pure_ (i := 21) (N := some 81) (v := ?_) (a' := ?_) #[true, true, true, true, true, true, true, true, true, true, true, true, true, true, true, true, true, false, true, false, false, true, false, false, false, false, false, false, false, false, false, false, false, false, false, false, false, false, false, false, false, false, false, false, false, false, false, false, false] rfl rfl (any_of HT_.out (by kernel_rfl)) (fun _ _ _ h => h) (Or.inl ⟨by rfl, ?_⟩) ?_ ?_
                      rotate_left
                      ·intro w'
                       go_simp
                       first | with_reducible rfl | (simp only [hfd32_0, hfd32_1, hfd44_0, hfd44_1, hfd44_2]; with_reducible rfl)
                      rotate_left
                      ·simp only [Act.put, List.setIfInBounds_toArray, List.set_cons_zero, List.set_cons_succ, i64_w, i32_w]
                       rfl
                      refine pure_ (i := 23) (N := some 83) (v := ?_) (a' := ?_) #[true, true, true, true, true, true, true, true, true, true, true, true, true, true, true, true, true, false, true, false, false, true, false, true, false, false, false, false, false, false, false, false, false, false, false, false, false, false, false, false, false, false, false, false, false, false, false, false, false] rfl rfl (any_of HT_.out (by kernel_rfl)) (fun _ _ _ h => h) (Or.inl ⟨by rfl, ?_⟩) ?_ ?_
                      rotate_left
                      ·intro w'
                       go_simp
                       first | with_reducible rfl | (simp only [hfd32_0, hfd32_1, hfd44_0, hfd44_1, hfd44_2]; with_reducible rfl)
                      rotate_left
                      ·simp only [Act.put, List.setIfInBounds_toArray, List.set_cons_zero, List.set_cons_succ, i64_w, i32_w]
                       rfl
                      refine pure_ (i := 24) (N := some 84) (v := ?_) (a' := ?_) #[true, true, true, true, true, true, true, true, true, true, true, true, true, true, true, true, true, false, true, false, false, true, false, true, true, false, false, false, false, false, false, false, false, false, false, false, false, false, false, false, false, false, false, false, false, false, false, false, false] rfl rfl (any_of HT_.out (by kernel_rfl)) (fun _ _ _ h => h) (Or.inl ⟨by rfl, ?_⟩) ?_ ?_
                      rotate_left
                      ·intro w'
                       go_simp
                       first | with_reducible rfl | (simp only [hfd32_0, hfd32_1, hfd44_0, hfd44_1, hfd44_2]; with_reducible rfl)
                      rotate_left
                      ·simp only [Act.put, List.setIfInBounds_toArray, List.set_cons_zero, List.set_cons_succ, i64_w, i32_w]
                       rfl
                      refine take_ (i := 17) (N := some 77) (v := ?_) (a' := ?_) #[true, true, true, true, true, true, true, true, true, true, true, true, true, true, true, true, true, true, true, false, false, true, false, true, true, false, false, false, false, false, false, false, false, false, false, false, false, false, false, false, false, false, false, false, false, false, false, false, false] rfl rfl (take_ofW HT_.out HW_.out (by kernel_rfl)) (fun _ _ _ h => h) (Or.inl ⟨by rfl, ?_⟩) hHeld ?_ ?_
                      rotate_left
                      ·rintro w' ⟨s0, s1, s2, s3, s4, s5, s6, s7, s8, s9, s10⟩
                       go_simp
                       first | with_reducible rfl | (simp only [hfd32_0, hfd32_1, hfd44_0, hfd44_1, hfd44_2]; with_reducible rfl)
                      rotate_left
                      ·simp only [Act.put, List.setIfInBounds_toArray, List.set_cons_zero, List.set_cons_succ, i64_w, i32_w]
                       rfl
                      refine pure_ (i := 19) (N := some 79) (v := ?_) (a' := ?_) #[true, true, true, true, true, true, true, true, true, true, true, true, true, true, true, true, true, true, true, true, false, true, false, true, true, false, false, false, false, false, false, false, false, false, false, false, false, false, false, false, false, false, false, false, false, false, false, false, false] rfl rfl (any_of HT_.out (by kernel_rfl)) (fun _ _ _ h => h) (Or.inl ⟨by rfl, ?_⟩) ?_ ?_
                      rotate_left
                      ·intro w'
                       go_simp
                       first | with_reducible rfl | (simp only [hfd32_0, hfd32_1, hfd44_0, hfd44_1, hfd44_2]; with_reducible rfl)
                      rotate_left
                      ·simp only [Act.put, List.setIfInBounds_toArray, List.set_cons_zero, List.set_cons_succ, i64_w, i32_w]
                       rfl
                      refine take_ (i := 20) (N := some 80) (v := ?_) (a' := ?_) #[true, true, true, true, true, true, true, true, true, true, true, true, true, true, true, true, true, true, true, true, true, true, false, true, true, false, false, false, false, false, false, false, false, false, false, false, false, false, false, false, false, false, false, false, false, false, false, false, false] rfl rfl (take_ofW HT_.out HW_.out (by kernel_rfl)) (fun _ _ _ h => h) (Or.inl ⟨by rfl, ?_⟩) hHeld ?_ ?_
                      rotate_left
                      ·rintro w' ⟨s0, s1, s2, s3, s4, s5, s6, s7, s8, s9, s10⟩
                       go_simp
                       first | with_reducible rfl | (simp only [hfd32_0, hfd32_1, hfd44_0, hfd44_1, hfd44_2]; with_reducible rfl)
                      rotate_left
                      ·simp only [Act.put, List.setIfInBounds_toArray, List.set_cons_zero, List.set_cons_succ, i64_w, i32_w]
                       rfl
                      refine take_ (i := 22) (N := some 82) (v := ?_) (a' := ?_) #[true, true, true, true, true, true, true, true, true, true, true, true, true, true, true, true, true, true, true, true, true, true, true, true, true, false, false, false, false, false, false, false, false, false, false, false, false, false, false, false, false, false, false, false, false, false, false, false, false] rfl rfl (take_ofW HT_.out HW_.out (by kernel_rfl)) (fun _ _ _ h => h) (Or.inl ⟨by rfl, ?_⟩) hHeld ?_ ?_
                      rotate_left
                      ·rintro w' ⟨s0, s1, s2, s3, s4, s5, s6, s7, s8, s9, s10⟩
                       go_simp
                       first | with_reducible rfl | (simp only [hfd32_0, hfd32_1, hfd44_0, hfd44_1, hfd44_2]; with_reducible rfl)
                      rotate_left
                      ·simp only [Act.put, List.setIfInBounds_toArray, List.set_cons_zero, List.set_cons_succ, i64_w, i32_w]
                       rfl
                      refine pure_ (i := 25) (N := some 85) (v := ?_) (a' := ?_) #[true, true, true, true, true, true, true, true, true, true, true, true, true, true, true, true, true, true, true, true, true, true, true, true, true, true, false, false, false, false, false, false, false, false, false, false, false, false, false, false, false, false, false, false, false, false, false, false, false] rfl rfl (any_of HT_.out (by kernel_rfl)) (fun _ _ _ h => h) (Or.inl ⟨by rfl, ?_⟩) ?_ ?_
                      rotate_left
                      ·intro w'
                       go_simp
                       first | with_reducible rfl | (simp only [hfd32_0, hfd32_1, hfd44_0, hfd44_1, hfd44_2]; with_reducible rfl)
                      rotate_left
                      ·simp only [Act.put, List.setIfInBounds_toArray, List.set_cons_zero, List.set_cons_succ, i64_w, i32_w]
                       rfl
                      refine take_ (i := 26) (N := some 86) (v := ?_) (a' := ?_) #[true, true, true, true, true, true, true, true, true, true, true, true, true, true, true, true, true, true, true, true, true, true, true, true, true, true, true, false, false, false, false, false, false, false, false, false, false, false, false, false, false, false, false, false, false, false, false, false, false] rfl rfl (take_ofW HT_.out HW_.out (by kernel_rfl)) (fun _ _ _ h => h) (Or.inl ⟨by rfl, ?_⟩) hHeld ?_ ?_
                      rotate_left
                      ·rintro w' ⟨s0, s1, s2, s3, s4, s5, s6, s7, s8, s9, s10⟩
                       go_simp
                       first | with_reducible rfl | (simp only [hfd32_0, hfd32_1, hfd44_0, hfd44_1, hfd44_2]; with_reducible rfl)
                      rotate_left
                      ·simp only [Act.put, List.setIfInBounds_toArray, List.set_cons_zero, List.set_cons_succ, i64_w, i32_w]
                       rfl
                      refine pure_ (i := 27) (N := some 87) (v := ?_) (a' := ?_) #[true, true, true, true, true, true, true, true, true, true, true, true, true, true, true, true, true, true, true, true, true, true, true, true, true, true, true, true, false, false, false, false, false, false, false, false, false, false, false, false, false, false, false, false, false, false, false, false, false] rfl rfl (any_of HT_.out (by kernel_rfl)) (fun _ _ _ h => h) (Or.inl ⟨by rfl, ?_⟩) ?_ ?_
                      rotate_left
                      ·intro w'
                       go_simp
                       first | with_reducible rfl | (simp only [hfd32_0, hfd32_1, hfd44_0, hfd44_1, hfd44_2]; with_reducible rfl)
                      rotate_left
                      ·simp only [Act.put, List.setIfInBounds_toArray, List.set_cons_zero, List.set_cons_succ, i64_w, i32_w]
                       rfl
                      refine pure_ (i := 28) (N := some 88) (v := ?_) (a' := ?_) #[true, true, true, true, true, true, true, true, true, true, true, true, true, true, true, true, true, true, true, true, true, true, true, true, true, true, true, true, true, false, false, false, false, false, false, false, false, false, false, false, false, false, false, false, false, false, false, false, false] rfl rfl (any_of HT_.out (by kernel_rfl)) (fun _ _ _ h => h) (Or.inl ⟨by rfl, ?_⟩) ?_ ?_
                      rotate_left
                      ·intro w'
                       go_simp
                       first | with_reducible rfl | (simp only [hfd32_0, hfd32_1, hfd44_0, hfd44_1, hfd44_2]; with_reducible rfl)
                      rotate_left
                      ·simp only [Act.put, List.setIfInBounds_toArray, List.set_cons_zero, List.set_cons_succ, i64_w, i32_w]
                       rfl
                      refine pure_ (i := 29) (N := some 89) (v := ?_) (a' := ?_) #[true, true, true, true, true, true, true, true, true, true, true, true, true, true, true, true, true, true, true, true, true, true, true, true, true, true, true, true, true, true, false, false, false, false, false, false, false, false, false, false, false, false, false, false, false, false, false, false, false] rfl rfl (any_of HT_.out (by kernel_rfl)) (fun _ _ _ h => h) (Or.inl ⟨by rfl, ?_⟩) ?_ ?_
                      rotate_left
                      ·intro w'
                       go_simp
                       first | with_reducible rfl | (simp only [hfd32_0, hfd32_1, hfd44_0, hfd44_1, hfd44_2]; with_reducible rfl)
                      rotate_left
                      ·simp only [Act.put, List.setIfInBounds_toArray, List.set_cons_zero, List.set_cons_succ, i64_w, i32_w]
                       rfl
                      refine pure_ (i := 30) (N := some 90) (v := ?_) (a' := ?_) #[true, true, true, true, true, true, true, true, true, true, true, true, true, true, true, true, true, true, true, true, true, true, true, true, true, true, true, true, true, true, true, false, false, false, false, false, false, false, false, false, false, false, false, false, false, false, false, false, false] rfl rfl (any_of HT_.out (by kernel_rfl)) (fun _ _ _ h => h) (Or.inl ⟨by rfl, ?_⟩) ?_ ?_
                      rotate_left
                      ·intro w'
                       go_simp
                       first | with_reducible rfl | (simp only [hfd32_0, hfd32_1, hfd44_0, hfd44_1, hfd44_2]; with_reducible rfl)
                      rotate_left
                      ·simp only [Act.put, List.setIfInBounds_toArray, List.set_cons_zero, List.set_cons_succ, i64_w, i32_w]
                       rfl
                      refine pure_ (i := 31) (N := some 91) (v := ?_) (a' := ?_) #[true, true, true, true, true, true, true, true, true, true, true, true, true, true, true, true, true, true, true, true, true, true, true, true, true, true, true, true, true, true, true, true, false, false, false, false, false, false, false, false, false, false, false, false, false, false, false, false, false] rfl rfl (any_of HT_.out (by kernel_rfl)) (fun _ _ _ h => h) (Or.inl ⟨by rfl, ?_⟩) ?_ ?_
                      rotate_left
                      ·intro w'
                       go_simp
                       first | with_reducible rfl | (simp only [hfd32_0, hfd32_1, hfd44_0, hfd44_1, hfd44_2]; with_reducible rfl)
                      rotate_left
                      ·simp only [Act.put, List.setIfInBounds_toArray, List.set_cons_zero, List.set_cons_succ, i64_w, i32_w]
                       rfl
                      refine pure_ (i := 32) (N := some 92) (v := ?_) (a' := ?_) #[true, true, true, true, true, true, true, true, true, true, true, true, true, true, true, true, true, true, true, true, true, true, true, true, true, true, true, true, true, true, true, true, true, false, false, false, false, false, false, false, false, false, false, false, false, false, false, false, false] rfl rfl (any_of HT_.out (by kernel_rfl)) (fun _ _ _ h => h) (Or.inl ⟨by rfl, ?_⟩) ?_ ?_
                      rotate_left
                      ·intro w'
                       go_simp
                       first | with_reducible rfl | (simp only [hfd32_0, hfd32_1, hfd44_0, hfd44_1, hfd44_2]; with_reducible rfl)
                      rotate_left
                      ·simp only [Act.put, List.setIfInBounds_toArray, List.set_cons_zero, List.set_cons_succ, i64_w, i32_w]
                       rfl
                      refine pure_ (i := 34) (N := some 94) (v := ?_) (a' := ?_) #[true, true, true, true, true, true, true, true, true, true, true, true, true, true, true, true, true, true, true, true, true, true, true, true, true, true, true, true, true, true, true, true, true, false, true, false, false, false, false, false, false, false, false, false, false, false, false, false, false] rfl rfl (any_of HT_.out (by kernel_rfl)) (fun _ _ _ h => h) (Or.inl ⟨by rfl, ?_⟩) ?_ ?_
                      rotate_left
                      ·intro w'
                       go_simp
                       first | with_reducible rfl | (simp only [hfd32_0, hfd32_1, hfd44_0, hfd44_1, hfd44_2]; with_reducible rfl)
                      rotate_left
                      ·simp only [Act.put, List.setIfInBounds_toArray, List.set_cons_zero, List.set_cons_succ, i64_w, i32_w]
                       rfl
                      refine pure_ (i := 39) (N := some 99) (v := ?_) (a' := ?_) #[true, true, true, true, true, true, true, true, true, true, true, true, true, true, true, true, true, true, true, true, true, true, true, true, true, true, true, true, true, true, true, true, true, false, true, false, false, false, false, true, false, false, false, false, false, false, false, false, false] rfl rfl (any_of HT_.out (by kernel_rfl)) (fun _ _ _ h => h) (Or.inl ⟨by rfl, ?_⟩) ?_ ?_
                      rotate_left
                      ·intro w'
                       go_simp
                       first | with_reducible rfl | (simp only [hfd32_0, hfd32_1, hfd44_0, hfd44_1, hfd44_2]; with_reducible rfl)
                      rotate_left
                      ·simp only [Act.put, List.setIfInBounds_toArray, List.set_cons_zero, List.set_cons_succ, i64_w, i32_w]
                       rfl
                      refine pure_ (i := 40) (N := some 100) (v := ?_) (a' := ?_) #[true, true, true, true, true, true, true, true, true, true, true, true, true, true, true, true, true, true, true, true, true, true, true, true, true, true, true, true, true, true, true, true, true, false, true, false, false, false, false, true, true, false, false, false, false, false, false, false, false] rfl rfl (any_of HT_.out (by kernel_rfl)) (fun _ _ _ h => h) (Or.inl ⟨by rfl, ?_⟩) ?_ ?_
                      rotate_left
                      ·intro w'
                       go_simp
                       first | with_reducible rfl | (simp only [hfd32_0, hfd32_1, hfd44_0, hfd44_1, hfd44_2]; with_reducible rfl)
                      rotate_left
                      ·simp only [Act.put, List.setIfInBounds_toArray, List.set_cons_zero, List.set_cons_succ, i64_w, i32_w]
                       rfl
                      refine pure_ (i := 42) (N := some 102) (v := ?_) (a' := ?_) #[true, true, true, true, true, true, true, true, true, true, true, true, true, true, true, true, true, true, true, true, true, true, true, true, true, true, true, true, true, true, true, true, true, false, true, false, false, false, false, true, true, false, true, false, false, false, false, false, false] rfl rfl (any_of HT_.out (by kernel_rfl)) (fun _ _ _ h => h) (Or.inl ⟨by rfl, ?_⟩) ?_ ?_
                      rotate_left
                      ·intro w'
                       go_simp
                       first | with_reducible rfl | (simp only [hfd32_0, hfd32_1, hfd44_0, hfd44_1, hfd44_2]; with_reducible rfl)
                      rotate_left
                      ·simp only [Act.put, List.setIfInBounds_toArray, List.set_cons_zero, List.set_cons_succ, i64_w, i32_w]
                       rfl
                      refine take_ (i := 33) (N := some 93) (v := ?_) (a' := ?_) #[true, true, true, true, true, true, true, true, true, true, true, true, true, true, true, true, true, true, true, true, true, true, true, true, true, true, true, true, true, true, true, true, true, true, true, false, false, false, false, true, true, false, true, false, false, false, false, false, false] rfl rfl (take_ofW HT_.out HW_.out (by kernel_rfl)) (fun _ _ _ h => h) (Or.inl ⟨by rfl, ?_⟩) hHeld ?_ ?_
                      rotate_left
                      ·rintro w' ⟨s0, s1, s2, s3, s4, s5, s6, s7, s8, s9, s10⟩
                       go_simp
                       first | with_reducible rfl | (simp only [hfd32_0, hfd32_1, hfd44_0, hfd44_1, hfd44_2]; with_reducible rfl)
                      rotate_left
                      ·simp only [Act.put, List.setIfInBounds_toArray, List.set_cons_zero, List.set_cons_succ, i64_w, i32_w]
                       rfl
                      refine pure_ (i := 35) (N := some 95) (v := ?_) (a' := ?_) #[true, true, true, true, true, true, true, true, true, true, true, true, true, true, true, true, true, true, true, true, true, true, true, true, true, true, true, true, true, true, true, true, true, true, true, true, false, false, false, true, true, false, true, false, false, false, false, false, false] rfl rfl (any_of HT_.out (by kernel_rfl)) (fun _ _ _ h => h) (Or.inl ⟨by rfl, ?_⟩) ?_ ?_
                      rotate_left
                      ·intro w'
                       go_simp
                       first | with_reducible rfl | (simp only [hfd32_0, hfd32_1, hfd44_0, hfd44_1, hfd44_2]; with_reducible rfl)
                      rotate_left
                      ·simp only [Act.put, List.setIfInBounds_toArray, List.set_cons_zero, List.set_cons_succ, i64_w, i32_w]
                       rfl
                      refine take_ (i := 36) (N := some 96) (v := ?_) (a' := ?_) #[true, true, true, true, true, true, true, true, true, true, true, true, true, true, true, true, true, true, true, true, true, true, true, true, true, true, true, true, true, true, true, true, true, true, true, true, true, false, false, true, true, false, true, false, false, false, false, false, false] rfl rfl (take_ofW HT_.out HW_.out (by kernel_rfl)) (fun _ _ _ h => h) (Or.inl ⟨by rfl, ?_⟩) hHeld ?_ ?_
                      rotate_left
                      ·rintro w' ⟨s0, s1, s2, s3, s4, s5, s6, s7, s8, s9, s10⟩
                       go_simp
                       first | with_reducible rfl | (simp only [hfd32_0, hfd32_1, hfd44_0, hfd44_1, hfd44_2]; with_reducible rfl)
                      rotate_left
                      ·simp only [Act.put, List.setIfInBounds_toArray, List.set_cons_zero, List.set_cons_succ, i64_w, i32_w]
                       rfl
                      refine pure_ (i := 37) (N := some 97) (v := ?_) (a' := ?_) #[true, true, true, true, true, true, true, true, true, true, true, true, true, true, true, true, true, true, true, true, true, true, true, true, true, true, true, true, true, true, true, true, true, true, true, true, true, true, false, true, true, false, true, false, false, false, false, false, false] rfl rfl (any_of HT_.out (by kernel_rfl)) (fun _ _ _ h => h) (Or.inl ⟨by rfl, ?_⟩) ?_ ?_
                      rotate_left
                      ·intro w'
                       go_simp
                       first | with_reducible rfl | (simp only [hfd32_0, hfd32_1, hfd44_0, hfd44_1, hfd44_2]; with_reducible rfl)
                      rotate_left
                      ·simp only [Act.put, List.setIfInBounds_toArray, List.set_cons_zero, List.set_cons_succ, i64_w, i32_w]
                       rfl
                      refine take_ (i := 38) (N := some 98) (v := ?_) (a' := ?_) #[true, true, true, true, true, true, true, true, true, true, true, true, true, true, true, true, true, true, true, true, true, true, true, true, true, true, true, true, true, true, true, true, true, true, true, true, true, true, true, true, true, false, true, false, false, false, false, false, false] rfl rfl (take_ofW HT_.out HW_.out (by kernel_rfl)) (fun _ _ _ h => h) (Or.inl ⟨by rfl, ?_⟩) hHeld ?_ ?_
                      rotate_left
                      ·rintro w' ⟨s0, s1, s2, s3, s4, s5, s6, s7, s8, s9, s10⟩
                       go_simp
                       first | with_reducible rfl | (simp only [hfd32_0, hfd32_1, hfd44_0, hfd44_1, hfd44_2]; with_reducible rfl)
                      rotate_left
                      ·simp only [Act.put, List.setIfInBounds_toArray, List.set_cons_zero, List.set_cons_succ, i64_w, i32_w]
                       rfl
                      refine take_ (i := 41) (N := some 101) (v := ?_) (a' := ?_) #[true, true, true, true, true, true, true, true, true, true, true, true, true, true, true, true, true, true, true, true, true, true, true, true, true, true, true, true, true, true, true, true, true, true, true, true, true, true, true, true, true, true, true, false, false, false, false, false, false] rfl rfl (take_ofW HT_.out HW_.out (by kernel_rfl)) (fun _ _ _ h => h) (Or.inl ⟨by rfl, ?_⟩) hHeld ?_ ?_
                      rotate_left
                      ·rintro w' ⟨s0, s1, s2, s3, s4, s5, s6, s7, s8, s9, s10⟩
                       go_simp
                       first | with_reducible rfl | (simp only [hfd32_0, hfd32_1, hfd44_0, hfd44_1, hfd44_2]; with_reducible rfl)
                      rotate_left
                      ·simp only [Act.put, List.setIfInBounds_toArray, List.set_cons_zero, List.set_cons_succ, i64_w, i32_w]
                       rfl
                      refine pure_ (i := 43) (N := some 103) (v := ?_) (a' := ?_) #[true, true, true, true, true, true, true, true, true, true, true, true, true, true, true, true, true, true, true, true, true, true, true, true, true, true, true, true, true, true, true, true, true, true, true, true, true, true, true, true, true, true, true, true, false, false, false, false, false] rfl rfl (any_of HT_.out (by kernel_rfl)) (fun _ _ _ h => h) (Or.inl ⟨by rfl, ?_⟩) ?_ ?_
                      rotate_left
                      ·intro w'
                       go_simp
                       first | with_reducible rfl | (simp only [hfd32_0, hfd32_1, hfd44_0, hfd44_1, hfd44_2]; with_reducible rfl)
                      rotate_left
                      ·simp only [Act.put, List.setIfInBounds_toArray, List.set_cons_zero, List.set_cons_succ, i64_w, i32_w]
                       rfl
                      refine take_ (i := 44) (N := some 104) (v := ?_) (a' := ?_) #[true, true, true, true, true, true, true, true, true, true, true, true, true, true, true, true, true, true, true, true, true, true, true, true, true, true, true, true, true, true, true, true, true, true, true, true, true, true, true, true, true, true, true, true, true, false, false, false, false] rfl rfl (take_ofW HT_.out HW_.out (by kernel_rfl)) (fun _ _ _ h => h) (Or.inl ⟨by rfl, ?_⟩) hHeld ?_ ?_
                      rotate_left
                      ·rintro w' ⟨s0, s1, s2, s3, s4, s5, s6, s7, s8, s9, s10⟩
                       go_simp
                       first | with_reducible rfl | (simp only [hfd32_0, hfd32_1, hfd44_0, hfd44_1, hfd44_2]; with_reducible rfl)
                      rotate_left
                      ·simp only [Act.put, List.setIfInBounds_toArray, List.set_cons_zero, List.set_cons_succ, i64_w, i32_w]
                       rfl
                      refine pure_ (i := 45) (N := some 105) (v := ?_) (a' := ?_) #[true, true, true, true, true, true, true, true, true, true, true, true, true, true, true, true, true, true, true, true, true, true, true, true, true, true, true, true, true, true, true, true, true, true, true, true, true, true, true, true, true, true, true, true, true, true, false, false, false] rfl rfl (any_of HT_.out (by kernel_rfl)) (fun _ _ _ h => h) (Or.inl ⟨by rfl, ?_⟩) ?_ ?_
                      rotate_left
                      ·intro w'
                       go_simp
                       first | with_reducible rfl | (simp only [hfd32_0, hfd32_1, hfd44_0, hfd44_1, hfd44_2]; with_reducible rfl)
                      rotate_left
                      ·simp only [Act.put, List.setIfInBounds_toArray, List.set_cons_zero, List.set_cons_succ, i64_w, i32_w]
                       rfl
                      refine take_ (i := 46) (N := some 106) (v := ?_) (a' := ?_) #[true, true, true, true, true, true, true, true, true, true, true, true, true, true, true, true, true, true, true, true, true, true, true, true, true, true, true, true, true, true, true, true, true, true, true, true, true, true, true, true, true, true, true, true, true, true, true, false, false] rfl rfl (take_ofW HT_.out HW_.out (by kernel_rfl)) (fun _ _ _ h => h) (Or.inl ⟨by rfl, ?_⟩) hHeld ?_ ?_
                      rotate_left
                      ·rintro w' ⟨s0, s1, s2, s3, s4, s5, s6, s7, s8, s9, s10⟩
                       go_simp
                       first | with_reducible rfl | (simp only [hfd32_0, hfd32_1, hfd44_0, hfd44_1, hfd44_2]; with_reducible rfl)
                      rotate_left
                      ·simp only [Act.put, List.setIfInBounds_toArray, List.set_cons_zero, List.set_cons_succ, i64_w, i32_w]
                       rfl
                      refine pure_ (i := 47) (N := some 107) (v := ?_) (a' := ?_) #[true, true, true, true, true, true, true, true, true, true, true, true, true, true, true, true, true, true, true, true, true, true, true, true, true, true, true, true, true, true, true, true, true, true, true, true, true, true, true, true, true, true, true, true, true, true, true, true, false] rfl rfl (any_of HT_.out (by kernel_rfl)) (fun _ _ _ h => h) (Or.inl ⟨by rfl, ?_⟩) ?_ ?_
                      rotate_left
                      ·intro w'
                       go_simp
                       first | with_reducible rfl | (simp only [hfd32_0, hfd32_1, hfd44_0, hfd44_1, hfd44_2]; with_reducible rfl)
                      rotate_left
                      ·simp only [Act.put, List.setIfInBounds_toArray, List.set_cons_zero, List.set_cons_succ, i64_w, i32_w]
                       rfl
                      refine pure_ (i := 48) (N := some 108) (v := ?_) (a' := ?_) #[true, true, true, true, true, true, true, true, true, true, true, true, true, true, true, true, true, true, true, true, true, true, true, true, true, true, true, true, true, true, true, true, true, true, true, true, true, true, true, true, true, true, true, true, true, true, true, true, true] rfl rfl (any_of HT_.out (by kernel_rfl)) (fun _ _ _ h => h) (Or.inl ⟨by rfl, ?_⟩) ?_ ?_
                      rotate_left
                      ·intro w'
                       go_simp
                       first | with_reducible rfl | (simp only [hfd32_0, hfd32_1, hfd44_0, hfd44_1, hfd44_2]; with_reducible rfl)
                      rotate_left
                      ·simp only [Act.put, List.setIfInBounds_toArray, List.set_cons_zero, List.set_cons_succ, i64_w, i32_w]
                       rfl
                      refine done_ (done_of HT_.out (by kernel_rfl)) ?_
                      try go_wp2
                      go_roundg k2
                      case measure => have := HJ6.out; have := HK2.out; omega
                      case rel => exact ⟨(wrap64 (x6_2 + 1)), (by first | rfl | (simp; done) | (simp [*]; done)), H', ⟨by have := HJ6.out; have := HK2.out; omega⟩, ⟨by (with_reducible repeat (first | apply Kd.R_alloc | apply Kd.R_drewN | apply Kd.R_drew)); exact HO_3.out⟩, ⟨by (with_reducible repeat (first | apply Kd.R_alloc | apply Kd.R_drewN | apply Kd.R_drew)); exact HO_4.out⟩, ⟨by (with_reducible repeat (first | apply Kd.R_alloc | apply Kd.R_drewN | apply Kd.R_drew)); exact HO_976001.out⟩, ⟨by (with_reducible repeat (first | apply Kd.R_alloc | apply Kd.R_drewN | apply Kd.R_drew)); exact HO_976002.out⟩, ⟨by (with_reducible repeat (first | refine blk_drewN ?_ _ | refine blk_drew ?_ | refine blk_alloc ?_ _)); exact BK975.out⟩, ⟨by repeat (first | (with_reducible first | exact HB.out | apply below_alloc | apply pw_below_drewN | apply below_drew1 | refine below_set ?_ GE975.out) | exact HB.out)⟩⟩
                     ·rw [if_neg c46] at H
                      have c46b0 : ((rdOf ByteArray.empty t962 (rd t969 x6_2)).toList == (rdOf ByteArray.empty t963 (rd t972 x6_2)).toList) = false := beq_eq_false_iff_ne.mpr c46
                      have c46b1 : ((rdOf ByteArray.empty t962 (rd t969 x6_2)).toList != (rdOf ByteArray.empty t963 (rd t972 x6_2)).toList) = true := bne_iff_ne.mpr c46
                      exact absurd ((Option.some.inj H).trans HLAW.out) (by decide)
                    ·rw [if_neg c45] at H
                     exact absurd H (by simp)
                   ·rw [if_neg c44] at H
                    exact absurd H (by simp)
                  ·rw [if_neg c43] at H
                   exact absurd H (by simp)
                 ·rw [if_neg c42] at H
                  exact absurd H (by simp)
               ·rw [if_neg c40] at H
                exact absurd H (by simp)
              ·rw [if_neg c39] at H
               exact absurd H (by simp)
            ·rw [if_neg c37] at H
             exact absurd H (by simp)
           ·rw [if_neg c36] at H
            exact absurd H (by simp)
          ·rw [if_neg c34] at H
           exact absurd H (by simp)
         ·rw [if_neg c33] at H
          have c33b0 : decide (0 < x6_2) = false := decide_eq_false c33
          clear c33
          by_cases c49 : 0 ≤ x6_2
          ·rw [if_pos c49] at H
           have c49b0 : decide (0 ≤ x6_2) = true := decide_eq_true c49
           clear c49
           by_cases c50 : 0 ≤ (rd t969 x6_2)
           ·rw [if_pos c50] at H
            have c50b0 : decide (0 ≤ (rd t969 x6_2)) = true := decide_eq_true c50
            clear c50
            by_cases c51 : (rd t969 x6_2) < (t962.length : Int)
            ·rw [if_pos c51] at H
             have c51b0 : decide ((rd t969 x6_2) < (t962.length : Int)) = true := decide_eq_true c51
             clear c51
             by_cases c52 : x6_2 < (t972.length : Int)
             ·rw [if_pos c52] at H
              have c52b0 : decide (x6_2 < (t972.length : Int)) = true := decide_eq_true c52
              clear c52
              by_cases c53 : 0 ≤ (rd t972 x6_2)
              ·rw [if_pos c53] at H
               have c53b0 : decide (0 ≤ (rd t972 x6_2)) = true := decide_eq_true c53
               clear c53
               by_cases c54 : (rd t972 x6_2) < (t963.length : Int)
               ·rw [if_pos c54] at H
                have c54b0 : decide ((rd t972 x6_2) < (t963.length : Int)) = true := decide_eq_true c54
                clear c54
                by_cases c55 : (rdOf ByteArray.empty t962 (rd t969 x6_2)).toList = (rdOf ByteArray.empty t963 (rd t972 x6_2)).toList
                ·rw [if_pos c55] at H
                 have c55b0 : ((rdOf ByteArray.empty t962 (rd t969 x6_2)).toList == (rdOf ByteArray.empty t963 (rd t972 x6_2)).toList) = true := beq_iff_eq.mpr c55
                 have c55b1 : ((rdOf ByteArray.empty t962 (rd t969 x6_2)).toList != (rdOf ByteArray.empty t963 (rd t972 x6_2)).toList) = false := bne_eq_false_iff_eq.mpr c55
                 clear c55
                 have H' := Aside0.mk H
                 clear H
                 have hcz56_0 : wr.cell? ⟨gb975, 0, none⟩ = some (.int .i64 t968) := (blk_cell BK975.out 0).trans rfl
                 have hcz56_1 : wr.cell? ⟨gb975, 1, none⟩ = some (.slice Ao14 t969.length co14) := (blk_cell BK975.out 1).trans rfl
                 have hcz56_2 : wr.cell? ⟨gb975, 2, none⟩ = some (.slice Ao15 t972.length co15) := (blk_cell BK975.out 2).trans rfl
                 have hfz56_0 := blk_frozen BK975.out 0
                 have hfz56_1 := blk_frozen BK975.out 1
                 have hfz56_2 := blk_frozen BK975.out 2
                 try go_wp2
                 have n0_ := Aside0.mk (Kd.R_drew HO_3.out)
                 have n1_ := Aside0.mk (Kd.R_drew HO_4.out)
                 have n2_ := Aside0.mk (Kd.R_drew HO_976001.out)
                 have n3_ := Aside0.mk (Kd.R_drew HO_976002.out)
                 have n4_ := Aside0.mk (blk_drew BK975.out)
                 have n5_ := Aside0.mk (below_drew1 HB.out)
                 clear HO_3
                 clear HO_4
                 clear HO_976001
                 clear HO_976002
                 clear BK975
                 clear HB
                 have HO_3 := n0_
                 have HO_4 := n1_
                 have HO_976001 := n2_
                 have HO_976002 := n3_
                 have BK975 := n4_
                 have HB := n5_
                 clear n0_ n1_ n2_ n3_ n4_ n5_
                 have p997 : 0 ≤ (x6_2 : Int) := of_decide_eq_true (by first | (with_reducible assumption) | assumption)
                 have q997 : x6_2 < (t969.length : Int) := of_decide_eq_true (by first | (with_reducible assumption) | assumption)
                 obtain ⟨ad997, e997, hx997_0⟩ := Kd.at_int (Kd.R_reads' HO_976001.out).2.2 x6_2 p997 q997
                 cases e997
                 replace p997 := eq_true p997
                 replace q997 := eq_true q997
                 have p998 : 0 ≤ ((rd t969 x6_2) : Int) := of_decide_eq_true (by first | (with_reducible assumption) | assumption)
                 have q998 : (rd t969 x6_2) < (t962.length : Int) := of_decide_eq_true (by first | (with_reducible assumption) | assumption)
                 obtain ⟨ad998, e998, hx998_0⟩ := Kd.at_string (Kd.R_reads' HO_3.out).2.2 (rd t969 x6_2) p998 q998
                 cases e998
                 replace p998 := eq_true p998
                 replace q998 := eq_true q998
                 have p999 : 0 ≤ (x6_2 : Int) := of_decide_eq_true (by first | (with_reducible assumption) | assumption)
                 have q999 : x6_2 < (t972.length : Int) := of_decide_eq_true (by first | (with_reducible assumption) | assumption)
                 obtain ⟨ad999, e999, hx999_0⟩ := Kd.at_int (Kd.R_reads' HO_976002.out).2.2 x6_2 p999 q999
                 cases e999
                 replace p999 := eq_true p999
                 replace q999 := eq_true q999
                 have p1000 : 0 ≤ ((rd t972 x6_2) : Int) := of_decide_eq_true (by first | (with_reducible assumption) | assumption)
                 have q1000 : (rd t972 x6_2) < (t963.length : Int) := of_decide_eq_true (by first | (with_reducible assumption) | assumption)
                 obtain ⟨ad1000, e1000, hx1000_0⟩ := Kd.at_string (Kd.R_reads' HO_4.out).2.2 (rd t972 x6_2) p1000 q1000
                 cases e1000
                 replace p1000 := eq_true p1000
                 replace q1000 := eq_true q1000
                 refine start_ (n := 49) (S := fun w' => w'.cell? ⟨gb975, 0, none⟩ = some (.int .i64 t968) ∧ w'.cell? ⟨gb975, 1, none⟩ = some (.slice (some ad997) t969.length co14) ∧ w'.cell? ⟨gb975, 2, none⟩ = some (.slice (some ad999) t972.length co15) ∧ w'.cell? (ad997.add (x6_2).toNat) = some (.int .i64 (rd t969 x6_2)) ∧ w'.cell? (ad998.add ((rd t969 x6_2)).toNat) = some (.string (rdOf ByteArray.empty t962 (rd t969 x6_2))) ∧ w'.cell? (ad999.add (x6_2).toNat) = some (.int .i64 (rd t972 x6_2)) ∧ w'.cell? (ad1000.add ((rd t972 x6_2)).toNat) = some (.string (rdOf ByteArray.empty t963 (rd t972 x6_2)))) (ds := []) #[false, false, false, false, false, false, false, false, false, false, false, false, false, false, false, false, false, false, false, false, false, false, false, false, false, false, false, false, false, false, false, false, false, false, false, false, false, false, false, false, false, false, false, false, false, false, false, false, false] (by kernel_rfl) rfl rfl ⟨(blk_cell BK975.out 0).trans rfl, (blk_cell BK975.out 1).trans rfl, (blk_cell BK975.out 2).trans rfl, hx997_0, hx998_0, hx999_0, hx1000_0⟩ (fun hHeld => ?_); refine with_tabW laws_FnMatches.tab12 laws_FnMatches.bits12 (fun HT_ HW_ => ?_)
                 generalize wr.drew = w57 at HO_3 HO_4 HO_976001 HO_976002 BK975 HB hx1000_0 hx997_0 hx998_0 hx999_0 hHeld ⊢
                 refine pure_ (i := 0) (N := some 60) (v := ?_) (a' := ?_) #[true, false, false, false, false, false, false, false, false, false, false, false, false, false, false, false, false, false, false, false, false, false, false, false, false, false, false, false, false, false, false, false, false, false, false, false, false, false, false, false, false, false, false, false, false, false, false, false, false] rfl rfl (any_of HT_.out (by kernel_rfl)) (fun _ _ _ h => h) (Or.inl ⟨by rfl, ?_⟩) ?_ ?_
                 rotate_left
                 ·intro w'
                  go_simp
                  first | with_reducible rfl | (simp only [hfd32_0, hfd32_1, hfd44_0, hfd44_1, hfd44_2]; with_reducible rfl)
                 rotate_left
                 ·simp only [Act.put, List.setIfInBounds_toArray, List.set_cons_zero, List.set_cons_succ, i64_w, i32_w]
                  rfl
                 refine pure_ (i := 1) (N := some 61) (v := ?_) (a' := ?_) #[true, true, false, false, false, false, false, false, false, false, false, false, false, false, false, false, false, false, false, false, false, false, false, false, false, false, false, false, false, false, false, false, false, false, false, false, false, false, false, false, false, false, false, false, false, false, false, false, false] rfl rfl (any_of HT_.out (by kernel_rfl)) (fun _ _ _ h => h) (Or.inl ⟨by rfl, ?_⟩) ?_ ?_
                 rotate_left
                 ·intro w'
                  go_simp
                  first | with_reducible rfl | (simp only [hfd32_0, hfd32_1, hfd44_0, hfd44_1, hfd44_2]; with_reducible rfl)
                 rotate_left
                 ·simp only [Act.put, List.setIfInBounds_toArray, List.set_cons_zero, List.set_cons_succ, i64_w, i32_w]
                  rfl
                 refine pure_ (i := 2) (N := some 62) (v := ?_) (a' := ?_) #[true, true, true, false, false, false, false, false, false, false, false, false, false, false, false, false, false, false, false, false, false, false, false, false, false, false, false, false, false, false, false, false, false, false, false, false, false, false, false, false, false, false, false, false, false, false, false, false, false] rfl rfl (any_of HT_.out (by kernel_rfl)) (fun _ _ _ h => h) (Or.inl ⟨by rfl, ?_⟩) ?_ ?_
                 rotate_left
                 ·intro w'
                  go_simp
                  first | with_reducible rfl | (simp only [hfd32_0, hfd32_1, hfd44_0, hfd44_1, hfd44_2]; with_reducible rfl)
                 rotate_left
                 ·simp only [Act.put, List.setIfInBounds_toArray, List.set_cons_zero, List.set_cons_succ, i64_w, i32_w]
                  rfl
                 refine pure_ (i := 3) (N := some 63) (v := undef) (a' := ?_) #[true, true, true, true, false, false, false, false, false, false, false, false, false, false, false, false, false, false, false, false, false, false, false, false, false, false, false, false, false, false, false, false, false, false, false, false, false, false, false, false, false, false, false, false, false, false, false, false, false] rfl rfl (any_of HT_.out (by kernel_rfl)) (fun _ _ _ h => h) (Or.inr ⟨by rfl, rfl⟩) ?_ ?_
                 rotate_left
                 ·simp only [Act.put, List.setIfInBounds_toArray, List.set_cons_zero, List.set_cons_succ, i64_w, i32_w]
                  rfl
                 refine pure_ (i := 4) (N := some 64) (v := undef) (a' := ?_) #[true, true, true, true, true, false, false, false, false, false, false, false, false, false, false, false, false, false, false, false, false, false, false, false, false, false, false, false, false, false, false, false, false, false, false, false, false, false, false, false, false, false, false, false, false, false, false, false, false] rfl rfl (any_of HT_.out (by kernel_rfl)) (fun _ _ _ h => h) (Or.inr ⟨by rfl, rfl⟩) ?_ ?_
                 rotate_left
                 ·simp only [Act.put, List.setIfInBounds_toArray, List.set_cons_zero, List.set_cons_succ, i64_w, i32_w]
                  rfl
                 refine pure_ (i := 5) (N := some 65) (v := undef) (a' := ?_) #[true, true, true, true, true, true, false, false, false, false, false, false, false, false, false, false, false, false, false, false, false, false, false, false, false, false, false, false, false, false, false, false, false, false, false, false, false, false, false, false, false, false, false, false, false, false, false, false, false] rfl rfl (any_of HT_.out (by kernel_rfl)) (fun _ _ _ h => h) (Or.inr ⟨by rfl, rfl⟩) ?_ ?_
                 rotate_left
                 ·simp only [Act.put, List.setIfInBounds_toArray, List.set_cons_zero, List.set_cons_succ, i64_w, i32_w]
                  rfl
                 refine pure_ (i := 6) (N := some 66) (v := undef) (a' := ?_) #[true, true, true, true, true, true, true, false, false, false, false, false, false, false, false, false, false, false, false, false, false, false, false, false, false, false, false, false, false, false, false, false, false, false, false, false, false, false, false, false, false, false, false, false, false, false, false, false, false] rfl rfl (any_of HT_.out (by kernel_rfl)) (fun _ _ _ h => h) (Or.inr ⟨by rfl, rfl⟩) ?_ ?_
                 rotate_left
                 ·simp only [Act.put, List.setIfInBounds_toArray, List.set_cons_zero, List.set_cons_succ, i64_w, i32_w]
                  rfl
                 refine pure_ (i := 7) (N := some 67) (v := undef) (a' := ?_) #[true, true, true, true, true, true, true, true, false, false, false, false, false, false, false, false, false, false, false, false, false, false, false, false, false, false, false, false, false, false, false, false, false, false, false, false, false, false, false, false, false, false, false, false, false, false, false, false, false] rfl rfl (any_of HT_.out (by kernel_rfl)) (fun _ _ _ h => h) (Or.inr ⟨by rfl, rfl⟩) ?_ ?_
                 rotate_left
                 ·simp only [Act.put, List.setIfInBounds_toArray, List.set_cons_zero, List.set_cons_succ, i64_w, i32_w]
                  rfl
                 refine pure_ (i := 8) (N := some 68) (v := undef) (a' := ?_) #[true, true, true, true, true, true, true, true, true, false, false, false, false, false, false, false, false, false, false, false, false, false, false, false, false, false, false, false, false, false, false, false, false, false, false, false, false, false, false, false, false, false, false, false, false, false, false, false, false] rfl rfl (any_of HT_.out (by kernel_rfl)) (fun _ _ _ h => h) (Or.inr ⟨by rfl, rfl⟩) ?_ ?_
                 rotate_left
                 ·simp only [Act.put, List.setIfInBounds_toArray, List.set_cons_zero, List.set_cons_succ, i64_w, i32_w]
                  rfl
                 refine pure_ (i := 9) (N := some 69) (v := undef) (a' := ?_) #[true, true, true, true, true, true, true, true, true, true, false, false, false, false, false, false, false, false, false, false, false, false, false, false, false, false, false, false, false, false, false, false, false, false, false, false, false, false, false, false, false, false, false, false, false, false, false, false, false] rfl rfl (any_of HT_.out (by kernel_rfl)) (fun _ _ _ h => h) (Or.inr ⟨by rfl, rfl⟩) ?_ ?_
                 rotate_left
                 ·simp only [Act.put, List.setIfInBounds_toArray, List.set_cons_zero, List.set_cons_succ, i64_w, i32_w]
                  rfl
                 refine pure_ (i := 10) (N := some 70) (v := undef) (a' := ?_) #[true, true, true, true, true, true, true, true, true, true, true, false, false, false, false, false, false, false, false, false, false, false, false, false, false, false, false, false, false, false, false, false, false, false, false, false, false, false, false, false, false, false, false, false, false, false, false, false, false] rfl rfl (any_of HT_.out (by kernel_rfl)) (fun _ _ _ h => h) (Or.inr ⟨by rfl, rfl⟩) ?_ ?_
                 rotate_left
                 ·simp only [Act.put, List.setIfInBounds_toArray, List.set_cons_zero, List.set_cons_succ, i64_w, i32_w]
                  rfl
                 refine pure_ (i := 11) (N := some 71) (v := undef) (a' := ?_) #[true, true, true, true, true, true, true, true, true, true, true, true, false, false, false, false, false, false, false, false, false, false, false, false, false, false, false, false, false, false, false, false, false, false, false, false, false, false, false, false, false, false, false, false, false, false, false, false, false] rfl rfl (any_of HT_.out (by kernel_rfl)) (fun _ _ _ h => h) (Or.inr ⟨by rfl, rfl⟩) ?_ ?_
                 rotate_left
                 ·simp only [Act.put, List.setIfInBounds_toArray, List.set_cons_zero, List.set_cons_succ, i64_w, i32_w]
                  rfl
                 refine pure_ (i := 12) (N := some 72) (v := undef) (a' := ?_) #[true, true, true, true, true, true, true, true, true, true, true, true, true, false, false, false, false, false, false, false, false, false, false, false, false, false, false, false, false, false, false, false, false, false, false, false, false, false, false, false, false, false, false, false, false, false, false, false, false] rfl rfl (any_of HT_.out (by kernel_rfl)) (fun _ _ _ h => h) (Or.inr ⟨by rfl, rfl⟩) ?_ ?_
                 rotate_left
                 ·simp only [Act.put, List.setIfInBounds_toArray, List.set_cons_zero, List.set_cons_succ, i64_w, i32_w]
                  rfl
                 refine pure_ (i := 13) (N := some 73) (v := undef) (a' := ?_) #[true, true, true, true, true, true, true, true, true, true, true, true, true, true, false, false, false, false, false, false, false, false, false, false, false, false, false, false, false, false, false, false, false, false, false, false, false, false, false, false, false, false, false, false, false, false, false, false, false] rfl rfl (any_of HT_.out (by kernel_rfl)) (fun _ _ _ h => h) (Or.inr ⟨by rfl, rfl⟩) ?_ ?_
                 rotate_left
                 ·simp only [Act.put, List.setIfInBounds_toArray, List.set_cons_zero, List.set_cons_succ, i64_w, i32_w]
                  rfl
                 refine pure_ (i := 14) (N := some 74) (v := undef) (a' := ?_) #[true, true, true, true, true, true, true, true, true, true, true, true, true, true, true, false, false, false, false, false, false, false, false, false, false, false, false, false, false, false, false, false, false, false, false, false, false, false, false, false, false, false, false, false, false, false, false, false, false] rfl rfl (any_of HT_.out (by kernel_rfl)) (fun _ _ _ h => h) (Or.inr ⟨by rfl, rfl⟩) ?_ ?_
                 rotate_left
                 ·simp only [Act.put, List.setIfInBounds_toArray, List.set_cons_zero, List.set_cons_succ, i64_w, i32_w]
                  rfl
                 refine pure_ (i := 15) (N := some 75) (v := undef) (a' := ?_) #[true, true, true, true, true, true, true, true, true, true, true, true, true, true, true, true, false, false, false, false, false, false, false, false, false, false, false, false, false, false, false, false, false, false, false, false, false, false, false, false, false, false, false, false, false, false, false, false, false] rfl rfl (any_of HT_.out (by kernel_rfl)) (fun _ _ _ h => h) (Or.inr ⟨by rfl, rfl⟩) ?_ ?_
                 rotate_left
                 ·simp only [Act.put, List.setIfInBounds_toArray, List.set_cons_zero, List.set_cons_succ, i64_w, i32_w]
                  rfl
                 refine pure_ (i := 16) (N := some 76) (v := undef) (a' := ?_) #[true, true, true, true, true, true, true, true, true, true, true, true, true, true, true, true, true, false, false, false, false, false, false, false, false, false, false, false, false, false, false, false, false, false, false, false, false, false, false, false, false, false, false, false, false, false, false, false, false] rfl rfl (any_of HT_.out (by kernel_rfl)) (fun _ _ _ h => h) (Or.inr ⟨by rfl, rfl⟩) ?_ ?_
                 rotate_left
                 ·simp only [Act.put, List.setIfInBounds_toArray, List.set_cons_zero, List.set_cons_succ, i64_w, i32_w]
                  rfl
                 refine pure_ (i := 17) (N := some 77) (v := undef) (a' := ?_) #[true, true, true, true, true, true, true, true, true, true, true, true, true, true, true, true, true, true, false, false, false, false, false, false, false, false, false, false, false, false, false, false, false, false, false, false, false, false, false, false, false, false, false, false, false, false, false, false, false] rfl rfl (any_of HT_.out (by kernel_rfl)) (fun _ _ _ h => h) (Or.inr ⟨by rfl, rfl⟩) ?_ ?_
                 rotate_left
                 ·simp only [Act.put, List.setIfInBounds_toArray, List.set_cons_zero, List.set_cons_succ, i64_w, i32_w]
                  rfl
                 refine pure_ (i := 18) (N := some 78) (v := undef) (a' := ?_) #[true, true, true, true, true, true, true, true, true, true, true, true, true, true, true, true, true, true, true, false, false, false, false, false, false, false, false, false, false, false, false, false, false, false, false, false, false, false, false, false, false, false, false, false, false, false, false, false, false] rfl rfl (any_of HT_.out (by kernel_rfl)) (fun _ _ _ h => h) (Or.inr ⟨by rfl, rfl⟩) ?_ ?_
                 rotate_left
                 ·simp only [Act.put, List.setIfInBounds_toArray, List.set_cons_zero, List.set_cons_succ, i64_w, i32_w]
                  rfl
                 refine pure_ (i := 19) (N := some 79) (v := undef) (a' := ?_) #[true, true, true, true, true, true, true, true, true, true, true, true, true, true, true, true, true, true, true, true, false, false, false, false, false, false, false, false, false, false, false, false, false, false, false, false, false, false, false, false, false, false, false, false, false, false, false, false, false] rfl rfl (any_of HT_.out (by kernel_rfl)) (fun _ _ _ h => h) (Or.inr ⟨by rfl, rfl⟩) ?_ ?_
                 rotate_left
                 ·simp only [Act.put, List.setIfInBounds_toArray, List.set_cons_zero, List.set_cons_succ, i64_w, i32_w]
                  rfl
                 refine pure_ (i := 20) (N := some 80) (v := undef) (a' := ?_) #[true, true, true, true, true, true, true, true, true, true, true, true, true, true, true, true, true, true, true, true, true, false, false, false, false, false, false, false, false, false, false, false, false, false, false, false, false, false, false, false, false, false, false, false, false, false, false, false, false] rfl rfl (any_of HT_.out (by kernel_rfl)) (fun _ _ _ h => h) (Or.inr ⟨by rfl, rfl⟩) ?_ ?_
                 rotate_left
                 ·simp only [Act.put, List.setIfInBounds_toArray, List.set_cons_zero, List.set_cons_succ, i64_w, i32_w]
                  rfl
                 refine pure_ (i := 21) (N := some 81) (v := undef) (a' := ?_) #[true, true, true, true, true, true, true, true, true, true, true, true, true, true, true, true, true, true, true, true, true, true, false, false, false, false, false, false, false, false, false, false, false, false, false, false, false, false, false, false, false, false, false, false, false, false, false, false, false] rfl rfl (any_of HT_.out (by kernel_rfl)) (fun _ _ _ h => h) (Or.inr ⟨by rfl, rfl⟩) ?_ ?_
                 rotate_left
                 ·simp only [Act.put, List.setIfInBounds_toArray, List.set_cons_zero, List.set_cons_succ, i64_w, i32_w]
                  rfl
                 refine pure_ (i := 22) (N := some 82) (v := undef) (a' := ?_) #[true, true, true, true, true, true, true, true, true, true, true, true, true, true, true, true, true, true, true, true, true, true, true, false, false, false, false, false, false, false, false, false, false, false, false, false, false, false, false, false, false, false, false, false, false, false, false, false, false] rfl rfl (any_of HT_.out (by kernel_rfl)) (fun _ _ _ h => h) (Or.inr ⟨by rfl, rfl⟩) ?_ ?_
                 rotate_left
                 ·simp only [Act.put, List.setIfInBounds_toArray, List.set_cons_zero, List.set_cons_succ, i64_w, i32_w]
                  rfl
                 refine pure_ (i := 23) (N := some 83) (v := undef) (a' := ?_) #[true, true, true, true, true, true, true, true, true, true, true, true, true, true, true, true, true, true, true, true, true, true, true, true, false, false, false, false, false, false, false, false, false, false, false, false, false, false, false, false, false, false, false, false, false, false, false, false, false] rfl rfl (any_of HT_.out (by kernel_rfl)) (fun _ _ _ h => h) (Or.inr ⟨by rfl, rfl⟩) ?_ ?_
                 rotate_left
                 ·simp only [Act.put, List.setIfInBounds_toArray, List.set_cons_zero, List.set_cons_succ, i64_w, i32_w]
                  rfl
                 refine pure_ (i := 24) (N := some 84) (v := undef) (a' := ?_) #[true, true, true, true, true, true, true, true, true, true, true, true, true, true, true, true, true, true, true, true, true, true, true, true, true, false, false, false, false, false, false, false, false, false, false, false, false, false, false, false, false, false, false, false, false, false, false, false, false] rfl rfl (any_of HT_.out (by kernel_rfl)) (fun _ _ _ h => h) (Or.inr ⟨by rfl, rfl⟩) ?_ ?_
                 rotate_left
                 ·simp only [Act.put, List.setIfInBounds_toArray, List.set_cons_zero, List.set_cons_succ, i64_w, i32_w]
                  rfl
                 refine pure_ (i := 25) (N := some 85) (v := undef) (a' := ?_) #[true, true, true, true, true, true, true, true, true, true, true, true, true, true, true, true, true, true, true, true, true, true, true, true, true, true, false, false, false, false, false, false, false, false, false, false, false, false, false, false, false, false, false, false, false, false, false, false, false] rfl rfl (any_of HT_.out (by kernel_rfl)) (fun _ _ _ h => h) (Or.inr ⟨by rfl, rfl⟩) ?_ ?_
                 rotate_left
                 ·simp only [Act.put, List.setIfInBounds_toArray, List.set_cons_zero, List.set_cons_succ, i64_w, i32_w]
                  rfl
                 refine pure_ (i := 26) (N := some 86) (v := undef) (a' := ?_) #[true, true, true, true, true, true, true, true, true, true, true, true, true, true, true, true, true, true, true, true, true, true, true, true, true, true, true, false, false, false, false, false, false, false, false, false, false, false, false, false, false, false, false, false, false, false, false, false, false] rfl rfl (any_of HT_.out (by kernel_rfl)) (fun _ _ _ h => h) (Or.inr ⟨by rfl, rfl⟩) ?_ ?_
                 rotate_left
                 ·simp only [Act.put, List.setIfInBounds_toArray, List.set_cons_zero, List.set_cons_succ, i64_w, i32_w]
                  rfl
                 refine pure_ (i := 27) (N := some 87) (v := undef) (a' := ?_) #[true, true, true, true, true, true, true, true, true, true, true, true, true, true, true, true, true, true, true, true, true, true, true, true, true, true, true, true, false, false, false, false, false, false, false, false, false, false, false, false, false, false, false, false, false, false, false, false, false] rfl rfl (any_of HT_.out (by kernel_rfl)) (fun _ _ _ h => h) (Or.inr ⟨by rfl, rfl⟩) ?_ ?_
                 rotate_left
                 ·simp only [Act.put, List.setIfInBounds_toArray, List.set_cons_zero, List.set_cons_succ, i64_w, i32_w]
                  rfl
                 refine pure_ (i := 28) (N := some 88) (v := undef) (a' := ?_) #[true, true, true, true, true, true, true, true, true, true, true, true, true, true, true, true, true, true, true, true, true, true, true, true, true, true, true, true, true, false, false, false, false, false, false, false, false, false, false, false, false, false, false, false, false, false, false, false, false] rfl rfl (any_of HT_.out (by kernel_rfl)) (fun _ _ _ h => h) (Or.inr ⟨by rfl, rfl⟩) ?_ ?_
                 rotate_left
                 ·simp only [Act.put, List.setIfInBounds_toArray, List.set_cons_zero, List.set_cons_succ, i64_w, i32_w]
                  rfl
                 refine pure_ (i := 29) (N := some 89) (v := ?_) (a' := ?_) #[true, true, true, true, true, true, true, true, true, true, true, true, true, true, true, true, true, true, true, true, true, true, true, true, true, true, true, true, true, true, false, false, false, false, false, false, false, false, false, false, false, false, false, false, false, false, false, false, false] rfl rfl (any_of HT_.out (by kernel_rfl)) (fun _ _ _ h => h) (Or.inl ⟨by rfl, ?_⟩) ?_ ?_
                 rotate_left
                 ·intro w'
                  go_simp
                  first | with_reducible rfl | (simp only [hfd32_0, hfd32_1, hfd44_0, hfd44_1, hfd44_2]; with_reducible rfl)
                 rotate_left
                 ·simp only [Act.put, List.setIfInBounds_toArray, List.set_cons_zero, List.set_cons_succ, i64_w, i32_w]
                  rfl
                 refine pure_ (i := 30) (N := some 90) (v := ?_) (a' := ?_) #[true, true, true, true, true, true, true, true, true, true, true, true, true, true, true, true, true, true, true, true, true, true, true, true, true, true, true, true, true, true, true, false, false, false, false, false, false, false, false, false, false, false, false, false, false, false, false, false, false] rfl rfl (any_of HT_.out (by kernel_rfl)) (fun _ _ _ h => h) (Or.inl ⟨by rfl, ?_⟩) ?_ ?_
                 rotate_left
                 ·intro w'
                  go_simp
                  first | with_reducible rfl | (simp only [hfd32_0, hfd32_1, hfd44_0, hfd44_1, hfd44_2]; with_reducible rfl)
                 rotate_left
                 ·simp only [Act.put, List.setIfInBounds_toArray, List.set_cons_zero, List.set_cons_succ, i64_w, i32_w]
                  rfl
                 refine pure_ (i := 31) (N := some 91) (v := ?_) (a' := ?_) #[true, true, true, true, true, true, true, true, true, true, true, true, true, true, true, true, true, true, true, true, true, true, true, true, true, true, true, true, true, true, true, true, false, false, false, false, false, false, false, false, false, false, false, false, false, false, false, false, false] rfl rfl (any_of HT_.out (by kernel_rfl)) (fun _ _ _ h => h) (Or.inl ⟨by rfl, ?_⟩) ?_ ?_
                 rotate_left
                 ·intro w'
                  go_simp
                  first | with_reducible rfl | (simp only [hfd32_0, hfd32_1, hfd44_0, hfd44_1, hfd44_2]; with_reducible rfl)
                 rotate_left
                 ·simp only [Act.put, List.setIfInBounds_toArray, List.set_cons_zero, List.set_cons_succ, i64_w, i32_w]
                  rfl
                 refine pure_ (i := 32) (N := some 92) (v := ?_) (a' := ?_) #[true, true, true, true, true, true, true, true, true, true, true, true, true, true, true, true, true, true, true, true, true, true, true, true, true, true, true, true, true, true, true, true, true, false, false, false, false, false, false, false, false, false, false, false, false, false, false, false, false] rfl rfl (any_of HT_.out (by kernel_rfl)) (fun _ _ _ h => h) (Or.inl ⟨by rfl, ?_⟩) ?_ ?_
                 rotate_left
                 ·intro w'
                  go_simp
                  first | with_reducible rfl | (simp only [hfd32_0, hfd32_1, hfd44_0, hfd44_1, hfd44_2]; with_reducible rfl)
                 rotate_left
                 ·simp only [Act.put, List.setIfInBounds_toArray, List.set_cons_zero, List.set_cons_succ, i64_w, i32_w]
                  rfl
                 refine pure_ (i := 34) (N := some 94) (v := ?_) (a' := ?_) #[true, true, true, true, true, true, true, true, true, true, true, true, true, true, true, true, true, true, true, true, true, true, true, true, true, true, true, true, true, true, true, true, true, false, true, false, false, false, false, false, false, false, false, false, false, false, false, false, false] rfl rfl (any_of HT_.out (by kernel_rfl)) (fun _ _ _ h => h) (Or.inl ⟨by rfl, ?_⟩) ?_ ?_
                 rotate_left
                 ·intro w'
                  go_simp
                  first | with_reducible rfl | (simp only [hfd32_0, hfd32_1, hfd44_0, hfd44_1, hfd44_2]; with_reducible rfl)
                 rotate_left
                 ·simp only [Act.put, List.setIfInBounds_toArray, List.set_cons_zero, List.set_cons_succ, i64_w, i32_w]
                  rfl
                 refine pure_ (i := 39) (N := some 99) (v := ?_) (a' := ?_) #[true, true, true, true, true, true, true, true, true, true, true, true, true, true, true, true, true, true, true, true, true, true, true, true, true, true, true, true, true, true, true, true, true, false, true, false, false, false, false, true, false, false, false, false, false, false, false, false, false] rfl rfl (any_of HT_.out (by kernel_rfl)) (fun _ _ _ h => h) (Or.inl ⟨by rfl, ?_⟩) ?_ ?_
                 rotate_left
                 ·intro w'
                  go_simp
                  first | with_reducible rfl | (simp only [hfd32_0, hfd32_1, hfd44_0, hfd44_1, hfd44_2]; with_reducible rfl)
                 rotate_left
                 ·simp only [Act.put, List.setIfInBounds_toArray, List.set_cons_zero, List.set_cons_succ, i64_w, i32_w]
                  rfl
                 refine pure_ (i := 40) (N := some 100) (v := ?_) (a' := ?_) #[true, true, true, true, true, true, true, true, true, true, true, true, true, true, true, true, true, true, true, true, true, true, true, true, true, true, true, true, true, true, true, true, true, false, true, false, false, false, false, true, true, false, false, false, false, false, false, false, false] rfl rfl (any_of HT_.out (by kernel_rfl)) (fun _ _ _ h => h) (Or.inl ⟨by rfl, ?_⟩) ?_ ?_
                 rotate_left
                 ·intro w'
                  go_simp
                  first | with_reducible rfl | (simp only [hfd32_0, hfd32_1, hfd44_0, hfd44_1, hfd44_2]; with_reducible rfl)
                 rotate_left
                 ·simp only [Act.put, List.setIfInBounds_toArray, List.set_cons_zero, List.set_cons_succ, i64_w, i32_w]
                  rfl
                 refine pure_ (i := 42) (N := some 102) (v := ?_) (a' := ?_) #[true, true, true, true, true, true, true, true, true, true, true, true, true, true, true, true, true, true, true, true, true, true, true, true, true, true, true, true, true, true, true, true, true, false, true, false, false, false, false, true, true, false, true, false, false, false, false, false, false] rfl rfl (any_of HT_.out (by kernel_rfl)) (fun _ _ _ h => h) (Or.inl ⟨by rfl, ?_⟩) ?_ ?_
                 rotate_left
                 ·intro w'
                  go_simp
                  first | with_reducible rfl | (simp only [hfd32_0, hfd32_1, hfd44_0, hfd44_1, hfd44_2]; with_reducible rfl)
                 rotate_left
                 ·simp only [Act.put, List.setIfInBounds_toArray, List.set_cons_zero, List.set_cons_succ, i64_w, i32_w]
                  rfl
                 refine take_ (i := 33) (N := some 93) (v := ?_) (a' := ?_) #[true, true, true, true, true, true, true, true, true, true, true, true, true, true, true, true, true, true, true, true, true, true, true, true, true, true, true, true, true, true, true, true, true, true, true, false, false, false, false, true, true, false, true, false, false, false, false, false, false] rfl rfl (take_ofW HT_.out HW_.out (by kernel_rfl)) (fun _ _ _ h => h) (Or.inl ⟨by rfl, ?_⟩) hHeld ?_ ?_
                 rotate_left
                 ·rintro w' ⟨s0, s1, s2, s3, s4, s5, s6⟩
                  go_simp
                  first | with_reducible rfl | (simp only [hfd32_0, hfd32_1, hfd44_0, hfd44_1, hfd44_2]; with_reducible rfl)
                 rotate_left
                 ·simp only [Act.put, List.setIfInBounds_toArray, List.set_cons_zero, List.set_cons_succ, i64_w, i32_w]
                  rfl
                 refine pure_ (i := 35) (N := some 95) (v := ?_) (a' := ?_) #[true, true, true, true, true, true, true, true, true, true, true, true, true, true, true, true, true, true, true, true, true, true, true, true, true, true, true, true, true, true, true, true, true, true, true, true, false, false, false, true, true, false, true, false, false, false, false, false, false] rfl rfl (any_of HT_.out (by kernel_rfl)) (fun _ _ _ h => h) (Or.inl ⟨by rfl, ?_⟩) ?_ ?_
                 rotate_left
                 ·intro w'
                  go_simp
                  first | with_reducible rfl | (simp only [hfd32_0, hfd32_1, hfd44_0, hfd44_1, hfd44_2]; with_reducible rfl)
                 rotate_left
                 ·simp only [Act.put, List.setIfInBounds_toArray, List.set_cons_zero, List.set_cons_succ, i64_w, i32_w]
                  rfl
                 refine take_ (i := 36) (N := some 96) (v := ?_) (a' := ?_) #[true, true, true, true, true, true, true, true, true, true, true, true, true, true, true, true, true, true, true, true, true, true, true, true, true, true, true, true, true, true, true, true, true, true, true, true, true, false, false, true, true, false, true, false, false, false, false, false, false] rfl rfl (take_ofW HT_.out HW_.out (by kernel_rfl)) (fun _ _ _ h => h) (Or.inl ⟨by rfl, ?_⟩) hHeld ?_ ?_
                 rotate_left
                 ·rintro w' ⟨s0, s1, s2, s3, s4, s5, s6⟩
                  go_simp
                  first | with_reducible rfl | (simp only [hfd32_0, hfd32_1, hfd44_0, hfd44_1, hfd44_2]; with_reducible rfl)
                 rotate_left
                 ·simp only [Act.put, List.setIfInBounds_toArray, List.set_cons_zero, List.set_cons_succ, i64_w, i32_w]
                  rfl
                 refine pure_ (i := 37) (N := some 97) (v := ?_) (a' := ?_) #[true, true, true, true, true, true, true, true, true, true, true, true, true, true, true, true, true, true, true, true, true, true, true, true, true, true, true, true, true, true, true, true, true, true, true, true, true, true, false, true, true, false, true, false, false, false, false, false, false] rfl rfl (any_of HT_.out (by kernel_rfl)) (fun _ _ _ h => h) (Or.inl ⟨by rfl, ?_⟩) ?_ ?_
                 rotate_left
                 ·intro w'
                  go_simp
                  first | with_reducible rfl | (simp only [hfd32_0, hfd32_1, hfd44_0, hfd44_1, hfd44_2]; with_reducible rfl)
                 rotate_left
                 ·simp only [Act.put, List.setIfInBounds_toArray, List.set_cons_zero, List.set_cons_succ, i64_w, i32_w]
                  rfl
                 refine take_ (i := 38) (N := some 98) (v := ?_) (a' := ?_) #[true, true, true, true, true, true, true, true, true, true, true, true, true, true, true, true, true, true, true, true, true, true, true, true, true, true, true, true, true, true, true, true, true, true, true, true, true, true, true, true, true, false, true, false, false, false, false, false, false] rfl rfl (take_ofW HT_.out HW_.out (by kernel_rfl)) (fun _ _ _ h => h) (Or.inl ⟨by rfl, ?_⟩) hHeld ?_ ?_
                 rotate_left
                 ·rintro w' ⟨s0, s1, s2, s3, s4, s5, s6⟩
                  go_simp
                  first | with_reducible rfl | (simp only [hfd32_0, hfd32_1, hfd44_0, hfd44_1, hfd44_2]; with_reducible rfl)
                 rotate_left
                 ·simp only [Act.put, List.setIfInBounds_toArray, List.set_cons_zero, List.set_cons_succ, i64_w, i32_w]
                  rfl
                 refine take_ (i := 41) (N := some 101) (v := ?_) (a' := ?_) #[true, true, true, true, true, true, true, true, true, true, true, true, true, true, true, true, true, true, true, true, true, true, true, true, true, true, true, true, true, true, true, true, true, true, true, true, true, true, true, true, true, true, true, false, false, false, false, false, false] rfl rfl (take_ofW HT_.out HW_.out (by kernel_rfl)) (fun _ _ _ h => h) (Or.inl ⟨by rfl, ?_⟩) hHeld ?_ ?_
                 rotate_left
                 ·rintro w' ⟨s0, s1, s2, s3, s4, s5, s6⟩
                  go_simp
                  first | with_reducible rfl | (simp only [hfd32_0, hfd32_1, hfd44_0, hfd44_1, hfd44_2]; with_reducible rfl)
                 rotate_left
                 ·simp only [Act.put, List.setIfInBounds_toArray, List.set_cons_zero, List.set_cons_succ, i64_w, i32_w]
                  rfl
                 refine pure_ (i := 43) (N := some 103) (v := ?_) (a' := ?_) #[true, true, true, true, true, true, true, true, true, true, true, true, true, true, true, true, true, true, true, true, true, true, true, true, true, true, true, true, true, true, true, true, true, true, true, true, true, true, true, true, true, true, true, true, false, false, false, false, false] rfl rfl (any_of HT_.out (by kernel_rfl)) (fun _ _ _ h => h) (Or.inl ⟨by rfl, ?_⟩) ?_ ?_
                 rotate_left
                 ·intro w'
                  go_simp
                  first | with_reducible rfl | (simp only [hfd32_0, hfd32_1, hfd44_0, hfd44_1, hfd44_2]; with_reducible rfl)
                 rotate_left
                 ·simp only [Act.put, List.setIfInBounds_toArray, List.set_cons_zero, List.set_cons_succ, i64_w, i32_w]
                  rfl
                 refine take_ (i := 44) (N := some 104) (v := ?_) (a' := ?_) #[true, true, true, true, true, true, true, true, true, true, true, true, true, true, true, true, true, true, true, true, true, true, true, true, true, true, true, true, true, true, true, true, true, true, true, true, true, true, true, true, true, true, true, true, true, false, false, false, false] rfl rfl (take_ofW HT_.out HW_.out (by kernel_rfl)) (fun _ _ _ h => h) (Or.inl ⟨by rfl, ?_⟩) hHeld ?_ ?_
                 rotate_left
                 ·rintro w' ⟨s0, s1, s2, s3, s4, s5, s6⟩
                  go_simp
                  first | with_reducible rfl | (simp only [hfd32_0, hfd32_1, hfd44_0, hfd44_1, hfd44_2]; with_reducible rfl)
                 rotate_left
                 ·simp only [Act.put, List.setIfInBounds_toArray, List.set_cons_zero, List.set_cons_succ, i64_w, i32_w]
                  rfl
                 refine pure_ (i := 45) (N := some 105) (v := ?_) (a' := ?_) #[true, true, true, true, true, true, true, true, true, true, true, true, true, true, true, true, true, true, true, true, true, true, true, true, true, true, true, true, true, true, true, true, true, true, true, true, true, true, true, true, true, true, true, true, true, true, false, false, false] rfl rfl (any_of HT_.out (by kernel_rfl)) (fun _ _ _ h => h) (Or.inl ⟨by rfl, ?_⟩) ?_ ?_
                 rotate_left
                 ·intro w'
                  go_simp
                  first | with_reducible rfl | (simp only [hfd32_0, hfd32_1, hfd44_0, hfd44_1, hfd44_2]; with_reducible rfl)
                 rotate_left
                 ·simp only [Act.put, List.setIfInBounds_toArray, List.set_cons_zero, List.set_cons_succ, i64_w, i32_w]
                  rfl
                 refine take_ (i := 46) (N := some 106) (v := ?_) (a' := ?_) #[true, true, true, true, true, true, true, true, true, true, true, true, true, true, true, true, true, true, true, true, true, true, true, true, true, true, true, true, true, true, true, true, true, true, true, true, true, true, true, true, true, true, true, true, true, true, true, false, false] rfl rfl (take_ofW HT_.out HW_.out (by kernel_rfl)) (fun _ _ _ h => h) (Or.inl ⟨by rfl, ?_⟩) hHeld ?_ ?_
                 rotate_left
                 ·rintro w' ⟨s0, s1, s2, s3, s4, s5, s6⟩
                  go_simp
                  first | with_reducible rfl | (simp only [hfd32_0, hfd32_1, hfd44_0, hfd44_1, hfd44_2]; with_reducible rfl)
                 rotate_left
                 ·simp only [Act.put, List.setIfInBounds_toArray, List.set_cons_zero, List.set_cons_succ, i64_w, i32_w]
                  rfl
                 refine pure_ (i := 47) (N := some 107) (v := ?_) (a' := ?_) #[true, true, true, true, true, true, true, true, true, true, true, true, true, true, true, true, true, true, true, true, true, true, true, true, true, true, true, true, true, true, true, true, true, true, true, true, true, true, true, true, true, true, true, true, true, true, true, true, false] rfl rfl (any_of HT_.out (by kernel_rfl)) (fun _ _ _ h => h) (Or.inl ⟨by rfl, ?_⟩) ?_ ?_
                 rotate_left
                 ·intro w'
                  go_simp
                  first | with_reducible rfl | (simp only [hfd32_0, hfd32_1, hfd44_0, hfd44_1, hfd44_2]; with_reducible rfl)
                 rotate_left
                 ·simp only [Act.put, List.setIfInBounds_toArray, List.set_cons_zero, List.set_cons_succ, i64_w, i32_w]
                  rfl
                 refine pure_ (i := 48) (N := some 108) (v := ?_) (a' := ?_) #[true, true, true, true, true, true, true, true, true, true, true, true, true, true, true, true, true, true, true, true, true, true, true, true, true, true, true, true, true, true, true, true, true, true, true, true, true, true, true, true, true, true, true, true, true, true, true, true, true] rfl rfl (any_of HT_.out (by kernel_rfl)) (fun _ _ _ h => h) (Or.inl ⟨by rfl, ?_⟩) ?_ ?_
                 rotate_left
                 ·intro w'
                  go_simp
                  first | with_reducible rfl | (simp only [hfd32_0, hfd32_1, hfd44_0, hfd44_1, hfd44_2]; with_reducible rfl)
                 rotate_left
                 ·simp only [Act.put, List.setIfInBounds_toArray, List.set_cons_zero, List.set_cons_succ, i64_w, i32_w]
                  rfl
                 refine done_ (done_of HT_.out (by kernel_rfl)) ?_
                 try go_wp2
                 go_roundg k2
                 case measure => have := HJ6.out; have := HK2.out; omega
                 case rel => exact ⟨(wrap64 (x6_2 + 1)), (by first | rfl | (simp; done) | (simp [*]; done)), H', ⟨by have := HJ6.out; have := HK2.out; omega⟩, ⟨by (with_reducible repeat (first | apply Kd.R_alloc | apply Kd.R_drewN | apply Kd.R_drew)); exact HO_3.out⟩, ⟨by (with_reducible repeat (first | apply Kd.R_alloc | apply Kd.R_drewN | apply Kd.R_drew)); exact HO_4.out⟩, ⟨by (with_reducible repeat (first | apply Kd.R_alloc | apply Kd.R_drewN | apply Kd.R_drew)); exact HO_976001.out⟩, ⟨by (with_reducible repeat (first | apply Kd.R_alloc | apply Kd.R_drewN | apply Kd.R_drew)); exact HO_976002.out⟩, ⟨by (with_reducible repeat (first | refine blk_drewN ?_ _ | refine blk_drew ?_ | refine blk_alloc ?_ _)); exact BK975.out⟩, ⟨by repeat (first | (with_reducible first | exact HB.out | apply below_alloc | apply pw_below_drewN | apply below_drew1 | refine below_set ?_ GE975.out) | exact HB.out)⟩⟩
                ·rw [if_neg c55] at H
                 have c55b0 : ((rdOf ByteArray.empty t962 (rd t969 x6_2)).toList == (rdOf ByteArray.empty t963 (rd t972 x6_2)).toList) = false := beq_eq_false_iff_ne.mpr c55
                 have c55b1 : ((rdOf ByteArray.empty t962 (rd t969 x6_2)).toList != (rdOf ByteArray.empty t963 (rd t972 x6_2)).toList) = true := bne_iff_ne.mpr c55
                 exact absurd ((Option.some.inj H).trans HLAW.out) (by decide)
               ·rw [if_neg c54] at H
                exact absurd H (by simp)
              ·rw [if_neg c53] at H
               exact absurd H (by simp)
             ·rw [if_neg c52] at H
              exact absurd H (by simp)
            ·rw [if_neg c51] at H
             exact absurd H (by simp)
           ·rw [if_neg c50] at H
            exact absurd H (by simp)
          ·rw [if_neg c49] at H
           exact absurd H (by simp)
        ·rw [if_neg c32] at H
         have c32b0 : decide (x6_2 < (t969.length : Int)) = false := decide_eq_false c32
         clear c32
         replace H := Option.bind_eq_some_iff.mp H
         obtain ⟨⟨t1001, t1002⟩, A580, H⟩ := H
         replace H : (if t1002 = (t962.length : Int) then ((impl_EditCount.f k2 t962 t963).bind fun bt1003 => (some (bt1003.2 == (wrap64 ((wrap64 ((t962.length : Int) + (t963.length : Int))) - (wrap64 (2 * (t969.length : Int)))))))) else (some false)) = some r := H
         have A58 := Aside0.mk A580
         clear A580
         by_cases c59 : t1002 = (t962.length : Int)
         ·rw [if_pos c59] at H
          have c59b0 : (t1002 == (t962.length : Int)) = true := beq_iff_eq.mpr c59
          have c59b1 : (t1002 != (t962.length : Int)) = false := bne_eq_false_iff_eq.mpr c59
          clear c59
          replace H := Option.bind_eq_some_iff.mp H
          obtain ⟨⟨t1003, t1004⟩, A600, H⟩ := H
          replace H : (some (t1004 == (wrap64 ((wrap64 ((t962.length : Int) + (t963.length : Int))) - (wrap64 (2 * (t969.length : Int))))))) = some r := H
          have A60 := Aside0.mk A600
          clear A600
          obtain rfl := Option.some.inj H
          have hcz61_0 : wr.cell? ⟨gb975, 0, none⟩ = some (.int .i64 t968) := (blk_cell BK975.out 0).trans rfl
          have hcz61_1 : wr.cell? ⟨gb975, 1, none⟩ = some (.slice Ao14 t969.length co14) := (blk_cell BK975.out 1).trans rfl
          have hcz61_2 : wr.cell? ⟨gb975, 2, none⟩ = some (.slice Ao15 t972.length co15) := (blk_cell BK975.out 2).trans rfl
          have hfz61_0 := blk_frozen BK975.out 0
          have hfz61_1 := blk_frozen BK975.out 1
          have hfz61_2 := blk_frozen BK975.out 2
          try go_wp2
          have n0_ := Aside0.mk (Kd.R_drew HO_3.out)
          have n1_ := Aside0.mk (Kd.R_drew HO_4.out)
          have n2_ := Aside0.mk (Kd.R_drew HO_976001.out)
          have n3_ := Aside0.mk (Kd.R_drew HO_976002.out)
          have n4_ := Aside0.mk (blk_drew BK975.out)
          have n5_ := Aside0.mk (below_drew1 HB.out)
          clear HO_3
          clear HO_4
          clear HO_976001
          clear HO_976002
          clear BK975
          clear HB
          have HO_3 := n0_
          have HO_4 := n1_
          have HO_976001 := n2_
          have HO_976002 := n3_
          have BK975 := n4_
          have HB := n5_
          clear n0_ n1_ n2_ n3_ n4_ n5_
          refine start_ (n := 25) (S := fun w' => w'.cell? ⟨gb975, 0, none⟩ = some (.int .i64 t968) ∧ w'.cell? ⟨gb975, 1, none⟩ = some (.slice Ao14 t969.length co14) ∧ w'.cell? ⟨gb975, 2, none⟩ = some (.slice Ao15 t972.length co15)) (ds := []) #[false, false, false, false, false, false, false, false, false, false, false, false, false, false, false, false, false, false, false, false, false, false, false, false, false] (by kernel_rfl) rfl rfl ⟨(blk_cell BK975.out 0).trans rfl, (blk_cell BK975.out 1).trans rfl, (blk_cell BK975.out 2).trans rfl⟩ (fun hHeld => ?_); refine with_tabW laws_FnMatches.tab14 laws_FnMatches.bits14 (fun HT_ HW_ => ?_)
          generalize wr.drew = w62 at HO_3 HO_4 HO_976001 HO_976002 BK975 HB hHeld ⊢
          refine pure_ (i := 0) (N := some 109) (v := ?_) (a' := ?_) #[true, false, false, false, false, false, false, false, false, false, false, false, false, false, false, false, false, false, false, false, false, false, false, false, false] rfl rfl (any_of HT_.out (by kernel_rfl)) (fun _ _ _ h => h) (Or.inl ⟨by rfl, ?_⟩) ?_ ?_
          rotate_left
          ·intro w'
           go_simp
           first | with_reducible rfl | (simp only [hfd32_0, hfd32_1, hfd44_0, hfd44_1, hfd44_2]; with_reducible rfl)
          rotate_left
          ·simp only [Act.put, List.setIfInBounds_toArray, List.set_cons_zero, List.set_cons_succ, i64_w, i32_w]
           rfl
          refine pure_ (i := 1) (N := some 110) (v := ?_) (a' := ?_) #[true, true, false, false, false, false, false, false, false, false, false, false, false, false, false, false, false, false, false, false, false, false, false, false, false] rfl rfl (any_of HT_.out (by kernel_rfl)) (fun _ _ _ h => h) (Or.inl ⟨by rfl, ?_⟩) ?_ ?_
          rotate_left
          ·intro w'
           go_simp
           first | with_reducible rfl | (simp only [hfd32_0, hfd32_1, hfd44_0, hfd44_1, hfd44_2]; with_reducible rfl)
          rotate_left
          ·simp only [Act.put, List.setIfInBounds_toArray, List.set_cons_zero, List.set_cons_succ, i64_w, i32_w]
           rfl
          refine pure_ (i := 4) (N := some 113) (v := ?_) (a' := ?_) #[true, true, false, false, true, false, false, false, false, false, false, false, false, false, false, false, false, false, false, false, false, false, false, false, false] rfl rfl (any_of HT_.out (by kernel_rfl)) (fun _ _ _ h => h) (Or.inl ⟨by rfl, ?_⟩) ?_ ?_
          rotate_left
          ·intro w'
           go_simp
           first | with_reducible rfl | (simp only [hfd32_0, hfd32_1, hfd44_0, hfd44_1, hfd44_2]; with_reducible rfl)
          rotate_left
          ·simp only [Act.put, List.setIfInBounds_toArray, List.set_cons_zero, List.set_cons_succ, i64_w, i32_w]
           rfl
          refine pure_ (i := 5) (N := some 114) (v := ?_) (a' := ?_) #[true, true, false, false, true, true, false, false, false, false, false, false, false, false, false, false, false, false, false, false, false, false, false, false, false] rfl rfl (any_of HT_.out (by kernel_rfl)) (fun _ _ _ h => h) (Or.inl ⟨by rfl, ?_⟩) ?_ ?_
          rotate_left
          ·intro w'
           go_simp
           first | with_reducible rfl | (simp only [hfd32_0, hfd32_1, hfd44_0, hfd44_1, hfd44_2]; with_reducible rfl)
          rotate_left
          ·simp only [Act.put, List.setIfInBounds_toArray, List.set_cons_zero, List.set_cons_succ, i64_w, i32_w]
           rfl
          refine one_ (i := 2) (N := some 111) #[true, true, true, false, true, true, false, false, false, false, false, false, false, false, false, false, false, false, false, false, false, false, false, false, false] rfl rfl (one_of HT_.out (by kernel_rfl)) (by decide) (fun K hK => ?_)
          refine goes_ Try.func20 (by kernel_rfl) rfl #[.slice Ao9 t962.length co9, .slice Ao9 t962.length co9] (by rfl) rfl rfl (by (try simp only [List.map_toArray, List.map_cons, List.map_nil]); first | done | rfl | (simp only [List.length_drop, List.length_take]; rfl)) ?_
          with_reducible refine (impl_CommonOf.calls k2 _ _ t962 _ _ t962 t1001 t1002 _ ?side1 ?side2 ?side3 ?side4 A58.out).mono ?_
          (case side1 => repeat (first | exact (Kd.R_reads' HO_3.out).2.2 | (with_reducible refine Kd.C_alloc ?_ _) | (with_reducible refine Kd.C_drewN ?_ _) | (with_reducible refine Kd.C_drew ?_)))
          (case side2 => exact (Kd.R_reads' HO_3.out).2.1)
          (case side3 => repeat (first | exact (Kd.R_reads' HO_3.out).2.2 | (with_reducible refine Kd.C_alloc ?_ _) | (with_reducible refine Kd.C_drewN ?_ _) | (with_reducible refine Kd.C_drew ?_)))
          (case side4 => exact (Kd.R_reads' HO_3.out).2.1)
          rintro e w63 ⟨rfl, hb⟩
          refine ⟨_, rfl, ?_⟩
          have n0_ := Aside0.mk (Kd.R_below (by (with_reducible repeat (first | apply Kd.R_alloc | apply Kd.R_drewN | apply Kd.R_drew)); exact HO_3.out) hb)
          have n1_ := Aside0.mk (Kd.R_below (by (with_reducible repeat (first | apply Kd.R_alloc | apply Kd.R_drewN | apply Kd.R_drew)); exact HO_4.out) hb)
          have n2_ := Aside0.mk (Kd.R_below (by (with_reducible repeat (first | apply Kd.R_alloc | apply Kd.R_drewN | apply Kd.R_drew)); exact HO_976001.out) hb)
          have n3_ := Aside0.mk (Kd.R_below (by (with_reducible repeat (first | apply Kd.R_alloc | apply Kd.R_drewN | apply Kd.R_drew)); exact HO_976002.out) hb)
          have n4_ := Aside0.mk (blk_below (g := gb975) (o := .cells #[.int .i64 t968, .slice Ao14 t969.length co14, .slice Ao15 t972.length co15] 44 (0, 0)) (by (with_reducible repeat (first | refine blk_drewN ?_ _ | refine blk_drew ?_ | refine blk_alloc ?_ _)); exact BK975.out) hb)
          have n5_ := Aside0.mk (below_step (by repeat (first | (with_reducible first | exact HB.out | apply below_alloc | apply pw_below_drewN | apply below_drew1 | refine below_set ?_ GE975.out) | exact HB.out)) hb)
          clear HO_3
          clear HO_4
          clear HO_976001
          clear HO_976002
          clear BK975
          clear HB
          have HO_3 := n0_
          have HO_4 := n1_
          have HO_976001 := n2_
          have HO_976002 := n3_
          have BK975 := n4_
          have HB := n5_
          clear n0_ n1_ n2_ n3_ n4_ n5_
          (try clear hb)
          (try clear hb2)
          (try clear hk)
          (try clear hi)
          refine hK.out _ _ ⟨(blk_cell BK975.out 0).trans rfl, (blk_cell BK975.out 1).trans rfl, (blk_cell BK975.out 2).trans rfl⟩ (fun hHeld => ?_)
          clear hK K
          refine norm_ (a' := ?_) ?_ ?_
          rotate_left
          ·show Act.put _ (some 111) _ = _
           simp only [Act.put, List.setIfInBounds_toArray, List.set_cons_zero, List.set_cons_succ, i64_w, i32_w]
           rfl
          refine pure_ (i := 3) (N := some 112) (v := ?_) (a' := ?_) #[true, true, true, true, true, true, false, false, false, false, false, false, false, false, false, false, false, false, false, false, false, false, false, false, false] rfl rfl (any_of HT_.out (by kernel_rfl)) (fun _ _ _ h => h) (Or.inl ⟨by rfl, ?_⟩) ?_ ?_
          rotate_left
          ·intro w'
           go_simp
           first | with_reducible rfl | (simp only [hfd32_0, hfd32_1, hfd44_0, hfd44_1, hfd44_2]; with_reducible rfl)
          rotate_left
          ·simp only [Act.put, List.setIfInBounds_toArray, List.set_cons_zero, List.set_cons_succ, i64_w, i32_w]
           rfl
          refine pure_ (i := 6) (N := some 115) (v := ?_) (a' := ?_) #[true, true, true, true, true, true, true, false, false, false, false, false, false, false, false, false, false, false, false, false, false, false, false, false, false] rfl rfl (any_of HT_.out (by kernel_rfl)) (fun _ _ _ h => h) (Or.inl ⟨by rfl, ?_⟩) ?_ ?_
          rotate_left
          ·intro w'
           go_simp
           first | with_reducible rfl | (simp only [hfd32_0, hfd32_1, hfd44_0, hfd44_1, hfd44_2]; with_reducible rfl)
          rotate_left
          ·simp only [Act.put, List.setIfInBounds_toArray, List.set_cons_zero, List.set_cons_succ, i64_w, i32_w]
           rfl
          refine pure_ (i := 7) (N := some 116) (v := ?_) (a' := ?_) #[true, true, true, true, true, true, true, true, false, false, false, false, false, false, false, false, false, false, false, false, false, false, false, false, false] rfl rfl (any_of HT_.out (by kernel_rfl)) (fun _ _ _ h => h) (Or.inl ⟨by rfl, ?_⟩) ?_ ?_
          rotate_left
          ·intro w'
           go_simp
           first | with_reducible rfl | (simp only [hfd32_0, hfd32_1, hfd44_0, hfd44_1, hfd44_2]; with_reducible rfl)
          rotate_left
          ·simp only [Act.put, List.setIfInBounds_toArray, List.set_cons_zero, List.set_cons_succ, i64_w, i32_w]
           rfl
          refine pure_ (i := 8) (N := some 117) (v := ?_) (a' := ?_) #[true, true, true, true, true, true, true, true, true, false, false, false, false, false, false, false, false, false, false, false, false, false, false, false, false] rfl rfl (any_of HT_.out (by kernel_rfl)) (fun _ _ _ h => h) (Or.inl ⟨by rfl, ?_⟩) ?_ ?_
          rotate_left
          ·intro w'
           go_simp
           first | with_reducible rfl | (simp only [hfd32_0, hfd32_1, hfd44_0, hfd44_1, hfd44_2]; with_reducible rfl)
          rotate_left
          ·simp only [Act.put, List.setIfInBounds_toArray, List.set_cons_zero, List.set_cons_succ, i64_w, i32_w]
           rfl
          refine pure_ (i := 9) (N := some 118) (v := ?_) (a' := ?_) #[true, true, true, true, true, true, true, true, true, true, false, false, false, false, false, false, false, false, false, false, false, false, false, false, false] rfl rfl (any_of HT_.out (by kernel_rfl)) (fun _ _ _ h => h) (Or.inl ⟨by rfl, ?_⟩) ?_ ?_
          rotate_left
          ·intro w'
           go_simp
           first | with_reducible rfl | (simp only [hfd32_0, hfd32_1, hfd44_0, hfd44_1, hfd44_2]; with_reducible rfl)
          rotate_left
          ·simp only [Act.put, List.setIfInBounds_toArray, List.set_cons_zero, List.set_cons_succ, i64_w, i32_w]
           rfl
          refine pure_ (i := 12) (N := some 121) (v := ?_) (a' := ?_) #[true, true, true, true, true, true, true, true, true, true, false, false, true, false, false, false, false, false, false, false, false, false, false, false, false] rfl rfl (any_of HT_.out (by kernel_rfl)) (fun _ _ _ h => h) (Or.inl ⟨by rfl, ?_⟩) ?_ ?_
          rotate_left
          ·intro w'
           go_simp
           first | with_reducible rfl | (simp only [hfd32_0, hfd32_1, hfd44_0, hfd44_1, hfd44_2]; with_reducible rfl)
          rotate_left
          ·simp only [Act.put, List.setIfInBounds_toArray, List.set_cons_zero, List.set_cons_succ, i64_w, i32_w]
           rfl
          refine pure_ (i := 13) (N := some 122) (v := ?_) (a' := ?_) #[true, true, true, true, true, true, true, true, true, true, false, false, true, true, false, false, false, false, false, false, false, false, false, false, false] rfl rfl (any_of HT_.out (by kernel_rfl)) (fun _ _ _ h => h) (Or.inl ⟨by rfl, ?_⟩) ?_ ?_
          rotate_left
          ·intro w'
           go_simp
           first | with_reducible rfl | (simp only [hfd32_0, hfd32_1, hfd44_0, hfd44_1, hfd44_2]; with_reducible rfl)
          rotate_left
          ·simp only [Act.put, List.setIfInBounds_toArray, List.set_cons_zero, List.set_cons_succ, i64_w, i32_w]
           rfl
          refine pure_ (i := 14) (N := some 123) (v := ?_) (a' := ?_) #[true, true, true, true, true, true, true, true, true, true, false, false, true, true, true, false, false, false, false, false, false, false, false, false, false] rfl rfl (any_of HT_.out (by kernel_rfl)) (fun _ _ _ h => h) (Or.inl ⟨by rfl, ?_⟩) ?_ ?_
          rotate_left
          ·intro w'
           go_simp
           first | with_reducible rfl | (simp only [hfd32_0, hfd32_1, hfd44_0, hfd44_1, hfd44_2]; with_reducible rfl)
          rotate_left
          ·simp only [Act.put, List.setIfInBounds_toArray, List.set_cons_zero, List.set_cons_succ, i64_w, i32_w]
           rfl
          refine pure_ (i := 15) (N := some 124) (v := ?_) (a' := ?_) #[true, true, true, true, true, true, true, true, true, true, false, false, true, true, true, true, false, false, false, false, false, false, false, false, false] rfl rfl (any_of HT_.out (by kernel_rfl)) (fun _ _ _ h => h) (Or.inl ⟨by rfl, ?_⟩) ?_ ?_
          rotate_left
          ·intro w'
           go_simp
           first | with_reducible rfl | (simp only [hfd32_0, hfd32_1, hfd44_0, hfd44_1, hfd44_2]; with_reducible rfl)
          rotate_left
          ·simp only [Act.put, List.setIfInBounds_toArray, List.set_cons_zero, List.set_cons_succ, i64_w, i32_w]
           rfl
          refine pure_ (i := 16) (N := some 125) (v := ?_) (a' := ?_) #[true, true, true, true, true, true, true, true, true, true, false, false, true, true, true, true, true, false, false, false, false, false, false, false, false] rfl rfl (any_of HT_.out (by kernel_rfl)) (fun _ _ _ h => h) (Or.inl ⟨by rfl, ?_⟩) ?_ ?_
          rotate_left
          ·intro w'
           go_simp
           first | with_reducible rfl | (simp only [hfd32_0, hfd32_1, hfd44_0, hfd44_1, hfd44_2]; with_reducible rfl)
          rotate_left
          ·simp only [Act.put, List.setIfInBounds_toArray, List.set_cons_zero, List.set_cons_succ, i64_w, i32_w]
           rfl
          refine pure_ (i := 17) (N := some 126) (v := ?_) (a' := ?_) #[true, true, true, true, true, true, true, true, true, true, false, false, true, true, true, true, true, true, false, false, false, false, false, false, false] rfl rfl (any_of HT_.out (by kernel_rfl)) (fun _ _ _ h => h) (Or.inl ⟨by rfl, ?_⟩) ?_ ?_
          rotate_left
          ·intro w'
           go_simp
           first | with_reducible rfl | (simp only [hfd32_0, hfd32_1, hfd44_0, hfd44_1, hfd44_2]; with_reducible rfl)
          rotate_left
          ·simp only [Act.put, List.setIfInBounds_toArray, List.set_cons_zero, List.set_cons_succ, i64_w, i32_w]
           rfl
          refine take_ (i := 18) (N := some 127) (v := ?_) (a' := ?_) #[true, true, true, true, true, true, true, true, true, true, false, false, true, true, true, true, true, true, true, false, false, false, false, false, false] rfl rfl (take_ofW HT_.out HW_.out (by kernel_rfl)) (fun _ _ _ h => h) (Or.inl ⟨by rfl, ?_⟩) hHeld ?_ ?_
          rotate_left
          ·rintro w' ⟨s0, s1, s2⟩
           go_simp
           first | with_reducible rfl | (simp only [hfd32_0, hfd32_1, hfd44_0, hfd44_1, hfd44_2]; with_reducible rfl)
          rotate_left
          ·simp only [Act.put, List.setIfInBounds_toArray, List.set_cons_zero, List.set_cons_succ, i64_w, i32_w]
           rfl
          refine pure_ (i := 19) (N := some 128) (v := ?_) (a' := ?_) #[true, true, true, true, true, true, true, true, true, true, false, false, true, true, true, true, true, true, true, true, false, false, false, false, false] rfl rfl (any_of HT_.out (by kernel_rfl)) (fun _ _ _ h => h) (Or.inl ⟨by rfl, ?_⟩) ?_ ?_
          rotate_left
          ·intro w'
           go_simp
           first | with_reducible rfl | (simp only [hfd32_0, hfd32_1, hfd44_0, hfd44_1, hfd44_2]; with_reducible rfl)
          rotate_left
          ·simp only [Act.put, List.setIfInBounds_toArray, List.set_cons_zero, List.set_cons_succ, i64_w, i32_w]
           rfl
          refine pure_ (i := 20) (N := some 129) (v := ?_) (a' := ?_) #[true, true, true, true, true, true, true, true, true, true, false, false, true, true, true, true, true, true, true, true, true, false, false, false, false] rfl rfl (any_of HT_.out (by kernel_rfl)) (fun _ _ _ h => h) (Or.inl ⟨by rfl, ?_⟩) ?_ ?_
          rotate_left
          ·intro w'
           go_simp
           first | with_reducible rfl | (simp only [hfd32_0, hfd32_1, hfd44_0, hfd44_1, hfd44_2]; with_reducible rfl)
          rotate_left
          ·simp only [Act.put, List.setIfInBounds_toArray, List.set_cons_zero, List.set_cons_succ, i64_w, i32_w]
           rfl
          refine pure_ (i := 21) (N := some 130) (v := ?_) (a' := ?_) #[true, true, true, true, true, true, true, true, true, true, false, false, true, true, true, true, true, true, true, true, true, true, false, false, false] rfl rfl (any_of HT_.out (by kernel_rfl)) (fun _ _ _ h => h) (Or.inl ⟨by rfl, ?_⟩) ?_ ?_
          rotate_left
          ·intro w'
           go_simp
           first | with_reducible rfl | (simp only [hfd32_0, hfd32_1, hfd44_0, hfd44_1, hfd44_2]; with_reducible rfl)
          rotate_left
          ·simp only [Act.put, List.setIfInBounds_toArray, List.set_cons_zero, List.set_cons_succ, i64_w, i32_w]
           rfl
          refine one_ (i := 10) (N := some 119) #[true, true, true, true, true, true, true, true, true, true, true, false, true, true, true, true, true, true, true, true, true, true, false, false, false] rfl rfl (one_of HT_.out (by kernel_rfl)) (by decide) (fun K hK => ?_)
          refine goes_ Try.func23 (by kernel_rfl) rfl #[.slice Ao9 t962.length co9, .slice Ao10 t963.length co10] (by rfl) rfl rfl (by (try simp only [List.map_toArray, List.map_cons, List.map_nil]); first | done | rfl | (simp only [List.length_drop, List.length_take]; rfl)) ?_
          with_reducible refine (impl_EditCount.calls k2 _ _ t962 _ _ t963 t1003 t1004 _ ?side1 ?side2 ?side3 ?side4 A60.out).mono ?_
          (case side1 => repeat (first | exact (Kd.R_reads' HO_3.out).2.2 | (with_reducible refine Kd.C_alloc ?_ _) | (with_reducible refine Kd.C_drewN ?_ _) | (with_reducible refine Kd.C_drew ?_)))
          (case side2 => exact (Kd.R_reads' HO_3.out).2.1)
          (case side3 => repeat (first | exact (Kd.R_reads' HO_4.out).2.2 | (with_reducible refine Kd.C_alloc ?_ _) | (with_reducible refine Kd.C_drewN ?_ _) | (with_reducible refine Kd.C_drew ?_)))
          (case side4 => exact (Kd.R_reads' HO_4.out).2.1)
          rintro e w64 ⟨rfl, hb⟩
          refine ⟨_, rfl, ?_⟩
          have n0_ := Aside0.mk (Kd.R_below (by (with_reducible repeat (first | apply Kd.R_alloc | apply Kd.R_drewN | apply Kd.R_drew)); exact HO_3.out) hb)
          have n1_ := Aside0.mk (Kd.R_below (by (with_reducible repeat (first | apply Kd.R_alloc | apply Kd.R_drewN | apply Kd.R_drew)); exact HO_4.out) hb)
          have n2_ := Aside0.mk (Kd.R_below (by (with_reducible repeat (first | apply Kd.R_alloc | apply Kd.R_drewN | apply Kd.R_drew)); exact HO_976001.out) hb)
          have n3_ := Aside0.mk (Kd.R_below (by (with_reducible repeat (first | apply Kd.R_alloc | apply Kd.R_drewN | apply Kd.R_drew)); exact HO_976002.out) hb)
          have n4_ := Aside0.mk (blk_below (g := gb975) (o := .cells #[.int .i64 t968, .slice Ao14 t969.length co14, .slice Ao15 t972.length co15] 44 (0, 0)) (by (with_reducible repeat (first | refine blk_drewN ?_ _ | refine blk_drew ?_ | refine blk_alloc ?_ _)); exact BK975.out) hb)
          have n5_ := Aside0.mk (below_step (by repeat (first | (with_reducible first | exact HB.out | apply below_alloc | apply pw_below_drewN | apply below_drew1 | refine below_set ?_ GE975.out) | exact HB.out)) hb)
          clear HO_3
          clear HO_4
          clear HO_976001
          clear HO_976002
          clear BK975
          clear HB
          have HO_3 := n0_
          have HO_4 := n1_
          have HO_976001 := n2_
          have HO_976002 := n3_
          have BK975 := n4_
          have HB := n5_
          clear n0_ n1_ n2_ n3_ n4_ n5_
          (try clear hb)
          (try clear hb2)
          (try clear hk)
          (try clear hi)
          refine hK.out _ _ ⟨(blk_cell BK975.out 0).trans rfl, (blk_cell BK975.out 1).trans rfl, (blk_cell BK975.out 2).trans rfl⟩ (fun hHeld => ?_)
          clear hK K
          refine norm_ (a' := ?_) ?_ ?_
          rotate_left
          ·show Act.put _ (some 119) _ = _
           simp only [Act.put, List.setIfInBounds_toArray, List.set_cons_zero, List.set_cons_succ, i64_w, i32_w]
           rfl
          refine pure_ (i := 11) (N := some 120) (v := ?_) (a' := ?_) #[true, true, true, true, true, true, true, true, true, true, true, true, true, true, true, true, true, true, true, true, true, true, false, false, false] rfl rfl (any_of HT_.out (by kernel_rfl)) (fun _ _ _ h => h) (Or.inl ⟨by rfl, ?_⟩) ?_ ?_
          rotate_left
          ·intro w'
           go_simp
           first | with_reducible rfl | (simp only [hfd32_0, hfd32_1, hfd44_0, hfd44_1, hfd44_2]; with_reducible rfl)
          rotate_left
          ·simp only [Act.put, List.setIfInBounds_toArray, List.set_cons_zero, List.set_cons_succ, i64_w, i32_w]
           rfl
          refine pure_ (i := 22) (N := some 131) (v := ?_) (a' := ?_) #[true, true, true, true, true, true, true, true, true, true, true, true, true, true, true, true, true, true, true, true, true, true, true, false, false] rfl rfl (any_of HT_.out (by kernel_rfl)) (fun _ _ _ h => h) (Or.inl ⟨by rfl, ?_⟩) ?_ ?_
          rotate_left
          ·intro w'
           go_simp
           first | with_reducible rfl | (simp only [hfd32_0, hfd32_1, hfd44_0, hfd44_1, hfd44_2]; with_reducible rfl)
          rotate_left
          ·simp only [Act.put, List.setIfInBounds_toArray, List.set_cons_zero, List.set_cons_succ, i64_w, i32_w]
           rfl
          refine pure_ (i := 23) (N := some 132) (v := ?_) (a' := ?_) #[true, true, true, true, true, true, true, true, true, true, true, true, true, true, true, true, true, true, true, true, true, true, true, true, false] rfl rfl (any_of HT_.out (by kernel_rfl)) (fun _ _ _ h => h) (Or.inl ⟨by rfl, ?_⟩) ?_ ?_
          rotate_left
          ·intro w'
           go_simp
           first | with_reducible rfl | (simp only [hfd32_0, hfd32_1, hfd44_0, hfd44_1, hfd44_2]; with_reducible rfl)
          rotate_left
          ·simp only [Act.put, List.setIfInBounds_toArray, List.set_cons_zero, List.set_cons_succ, i64_w, i32_w]
           rfl
          refine pure_ (i := 24) (N := some 2) (v := ?_) (a' := ?_) #[true, true, true, true, true, true, true, true, true, true, true, true, true, true, true, true, true, true, true, true, true, true, true, true, true] rfl rfl (any_of HT_.out (by kernel_rfl)) (fun _ _ _ h => h) (Or.inl ⟨by rfl, ?_⟩) ?_ ?_
          rotate_left
          ·intro w'
           go_simp
           first | with_reducible rfl | (simp only [hfd32_0, hfd32_1, hfd44_0, hfd44_1, hfd44_2]; with_reducible rfl)
          rotate_left
          ·simp only [Act.put, List.setIfInBounds_toArray, List.set_cons_zero, List.set_cons_succ, i64_w, i32_w]
           rfl
          refine done_ (done_of HT_.out (by kernel_rfl)) ?_
          try go_wp2
          go_ret
          exact ⟨by first | rfl | (simp [errW_none, errW_some] <;> rfl) | (simp [*, errW_none, errW_some] <;> rfl), by repeat (first | (with_reducible first | exact HB.out | apply below_alloc | apply pw_below_drewN | apply below_drew1 | refine below_set ?_ GE975.out) | exact HB.out)⟩
         ·rw [if_neg c59] at H
          have c59b0 : (t1002 == (t962.length : Int)) = false := beq_eq_false_iff_ne.mpr c59
          have c59b1 : (t1002 != (t962.length : Int)) = true := bne_iff_ne.mpr c59
          exact absurd ((Option.some.inj H).trans HLAW.out) (by decide)
  ·rw [if_neg c6] at H
   have c6b0 : (t968 == 0) = false := beq_eq_false_iff_ne.mpr c6
   have c6b1 : (t968 != 0) = true := bne_iff_ne.mpr c6
   replace H := Option.bind_eq_some_iff.mp H
   obtain ⟨⟨t976, t977, t980⟩, A650, H⟩ := H
   replace H : (some (t976 == t968)) = some r := H
   have A65 := Aside0.mk A650
   clear A650
   obtain rfl := Option.some.inj H
   go_enter Try.func11, Try.ntmps11
   try go_wp2_with (first | ((with_reducible refine gate_callee (f := 46) rfl ?_); refine goesL_ (some 8) rfl rfl Try.func46 (by kernel_rfl) rfl #[.slice A0 l0.length c0] rfl (by (try simp only [List.map_toArray, List.map_cons, List.map_nil]); first | done | rfl | (simp only [List.length_drop, List.length_take]; rfl)) ?_; (with_reducible refine (laws_lwBig.calls _ _ l0 false _ ?side1 ?side2 A2.out).mono ?_); (case side1 => repeat (first | exact HR0.out | (with_reducible refine Kd.C_alloc ?_ _) | (with_reducible refine Kd.C_drewN ?_ _) | (with_reducible refine Kd.C_drew ?_))); (case side2 => exact HC0.out); rintro e w' ⟨rfl, ⟨nd, rfl⟩⟩; refine ⟨_, rfl, ?_⟩) | ((with_reducible refine gate_callee (f := 49) rfl ?_); refine goesL_ (some 11) rfl rfl Try.func49 (by kernel_rfl) rfl #[.slice A0 l0.length c0] rfl (by (try simp only [List.map_toArray, List.map_cons, List.map_nil]); first | done | rfl | (simp only [List.length_drop, List.length_take]; rfl)) ?_; (with_reducible refine (spec_DrawMatchLines.calls k _ _ l0 t962 t963 _ ?side1 ?side2 A4.out).mono ?_); (case side1 => repeat (first | exact HR0.out | (with_reducible refine Kd.C_alloc ?_ _) | (with_reducible refine Kd.C_drewN ?_ _) | (with_reducible refine Kd.C_drew ?_))); (case side2 => exact HC0.out); rintro e w66 ⟨v964, v966, rfl, ho0, ho1, hb⟩; refine ⟨_, rfl, ?_⟩; have n0_ := Aside0.mk (Kd.R_lower ho0 (below_size (by repeat (first | (with_reducible first | exact HB.out | apply below_alloc | apply pw_below_drewN | apply below_drew1) | exact HB.out)))); have n1_ := Aside0.mk (Kd.R_lower ho1 (below_size (by repeat (first | (with_reducible first | exact HB.out | apply below_alloc | apply pw_below_drewN | apply below_drew1) | exact HB.out)))); have n2_ := Aside0.mk (below_step (by repeat (first | (with_reducible first | exact HB.out | apply below_alloc | apply pw_below_drewN | apply below_drew1) | exact HB.out)) hb); clear HB; have HO965 := n0_; have HO967 := n1_; have HB := n2_; clear n0_ n1_ n2_; (try clear hb); (try clear hb2); (try clear hk); (try clear hi); (try clear ho0); (try clear ho1); obtain ⟨Ao67, co67, eo67⟩ := Kd.R_slice HO965.out; subst eo67; obtain ⟨Ao68, co68, eo68⟩ := Kd.R_slice HO967.out; subst eo68) | ((with_reducible refine gate_callee (f := 30) rfl ?_); refine goesL_ (some 16) rfl rfl Try.func30 (by kernel_rfl) rfl #[.slice Ao67 t962.length co67, .slice Ao68 t963.length co68] rfl (by (try simp only [List.map_toArray, List.map_cons, List.map_nil]); first | done | rfl | (simp only [List.length_drop, List.length_take]; rfl)) ?_; (with_reducible refine (impl_MatchLines.calls k _ _ t962 _ _ t963 t968 t969 t972 _ ?side1 ?side2 ?side3 ?side4 A5.out).mono ?_); (case side1 => repeat (first | exact (Kd.R_reads' HO965.out).2.2 | (with_reducible refine Kd.C_alloc ?_ _) | (with_reducible refine Kd.C_drewN ?_ _) | (with_reducible refine Kd.C_drew ?_))); (case side2 => exact (Kd.R_reads' HO965.out).2.1); (case side3 => repeat (first | exact (Kd.R_reads' HO967.out).2.2 | (with_reducible refine Kd.C_alloc ?_ _) | (with_reducible refine Kd.C_drewN ?_ _) | (with_reducible refine Kd.C_drew ?_))); (case side4 => exact (Kd.R_reads' HO967.out).2.1); rintro e w69 ⟨v970, v973, rfl, ho0, ho1, hb⟩; refine ⟨_, rfl, ?_⟩; have n0_ := Aside0.mk (Kd.R_below (by (with_reducible repeat (first | apply Kd.R_alloc | apply Kd.R_drewN | apply Kd.R_drew)); exact HO965.out) hb); have n1_ := Aside0.mk (Kd.R_below (by (with_reducible repeat (first | apply Kd.R_alloc | apply Kd.R_drewN | apply Kd.R_drew)); exact HO967.out) hb); have n2_ := Aside0.mk (Kd.R_lower ho0 (below_size (by repeat (first | (with_reducible first | exact HB.out | apply below_alloc | apply pw_below_drewN | apply below_drew1) | exact HB.out)))); have n3_ := Aside0.mk (Kd.R_lower ho1 (below_size (by repeat (first | (with_reducible first | exact HB.out | apply below_alloc | apply pw_below_drewN | apply below_drew1) | exact HB.out)))); have n4_ := Aside0.mk (below_step (by repeat (first | (with_reducible first | exact HB.out | apply below_alloc | apply pw_below_drewN | apply below_drew1) | exact HB.out)) hb); clear HO965; clear HO967; clear HB; have HO965 := n0_; have HO967 := n1_; have HO971 := n2_; have HO974 := n3_; have HB := n4_; clear n0_ n1_ n2_ n3_ n4_; (try clear hb); (try clear hb2); (try clear hk); (try clear hi); (try clear ho0); (try clear ho1)) | ((with_reducible refine gate_dst (N := 5) rfl ?_); (try (refine gate_guard (by rfl) ?_; dsimp only)); refine box_event ?hg (N := 5) ?hd (cs := #[.int .i64 0, .slice none 0 0, .slice none 0 0]) (t := 44) ?hr ?_; (case hd => rfl); (case hg => rfl); (case hr => first | (go_simp; done) | (go_simp; rfl)); intro gb975 hg w70 hbox hb; have n0_ := Aside0.mk (Kd.R_below (by (with_reducible repeat (first | apply Kd.R_alloc | apply Kd.R_drewN | apply Kd.R_drew)); exact HO965.out) hb); have n1_ := Aside0.mk (Kd.R_below (by (with_reducible repeat (first | apply Kd.R_alloc | apply Kd.R_drewN | apply Kd.R_drew)); exact HO967.out) hb); have n2_ := Aside0.mk (Kd.R_below (by (with_reducible repeat (first | apply Kd.R_alloc | apply Kd.R_drewN | apply Kd.R_drew)); exact HO971.out) hb); have n3_ := Aside0.mk (Kd.R_below (by (with_reducible repeat (first | apply Kd.R_alloc | apply Kd.R_drewN | apply Kd.R_drew)); exact HO974.out) hb); have n4_ := Aside0.mk (below_step (by repeat (first | (with_reducible first | exact HB.out | apply below_alloc | apply pw_below_drewN | apply below_drew1) | exact HB.out)) hb); have n5_ := Aside0.mk (hbox); have n6_ := Aside0.mk ((by rw [hg]; exact (below_size (by repeat (first | (with_reducible first | exact HB.out | apply below_alloc | apply pw_below_drewN | apply below_drew1) | exact HB.out))) : w.heap.size ≤ gb975)); have n7_ := Aside0.mk ((by rw [hg]; exact (below_size (by repeat (first | (with_reducible first | exact HB.out | apply below_alloc | apply pw_below_drewN | apply below_drew1) | exact HB.out))) : w.heap.size ≤ gb975)); clear HO965; clear HO967; clear HO971; clear HO974; clear HB; have HO965 := n0_; have HO967 := n1_; have HO971 := n2_; have HO974 := n3_; have HB := n4_; have BK975 := n5_; have GW975 := n6_; have GE975 := n7_; clear n0_ n1_ n2_ n3_ n4_ n5_ n6_ n7_; clear hb hbox hg; have hcz71_0 : w70.cell? ⟨gb975, 0, none⟩ = some (.int .i64 0) := (blk_cell BK975.out 0).trans rfl; have hcz71_1 : w70.cell? ⟨gb975, 1, none⟩ = some (.slice none 0 0) := (blk_cell BK975.out 1).trans rfl; have hcz71_2 : w70.cell? ⟨gb975, 2, none⟩ = some (.slice none 0 0) := (blk_cell BK975.out 2).trans rfl; have hfz71_0 := blk_frozen BK975.out 0; have hfz71_1 := blk_frozen BK975.out 1; have hfz71_2 := blk_frozen BK975.out 2; obtain ⟨Ao72, co72, eo72⟩ := Kd.R_slice HO971.out; subst eo72; obtain ⟨Ao73, co73, eo73⟩ := Kd.R_slice HO974.out; subst eo73))
   have n0_ : Aside0 (Kd.R Kd.string 9 (((w70.setCell ⟨gb975, 0, none⟩ (.int .i64 t968)).setCell ⟨gb975, 1, none⟩ (.slice Ao72 t969.length co72)).setCell ⟨gb975, 2, none⟩ (.slice Ao73 t972.length co73)) w.heap.size (fun k_ => some k_ ≠ (.slice Ao68 t963.length co68 : Value).ownBlock) (.slice Ao67 t962.length co67) t962) := ⟨by (with_reducible repeat (first | apply Kd.R_alloc | apply Kd.R_drewN | apply Kd.R_drew)); exact Kd.R_mono (Kd.R_far (p := ⟨gb975, 2, none⟩) (Kd.R_far (p := ⟨gb975, 1, none⟩) (Kd.R_far (p := ⟨gb975, 0, none⟩) (Kd.R_types HO965.out BK975.out (by decide)) (fun _ hk => hk.2) (.int .i64 t968)) (fun _ hk => hk.2) (.slice Ao72 t969.length co72)) (fun _ hk => hk.2) (.slice Ao73 t972.length co73)) (fun _ hk => hk.1)⟩
   have n1_ : Aside0 (Kd.R Kd.string 9 (((w70.setCell ⟨gb975, 0, none⟩ (.int .i64 t968)).setCell ⟨gb975, 1, none⟩ (.slice Ao72 t969.length co72)).setCell ⟨gb975, 2, none⟩ (.slice Ao73 t972.length co73)) w.heap.size (fun k_ => some k_ ≠ (.slice Ao67 t962.length co67 : Value).ownBlock) (.slice Ao68 t963.length co68) t963) := ⟨by (with_reducible repeat (first | apply Kd.R_alloc | apply Kd.R_drewN | apply Kd.R_drew)); exact Kd.R_mono (Kd.R_far (p := ⟨gb975, 2, none⟩) (Kd.R_far (p := ⟨gb975, 1, none⟩) (Kd.R_far (p := ⟨gb975, 0, none⟩) (Kd.R_types HO967.out BK975.out (by decide)) (fun _ hk => hk.2) (.int .i64 t968)) (fun _ hk => hk.2) (.slice Ao72 t969.length co72)) (fun _ hk => hk.2) (.slice Ao73 t972.length co73)) (fun _ hk => hk.1)⟩
   have n2_ : Aside0 (Kd.R (Kd.int .i64) 2 (((w70.setCell ⟨gb975, 0, none⟩ (.int .i64 t968)).setCell ⟨gb975, 1, none⟩ (.slice Ao72 t969.length co72)).setCell ⟨gb975, 2, none⟩ (.slice Ao73 t972.length co73)) w.heap.size (fun k_ => some k_ ≠ (.slice Ao73 t972.length co73 : Value).ownBlock) (.slice Ao72 t969.length co72) t969) := ⟨by (with_reducible repeat (first | apply Kd.R_alloc | apply Kd.R_drewN | apply Kd.R_drew)); exact Kd.R_mono (Kd.R_far (p := ⟨gb975, 2, none⟩) (Kd.R_far (p := ⟨gb975, 1, none⟩) (Kd.R_far (p := ⟨gb975, 0, none⟩) (Kd.R_types HO971.out BK975.out (by decide)) (fun _ hk => hk.2) (.int .i64 t968)) (fun _ hk => hk.2) (.slice Ao72 t969.length co72)) (fun _ hk => hk.2) (.slice Ao73 t972.length co73)) (fun _ hk => hk.1)⟩
   have n3_ : Aside0 (Kd.R (Kd.int .i64) 2 (((w70.setCell ⟨gb975, 0, none⟩ (.int .i64 t968)).setCell ⟨gb975, 1, none⟩ (.slice Ao72 t969.length co72)).setCell ⟨gb975, 2, none⟩ (.slice Ao73 t972.length co73)) w.heap.size (fun k_ => some k_ ≠ (.slice Ao72 t969.length co72 : Value).ownBlock) (.slice Ao73 t972.length co73) t972) := ⟨by (with_reducible repeat (first | apply Kd.R_alloc | apply Kd.R_drewN | apply Kd.R_drew)); exact Kd.R_mono (Kd.R_far (p := ⟨gb975, 2, none⟩) (Kd.R_far (p := ⟨gb975, 1, none⟩) (Kd.R_far (p := ⟨gb975, 0, none⟩) (Kd.R_types HO974.out BK975.out (by decide)) (fun _ hk => hk.2) (.int .i64 t968)) (fun _ hk => hk.2) (.slice Ao72 t969.length co72)) (fun _ hk => hk.2) (.slice Ao73 t972.length co73)) (fun _ hk => hk.1)⟩
   have n4_ : Aside0 ((((w70.setCell ⟨gb975, 0, none⟩ (.int .i64 t968)).setCell ⟨gb975, 1, none⟩ (.slice Ao72 t969.length co72)).setCell ⟨gb975, 2, none⟩ (.slice Ao73 t972.length co73)).heap[gb975]? = some (.cells #[.int .i64 t968, .slice Ao72 t969.length co72, .slice Ao73 t972.length co73] 44 (0, 0))) := ⟨by (with_reducible repeat (first | refine blk_drewN ?_ _ | refine blk_drew ?_ | refine blk_alloc ?_ _)); refine blk_put (cs := #[.int .i64 t968, .slice Ao72 t969.length co72, .slice none 0 0]) ?_ 2 _ rfl; (with_reducible repeat (first | refine blk_drewN ?_ _ | refine blk_drew ?_ | refine blk_alloc ?_ _)); refine blk_put (cs := #[.int .i64 t968, .slice none 0 0, .slice none 0 0]) ?_ 1 _ rfl; (with_reducible repeat (first | refine blk_drewN ?_ _ | refine blk_drew ?_ | refine blk_alloc ?_ _)); refine blk_put (cs := #[.int .i64 0, .slice none 0 0, .slice none 0 0]) ?_ 0 _ rfl; (with_reducible repeat (first | refine blk_drewN ?_ _ | refine blk_drew ?_ | refine blk_alloc ?_ _)); exact BK975.out⟩
   have n5_ : Aside0 (Below w.heap.size w (((w70.setCell ⟨gb975, 0, none⟩ (.int .i64 t968)).setCell ⟨gb975, 1, none⟩ (.slice Ao72 t969.length co72)).setCell ⟨gb975, 2, none⟩ (.slice Ao73 t972.length co73))) := ⟨by repeat (first | (with_reducible first | exact HB.out | apply below_alloc | apply pw_below_drewN | apply below_drew1 | refine below_set ?_ GE975.out) | exact HB.out)⟩
   (try clear HO965)
   (try clear HO967)
   (try clear HO971)
   (try clear HO974)
   (try clear BK975)
   (try clear HB)
   generalize (((w70.setCell ⟨gb975, 0, none⟩ (.int .i64 t968)).setCell ⟨gb975, 1, none⟩ (.slice Ao72 t969.length co72)).setCell ⟨gb975, 2, none⟩ (.slice Ao73 t972.length co73)) = w74 at n0_ n1_ n2_ n3_ n4_ n5_ ⊢
   have HO965 := n0_
   have HO967 := n1_
   have HO971 := n2_
   have HO974 := n3_
   have BK975 := n4_
   have HB := n5_
   clear n0_ n1_ n2_ n3_ n4_ n5_
   have n0_ := Aside0.mk (Kd.R_drew HO965.out)
   have n1_ := Aside0.mk (Kd.R_drew HO967.out)
   have n2_ := Aside0.mk (Kd.R_drew HO971.out)
   have n3_ := Aside0.mk (Kd.R_drew HO974.out)
   have n4_ := Aside0.mk (blk_drew BK975.out)
   have n5_ := Aside0.mk (below_drew1 HB.out)
   clear HO965
   clear HO967
   clear HO971
   clear HO974
   clear BK975
   clear HB
   have HO965 := n0_
   have HO967 := n1_
   have HO971 := n2_
   have HO974 := n3_
   have BK975 := n4_
   have HB := n5_
   clear n0_ n1_ n2_ n3_ n4_ n5_
   refine start_ (n := 8) (S := fun w' => w'.cell? ⟨gb975, 0, none⟩ = some (.int .i64 t968) ∧ w'.cell? ⟨gb975, 1, none⟩ = some (.slice Ao72 t969.length co72) ∧ w'.cell? ⟨gb975, 2, none⟩ = some (.slice Ao73 t972.length co73)) (ds := []) #[false, false, false, false, false, false, false, false] (by kernel_rfl) rfl rfl ⟨(blk_cell BK975.out 0).trans rfl, (blk_cell BK975.out 1).trans rfl, (blk_cell BK975.out 2).trans rfl⟩ (fun hHeld => ?_); refine with_tabW laws_FnMatches.tab6 laws_FnMatches.bits6 (fun HT_ HW_ => ?_)
   generalize w74.drew = w75 at HO965 HO967 HO971 HO974 BK975 HB hHeld ⊢
   refine pure_ (i := 0) (N := some 20) (v := ?_) (a' := ?_) #[true, false, false, false, false, false, false, false] rfl rfl (any_of HT_.out (by kernel_rfl)) (fun _ _ _ h => h) (Or.inl ⟨by rfl, ?_⟩) ?_ ?_
   rotate_left
   ·intro w'
    go_simp
    first | with_reducible rfl | (simp only [hfd32_0, hfd32_1, hfd44_0, hfd44_1, hfd44_2]; with_reducible rfl)
   rotate_left
   ·simp only [Act.put, List.setIfInBounds_toArray, List.set_cons_zero, List.set_cons_succ, i64_w, i32_w]
    rfl
   refine pure_ (i := 1) (N := some 21) (v := ?_) (a' := ?_) #[true, true, false, false, false, false, false, false] rfl rfl (any_of HT_.out (by kernel_rfl)) (fun _ _ _ h => h) (Or.inl ⟨by rfl, ?_⟩) ?_ ?_
   rotate_left
   ·intro w'
    go_simp
    first | with_reducible rfl | (simp only [hfd32_0, hfd32_1, hfd44_0, hfd44_1, hfd44_2]; with_reducible rfl)
   rotate_left
   ·simp only [Act.put, List.setIfInBounds_toArray, List.set_cons_zero, List.set_cons_succ, i64_w, i32_w]
    rfl
   refine pure_ (i := 4) (N := some 24) (v := ?_) (a' := ?_) #[true, true, false, false, true, false, false, false] rfl rfl (any_of HT_.out (by kernel_rfl)) (fun _ _ _ h => h) (Or.inl ⟨by rfl, ?_⟩) ?_ ?_
   rotate_left
   ·intro w'
    go_simp
    first | with_reducible rfl | (simp only [hfd32_0, hfd32_1, hfd44_0, hfd44_1, hfd44_2]; with_reducible rfl)
   rotate_left
   ·simp only [Act.put, List.setIfInBounds_toArray, List.set_cons_zero, List.set_cons_succ, i64_w, i32_w]
    rfl
   refine take_ (i := 5) (N := some 25) (v := ?_) (a' := ?_) #[true, true, false, false, true, true, false, false] rfl rfl (take_ofW HT_.out HW_.out (by kernel_rfl)) (fun _ _ _ h => h) (Or.inl ⟨by rfl, ?_⟩) hHeld ?_ ?_
   rotate_left
   ·rintro w' ⟨s0, s1, s2⟩
    go_simp
    first | with_reducible rfl | (simp only [hfd32_0, hfd32_1, hfd44_0, hfd44_1, hfd44_2]; with_reducible rfl)
   rotate_left
   ·simp only [Act.put, List.setIfInBounds_toArray, List.set_cons_zero, List.set_cons_succ, i64_w, i32_w]
    rfl
   refine one_ (i := 2) (N := some 22) #[true, true, true, false, true, true, false, false] rfl rfl (one_of HT_.out (by kernel_rfl)) (by decide) (fun K hK => ?_)
   refine goes_ Try.func29 (by kernel_rfl) rfl #[.slice Ao67 t962.length co67, .slice Ao68 t963.length co68] (by rfl) rfl rfl (by (try simp only [List.map_toArray, List.map_cons, List.map_nil]); first | done | rfl | (simp only [List.length_drop, List.length_take]; rfl)) ?_
   with_reducible refine (spec_MatchLines.calls k _ _ t962 _ _ t963 t976 t977 t980 _ ?side1 ?side2 ?side3 ?side4 A65.out).mono ?_
   (case side1 => repeat (first | exact (Kd.R_reads' HO965.out).2.2 | (with_reducible refine Kd.C_alloc ?_ _) | (with_reducible refine Kd.C_drewN ?_ _) | (with_reducible refine Kd.C_drew ?_)))
   (case side2 => exact (Kd.R_reads' HO965.out).2.1)
   (case side3 => repeat (first | exact (Kd.R_reads' HO967.out).2.2 | (with_reducible refine Kd.C_alloc ?_ _) | (with_reducible refine Kd.C_drewN ?_ _) | (with_reducible refine Kd.C_drew ?_)))
   (case side4 => exact (Kd.R_reads' HO967.out).2.1)
   rintro e w76 ⟨v978, v981, rfl, ho0, ho1, hb⟩
   refine ⟨_, rfl, ?_⟩
   have n0_ := Aside0.mk (Kd.R_below (by (with_reducible repeat (first | apply Kd.R_alloc | apply Kd.R_drewN | apply Kd.R_drew)); exact HO965.out) hb)
   have n1_ := Aside0.mk (Kd.R_below (by (with_reducible repeat (first | apply Kd.R_alloc | apply Kd.R_drewN | apply Kd.R_drew)); exact HO967.out) hb)
   have n2_ := Aside0.mk (Kd.R_mono (Kd.R_told (Kd.R_told (Kd.R_old (by (with_reducible repeat (first | apply Kd.R_alloc | apply Kd.R_drewN | apply Kd.R_drew)); exact HO971.out) hb) (Kd.R_base ho0)) (Kd.R_base ho1)) (fun _ h_ => h_.1))
   have n3_ := Aside0.mk (Kd.R_mono (Kd.R_told (Kd.R_told (Kd.R_old (by (with_reducible repeat (first | apply Kd.R_alloc | apply Kd.R_drewN | apply Kd.R_drew)); exact HO974.out) hb) (Kd.R_base ho0)) (Kd.R_base ho1)) (fun _ h_ => h_.1))
   have n4_ := Aside0.mk (Kd.R_lower (Kd.R_new' (Kd.R_new' ho0 (Kd.R_lt (by (with_reducible repeat (first | apply Kd.R_alloc | apply Kd.R_drewN | apply Kd.R_drew)); exact HO971.out))) (Kd.R_lt (by (with_reducible repeat (first | apply Kd.R_alloc | apply Kd.R_drewN | apply Kd.R_drew)); exact HO974.out))) (below_size (by repeat (first | (with_reducible first | exact HB.out | apply below_alloc | apply pw_below_drewN | apply below_drew1 | refine below_set ?_ GE975.out) | exact HB.out))))
   have n5_ := Aside0.mk (Kd.R_lower (Kd.R_new' (Kd.R_new' ho1 (Kd.R_lt (by (with_reducible repeat (first | apply Kd.R_alloc | apply Kd.R_drewN | apply Kd.R_drew)); exact HO971.out))) (Kd.R_lt (by (with_reducible repeat (first | apply Kd.R_alloc | apply Kd.R_drewN | apply Kd.R_drew)); exact HO974.out))) (below_size (by repeat (first | (with_reducible first | exact HB.out | apply below_alloc | apply pw_below_drewN | apply below_drew1 | refine below_set ?_ GE975.out) | exact HB.out))))
   have n6_ := Aside0.mk (blk_below (g := gb975) (o := .cells #[.int .i64 t968, .slice Ao72 t969.length co72, .slice Ao73 t972.length co73] 44 (0, 0)) (by (with_reducible repeat (first | refine blk_drewN ?_ _ | refine blk_drew ?_ | refine blk_alloc ?_ _)); exact BK975.out) hb)
   have n7_ := Aside0.mk (below_step (by repeat (first | (with_reducible first | exact HB.out | apply below_alloc | apply pw_below_drewN | apply below_drew1 | refine below_set ?_ GE975.out) | exact HB.out)) hb)
   clear HO965
   clear HO967
   clear HO971
   clear HO974
   clear BK975
   clear HB
   have HO965 := n0_
   have HO967 := n1_
   have HO971 := n2_
   have HO974 := n3_
   have HO979 := n4_
   have HO982 := n5_
   have BK975 := n6_
   have HB := n7_
   clear n0_ n1_ n2_ n3_ n4_ n5_ n6_ n7_
   (try clear hb)
   (try clear hb2)
   (try clear hk)
   (try clear hi)
   (try clear ho0)
   (try clear ho1)
   refine hK.out _ _ ⟨(blk_cell BK975.out 0).trans rfl, (blk_cell BK975.out 1).trans rfl, (blk_cell BK975.out 2).trans rfl⟩ (fun hHeld => ?_)
   clear hK K
   refine norm_ (a' := ?_) ?_ ?_
   rotate_left
   ·show Act.put _ (some 22) _ = _
    simp only [Act.put, List.setIfInBounds_toArray, List.set_cons_zero, List.set_cons_succ, i64_w, i32_w]
    rfl
   refine pure_ (i := 3) (N := some 23) (v := ?_) (a' := ?_) #[true, true, true, true, true, true, false, false] rfl rfl (any_of HT_.out (by kernel_rfl)) (fun _ _ _ h => h) (Or.inl ⟨by rfl, ?_⟩) ?_ ?_
   rotate_left
   ·intro w'
    go_simp
    first | with_reducible rfl | (simp only [hfd32_0, hfd32_1, hfd44_0, hfd44_1, hfd44_2]; with_reducible rfl)
   rotate_left
   ·simp only [Act.put, List.setIfInBounds_toArray, List.set_cons_zero, List.set_cons_succ, i64_w, i32_w]
    rfl
   refine pure_ (i := 6) (N := some 26) (v := ?_) (a' := ?_) #[true, true, true, true, true, true, true, false] rfl rfl (any_of HT_.out (by kernel_rfl)) (fun _ _ _ h => h) (Or.inl ⟨by rfl, ?_⟩) ?_ ?_
   rotate_left
   ·intro w'
    go_simp
    first | with_reducible rfl | (simp only [hfd32_0, hfd32_1, hfd44_0, hfd44_1, hfd44_2]; with_reducible rfl)
   rotate_left
   ·simp only [Act.put, List.setIfInBounds_toArray, List.set_cons_zero, List.set_cons_succ, i64_w, i32_w]
    rfl
   refine pure_ (i := 7) (N := some 2) (v := ?_) (a' := ?_) #[true, true, true, true, true, true, true, true] rfl rfl (any_of HT_.out (by kernel_rfl)) (fun _ _ _ h => h) (Or.inl ⟨by rfl, ?_⟩) ?_ ?_
   rotate_left
   ·intro w'
    go_simp
    first | with_reducible rfl | (simp only [hfd32_0, hfd32_1, hfd44_0, hfd44_1, hfd44_2]; with_reducible rfl)
   rotate_left
   ·simp only [Act.put, List.setIfInBounds_toArray, List.set_cons_zero, List.set_cons_succ, i64_w, i32_w]
    rfl
   refine done_ (done_of HT_.out (by kernel_rfl)) ?_
   try go_wp2
   go_ret
   exact ⟨by first | rfl | (simp [errW_none, errW_some] <;> rfl) | (simp [*, errW_none, errW_some] <;> rfl), by repeat (first | (with_reducible first | exact HB.out | apply below_alloc | apply pw_below_drewN | apply below_drew1 | refine below_set ?_ GE975.out) | exact HB.out)⟩
end Go.Proofs.Ytihbalbcocfnfaa.P
end
section
set_option linter.unusedVariables false
namespace Go.Proofs.Ytihbalbcocfnfaa.P
open Go.RowKit Go.Proofs.YtihbalbcocfnfaaW.PrintWords Go.Proofs.YtihbalbcocfnfaaW.PrintLast
namespace UFnMatches
def Pure : Prop := ∀ (l0 : List Int), (l0.length ≤ 9223372036854775807 ∧ ∀ x ∈ l0, (Lit.int .u8 x).wf = true) → ∃ k, laws_FnMatches.f k l0 = some true
end UFnMatches
end Go.Proofs.Ytihbalbcocfnfaa.P
end
section
set_option linter.unusedVariables false
set_option linter.unusedSimpArgs false
namespace Go.Proofs.Ytihbalbcocfnfaa.P
open Go.RowKit Go.Proofs.YtihbalbcocfnfaaW.PrintWords Go.Proofs.YtihbalbcocfnfaaW.PrintLast
theorem wid {x : Int} (h0 : -9223372036854775808 ≤ x) (h1 : x ≤ 9223372036854775807) : wrap64 x = x := by
  unfold wrap64
  omega
theorem wsucc {i n : Nat} (h : i < n) (hn : n ≤ 9223372036854775807) : wrap64 ((i : Int) + 1) = ((i + 1 : Nat) : Int) := by
  rw [wid (by omega) (by omega)]
  rfl
theorem Ev_if {α : Type} {c : Prop} [Decidable c] {a b : Nat → Option α} {r : α} (hp : c → Ev a r) (hn : ¬ c → Ev b r) : Ev (fun k => if c then a k else b k) r := by
  by_cases h : c
  · exact (hp h).congr (fun k => if_pos h)
  · exact (hn h).congr (fun k => if_neg h)
theorem Ev_pos {α : Type} {c : Prop} [Decidable c] {a b : Nat → Option α} {r : α} (hc : c) (h : Ev a r) : Ev (fun k => if c then a k else b k) r := h.congr (fun k => if_pos hc)
theorem Ev_neg {α : Type} {c : Prop} [Decidable c] {a b : Nat → Option α} {r : α} (hc : ¬ c) (h : Ev b r) : Ev (fun k => if c then a k else b k) r := h.congr (fun k => if_neg hc)
theorem Ev_call {α β : Type} {g : Nat → Option α} {f : Nat → α → Option β} {a : α} {r : β} (h : Ev g a) (k : Ev (fun n => f n a) r) : Ev (fun n => (g n).bind (f n)) r := Ev.bind h k
theorem Ev_const {α β : Type} {g : Option α} {f : Nat → α → Option β} {a : α} {r : β} (h : g = some a) (k : Ev (fun n => f n a) r) : Ev (fun n => g.bind (f n)) r :=
  Ev.bind (g := fun _ => g) ⟨0, fun _ _ => h⟩ k
theorem Ev_eq {α : Type} {g : Nat → Option α} {r r' : α} (h : Ev g r) (e : r = r') : Ev g r' := e ▸ h
theorem Ev_val {α : Type} {r r' : α} (h : r = r') : Ev (fun _ => some r) r' := ⟨0, fun _ _ => by rw [h]⟩
theorem rd_nat {α : Type} (d : α) {xs : List α} {i : Nat} (h : i < xs.length) : rdOf d xs (i : Int) = xs[i] := by
  unfold rdOf
  rw [Int.toNat_natCast, List.getD_eq_getElem?_getD, List.getElem?_eq_getElem h]
  rfl
theorem rdi_nat {xs : List Int} {i : Nat} (h : i < xs.length) : rd xs (i : Int) = xs[i] := by
  unfold rd
  rw [Int.toNat_natCast, List.getD_eq_getElem?_getD, List.getElem?_eq_getElem h]
  rfl
theorem bt_nat {s : ByteArray} {i : Nat} (h : i < s.data.toList.length) : bt s (i : Int) = ((s.data.toList[i]).toNat : Int) := by
  have h' : i < s.size := by simpa using h
  unfold bt
  rw [dif_pos (by rw [Int.toNat_natCast]; exact h')]
  simp [ByteArray.getElem_eq_getElem_data]
theorem data_eq {a b : ByteArray} : a.toList = b.toList ↔ a = b := by
  rw [ByteArray.toList_eq, ByteArray.toList_eq]
  constructor
  · intro h
    cases a
    cases b
    simpa using h
  · rintro rfl
    rfl
theorem toList_nil {a : ByteArray} : a.toList = ([] : List UInt8) ↔ a.data.toList = [] := by rw [ByteArray.toList_eq]
theorem size_data (a : ByteArray) : a.data.toList.length = a.size := by simp
theorem drop_at {α : Type} {xs : List α} {i : Nat} (h : i < xs.length) : xs.drop i = xs[i] :: xs.drop (i + 1) := List.drop_eq_getElem_cons h
def total : List ByteArray → Nat
  | [] => 0
  | x :: l => x.size + total l
end Go.Proofs.Ytihbalbcocfnfaa.P
end
section
namespace Go.Proofs.Ytihbalbcocfnfaa.P
open Go.RowKit
theorem wsucc' {i : Nat} (hn : i < 9223372036854775807) : wrap64 ((i : Int) + 1) = ((i + 1 : Nat) : Int) := by
  rw [wid (by omega) (by omega)]
  omega
theorem wpred {i : Nat} (hn : i ≤ 9223372036854775807) : wrap64 (((i + 1 : Nat) : Int) - 1) = (i : Int) := by
  rw [wid (by omega) (by omega)]
  omega
end Go.Proofs.Ytihbalbcocfnfaa.P
end
section
set_option linter.unusedVariables false
namespace Go.Proofs.Ytihbalbcocfnfaa.P
open Go.RowKit Go.Proofs.YtihbalbcocfnfaaW.PrintWords Go.Proofs.YtihbalbcocfnfaaW.PrintLast
theorem rdc_nat {l : List S64} {i : Nat} (h : i < l.length) : rd_T64 l (i : Int) = l[i] := by
  unfold rd_T64
  rw [Int.toNat_natCast, List.getD_eq_getElem?_getD, List.getElem?_eq_getElem h]
  rfl
end Go.Proofs.Ytihbalbcocfnfaa.P
end
section
namespace Go.Proofs.Ytihbalbcocfnfaa.P
open Go.RowKit Go.Proofs.YtihbalbcocfnfaaW.PrintWords Go.Proofs.YtihbalbcocfnfaaW.PrintLast Go.Proofs.YtihbalbcocfnfaaW.PrintMore
attribute [local go_sem] max2_int min2_int max_two min_two max_three min_three max_four min_four
end Go.Proofs.Ytihbalbcocfnfaa.P
end
section
namespace Go.Proofs.Ytihbalbcocfnfaa.P
open Go.RowKit Go.Proofs.YtihbalbcocfnfaaW.PrintWords Go.Proofs.YtihbalbcocfnfaaW.PrintLast Go.Proofs.YtihbalbcocfnfaaW.PrintMore
attribute [local go_sem] max2_int min2_int max_two min_two max_three min_three max_four min_four
end Go.Proofs.Ytihbalbcocfnfaa.P
end
section
namespace Go.Proofs.Ytihbalbcocfnfaa.P
open Go.RowKit Go.Proofs.YtihbalbcocfnfaaW.PrintWords Go.Proofs.YtihbalbcocfnfaaW.PrintLast Go.Proofs.YtihbalbcocfnfaaW.PrintMore
attribute [local go_sem] max2_int min2_int max_two min_two max_three min_three max_four min_four
end Go.Proofs.Ytihbalbcocfnfaa.P
end
section
namespace Go.Proofs.Ytihbalbcocfnfaa.P
open Go.RowKit Go.Proofs.YtihbalbcocfnfaaW.PrintWords Go.Proofs.YtihbalbcocfnfaaW.PrintLast Go.Proofs.YtihbalbcocfnfaaW.PrintMore
attribute [local go_sem] max2_int min2_int max_two min_two max_three min_three max_four min_four
end Go.Proofs.Ytihbalbcocfnfaa.P
end
section
namespace Go.Proofs.Ytihbalbcocfnfaa.P
open Go.RowKit Go.Proofs.YtihbalbcocfnfaaW.PrintWords Go.Proofs.YtihbalbcocfnfaaW.PrintLast Go.Proofs.YtihbalbcocfnfaaW.PrintMore
attribute [local go_sem] max2_int min2_int max_two min_two max_three min_three max_four min_four
end Go.Proofs.Ytihbalbcocfnfaa.P
end
section
namespace Go.Proofs.Ytihbalbcocfnfaa.P
open Go.RowKit Go.Proofs.YtihbalbcocfnfaaW.PrintWords Go.Proofs.YtihbalbcocfnfaaW.PrintLast Go.Proofs.YtihbalbcocfnfaaW.PrintMore
attribute [local go_sem] max2_int min2_int max_two min_two max_three min_three max_four min_four
end Go.Proofs.Ytihbalbcocfnfaa.P
end
section
namespace Go.Proofs.Ytihbalbcocfnfaa.P
open Go.RowKit Go.Proofs.YtihbalbcocfnfaaW.PrintWords Go.Proofs.YtihbalbcocfnfaaW.PrintLast Go.Proofs.YtihbalbcocfnfaaW.PrintMore
attribute [local go_sem] max2_int min2_int max_two min_two max_three min_three max_four min_four
end Go.Proofs.Ytihbalbcocfnfaa.P
end
section
namespace Go.Proofs.Ytihbalbcocfnfaa.P
open Go.RowKit Go.Proofs.YtihbalbcocfnfaaW.PrintWords Go.Proofs.YtihbalbcocfnfaaW.PrintLast Go.Proofs.YtihbalbcocfnfaaW.PrintMore
attribute [local go_sem] max2_int min2_int max_two min_two max_three min_three max_four min_four
end Go.Proofs.Ytihbalbcocfnfaa.P
end
section
namespace Go.Proofs.Ytihbalbcocfnfaa.P
open Go.RowKit Go.Proofs.YtihbalbcocfnfaaW.PrintWords Go.Proofs.YtihbalbcocfnfaaW.PrintLast Go.Proofs.YtihbalbcocfnfaaW.PrintMore
attribute [local go_sem] max2_int min2_int max_two min_two max_three min_three max_four min_four
end Go.Proofs.Ytihbalbcocfnfaa.P
end
section
namespace Go.Proofs.Ytihbalbcocfnfaa.P
open Go.RowKit Go.Proofs.YtihbalbcocfnfaaW.PrintWords Go.Proofs.YtihbalbcocfnfaaW.PrintLast Go.Proofs.YtihbalbcocfnfaaW.PrintMore
attribute [local go_sem] max2_int min2_int max_two min_two max_three min_three max_four min_four
end Go.Proofs.Ytihbalbcocfnfaa.P
end
section
namespace Go.Proofs.Ytihbalbcocfnfaa.P
open Go.RowKit Go.Proofs.YtihbalbcocfnfaaW.PrintWords Go.Proofs.YtihbalbcocfnfaaW.PrintLast Go.Proofs.YtihbalbcocfnfaaW.PrintMore
attribute [local go_sem] max2_int min2_int max_two min_two max_three min_three max_four min_four
end Go.Proofs.Ytihbalbcocfnfaa.P
end
section
namespace Go.Proofs.Ytihbalbcocfnfaa.P
open Go.RowKit Go.Proofs.YtihbalbcocfnfaaW.PrintWords Go.Proofs.YtihbalbcocfnfaaW.PrintLast Go.Proofs.YtihbalbcocfnfaaW.PrintMore
attribute [local go_sem] max2_int min2_int max_two min_two max_three min_three max_four min_four
end Go.Proofs.Ytihbalbcocfnfaa.P
end
section
namespace Go.Proofs.Ytihbalbcocfnfaa.P
open Go.RowKit Go.Proofs.YtihbalbcocfnfaaW.PrintWords Go.Proofs.YtihbalbcocfnfaaW.PrintLast Go.Proofs.YtihbalbcocfnfaaW.PrintMore
attribute [local go_sem] max2_int min2_int max_two min_two max_three min_three max_four min_four
end Go.Proofs.Ytihbalbcocfnfaa.P
end
section
set_option linter.unusedVariables false
set_option linter.unusedSimpArgs false
namespace Go.Proofs.Ytihbalbcocfnfaa.P
end Go.Proofs.Ytihbalbcocfnfaa.P
end
section
namespace Go.Proofs.Ytihbalbcocfnfaa.P
open Go.RowKit Go.Proofs.YtihbalbcocfnfaaW.PrintWords Go.Proofs.YtihbalbcocfnfaaW.PrintLast Go.Proofs.YtihbalbcocfnfaaW.PrintMore
attribute [local go_sem] max2_int min2_int max_two min_two max_three min_three max_four min_four
end Go.Proofs.Ytihbalbcocfnfaa.P
end
section
namespace Go.Proofs.Ytihbalbcocfnfaa.P
open Go.RowKit Go.Proofs.YtihbalbcocfnfaaW.PrintWords Go.Proofs.YtihbalbcocfnfaaW.PrintLast Go.Proofs.YtihbalbcocfnfaaW.PrintMore
attribute [local go_sem] max2_int min2_int max_two min_two max_three min_three max_four min_four
end Go.Proofs.Ytihbalbcocfnfaa.P
end
section
namespace Go.Proofs.Ytihbalbcocfnfaa.P
open Go.RowKit Go.Proofs.YtihbalbcocfnfaaW.PrintWords Go.Proofs.YtihbalbcocfnfaaW.PrintLast Go.Proofs.YtihbalbcocfnfaaW.PrintMore
attribute [local go_sem] max2_int min2_int max_two min_two max_three min_three max_four min_four
end Go.Proofs.Ytihbalbcocfnfaa.P
end
section
namespace Go.Proofs.Ytihbalbcocfnfaa.P
open Go.RowKit Go.Proofs.YtihbalbcocfnfaaW.PrintWords Go.Proofs.YtihbalbcocfnfaaW.PrintLast Go.Proofs.YtihbalbcocfnfaaW.PrintMore
attribute [local go_sem] max2_int min2_int max_two min_two max_three min_three max_four min_four
end Go.Proofs.Ytihbalbcocfnfaa.P
end
section
namespace Go.Proofs.Ytihbalbcocfnfaa.P
open Go.RowKit Go.Proofs.YtihbalbcocfnfaaW.PrintWords Go.Proofs.YtihbalbcocfnfaaW.PrintLast Go.Proofs.YtihbalbcocfnfaaW.PrintMore
attribute [local go_sem] max2_int min2_int max_two min_two max_three min_three max_four min_four
end Go.Proofs.Ytihbalbcocfnfaa.P
end
section
namespace Go.Proofs.Ytihbalbcocfnfaa.P
open Go.RowKit Go.Proofs.YtihbalbcocfnfaaW.PrintWords Go.Proofs.YtihbalbcocfnfaaW.PrintLast Go.Proofs.YtihbalbcocfnfaaW.PrintMore
attribute [local go_sem] max2_int min2_int max_two min_two max_three min_three max_four min_four
end Go.Proofs.Ytihbalbcocfnfaa.P
end
section
namespace Go.Proofs.Ytihbalbcocfnfaa.P
open Go.RowKit Go.Proofs.YtihbalbcocfnfaaW.PrintWords Go.Proofs.YtihbalbcocfnfaaW.PrintLast Go.Proofs.YtihbalbcocfnfaaW.PrintMore
attribute [local go_sem] max2_int min2_int max_two min_two max_three min_three max_four min_four
end Go.Proofs.Ytihbalbcocfnfaa.P
end
section
set_option linter.unusedVariables false
set_option linter.unusedSimpArgs false
namespace Go.Proofs.Ytihbalbcocfnfaa.P
end Go.Proofs.Ytihbalbcocfnfaa.P
end
section
set_option linter.unusedVariables false
set_option linter.unusedSimpArgs false
namespace Go.Proofs.Ytihbalbcocfnfaa.P
open Go.RowKit
theorem index_low (l : List UInt8) (c : UInt8) : -1 ≤ Lib.indexByte l c := by
  induction l with
  | nil => simp [Lib.indexByte]
  | cons b l ih =>
    unfold Lib.indexByte
    split
    · omega
    · split
      · omega
      · omega
theorem index_mem (l : List UInt8) (c : UInt8) : Lib.indexByte l c ≥ 0 ↔ c ∈ l := by
  induction l with
  | nil => simp [Lib.indexByte]
  | cons b l ih =>
    have hl := index_low l c
    unfold Lib.indexByte
    by_cases h : b = c
    · subst h
      simp
    · have h2 : (b == c) = false := by simpa using h
      rw [h2, List.mem_cons]
      have h3 : ¬ c = b := fun e => h e.symm
      by_cases h4 : Lib.indexByte l c = -1
      · have h5 : (Lib.indexByte l c == -1) = true := by simpa using h4
        rw [h5]
        have : ¬ c ∈ l := fun hm => by have := ih.2 hm; omega
        simp [h3, this]
      · have h5 : (Lib.indexByte l c == -1) = false := by simpa using h4
        rw [h5]
        have : c ∈ l := ih.1 (by omega)
        simp [this]
        omega
def lineEnd : List UInt8 → Nat
  | [] => 0
  | c :: l => if c = 10 then 0 else lineEnd l + 1
theorem lineEnd_le (l : List UInt8) : lineEnd l ≤ l.length := by
  induction l with
  | nil => simp [lineEnd]
  | cons c l ih =>
    unfold lineEnd
    split
    · omega
    · simp
      omega
theorem lineEnd_mem (l : List UInt8) : lineEnd l < l.length ↔ 10 ∈ l := by
  induction l with
  | nil => simp [lineEnd]
  | cons c l ih =>
    unfold lineEnd
    by_cases h : c = 10
    · subst h
      simp
    · rw [if_neg h, List.length_cons, List.mem_cons]
      have h2 : ¬ (10 : UInt8) = c := fun e => h e.symm
      simp only [h2, false_or]
      rw [← ih]
      omega
theorem lineEnd_early (l : List UInt8) : lineEnd l < l.length - 1 ↔ 10 ∈ l.dropLast := by
  induction l with
  | nil => simp [lineEnd]
  | cons c l ih =>
    cases l with
    | nil =>
      simp [lineEnd]
    | cons d l =>
      unfold lineEnd
      by_cases h : c = 10
      · subst h
        simp
      · rw [if_neg h, List.dropLast_cons_cons, List.mem_cons]
        have h2 : ¬ (10 : UInt8) = c := fun e => h e.symm
        simp only [h2, false_or]
        rw [← ih]
        simp only [List.length_cons]
        omega
theorem suffix_last (l : List UInt8) : Lib.hasSuffix l [10] = true ↔ ∃ r, l = r ++ [10] := by
  unfold Lib.hasSuffix
  rw [List.isSuffixOf_iff_suffix]
  constructor
  · rintro ⟨r, h⟩
    exact ⟨r, h.symm⟩
  · rintro ⟨r, h⟩
    exact ⟨r, h.symm⟩
theorem suffix_iff (l : List UInt8) (h : ¬ 10 ∈ l.dropLast) : Lib.hasSuffix l [10] = true ↔ 10 ∈ l := by
  rw [suffix_last]
  constructor
  · rintro ⟨r, rfl⟩
    simp
  · intro hm
    have hne : l ≠ [] := by
      rintro rfl
      simp at hm
    have e := List.dropLast_concat_getLast hne
    rw [← e] at hm
    rcases List.mem_append.1 hm with h1 | h1
    · exact absurd h1 h
    · refine ⟨l.dropLast, ?_⟩
      have h2 : (10 : UInt8) = l.getLast hne := by simpa using h1
      rw [h2]
      exact e.symm
end Go.Proofs.Ytihbalbcocfnfaa.P
end
