/- Part 6 of the proof of FnExactChunksOf: words, the Go functions' contracts, what they compute, and the law on plain values. Words that the kit's print.sh wrote for this seat are among it, as far as they are used. -/
import Derived.Lib.Strings
import Derived.Lib.Bytealg
import Derived.Laws.BytesArg
import Derived.Test.YtjngmhngedecdaaCFnExactChunksOf1
import Derived.Test.YtjngmhngedecdaaCFnExactChunksOf2
import Derived.Test.YtjngmhngedecdaaCFnExactChunksOf3
import Derived.Test.YtjngmhngedecdaaCFnExactChunksOf4
import Derived.Test.YtjngmhngedecdaaCFnExactChunksOf5
section
namespace Go.Proofs.Ytjngmhngedecdaa.P
open Go.RowKit Go.Proofs.YtjngmhngedecdaaW.PrintWords Go.Proofs.YtjngmhngedecdaaW.PrintLast Go.Proofs.YtjngmhngedecdaaW.PrintMore
attribute [local go_sem] max2_int min2_int max_two min_two max_three min_three max_four min_four
set_option linter.unusedVariables false
set_option linter.unusedSimpArgs false
theorem leafIn_ {α : Type} {d : Kd α} {e base m : Nat} {A0_ A1_ A2_ A3_ A4_ A5_ : Nat → Prop} {w : World} {v : Value} {xs : List α} (hm : w.heap.size = m) (h : Kd.S d e w base (fun k => ((((((True ∧ A0_ k) ∧ A1_ k) ∧ A2_ k) ∧ A3_ k) ∧ A4_ k) ∧ A5_ k)) v xs) : Kd.S d e w base (fun k => ((((((k < m ∧ A0_ k) ∧ A1_ k) ∧ A2_ k) ∧ A3_ k) ∧ A4_ k) ∧ A5_ k)) v xs :=
 Kd.S_mono (Kd.S_bound h) (fun k hk => ⟨⟨⟨⟨⟨⟨(by have := hk.2.2.1;omega), hk.1.1.1.1.1.1.2⟩, hk.1.1.1.1.1.2⟩, hk.1.1.1.1.2⟩, hk.1.1.1.2⟩, hk.1.1.2⟩, hk.1.2⟩)
theorem arrive {α : Type} {d : Kd α} {e : Nat} {w w' : World} {v : Value} {xs : List α} (h : Kd.S d e w' w.heap.size (fun _ => True) v xs) : ∃ m, w.heap.size = m ∧ Kd.S d e w' w.heap.size (fun k => m ≤ k) v xs :=
 ⟨_, rfl, Kd.S_mono (Kd.S_bound h) (fun k hk => hk.2.1)⟩
def laws_FnExactChunksOf.j0 : Nat → List ByteArray → List ByteArray → List ByteArray → Bool → Int → List (S58) → Int → List (S58) → Option (Bool)
 | 0, _, _, _, _, _, _, _, _ => none
 | k + 1, x0, x1, x2, x84, x1236000, x1236001, x1250000, x1250001 => if x84 = true then (some false) else ((laws_markChunksResult.f k x1250000 x1250001 1).bind fun bt1270 => ((laws_heldChunksResult.f k x1250000 bt1270.2 1).bind fun t1272 => (if t1272 < 0 then (some false) else (if t1272 = bt1270.1 then ((laws_toStringS.f k x0).bind fun t1273 => ((laws_toStringS.f k x1).bind fun t1276 => ((laws_toStringS.f k x2).bind fun t1279 => ((impl_ChunksOf.f k t1273 t1276 t1279).bind fun bt1282 => ((laws_eqChunksResult.f k bt1282.1 bt1282.2 x1236000 x1236001).bind fun t1287 => (if t1287 = true then ((laws_heldChunksResult.f k x1250000 bt1270.2 1).bind fun t1288 => (if t1288 < 0 then (some false) else (if t1288 = bt1270.1 then (some true) else (some false)))) else (some false))))))) else (some false)))))
def laws_FnExactChunksOf.f (k : Nat) (l0 : List ByteArray) (l1 : List ByteArray) (l2 : List ByteArray) : Option (Bool) := (laws_szStringS.f k l0 1048576).bind fun t1219 => (if t1219 < 0 then (some true) else ((laws_szStringS.f k l1 t1219).bind fun t1220 => (if t1220 < 0 then (some true) else ((laws_szStringS.f k l2 t1220).bind fun t1221 => (if t1221 < 0 then (some true) else ((laws_toStringS.f k l0).bind fun t1222 => ((laws_toStringS.f k l1).bind fun t1225 => ((laws_toStringS.f k l2).bind fun t1228 => ((spec_ChunksOf.f k t1222 t1225 t1228).bind fun bt1231 => ((laws_toStringS.f k l0).bind fun t1236 => ((laws_toStringS.f k l1).bind fun t1239 => ((laws_toStringS.f k l2).bind fun t1242 => ((impl_ChunksOf.f k t1236 t1239 t1242).bind fun bt1245 => ((laws_eqChunksResult.f k bt1245.1 bt1245.2 bt1231.1 bt1231.2).bind fun t1250 => (if t1250 = true then ((laws_toStringS.f k l0).bind fun t1251 => ((laws_eqStringS.f k t1236 t1251).bind fun t1254 => (if t1254 = true then ((laws_toStringS.f k l1).bind fun t1255 => ((laws_eqStringS.f k t1239 t1255).bind fun t1258 => (if t1258 = true then ((laws_toStringS.f k l2).bind fun t1259 => ((laws_eqStringS.f k t1242 t1259).bind fun t1262 => (if t1262 = true then ((laws_markStringS.f k t1236 1).bind fun bt1263 => ((laws_markStringS.f k t1239 bt1263.1).bind fun bt1265 => ((laws_markStringS.f k t1242 bt1265.1).bind fun bt1267 => (if bt1267.1 < 0 then (laws_FnExactChunksOf.j0 k l0 l1 l2 true bt1231.1 bt1231.2 bt1245.1 bt1245.2) else ((laws_eqChunksResult.f k bt1245.1 bt1245.2 bt1231.1 bt1231.2).bind fun t1269 => (laws_FnExactChunksOf.j0 k l0 l1 l2 (!t1269) bt1231.1 bt1231.2 bt1245.1 bt1245.2)))))) else (some false)))) else (some false)))) else (some false)))) else (some false))))))))))))))))
set_option maxHeartbeats 8000000 in
set_option maxRecDepth 100000 in
theorem laws_FnExactChunksOf.calls (k : Nat) (A0 : Option Addr) (c0 : Nat) (l0 : List ByteArray) (A1 : Option Addr) (c1 : Nat) (l1 : List ByteArray) (A2 : Option Addr) (c2 : Nat) (l2 : List ByteArray) (r : Bool) (w : World) (hr0 : Kd.C Kd.string w A0 l0.length l0) (hc0 : l0.length ≤ c0) (hr1 : Kd.C Kd.string w A1 l1.length l1) (hc1 : l1.length ≤ c1) (hr2 : Kd.C Kd.string w A2 l2.length l2) (hc2 : l2.length ≤ c2) (h : laws_FnExactChunksOf.f k l0 l1 l2 = some r) (hlaw : r = true) :
  Calls Try.prog 10 #[.slice A0 l0.length c0, .slice A1 l1.length c1, .slice A2 l2.length c2] w fun e w' => e = .returned (.bool r) ∧ Below w.heap.size w w' := by
 have hu71 := Try.underlying71;have HR0 := Aside0.mk hr0;have HC0 := Aside0.mk hc0;clear hr0 hc0;have HR1 := Aside0.mk hr1;have HC1 := Aside0.mk hc1;clear hr1 hc1;have HR2 := Aside0.mk hr2;have HC2 := Aside0.mk hc2;clear hr2 hc2;have HB := Aside0.mk (Below.refl w.heap.size w);have HLAW := Aside0.mk hlaw;clear hlaw;have H : ((laws_szStringS.f k l0 1048576).bind fun t1219 => (if t1219 < 0 then (some true) else ((laws_szStringS.f k l1 t1219).bind fun t1220 => (if t1220 < 0 then (some true) else ((laws_szStringS.f k l2 t1220).bind fun t1221 => (if t1221 < 0 then (some true) else ((laws_toStringS.f k l0).bind fun t1222 => ((laws_toStringS.f k l1).bind fun t1225 => ((laws_toStringS.f k l2).bind fun t1228 => ((spec_ChunksOf.f k t1222 t1225 t1228).bind fun bt1231 => ((laws_toStringS.f k l0).bind fun t1236 => ((laws_toStringS.f k l1).bind fun t1239 => ((laws_toStringS.f k l2).bind fun t1242 => ((impl_ChunksOf.f k t1236 t1239 t1242).bind fun bt1245 => ((laws_eqChunksResult.f k bt1245.1 bt1245.2 bt1231.1 bt1231.2).bind fun t1250 => (if t1250 = true then ((laws_toStringS.f k l0).bind fun t1251 => ((laws_eqStringS.f k t1236 t1251).bind fun t1254 => (if t1254 = true then ((laws_toStringS.f k l1).bind fun t1255 => ((laws_eqStringS.f k t1239 t1255).bind fun t1258 => (if t1258 = true then ((laws_toStringS.f k l2).bind fun t1259 => ((laws_eqStringS.f k t1242 t1259).bind fun t1262 => (if t1262 = true then ((laws_markStringS.f k t1236 1).bind fun bt1263 => ((laws_markStringS.f k t1239 bt1263.1).bind fun bt1265 => ((laws_markStringS.f k t1242 bt1265.1).bind fun bt1267 => (if bt1267.1 < 0 then (laws_FnExactChunksOf.j0 k l0 l1 l2 true bt1231.1 bt1231.2 bt1245.1 bt1245.2) else ((laws_eqChunksResult.f k bt1245.1 bt1245.2 bt1231.1 bt1231.2).bind fun t1269 => (laws_FnExactChunksOf.j0 k l0 l1 l2 (!t1269) bt1231.1 bt1231.2 bt1245.1 bt1245.2)))))) else (some false)))) else (some false)))) else (some false)))) else (some false))))))))))))))))) = some r := h;clear h;replace H := Option.bind_eq_some_iff.mp H;obtain ⟨t1219, A40, H⟩ := H;replace H : (if t1219 < 0 then (some true) else ((laws_szStringS.f k l1 t1219).bind fun t1220 => (if t1220 < 0 then (some true) else ((laws_szStringS.f k l2 t1220).bind fun t1221 => (if t1221 < 0 then (some true) else ((laws_toStringS.f k l0).bind fun t1222 => ((laws_toStringS.f k l1).bind fun t1225 => ((laws_toStringS.f k l2).bind fun t1228 => ((spec_ChunksOf.f k t1222 t1225 t1228).bind fun bt1231 => ((laws_toStringS.f k l0).bind fun t1236 => ((laws_toStringS.f k l1).bind fun t1239 => ((laws_toStringS.f k l2).bind fun t1242 => ((impl_ChunksOf.f k t1236 t1239 t1242).bind fun bt1245 => ((laws_eqChunksResult.f k bt1245.1 bt1245.2 bt1231.1 bt1231.2).bind fun t1250 => (if t1250 = true then ((laws_toStringS.f k l0).bind fun t1251 => ((laws_eqStringS.f k t1236 t1251).bind fun t1254 => (if t1254 = true then ((laws_toStringS.f k l1).bind fun t1255 => ((laws_eqStringS.f k t1239 t1255).bind fun t1258 => (if t1258 = true then ((laws_toStringS.f k l2).bind fun t1259 => ((laws_eqStringS.f k t1242 t1259).bind fun t1262 => (if t1262 = true then ((laws_markStringS.f k t1236 1).bind fun bt1263 => ((laws_markStringS.f k t1239 bt1263.1).bind fun bt1265 => ((laws_markStringS.f k t1242 bt1265.1).bind fun bt1267 => (if bt1267.1 < 0 then (laws_FnExactChunksOf.j0 k l0 l1 l2 true bt1231.1 bt1231.2 bt1245.1 bt1245.2) else ((laws_eqChunksResult.f k bt1245.1 bt1245.2 bt1231.1 bt1231.2).bind fun t1269 => (laws_FnExactChunksOf.j0 k l0 l1 l2 (!t1269) bt1231.1 bt1231.2 bt1245.1 bt1245.2)))))) else (some false)))) else (some false)))) else (some false)))) else (some false)))))))))))))))) = some r := H;have A4 := Aside0.mk A40;clear A40;by_cases c5 : t1219 < 0;(·rw [if_pos c5] at H;have c5b0 : decide (t1219 < 0) = true := decide_eq_true c5;clear c5;obtain rfl := Option.some.inj H;go_enter Try.func10, Try.ntmps10;go_wp2_with (first | ((with_reducible refine gate_callee (f := 22) rfl ?_);refine goesL_ (some 19) rfl rfl Try.func22 (by kernel_rfl) rfl #[.slice A0 l0.length c0, .int .i64 1048576] rfl lf_ ?_;(with_reducible refine (laws_szStringS.calls k _ _ l0 1048576 t1219 _ ?side1 ?side2 A4.out).mono ?_);(case side1 => exact rc_ HR0.out);(case side2 => exact HC0.out);rintro e w' ⟨rfl, ⟨nd, rfl⟩⟩;refine ⟨_, rfl, ?_⟩));go_ret;exact ⟨by first | rfl | (simp [errW_none, errW_some] <;> rfl) | (simp [*, errW_none, errW_some] <;> rfl), bw_ HB.out⟩)
 ·rw [if_neg c5] at H;have c5b0 : decide (t1219 < 0) = false := decide_eq_false c5;clear c5;replace H := Option.bind_eq_some_iff.mp H;obtain ⟨t1220, A60, H⟩ := H;replace H : (if t1220 < 0 then (some true) else ((laws_szStringS.f k l2 t1220).bind fun t1221 => (if t1221 < 0 then (some true) else ((laws_toStringS.f k l0).bind fun t1222 => ((laws_toStringS.f k l1).bind fun t1225 => ((laws_toStringS.f k l2).bind fun t1228 => ((spec_ChunksOf.f k t1222 t1225 t1228).bind fun bt1231 => ((laws_toStringS.f k l0).bind fun t1236 => ((laws_toStringS.f k l1).bind fun t1239 => ((laws_toStringS.f k l2).bind fun t1242 => ((impl_ChunksOf.f k t1236 t1239 t1242).bind fun bt1245 => ((laws_eqChunksResult.f k bt1245.1 bt1245.2 bt1231.1 bt1231.2).bind fun t1250 => (if t1250 = true then ((laws_toStringS.f k l0).bind fun t1251 => ((laws_eqStringS.f k t1236 t1251).bind fun t1254 => (if t1254 = true then ((laws_toStringS.f k l1).bind fun t1255 => ((laws_eqStringS.f k t1239 t1255).bind fun t1258 => (if t1258 = true then ((laws_toStringS.f k l2).bind fun t1259 => ((laws_eqStringS.f k t1242 t1259).bind fun t1262 => (if t1262 = true then ((laws_markStringS.f k t1236 1).bind fun bt1263 => ((laws_markStringS.f k t1239 bt1263.1).bind fun bt1265 => ((laws_markStringS.f k t1242 bt1265.1).bind fun bt1267 => (if bt1267.1 < 0 then (laws_FnExactChunksOf.j0 k l0 l1 l2 true bt1231.1 bt1231.2 bt1245.1 bt1245.2) else ((laws_eqChunksResult.f k bt1245.1 bt1245.2 bt1231.1 bt1231.2).bind fun t1269 => (laws_FnExactChunksOf.j0 k l0 l1 l2 (!t1269) bt1231.1 bt1231.2 bt1245.1 bt1245.2)))))) else (some false)))) else (some false)))) else (some false)))) else (some false)))))))))))))) = some r := H;have A6 := Aside0.mk A60;clear A60;by_cases c7 : t1220 < 0;(·rw [if_pos c7] at H;have c7b0 : decide (t1220 < 0) = true := decide_eq_true c7;clear c7;obtain rfl := Option.some.inj H;go_enter Try.func10, Try.ntmps10;go_wp2_with (first | ((with_reducible refine gate_callee (f := 22) rfl ?_);refine goesL_ (some 19) rfl rfl Try.func22 (by kernel_rfl) rfl #[.slice A0 l0.length c0, .int .i64 1048576] rfl lf_ ?_;(with_reducible refine (laws_szStringS.calls k _ _ l0 1048576 t1219 _ ?side1 ?side2 A4.out).mono ?_);(case side1 => exact rc_ HR0.out);(case side2 => exact HC0.out);rintro e w' ⟨rfl, ⟨nd, rfl⟩⟩;refine ⟨_, rfl, ?_⟩) | ((with_reducible refine gate_callee (f := 22) rfl ?_);refine goesL_ (some 24) rfl rfl Try.func22 (by kernel_rfl) rfl #[.slice A1 l1.length c1, .int .i64 t1219] rfl lf_ ?_;(with_reducible refine (laws_szStringS.calls k _ _ l1 t1219 t1220 _ ?side1 ?side2 A6.out).mono ?_);(case side1 => exact rc_ HR1.out);(case side2 => exact HC1.out);rintro e w' ⟨rfl, ⟨nd, rfl⟩⟩;refine ⟨_, rfl, ?_⟩));go_ret;exact ⟨by first | rfl | (simp [errW_none, errW_some] <;> rfl) | (simp [*, errW_none, errW_some] <;> rfl), bw_ HB.out⟩)
  ·rw [if_neg c7] at H;have c7b0 : decide (t1220 < 0) = false := decide_eq_false c7;clear c7;replace H := Option.bind_eq_some_iff.mp H;obtain ⟨t1221, A80, H⟩ := H;replace H : (if t1221 < 0 then (some true) else ((laws_toStringS.f k l0).bind fun t1222 => ((laws_toStringS.f k l1).bind fun t1225 => ((laws_toStringS.f k l2).bind fun t1228 => ((spec_ChunksOf.f k t1222 t1225 t1228).bind fun bt1231 => ((laws_toStringS.f k l0).bind fun t1236 => ((laws_toStringS.f k l1).bind fun t1239 => ((laws_toStringS.f k l2).bind fun t1242 => ((impl_ChunksOf.f k t1236 t1239 t1242).bind fun bt1245 => ((laws_eqChunksResult.f k bt1245.1 bt1245.2 bt1231.1 bt1231.2).bind fun t1250 => (if t1250 = true then ((laws_toStringS.f k l0).bind fun t1251 => ((laws_eqStringS.f k t1236 t1251).bind fun t1254 => (if t1254 = true then ((laws_toStringS.f k l1).bind fun t1255 => ((laws_eqStringS.f k t1239 t1255).bind fun t1258 => (if t1258 = true then ((laws_toStringS.f k l2).bind fun t1259 => ((laws_eqStringS.f k t1242 t1259).bind fun t1262 => (if t1262 = true then ((laws_markStringS.f k t1236 1).bind fun bt1263 => ((laws_markStringS.f k t1239 bt1263.1).bind fun bt1265 => ((laws_markStringS.f k t1242 bt1265.1).bind fun bt1267 => (if bt1267.1 < 0 then (laws_FnExactChunksOf.j0 k l0 l1 l2 true bt1231.1 bt1231.2 bt1245.1 bt1245.2) else ((laws_eqChunksResult.f k bt1245.1 bt1245.2 bt1231.1 bt1231.2).bind fun t1269 => (laws_FnExactChunksOf.j0 k l0 l1 l2 (!t1269) bt1231.1 bt1231.2 bt1245.1 bt1245.2)))))) else (some false)))) else (some false)))) else (some false)))) else (some false)))))))))))) = some r := H;have A8 := Aside0.mk A80;clear A80;by_cases c9 : t1221 < 0;(·rw [if_pos c9] at H;have c9b0 : decide (t1221 < 0) = true := decide_eq_true c9;clear c9;obtain rfl := Option.some.inj H;go_enter Try.func10, Try.ntmps10;go_wp2_with (first | ((with_reducible refine gate_callee (f := 22) rfl ?_);refine goesL_ (some 19) rfl rfl Try.func22 (by kernel_rfl) rfl #[.slice A0 l0.length c0, .int .i64 1048576] rfl lf_ ?_;(with_reducible refine (laws_szStringS.calls k _ _ l0 1048576 t1219 _ ?side1 ?side2 A4.out).mono ?_);(case side1 => exact rc_ HR0.out);(case side2 => exact HC0.out);rintro e w' ⟨rfl, ⟨nd, rfl⟩⟩;refine ⟨_, rfl, ?_⟩) | ((with_reducible refine gate_callee (f := 22) rfl ?_);refine goesL_ (some 24) rfl rfl Try.func22 (by kernel_rfl) rfl #[.slice A1 l1.length c1, .int .i64 t1219] rfl lf_ ?_;(with_reducible refine (laws_szStringS.calls k _ _ l1 t1219 t1220 _ ?side1 ?side2 A6.out).mono ?_);(case side1 => exact rc_ HR1.out);(case side2 => exact HC1.out);rintro e w' ⟨rfl, ⟨nd, rfl⟩⟩;refine ⟨_, rfl, ?_⟩) | ((with_reducible refine gate_callee (f := 22) rfl ?_);refine goesL_ (some 29) rfl rfl Try.func22 (by kernel_rfl) rfl #[.slice A2 l2.length c2, .int .i64 t1220] rfl lf_ ?_;(with_reducible refine (laws_szStringS.calls k _ _ l2 t1220 t1221 _ ?side1 ?side2 A8.out).mono ?_);(case side1 => exact rc_ HR2.out);(case side2 => exact HC2.out);rintro e w' ⟨rfl, ⟨nd, rfl⟩⟩;refine ⟨_, rfl, ?_⟩));go_ret;exact ⟨by first | rfl | (simp [errW_none, errW_some] <;> rfl) | (simp [*, errW_none, errW_some] <;> rfl), bw_ HB.out⟩)
   ·rw [if_neg c9] at H;have c9b0 : decide (t1221 < 0) = false := decide_eq_false c9;clear c9;replace H := Option.bind_eq_some_iff.mp H;obtain ⟨t1222, A100, H⟩ := H;replace H : ((laws_toStringS.f k l1).bind fun t1225 => ((laws_toStringS.f k l2).bind fun t1228 => ((spec_ChunksOf.f k t1222 t1225 t1228).bind fun bt1231 => ((laws_toStringS.f k l0).bind fun t1236 => ((laws_toStringS.f k l1).bind fun t1239 => ((laws_toStringS.f k l2).bind fun t1242 => ((impl_ChunksOf.f k t1236 t1239 t1242).bind fun bt1245 => ((laws_eqChunksResult.f k bt1245.1 bt1245.2 bt1231.1 bt1231.2).bind fun t1250 => (if t1250 = true then ((laws_toStringS.f k l0).bind fun t1251 => ((laws_eqStringS.f k t1236 t1251).bind fun t1254 => (if t1254 = true then ((laws_toStringS.f k l1).bind fun t1255 => ((laws_eqStringS.f k t1239 t1255).bind fun t1258 => (if t1258 = true then ((laws_toStringS.f k l2).bind fun t1259 => ((laws_eqStringS.f k t1242 t1259).bind fun t1262 => (if t1262 = true then ((laws_markStringS.f k t1236 1).bind fun bt1263 => ((laws_markStringS.f k t1239 bt1263.1).bind fun bt1265 => ((laws_markStringS.f k t1242 bt1265.1).bind fun bt1267 => (if bt1267.1 < 0 then (laws_FnExactChunksOf.j0 k l0 l1 l2 true bt1231.1 bt1231.2 bt1245.1 bt1245.2) else ((laws_eqChunksResult.f k bt1245.1 bt1245.2 bt1231.1 bt1231.2).bind fun t1269 => (laws_FnExactChunksOf.j0 k l0 l1 l2 (!t1269) bt1231.1 bt1231.2 bt1245.1 bt1245.2)))))) else (some false)))) else (some false)))) else (some false)))) else (some false)))))))))) = some r := H;have A10 := Aside0.mk A100;clear A100;replace H := Option.bind_eq_some_iff.mp H;obtain ⟨t1225, A110, H⟩ := H;replace H : ((laws_toStringS.f k l2).bind fun t1228 => ((spec_ChunksOf.f k t1222 t1225 t1228).bind fun bt1231 => ((laws_toStringS.f k l0).bind fun t1236 => ((laws_toStringS.f k l1).bind fun t1239 => ((laws_toStringS.f k l2).bind fun t1242 => ((impl_ChunksOf.f k t1236 t1239 t1242).bind fun bt1245 => ((laws_eqChunksResult.f k bt1245.1 bt1245.2 bt1231.1 bt1231.2).bind fun t1250 => (if t1250 = true then ((laws_toStringS.f k l0).bind fun t1251 => ((laws_eqStringS.f k t1236 t1251).bind fun t1254 => (if t1254 = true then ((laws_toStringS.f k l1).bind fun t1255 => ((laws_eqStringS.f k t1239 t1255).bind fun t1258 => (if t1258 = true then ((laws_toStringS.f k l2).bind fun t1259 => ((laws_eqStringS.f k t1242 t1259).bind fun t1262 => (if t1262 = true then ((laws_markStringS.f k t1236 1).bind fun bt1263 => ((laws_markStringS.f k t1239 bt1263.1).bind fun bt1265 => ((laws_markStringS.f k t1242 bt1265.1).bind fun bt1267 => (if bt1267.1 < 0 then (laws_FnExactChunksOf.j0 k l0 l1 l2 true bt1231.1 bt1231.2 bt1245.1 bt1245.2) else ((laws_eqChunksResult.f k bt1245.1 bt1245.2 bt1231.1 bt1231.2).bind fun t1269 => (laws_FnExactChunksOf.j0 k l0 l1 l2 (!t1269) bt1231.1 bt1231.2 bt1245.1 bt1245.2)))))) else (some false)))) else (some false)))) else (some false)))) else (some false))))))))) = some r := H;have A11 := Aside0.mk A110;clear A110;replace H := Option.bind_eq_some_iff.mp H;obtain ⟨t1228, A120, H⟩ := H;replace H : ((spec_ChunksOf.f k t1222 t1225 t1228).bind fun bt1231 => ((laws_toStringS.f k l0).bind fun t1236 => ((laws_toStringS.f k l1).bind fun t1239 => ((laws_toStringS.f k l2).bind fun t1242 => ((impl_ChunksOf.f k t1236 t1239 t1242).bind fun bt1245 => ((laws_eqChunksResult.f k bt1245.1 bt1245.2 bt1231.1 bt1231.2).bind fun t1250 => (if t1250 = true then ((laws_toStringS.f k l0).bind fun t1251 => ((laws_eqStringS.f k t1236 t1251).bind fun t1254 => (if t1254 = true then ((laws_toStringS.f k l1).bind fun t1255 => ((laws_eqStringS.f k t1239 t1255).bind fun t1258 => (if t1258 = true then ((laws_toStringS.f k l2).bind fun t1259 => ((laws_eqStringS.f k t1242 t1259).bind fun t1262 => (if t1262 = true then ((laws_markStringS.f k t1236 1).bind fun bt1263 => ((laws_markStringS.f k t1239 bt1263.1).bind fun bt1265 => ((laws_markStringS.f k t1242 bt1265.1).bind fun bt1267 => (if bt1267.1 < 0 then (laws_FnExactChunksOf.j0 k l0 l1 l2 true bt1231.1 bt1231.2 bt1245.1 bt1245.2) else ((laws_eqChunksResult.f k bt1245.1 bt1245.2 bt1231.1 bt1231.2).bind fun t1269 => (laws_FnExactChunksOf.j0 k l0 l1 l2 (!t1269) bt1231.1 bt1231.2 bt1245.1 bt1245.2)))))) else (some false)))) else (some false)))) else (some false)))) else (some false)))))))) = some r := H;have A12 := Aside0.mk A120;clear A120;replace H := Option.bind_eq_some_iff.mp H;obtain ⟨⟨t1231, t1232⟩, A130, H⟩ := H;replace H : ((laws_toStringS.f k l0).bind fun t1236 => ((laws_toStringS.f k l1).bind fun t1239 => ((laws_toStringS.f k l2).bind fun t1242 => ((impl_ChunksOf.f k t1236 t1239 t1242).bind fun bt1245 => ((laws_eqChunksResult.f k bt1245.1 bt1245.2 t1231 t1232).bind fun t1250 => (if t1250 = true then ((laws_toStringS.f k l0).bind fun t1251 => ((laws_eqStringS.f k t1236 t1251).bind fun t1254 => (if t1254 = true then ((laws_toStringS.f k l1).bind fun t1255 => ((laws_eqStringS.f k t1239 t1255).bind fun t1258 => (if t1258 = true then ((laws_toStringS.f k l2).bind fun t1259 => ((laws_eqStringS.f k t1242 t1259).bind fun t1262 => (if t1262 = true then ((laws_markStringS.f k t1236 1).bind fun bt1263 => ((laws_markStringS.f k t1239 bt1263.1).bind fun bt1265 => ((laws_markStringS.f k t1242 bt1265.1).bind fun bt1267 => (if bt1267.1 < 0 then (laws_FnExactChunksOf.j0 k l0 l1 l2 true t1231 t1232 bt1245.1 bt1245.2) else ((laws_eqChunksResult.f k bt1245.1 bt1245.2 t1231 t1232).bind fun t1269 => (laws_FnExactChunksOf.j0 k l0 l1 l2 (!t1269) t1231 t1232 bt1245.1 bt1245.2)))))) else (some false)))) else (some false)))) else (some false)))) else (some false))))))) = some r := H;have A13 := Aside0.mk A130;clear A130;replace H := Option.bind_eq_some_iff.mp H;obtain ⟨t1236, A140, H⟩ := H;replace H : ((laws_toStringS.f k l1).bind fun t1239 => ((laws_toStringS.f k l2).bind fun t1242 => ((impl_ChunksOf.f k t1236 t1239 t1242).bind fun bt1245 => ((laws_eqChunksResult.f k bt1245.1 bt1245.2 t1231 t1232).bind fun t1250 => (if t1250 = true then ((laws_toStringS.f k l0).bind fun t1251 => ((laws_eqStringS.f k t1236 t1251).bind fun t1254 => (if t1254 = true then ((laws_toStringS.f k l1).bind fun t1255 => ((laws_eqStringS.f k t1239 t1255).bind fun t1258 => (if t1258 = true then ((laws_toStringS.f k l2).bind fun t1259 => ((laws_eqStringS.f k t1242 t1259).bind fun t1262 => (if t1262 = true then ((laws_markStringS.f k t1236 1).bind fun bt1263 => ((laws_markStringS.f k t1239 bt1263.1).bind fun bt1265 => ((laws_markStringS.f k t1242 bt1265.1).bind fun bt1267 => (if bt1267.1 < 0 then (laws_FnExactChunksOf.j0 k l0 l1 l2 true t1231 t1232 bt1245.1 bt1245.2) else ((laws_eqChunksResult.f k bt1245.1 bt1245.2 t1231 t1232).bind fun t1269 => (laws_FnExactChunksOf.j0 k l0 l1 l2 (!t1269) t1231 t1232 bt1245.1 bt1245.2)))))) else (some false)))) else (some false)))) else (some false)))) else (some false)))))) = some r := H;have A14 := Aside0.mk A140;clear A140;replace H := Option.bind_eq_some_iff.mp H;obtain ⟨t1239, A150, H⟩ := H;replace H : ((laws_toStringS.f k l2).bind fun t1242 => ((impl_ChunksOf.f k t1236 t1239 t1242).bind fun bt1245 => ((laws_eqChunksResult.f k bt1245.1 bt1245.2 t1231 t1232).bind fun t1250 => (if t1250 = true then ((laws_toStringS.f k l0).bind fun t1251 => ((laws_eqStringS.f k t1236 t1251).bind fun t1254 => (if t1254 = true then ((laws_toStringS.f k l1).bind fun t1255 => ((laws_eqStringS.f k t1239 t1255).bind fun t1258 => (if t1258 = true then ((laws_toStringS.f k l2).bind fun t1259 => ((laws_eqStringS.f k t1242 t1259).bind fun t1262 => (if t1262 = true then ((laws_markStringS.f k t1236 1).bind fun bt1263 => ((laws_markStringS.f k t1239 bt1263.1).bind fun bt1265 => ((laws_markStringS.f k t1242 bt1265.1).bind fun bt1267 => (if bt1267.1 < 0 then (laws_FnExactChunksOf.j0 k l0 l1 l2 true t1231 t1232 bt1245.1 bt1245.2) else ((laws_eqChunksResult.f k bt1245.1 bt1245.2 t1231 t1232).bind fun t1269 => (laws_FnExactChunksOf.j0 k l0 l1 l2 (!t1269) t1231 t1232 bt1245.1 bt1245.2)))))) else (some false)))) else (some false)))) else (some false)))) else (some false))))) = some r := H;have A15 := Aside0.mk A150;clear A150;replace H := Option.bind_eq_some_iff.mp H;obtain ⟨t1242, A160, H⟩ := H;replace H : ((impl_ChunksOf.f k t1236 t1239 t1242).bind fun bt1245 => ((laws_eqChunksResult.f k bt1245.1 bt1245.2 t1231 t1232).bind fun t1250 => (if t1250 = true then ((laws_toStringS.f k l0).bind fun t1251 => ((laws_eqStringS.f k t1236 t1251).bind fun t1254 => (if t1254 = true then ((laws_toStringS.f k l1).bind fun t1255 => ((laws_eqStringS.f k t1239 t1255).bind fun t1258 => (if t1258 = true then ((laws_toStringS.f k l2).bind fun t1259 => ((laws_eqStringS.f k t1242 t1259).bind fun t1262 => (if t1262 = true then ((laws_markStringS.f k t1236 1).bind fun bt1263 => ((laws_markStringS.f k t1239 bt1263.1).bind fun bt1265 => ((laws_markStringS.f k t1242 bt1265.1).bind fun bt1267 => (if bt1267.1 < 0 then (laws_FnExactChunksOf.j0 k l0 l1 l2 true t1231 t1232 bt1245.1 bt1245.2) else ((laws_eqChunksResult.f k bt1245.1 bt1245.2 t1231 t1232).bind fun t1269 => (laws_FnExactChunksOf.j0 k l0 l1 l2 (!t1269) t1231 t1232 bt1245.1 bt1245.2)))))) else (some false)))) else (some false)))) else (some false)))) else (some false)))) = some r := H;have A16 := Aside0.mk A160;clear A160;replace H := Option.bind_eq_some_iff.mp H;obtain ⟨⟨t1245, t1246⟩, A170, H⟩ := H;replace H : ((laws_eqChunksResult.f k t1245 t1246 t1231 t1232).bind fun t1250 => (if t1250 = true then ((laws_toStringS.f k l0).bind fun t1251 => ((laws_eqStringS.f k t1236 t1251).bind fun t1254 => (if t1254 = true then ((laws_toStringS.f k l1).bind fun t1255 => ((laws_eqStringS.f k t1239 t1255).bind fun t1258 => (if t1258 = true then ((laws_toStringS.f k l2).bind fun t1259 => ((laws_eqStringS.f k t1242 t1259).bind fun t1262 => (if t1262 = true then ((laws_markStringS.f k t1236 1).bind fun bt1263 => ((laws_markStringS.f k t1239 bt1263.1).bind fun bt1265 => ((laws_markStringS.f k t1242 bt1265.1).bind fun bt1267 => (if bt1267.1 < 0 then (laws_FnExactChunksOf.j0 k l0 l1 l2 true t1231 t1232 t1245 t1246) else ((laws_eqChunksResult.f k t1245 t1246 t1231 t1232).bind fun t1269 => (laws_FnExactChunksOf.j0 k l0 l1 l2 (!t1269) t1231 t1232 t1245 t1246)))))) else (some false)))) else (some false)))) else (some false)))) else (some false))) = some r := H;have A17 := Aside0.mk A170;clear A170;replace H := Option.bind_eq_some_iff.mp H;obtain ⟨t1250, A180, H⟩ := H;replace H : (if t1250 = true then ((laws_toStringS.f k l0).bind fun t1251 => ((laws_eqStringS.f k t1236 t1251).bind fun t1254 => (if t1254 = true then ((laws_toStringS.f k l1).bind fun t1255 => ((laws_eqStringS.f k t1239 t1255).bind fun t1258 => (if t1258 = true then ((laws_toStringS.f k l2).bind fun t1259 => ((laws_eqStringS.f k t1242 t1259).bind fun t1262 => (if t1262 = true then ((laws_markStringS.f k t1236 1).bind fun bt1263 => ((laws_markStringS.f k t1239 bt1263.1).bind fun bt1265 => ((laws_markStringS.f k t1242 bt1265.1).bind fun bt1267 => (if bt1267.1 < 0 then (laws_FnExactChunksOf.j0 k l0 l1 l2 true t1231 t1232 t1245 t1246) else ((laws_eqChunksResult.f k t1245 t1246 t1231 t1232).bind fun t1269 => (laws_FnExactChunksOf.j0 k l0 l1 l2 (!t1269) t1231 t1232 t1245 t1246)))))) else (some false)))) else (some false)))) else (some false)))) else (some false)) = some r := H;have A18 := Aside0.mk A180;clear A180;by_cases c19 : t1250 = true
    ·subst c19;(have H1 : ((laws_toStringS.f k l0).bind fun t1251 => ((laws_eqStringS.f k t1236 t1251).bind fun t1254 => (if t1254 = true then ((laws_toStringS.f k l1).bind fun t1255 => ((laws_eqStringS.f k t1239 t1255).bind fun t1258 => (if t1258 = true then ((laws_toStringS.f k l2).bind fun t1259 => ((laws_eqStringS.f k t1242 t1259).bind fun t1262 => (if t1262 = true then ((laws_markStringS.f k t1236 1).bind fun bt1263 => ((laws_markStringS.f k t1239 bt1263.1).bind fun bt1265 => ((laws_markStringS.f k t1242 bt1265.1).bind fun bt1267 => (if bt1267.1 < 0 then (laws_FnExactChunksOf.j0 k l0 l1 l2 true t1231 t1232 t1245 t1246) else ((laws_eqChunksResult.f k t1245 t1246 t1231 t1232).bind fun t1269 => (laws_FnExactChunksOf.j0 k l0 l1 l2 (!t1269) t1231 t1232 t1245 t1246)))))) else (some false)))) else (some false)))) else (some false)))) = some r := by rw [if_pos rfl] at H;exact H);clear H;have H := H1;clear H1;replace H := Option.bind_eq_some_iff.mp H;obtain ⟨t1251, A200, H⟩ := H;replace H : ((laws_eqStringS.f k t1236 t1251).bind fun t1254 => (if t1254 = true then ((laws_toStringS.f k l1).bind fun t1255 => ((laws_eqStringS.f k t1239 t1255).bind fun t1258 => (if t1258 = true then ((laws_toStringS.f k l2).bind fun t1259 => ((laws_eqStringS.f k t1242 t1259).bind fun t1262 => (if t1262 = true then ((laws_markStringS.f k t1236 1).bind fun bt1263 => ((laws_markStringS.f k t1239 bt1263.1).bind fun bt1265 => ((laws_markStringS.f k t1242 bt1265.1).bind fun bt1267 => (if bt1267.1 < 0 then (laws_FnExactChunksOf.j0 k l0 l1 l2 true t1231 t1232 t1245 t1246) else ((laws_eqChunksResult.f k t1245 t1246 t1231 t1232).bind fun t1269 => (laws_FnExactChunksOf.j0 k l0 l1 l2 (!t1269) t1231 t1232 t1245 t1246)))))) else (some false)))) else (some false)))) else (some false))) = some r := H;have A20 := Aside0.mk A200;clear A200;replace H := Option.bind_eq_some_iff.mp H;obtain ⟨t1254, A210, H⟩ := H;replace H : (if t1254 = true then ((laws_toStringS.f k l1).bind fun t1255 => ((laws_eqStringS.f k t1239 t1255).bind fun t1258 => (if t1258 = true then ((laws_toStringS.f k l2).bind fun t1259 => ((laws_eqStringS.f k t1242 t1259).bind fun t1262 => (if t1262 = true then ((laws_markStringS.f k t1236 1).bind fun bt1263 => ((laws_markStringS.f k t1239 bt1263.1).bind fun bt1265 => ((laws_markStringS.f k t1242 bt1265.1).bind fun bt1267 => (if bt1267.1 < 0 then (laws_FnExactChunksOf.j0 k l0 l1 l2 true t1231 t1232 t1245 t1246) else ((laws_eqChunksResult.f k t1245 t1246 t1231 t1232).bind fun t1269 => (laws_FnExactChunksOf.j0 k l0 l1 l2 (!t1269) t1231 t1232 t1245 t1246)))))) else (some false)))) else (some false)))) else (some false)) = some r := H;have A21 := Aside0.mk A210;clear A210;by_cases c22 : t1254 = true
     ·subst c22;(have H1 : ((laws_toStringS.f k l1).bind fun t1255 => ((laws_eqStringS.f k t1239 t1255).bind fun t1258 => (if t1258 = true then ((laws_toStringS.f k l2).bind fun t1259 => ((laws_eqStringS.f k t1242 t1259).bind fun t1262 => (if t1262 = true then ((laws_markStringS.f k t1236 1).bind fun bt1263 => ((laws_markStringS.f k t1239 bt1263.1).bind fun bt1265 => ((laws_markStringS.f k t1242 bt1265.1).bind fun bt1267 => (if bt1267.1 < 0 then (laws_FnExactChunksOf.j0 k l0 l1 l2 true t1231 t1232 t1245 t1246) else ((laws_eqChunksResult.f k t1245 t1246 t1231 t1232).bind fun t1269 => (laws_FnExactChunksOf.j0 k l0 l1 l2 (!t1269) t1231 t1232 t1245 t1246)))))) else (some false)))) else (some false)))) = some r := by rw [if_pos rfl] at H;exact H);clear H;have H := H1;clear H1;replace H := Option.bind_eq_some_iff.mp H;obtain ⟨t1255, A230, H⟩ := H;replace H : ((laws_eqStringS.f k t1239 t1255).bind fun t1258 => (if t1258 = true then ((laws_toStringS.f k l2).bind fun t1259 => ((laws_eqStringS.f k t1242 t1259).bind fun t1262 => (if t1262 = true then ((laws_markStringS.f k t1236 1).bind fun bt1263 => ((laws_markStringS.f k t1239 bt1263.1).bind fun bt1265 => ((laws_markStringS.f k t1242 bt1265.1).bind fun bt1267 => (if bt1267.1 < 0 then (laws_FnExactChunksOf.j0 k l0 l1 l2 true t1231 t1232 t1245 t1246) else ((laws_eqChunksResult.f k t1245 t1246 t1231 t1232).bind fun t1269 => (laws_FnExactChunksOf.j0 k l0 l1 l2 (!t1269) t1231 t1232 t1245 t1246)))))) else (some false)))) else (some false))) = some r := H;have A23 := Aside0.mk A230;clear A230;replace H := Option.bind_eq_some_iff.mp H;obtain ⟨t1258, A240, H⟩ := H;replace H : (if t1258 = true then ((laws_toStringS.f k l2).bind fun t1259 => ((laws_eqStringS.f k t1242 t1259).bind fun t1262 => (if t1262 = true then ((laws_markStringS.f k t1236 1).bind fun bt1263 => ((laws_markStringS.f k t1239 bt1263.1).bind fun bt1265 => ((laws_markStringS.f k t1242 bt1265.1).bind fun bt1267 => (if bt1267.1 < 0 then (laws_FnExactChunksOf.j0 k l0 l1 l2 true t1231 t1232 t1245 t1246) else ((laws_eqChunksResult.f k t1245 t1246 t1231 t1232).bind fun t1269 => (laws_FnExactChunksOf.j0 k l0 l1 l2 (!t1269) t1231 t1232 t1245 t1246)))))) else (some false)))) else (some false)) = some r := H;have A24 := Aside0.mk A240;clear A240;by_cases c25 : t1258 = true
      ·subst c25;(have H1 : ((laws_toStringS.f k l2).bind fun t1259 => ((laws_eqStringS.f k t1242 t1259).bind fun t1262 => (if t1262 = true then ((laws_markStringS.f k t1236 1).bind fun bt1263 => ((laws_markStringS.f k t1239 bt1263.1).bind fun bt1265 => ((laws_markStringS.f k t1242 bt1265.1).bind fun bt1267 => (if bt1267.1 < 0 then (laws_FnExactChunksOf.j0 k l0 l1 l2 true t1231 t1232 t1245 t1246) else ((laws_eqChunksResult.f k t1245 t1246 t1231 t1232).bind fun t1269 => (laws_FnExactChunksOf.j0 k l0 l1 l2 (!t1269) t1231 t1232 t1245 t1246)))))) else (some false)))) = some r := by rw [if_pos rfl] at H;exact H);clear H;have H := H1;clear H1;replace H := Option.bind_eq_some_iff.mp H;obtain ⟨t1259, A260, H⟩ := H;replace H : ((laws_eqStringS.f k t1242 t1259).bind fun t1262 => (if t1262 = true then ((laws_markStringS.f k t1236 1).bind fun bt1263 => ((laws_markStringS.f k t1239 bt1263.1).bind fun bt1265 => ((laws_markStringS.f k t1242 bt1265.1).bind fun bt1267 => (if bt1267.1 < 0 then (laws_FnExactChunksOf.j0 k l0 l1 l2 true t1231 t1232 t1245 t1246) else ((laws_eqChunksResult.f k t1245 t1246 t1231 t1232).bind fun t1269 => (laws_FnExactChunksOf.j0 k l0 l1 l2 (!t1269) t1231 t1232 t1245 t1246)))))) else (some false))) = some r := H;have A26 := Aside0.mk A260;clear A260;replace H := Option.bind_eq_some_iff.mp H;obtain ⟨t1262, A270, H⟩ := H;replace H : (if t1262 = true then ((laws_markStringS.f k t1236 1).bind fun bt1263 => ((laws_markStringS.f k t1239 bt1263.1).bind fun bt1265 => ((laws_markStringS.f k t1242 bt1265.1).bind fun bt1267 => (if bt1267.1 < 0 then (laws_FnExactChunksOf.j0 k l0 l1 l2 true t1231 t1232 t1245 t1246) else ((laws_eqChunksResult.f k t1245 t1246 t1231 t1232).bind fun t1269 => (laws_FnExactChunksOf.j0 k l0 l1 l2 (!t1269) t1231 t1232 t1245 t1246)))))) else (some false)) = some r := H;have A27 := Aside0.mk A270;clear A270;by_cases c28 : t1262 = true
       ·subst c28;(have H1 : ((laws_markStringS.f k t1236 1).bind fun bt1263 => ((laws_markStringS.f k t1239 bt1263.1).bind fun bt1265 => ((laws_markStringS.f k t1242 bt1265.1).bind fun bt1267 => (if bt1267.1 < 0 then (laws_FnExactChunksOf.j0 k l0 l1 l2 true t1231 t1232 t1245 t1246) else ((laws_eqChunksResult.f k t1245 t1246 t1231 t1232).bind fun t1269 => (laws_FnExactChunksOf.j0 k l0 l1 l2 (!t1269) t1231 t1232 t1245 t1246)))))) = some r := by rw [if_pos rfl] at H;exact H);clear H;have H := H1;clear H1;replace H := Option.bind_eq_some_iff.mp H;obtain ⟨⟨t1263, t1264⟩, A290, H⟩ := H;replace H : ((laws_markStringS.f k t1239 t1263).bind fun bt1265 => ((laws_markStringS.f k t1242 bt1265.1).bind fun bt1267 => (if bt1267.1 < 0 then (laws_FnExactChunksOf.j0 k l0 l1 l2 true t1231 t1232 t1245 t1246) else ((laws_eqChunksResult.f k t1245 t1246 t1231 t1232).bind fun t1269 => (laws_FnExactChunksOf.j0 k l0 l1 l2 (!t1269) t1231 t1232 t1245 t1246))))) = some r := H;have A29 := Aside0.mk A290;clear A290;replace H := Option.bind_eq_some_iff.mp H;obtain ⟨⟨t1265, t1266⟩, A300, H⟩ := H;replace H : ((laws_markStringS.f k t1242 t1265).bind fun bt1267 => (if bt1267.1 < 0 then (laws_FnExactChunksOf.j0 k l0 l1 l2 true t1231 t1232 t1245 t1246) else ((laws_eqChunksResult.f k t1245 t1246 t1231 t1232).bind fun t1269 => (laws_FnExactChunksOf.j0 k l0 l1 l2 (!t1269) t1231 t1232 t1245 t1246)))) = some r := H;have A30 := Aside0.mk A300;clear A300;replace H := Option.bind_eq_some_iff.mp H;obtain ⟨⟨t1267, t1268⟩, A310, H⟩ := H;replace H : (if t1267 < 0 then (laws_FnExactChunksOf.j0 k l0 l1 l2 true t1231 t1232 t1245 t1246) else ((laws_eqChunksResult.f k t1245 t1246 t1231 t1232).bind fun t1269 => (laws_FnExactChunksOf.j0 k l0 l1 l2 (!t1269) t1231 t1232 t1245 t1246))) = some r := H;have A31 := Aside0.mk A310;clear A310;have HC32 := Aside0.mk H;clear H;go_enter Try.func10, Try.ntmps10;(go_upto_region 28 with (first | ((with_reducible refine gate_callee (f := 22) rfl ?_);refine goesL_ (some 19) rfl rfl Try.func22 (by kernel_rfl) rfl #[.slice A0 l0.length c0, .int .i64 1048576] rfl lf_ ?_;(with_reducible refine (laws_szStringS.calls k _ _ l0 1048576 t1219 _ ?side1 ?side2 A4.out).mono ?_);(case side1 => exact rc_ HR0.out);(case side2 => exact HC0.out);rintro e w' ⟨rfl, ⟨nd, rfl⟩⟩;refine ⟨_, rfl, ?_⟩) | ((with_reducible refine gate_callee (f := 22) rfl ?_);refine goesL_ (some 24) rfl rfl Try.func22 (by kernel_rfl) rfl #[.slice A1 l1.length c1, .int .i64 t1219] rfl lf_ ?_;(with_reducible refine (laws_szStringS.calls k _ _ l1 t1219 t1220 _ ?side1 ?side2 A6.out).mono ?_);(case side1 => exact rc_ HR1.out);(case side2 => exact HC1.out);rintro e w' ⟨rfl, ⟨nd, rfl⟩⟩;refine ⟨_, rfl, ?_⟩) | ((with_reducible refine gate_callee (f := 22) rfl ?_);refine goesL_ (some 29) rfl rfl Try.func22 (by kernel_rfl) rfl #[.slice A2 l2.length c2, .int .i64 t1220] rfl lf_ ?_;(with_reducible refine (laws_szStringS.calls k _ _ l2 t1220 t1221 _ ?side1 ?side2 A8.out).mono ?_);(case side1 => exact rc_ HR2.out);(case side2 => exact HC2.out);rintro e w' ⟨rfl, ⟨nd, rfl⟩⟩;refine ⟨_, rfl, ?_⟩) | ((with_reducible refine gate_callee (f := 24) rfl ?_);refine goesL_ (some 33) rfl rfl Try.func24 (by kernel_rfl) rfl #[.slice A0 l0.length c0] rfl lf_ ?_;(with_reducible refine (laws_toStringS.calls k _ _ l0 t1222 _ ?side1 ?side2 A10.out).mono ?_);(case side1 => exact rc_ HR0.out);(case side2 => exact HC0.out);rintro e w33 ⟨v1223, rfl, ho0, hb⟩;refine ⟨_, rfl, ?_⟩;have n0_ := Aside0.mk (Kd.R_lower ho0 (below_size (bw_ HB.out)));have n1_ := Aside0.mk (below_step (bw_ HB.out) hb);clear HB;have HO1224 := n0_;have HB := n1_;clear n0_ n1_;(try clear hb);(try clear hb2);(try clear hk);(try clear hi);(try clear ho0)) | ((with_reducible refine gate_callee (f := 24) rfl ?_);refine goesL_ (some 35) rfl rfl Try.func24 (by kernel_rfl) rfl #[.slice A1 l1.length c1] rfl lf_ ?_;(with_reducible refine (laws_toStringS.calls k _ _ l1 t1225 _ ?side1 ?side2 A11.out).mono ?_);(case side1 => exact rc_ (Kd.C_below HR1.out HB.out));(case side2 => exact HC1.out);rintro e w34 ⟨v1226, rfl, ho0, hb⟩;refine ⟨_, rfl, ?_⟩;have n0_ := Aside0.mk (Kd.R_elder' (rr_ HO1224.out) (Kd.R_base ho0) hb);have n1_ := Aside0.mk (Kd.R_lower (Kd.R_new' ho0 (Kd.R_lt (rr_ HO1224.out))) (below_size (bw_ HB.out)));have n2_ := Aside0.mk (below_step (bw_ HB.out) hb);clear HO1224;clear HB;have HO1224 := n0_;have HO1227 := n1_;have HB := n2_;clear n0_ n1_ n2_;(try clear hb);(try clear hb2);(try clear hk);(try clear hi);(try clear ho0)) | ((with_reducible refine gate_callee (f := 24) rfl ?_);refine goesL_ (some 37) rfl rfl Try.func24 (by kernel_rfl) rfl #[.slice A2 l2.length c2] rfl lf_ ?_;(with_reducible refine (laws_toStringS.calls k _ _ l2 t1228 _ ?side1 ?side2 A12.out).mono ?_);(case side1 => exact rc_ (Kd.C_below HR2.out HB.out));(case side2 => exact HC2.out);rintro e w35 ⟨v1229, rfl, ho0, hb⟩;refine ⟨_, rfl, ?_⟩;have n0_ := Aside0.mk (Kd.R_elder' (rr_ HO1224.out) (Kd.R_base ho0) hb);have n1_ := Aside0.mk (Kd.R_elder' (rr_ HO1227.out) (Kd.R_base ho0) hb);have n2_ := Aside0.mk (Kd.R_lower (Kd.R_new' (Kd.R_new' ho0 (Kd.R_lt (rr_ HO1224.out))) (Kd.R_lt (rr_ HO1227.out))) (below_size (bw_ HB.out)));have n3_ := Aside0.mk (below_step (bw_ HB.out) hb);clear HO1224;clear HO1227;clear HB;have HO1224 := n0_;have HO1227 := n1_;have HO1230 := n2_;have HB := n3_;clear n0_ n1_ n2_ n3_;(try clear hb);(try clear hb2);(try clear hk);(try clear hi);(try clear ho0);obtain ⟨Ao36, co36, eo36⟩ := Kd.R_slice HO1224.out;subst eo36;obtain ⟨Ao37, co37, eo37⟩ := Kd.R_slice HO1227.out;subst eo37;obtain ⟨Ao38, co38, eo38⟩ := Kd.R_slice HO1230.out;subst eo38) | ((with_reducible refine gate_callee (f := 54) rfl ?_);refine goesL_ (some 38) rfl rfl Try.func54 (by kernel_rfl) rfl #[.slice Ao36 t1222.length co36, .slice Ao37 t1225.length co37, .slice Ao38 t1228.length co38] rfl lf_ ?_;(with_reducible refine (spec_ChunksOf.calls k _ _ t1222 _ _ t1225 _ _ t1228 t1231 t1232 _ ?side1 ?side2 ?side3 ?side4 ?side5 ?side6 A13.out).mono ?_);(case side1 => repeat (first | exact (Kd.R_reads' HO1224.out).2.2 | (with_reducible refine Kd.C_alloc ?_ _) | (with_reducible refine Kd.C_drewN ?_ _) | (with_reducible refine Kd.C_drew ?_)));(case side2 => exact (Kd.R_reads' HO1224.out).2.1);(case side3 => repeat (first | exact (Kd.R_reads' HO1227.out).2.2 | (with_reducible refine Kd.C_alloc ?_ _) | (with_reducible refine Kd.C_drewN ?_ _) | (with_reducible refine Kd.C_drew ?_)));(case side4 => exact (Kd.R_reads' HO1227.out).2.1);(case side5 => repeat (first | exact (Kd.R_reads' HO1230.out).2.2 | (with_reducible refine Kd.C_alloc ?_ _) | (with_reducible refine Kd.C_drewN ?_ _) | (with_reducible refine Kd.C_drew ?_)));(case side6 => exact (Kd.R_reads' HO1230.out).2.1);rintro e w39 ⟨v1233, rfl, ho0, hb⟩;refine ⟨_, rfl, ?_⟩;have n0_ := Aside0.mk (Kd.R_below (rr_ HO1224.out) hb);have n1_ := Aside0.mk (Kd.R_below (rr_ HO1227.out) hb);have n2_ := Aside0.mk (Kd.R_below (rr_ HO1230.out) hb);have n3_ := Aside0.mk (Kd.S_lower (Kd.S_new' (Kd.S_new' (Kd.S_new' ho0 (Kd.R_lt (rr_ HO1224.out))) (Kd.R_lt (rr_ HO1227.out))) (Kd.R_lt (rr_ HO1230.out))) (below_size (bw_ HB.out)));have n4_ := Aside0.mk (below_step (bw_ HB.out) hb);clear HO1224;clear HO1227;clear HO1230;clear HB;have HO1224 := n0_;have HO1227 := n1_;have HO1230 := n2_;have HO1234 := n3_;have HB := n4_;clear n0_ n1_ n2_ n3_ n4_;(try clear hb);(try clear hb2);(try clear hk);(try clear hi);(try clear ho0)) | ((with_reducible refine gate_dst (N := 8) rfl ?_);refine box_event ?hg (N := 8) ?hd (cs := #[.int .i64 0, .slice none 0 0]) (t := 71) ?hr ?_;(case hd => rfl);(case hg => rfl);(case hr => first | (go_simp;done) | (go_simp;rfl));intro gb1235 hg w40 hbox hb;have n0_ := Aside0.mk (Kd.R_below (rr_ HO1224.out) hb);have n1_ := Aside0.mk (Kd.R_below (rr_ HO1227.out) hb);have n2_ := Aside0.mk (Kd.R_below (rr_ HO1230.out) hb);have n3_ := Aside0.mk (Kd.S_below (rs_ HO1234.out) hb);have n4_ := Aside0.mk (below_step (bw_ HB.out) hb);have n5_ := Aside0.mk (hbox);have n6_ := Aside0.mk ((by rw [hg];exact (below_size (bw_ HB.out)) : w.heap.size ≤ gb1235));have n7_ := Aside0.mk ((by rw [hg];exact (below_size (bw_ HB.out)) : w.heap.size ≤ gb1235));clear HO1224;clear HO1227;clear HO1230;clear HO1234;clear HB;have HO1224 := n0_;have HO1227 := n1_;have HO1230 := n2_;have HO1234 := n3_;have HB := n4_;have BK1235 := n5_;have GW1235 := n6_;have GE1235 := n7_;clear n0_ n1_ n2_ n3_ n4_ n5_ n6_ n7_;clear hb hbox hg;have hcz41_0 : w40.cell? ⟨gb1235, 0, none⟩ = some (.int .i64 0) := (blk_cell BK1235.out 0).trans rfl;have hcz41_1 : w40.cell? ⟨gb1235, 1, none⟩ = some (.slice none 0 0) := (blk_cell BK1235.out 1).trans rfl;have hfz41_0 := blk_frozen BK1235.out 0;have hfz41_1 := blk_frozen BK1235.out 1;obtain ⟨Ao42, co42, eo42⟩ := Kd.S_slice HO1234.out;subst eo42) | ((with_reducible refine gate_callee (f := 24) rfl ?_);refine goesL_ (some 40) rfl rfl Try.func24 (by kernel_rfl) rfl #[.slice A0 l0.length c0] rfl lf_ ?_;(with_reducible refine (laws_toStringS.calls k _ _ l0 t1236 _ ?side1 ?side2 A14.out).mono ?_);(case side1 => exact Kd.C_below HR0.out (bw1_ HB.out GE1235.out));(case side2 => exact HC0.out);rintro e w43 ⟨v1237, rfl, ho0, hb⟩;refine ⟨_, rfl, ?_⟩;have n0_ := Aside0.mk (Kd.R_elder' (by (with_reducible repeat (first | apply Kd.R_alloc | apply Kd.R_drewN | apply Kd.R_drew));exact (Kd.R_mono (Kd.R_far (p := ⟨gb1235, 1, none⟩) (Kd.R_far (p := ⟨gb1235, 0, none⟩) (Kd.R_types HO1224.out BK1235.out (by decide)) (fun _ hk => hk.2) (.int .i64 t1231)) (fun _ hk => hk.2) (.slice Ao42 t1232.length co42)) (fun _ h_ => h_.1))) (Kd.R_base ho0) hb);have n1_ := Aside0.mk (Kd.R_elder' (by (with_reducible repeat (first | apply Kd.R_alloc | apply Kd.R_drewN | apply Kd.R_drew));exact (Kd.R_mono (Kd.R_far (p := ⟨gb1235, 1, none⟩) (Kd.R_far (p := ⟨gb1235, 0, none⟩) (Kd.R_types HO1227.out BK1235.out (by decide)) (fun _ hk => hk.2) (.int .i64 t1231)) (fun _ hk => hk.2) (.slice Ao42 t1232.length co42)) (fun _ h_ => h_.1))) (Kd.R_base ho0) hb);have n2_ := Aside0.mk (Kd.R_elder' (by (with_reducible repeat (first | apply Kd.R_alloc | apply Kd.R_drewN | apply Kd.R_drew));exact (Kd.R_mono (Kd.R_far (p := ⟨gb1235, 1, none⟩) (Kd.R_far (p := ⟨gb1235, 0, none⟩) (Kd.R_types HO1230.out BK1235.out (by decide)) (fun _ hk => hk.2) (.int .i64 t1231)) (fun _ hk => hk.2) (.slice Ao42 t1232.length co42)) (fun _ h_ => h_.1))) (Kd.R_base ho0) hb);have n3_ := Aside0.mk (Kd.S_elder' (by (with_reducible repeat (first | apply Kd.S_alloc | apply Kd.S_drewN | apply Kd.S_drew));exact (Kd.S_mono (Kd.S_far (p := ⟨gb1235, 1, none⟩) (Kd.S_far (p := ⟨gb1235, 0, none⟩) (Kd.S_types HO1234.out BK1235.out (by decide)) (fun _ hk => hk.2) (.int .i64 t1231)) (fun _ hk => hk.2) (.slice Ao42 t1232.length co42)) (fun _ h_ => h_.1))) (Kd.R_base ho0) hb);have n4_ := Aside0.mk (Kd.R_lower (Kd.R_new' (Kd.R_new' (Kd.R_new' ho0 (Kd.R_lt (by (with_reducible repeat (first | apply Kd.R_alloc | apply Kd.R_drewN | apply Kd.R_drew));exact (Kd.R_mono (Kd.R_far (p := ⟨gb1235, 1, none⟩) (Kd.R_far (p := ⟨gb1235, 0, none⟩) (Kd.R_types HO1224.out BK1235.out (by decide)) (fun _ hk => hk.2) (.int .i64 t1231)) (fun _ hk => hk.2) (.slice Ao42 t1232.length co42)) (fun _ h_ => h_.1))))) (Kd.R_lt (by (with_reducible repeat (first | apply Kd.R_alloc | apply Kd.R_drewN | apply Kd.R_drew));exact (Kd.R_mono (Kd.R_far (p := ⟨gb1235, 1, none⟩) (Kd.R_far (p := ⟨gb1235, 0, none⟩) (Kd.R_types HO1227.out BK1235.out (by decide)) (fun _ hk => hk.2) (.int .i64 t1231)) (fun _ hk => hk.2) (.slice Ao42 t1232.length co42)) (fun _ h_ => h_.1))))) (Kd.R_lt (by (with_reducible repeat (first | apply Kd.R_alloc | apply Kd.R_drewN | apply Kd.R_drew));exact (Kd.R_mono (Kd.R_far (p := ⟨gb1235, 1, none⟩) (Kd.R_far (p := ⟨gb1235, 0, none⟩) (Kd.R_types HO1230.out BK1235.out (by decide)) (fun _ hk => hk.2) (.int .i64 t1231)) (fun _ hk => hk.2) (.slice Ao42 t1232.length co42)) (fun _ h_ => h_.1))))) (below_size (bw1_ HB.out GE1235.out)));have n5_ := Aside0.mk (blk_below (g := gb1235) (o := .cells #[.int .i64 t1231, .slice Ao42 t1232.length co42] 71 (0, 0)) (by (with_reducible repeat (first | refine blk_drewN ?_ _ | refine blk_drew ?_ | refine blk_alloc ?_ _));refine blk_put (cs := #[.int .i64 t1231, .slice none 0 0]) ?_ 1 _ rfl;(with_reducible repeat (first | refine blk_drewN ?_ _ | refine blk_drew ?_ | refine blk_alloc ?_ _));refine blk_put (cs := #[.int .i64 0, .slice none 0 0]) ?_ 0 _ rfl;(with_reducible repeat (first | refine blk_drewN ?_ _ | refine blk_drew ?_ | refine blk_alloc ?_ _));exact BK1235.out) hb);have n6_ := Aside0.mk (below_step (bw1_ HB.out GE1235.out) hb);clear HO1224;clear HO1227;clear HO1230;clear HO1234;clear BK1235;clear HB;have HO1224 := n0_;have HO1227 := n1_;have HO1230 := n2_;have HO1234 := n3_;have HO1238 := n4_;have BK1235 := n5_;have HB := n6_;clear n0_ n1_ n2_ n3_ n4_ n5_ n6_;(try clear hb);(try clear hb2);(try clear hk);(try clear hi);(try clear ho0)) | ((with_reducible refine gate_callee (f := 24) rfl ?_);refine goesL_ (some 42) rfl rfl Try.func24 (by kernel_rfl) rfl #[.slice A1 l1.length c1] rfl lf_ ?_;(with_reducible refine (laws_toStringS.calls k _ _ l1 t1239 _ ?side1 ?side2 A15.out).mono ?_);(case side1 => exact rc_ (Kd.C_below HR1.out HB.out));(case side2 => exact HC1.out);rintro e w44 ⟨v1240, rfl, ho0, hb⟩;refine ⟨_, rfl, ?_⟩;have n0_ := Aside0.mk (Kd.R_elder' (rr_ HO1224.out) (Kd.R_base ho0) hb);have n1_ := Aside0.mk (Kd.R_elder' (rr_ HO1227.out) (Kd.R_base ho0) hb);have n2_ := Aside0.mk (Kd.R_elder' (rr_ HO1230.out) (Kd.R_base ho0) hb);have n3_ := Aside0.mk (Kd.S_elder' (rs_ HO1234.out) (Kd.R_base ho0) hb);have n4_ := Aside0.mk (Kd.R_elder' (rr_ HO1238.out) (Kd.R_base ho0) hb);have n5_ := Aside0.mk (Kd.R_lower (Kd.R_new' (Kd.R_new' (Kd.R_new' (Kd.R_new' ho0 (Kd.R_lt (rr_ HO1224.out))) (Kd.R_lt (rr_ HO1227.out))) (Kd.R_lt (rr_ HO1230.out))) (Kd.R_lt (rr_ HO1238.out))) (below_size (bw1_ HB.out GE1235.out)));have n6_ := Aside0.mk (blk_below (g := gb1235) (o := .cells #[.int .i64 t1231, .slice Ao42 t1232.length co42] 71 (0, 0)) (rb_ BK1235.out) hb);have n7_ := Aside0.mk (below_step (bw1_ HB.out GE1235.out) hb);clear HO1224;clear HO1227;clear HO1230;clear HO1234;clear HO1238;clear BK1235;clear HB;have HO1224 := n0_;have HO1227 := n1_;have HO1230 := n2_;have HO1234 := n3_;have HO1238 := n4_;have HO1241 := n5_;have BK1235 := n6_;have HB := n7_;clear n0_ n1_ n2_ n3_ n4_ n5_ n6_ n7_;(try clear hb);(try clear hb2);(try clear hk);(try clear hi);(try clear ho0)) | ((with_reducible refine gate_callee (f := 24) rfl ?_);refine goesL_ (some 44) rfl rfl Try.func24 (by kernel_rfl) rfl #[.slice A2 l2.length c2] rfl lf_ ?_;(with_reducible refine (laws_toStringS.calls k _ _ l2 t1242 _ ?side1 ?side2 A16.out).mono ?_);(case side1 => exact rc_ (Kd.C_below HR2.out HB.out));(case side2 => exact HC2.out);rintro e w45 ⟨v1243, rfl, ho0, hb⟩;refine ⟨_, rfl, ?_⟩;have n0_ := Aside0.mk (Kd.R_elder' (rr_ HO1224.out) (Kd.R_base ho0) hb);have n1_ := Aside0.mk (Kd.R_elder' (rr_ HO1227.out) (Kd.R_base ho0) hb);have n2_ := Aside0.mk (Kd.R_elder' (rr_ HO1230.out) (Kd.R_base ho0) hb);have n3_ := Aside0.mk (Kd.S_elder' (rs_ HO1234.out) (Kd.R_base ho0) hb);have n4_ := Aside0.mk (Kd.R_elder' (rr_ HO1238.out) (Kd.R_base ho0) hb);have n5_ := Aside0.mk (Kd.R_elder' (rr_ HO1241.out) (Kd.R_base ho0) hb);have n6_ := Aside0.mk (Kd.R_lower (Kd.R_new' (Kd.R_new' (Kd.R_new' (Kd.R_new' (Kd.R_new' ho0 (Kd.R_lt (rr_ HO1224.out))) (Kd.R_lt (rr_ HO1227.out))) (Kd.R_lt (rr_ HO1230.out))) (Kd.R_lt (rr_ HO1238.out))) (Kd.R_lt (rr_ HO1241.out))) (below_size (bw1_ HB.out GE1235.out)));have n7_ := Aside0.mk (blk_below (g := gb1235) (o := .cells #[.int .i64 t1231, .slice Ao42 t1232.length co42] 71 (0, 0)) (rb_ BK1235.out) hb);have n8_ := Aside0.mk (below_step (bw1_ HB.out GE1235.out) hb);clear HO1224;clear HO1227;clear HO1230;clear HO1234;clear HO1238;clear HO1241;clear BK1235;clear HB;have HO1224 := n0_;have HO1227 := n1_;have HO1230 := n2_;have HO1234 := n3_;have HO1238 := n4_;have HO1241 := n5_;have HO1244 := n6_;have BK1235 := n7_;have HB := n8_;clear n0_ n1_ n2_ n3_ n4_ n5_ n6_ n7_ n8_;(try clear hb);(try clear hb2);(try clear hk);(try clear hi);(try clear ho0);obtain ⟨Ao46, co46, eo46⟩ := Kd.R_slice HO1238.out;subst eo46;obtain ⟨Ao47, co47, eo47⟩ := Kd.R_slice HO1241.out;subst eo47;obtain ⟨Ao48, co48, eo48⟩ := Kd.R_slice HO1244.out;subst eo48) | ((with_reducible refine gate_callee (f := 55) rfl ?_);refine goesL_ (some 48) rfl rfl Try.func55 (by kernel_rfl) rfl #[.slice Ao46 t1236.length co46, .slice Ao47 t1239.length co47, .slice Ao48 t1242.length co48] rfl lf_ ?_;(with_reducible refine (impl_ChunksOf.calls k _ _ t1236 _ _ t1239 _ _ t1242 t1245 t1246 _ ?side1 ?side2 ?side3 ?side4 ?side5 ?side6 A17.out).mono ?_);(case side1 => repeat (first | exact (Kd.R_reads' HO1238.out).2.2 | (with_reducible refine Kd.C_alloc ?_ _) | (with_reducible refine Kd.C_drewN ?_ _) | (with_reducible refine Kd.C_drew ?_)));(case side2 => exact (Kd.R_reads' HO1238.out).2.1);(case side3 => repeat (first | exact (Kd.R_reads' HO1241.out).2.2 | (with_reducible refine Kd.C_alloc ?_ _) | (with_reducible refine Kd.C_drewN ?_ _) | (with_reducible refine Kd.C_drew ?_)));(case side4 => exact (Kd.R_reads' HO1241.out).2.1);(case side5 => repeat (first | exact (Kd.R_reads' HO1244.out).2.2 | (with_reducible refine Kd.C_alloc ?_ _) | (with_reducible refine Kd.C_drewN ?_ _) | (with_reducible refine Kd.C_drew ?_)));(case side6 => exact (Kd.R_reads' HO1244.out).2.1);rintro e w49 ⟨v1247, rfl, ho0, hb⟩;refine ⟨_, rfl, ?_⟩;obtain ⟨m2, hm2, ho0⟩ := arrive ho0;have n0_ := Aside0.mk (Kd.R_below (rr_ HO1224.out) hb);have n1_ := Aside0.mk (Kd.R_below (rr_ HO1227.out) hb);have n2_ := Aside0.mk (Kd.R_below (rr_ HO1230.out) hb);have n3_ := Aside0.mk (Kd.S_elder' (leafIn_ hm2 <| rs_ HO1234.out) (Kd.S_base ho0) hb);have n4_ := Aside0.mk (Kd.R_below (rr_ HO1238.out) hb);have n5_ := Aside0.mk (Kd.R_below (rr_ HO1241.out) hb);have n6_ := Aside0.mk (Kd.R_below (rr_ HO1244.out) hb);have n7_ := Aside0.mk (Kd.S_lower (Kd.S_new' (Kd.S_new' (Kd.S_new' (Kd.S_new' (Kd.S_new' (Kd.S_new' (Kd.S_new' ho0 (Kd.R_lt (rr_ HO1224.out))) (Kd.R_lt (rr_ HO1227.out))) (Kd.R_lt (rr_ HO1230.out))) (Kd.S_lt (rs_ HO1234.out))) (Kd.R_lt (rr_ HO1238.out))) (Kd.R_lt (rr_ HO1241.out))) (Kd.R_lt (rr_ HO1244.out))) (below_size (bw1_ HB.out GE1235.out)));have n8_ := Aside0.mk (blk_below (g := gb1235) (o := .cells #[.int .i64 t1231, .slice Ao42 t1232.length co42] 71 (0, 0)) (rb_ BK1235.out) hb);have n9_ := Aside0.mk (below_step (bw1_ HB.out GE1235.out) hb);clear HO1224;clear HO1227;clear HO1230;clear HO1234;clear HO1238;clear HO1241;clear HO1244;clear BK1235;clear HB;have HO1224 := n0_;have HO1227 := n1_;have HO1230 := n2_;have HO1234 := n3_;have HO1238 := n4_;have HO1241 := n5_;have HO1244 := n6_;have HO1248 := n7_;have BK1235 := n8_;have HB := n9_;clear n0_ n1_ n2_ n3_ n4_ n5_ n6_ n7_ n8_ n9_;(try clear hb);(try clear hb2);(try clear hk);(try clear hi);clear hm2;(try clear ho0)) | ((with_reducible refine gate_dst (N := 12) rfl ?_);refine box_event ?hg (N := 12) ?hd (cs := #[.int .i64 0, .slice none 0 0]) (t := 71) ?hr ?_;(case hd => rfl);(case hg => rfl);(case hr => first | (go_simp;done) | (go_simp;rfl));intro gb1249 hg w50 hbox hb;have n0_ := Aside0.mk (Kd.R_below (rr_ HO1224.out) hb);have n1_ := Aside0.mk (Kd.R_below (rr_ HO1227.out) hb);have n2_ := Aside0.mk (Kd.R_below (rr_ HO1230.out) hb);have n3_ := Aside0.mk (Kd.S_below (rs_ HO1234.out) hb);have n4_ := Aside0.mk (Kd.R_below (rr_ HO1238.out) hb);have n5_ := Aside0.mk (Kd.R_below (rr_ HO1241.out) hb);have n6_ := Aside0.mk (Kd.R_below (rr_ HO1244.out) hb);have n7_ := Aside0.mk (Kd.S_below (rs_ HO1248.out) hb);have n8_ := Aside0.mk (blk_below (g := gb1235) (o := .cells #[.int .i64 t1231, .slice Ao42 t1232.length co42] 71 (0, 0)) (rb_ BK1235.out) hb);have n9_ := Aside0.mk (below_step (bw1_ HB.out GE1235.out) hb);have n10_ := Aside0.mk (hbox);have n11_ := Aside0.mk ((by rw [hg];exact (below_size (bw1_ HB.out GE1235.out)) : w.heap.size ≤ gb1249));have n12_ := Aside0.mk ((by rw [hg];exact (below_size (bw1_ HB.out GE1235.out)) : w.heap.size ≤ gb1249));have n13_ := Aside0.mk ((by rw [hg];exact Nat.ne_of_lt (blk_lt (g := gb1235) (o := .cells #[.int .i64 t1231, .slice Ao42 t1232.length co42] 71 (0, 0)) (rb_ BK1235.out)) : gb1235 ≠ gb1249));have n14_ := Aside0.mk ((by rw [hg];exact Nat.ne_of_gt (blk_lt (g := gb1235) (o := .cells #[.int .i64 t1231, .slice Ao42 t1232.length co42] 71 (0, 0)) (rb_ BK1235.out)) : gb1249 ≠ gb1235));clear HO1224;clear HO1227;clear HO1230;clear HO1234;clear HO1238;clear HO1241;clear HO1244;clear HO1248;clear BK1235;clear HB;have HO1224 := n0_;have HO1227 := n1_;have HO1230 := n2_;have HO1234 := n3_;have HO1238 := n4_;have HO1241 := n5_;have HO1244 := n6_;have HO1248 := n7_;have BK1235 := n8_;have HB := n9_;have BK1249 := n10_;have GW1249 := n11_;have GE1249 := n12_;have NB1235_1249 := n13_;have NB1249_1235 := n14_;clear n0_ n1_ n2_ n3_ n4_ n5_ n6_ n7_ n8_ n9_ n10_ n11_ n12_ n13_ n14_;clear hb hbox hg;have hnb51 := NB1249_1235.out;have hnc51 := NB1235_1249.out;have hcz52_0 : w50.cell? ⟨gb1249, 0, none⟩ = some (.int .i64 0) := (blk_cell BK1249.out 0).trans rfl;have hcz52_1 : w50.cell? ⟨gb1249, 1, none⟩ = some (.slice none 0 0) := (blk_cell BK1249.out 1).trans rfl;have hfz52_0 := blk_frozen BK1249.out 0;have hfz52_1 := blk_frozen BK1249.out 1;obtain ⟨Ao53, co53, eo53⟩ := Kd.S_slice HO1248.out;subst eo53;have hcz54_0 : w50.cell? ⟨gb1235, 0, none⟩ = some (.int .i64 t1231) := (blk_cell BK1235.out 0).trans rfl;have hcz54_1 : w50.cell? ⟨gb1235, 1, none⟩ = some (.slice Ao42 t1232.length co42) := (blk_cell BK1235.out 1).trans rfl;have hfz54_0 := blk_frozen BK1235.out 0;have hfz54_1 := blk_frozen BK1235.out 1) | ((with_reducible refine gate_callee (f := 51) rfl ?_);refine goesL_ (some 51) rfl rfl Try.func51 (by kernel_rfl) rfl #[.agg #[.int .i64 t1245, .slice Ao53 t1246.length co53], .agg #[.int .i64 t1231, .slice Ao42 t1232.length co42]] rfl lf_ ?_;(with_reducible refine (laws_eqChunksResult.calls k t1245 _ _ t1246 t1231 _ _ t1232 true _ ?side1 ?side2 ?side3 ?side4 A18.out).mono ?_);(case side1 => refine (Kd.S_reads' (e := 58) (base := w.heap.size) (ok := fun k_ => (((((((m2 ≤ k_ ∧ some k_ ≠ (.slice Ao36 t1222.length co36 : Value).ownBlock) ∧ some k_ ≠ (.slice Ao37 t1225.length co37 : Value).ownBlock) ∧ some k_ ≠ (.slice Ao38 t1228.length co38 : Value).ownBlock) ∧ some k_ ≠ (.slice Ao42 t1232.length co42 : Value).ownBlock) ∧ some k_ ≠ (.slice Ao46 t1236.length co46 : Value).ownBlock) ∧ some k_ ≠ (.slice Ao47 t1239.length co47 : Value).ownBlock) ∧ some k_ ≠ (.slice Ao48 t1242.length co48 : Value).ownBlock)) (n := t1246.length) (c := co53) ?_).2.2;exact (by (with_reducible repeat (first | apply Kd.S_alloc | apply Kd.S_drewN | apply Kd.S_drew));exact (Kd.S_mono (Kd.S_far (p := ⟨gb1249, 1, none⟩) (Kd.S_far (p := ⟨gb1249, 0, none⟩) (Kd.S_types HO1248.out BK1249.out (by decide)) (fun _ hk => hk.2) (.int .i64 t1245)) (fun _ hk => hk.2) (.slice Ao53 t1246.length co53)) (fun _ h_ => h_.1))));(case side2 => exact (Kd.S_reads' HO1248.out).2.1);(case side3 => refine (Kd.S_reads' (e := 58) (base := w.heap.size) (ok := fun k_ => (((((((k_ < m2 ∧ some k_ ≠ (.slice Ao36 t1222.length co36 : Value).ownBlock) ∧ some k_ ≠ (.slice Ao37 t1225.length co37 : Value).ownBlock) ∧ some k_ ≠ (.slice Ao38 t1228.length co38 : Value).ownBlock) ∧ some k_ ≠ (.slice Ao46 t1236.length co46 : Value).ownBlock) ∧ some k_ ≠ (.slice Ao47 t1239.length co47 : Value).ownBlock) ∧ some k_ ≠ (.slice Ao48 t1242.length co48 : Value).ownBlock) ∧ some k_ ≠ (.slice Ao53 t1246.length co53 : Value).ownBlock)) (n := t1232.length) (c := co42) ?_).2.2;exact (by (with_reducible repeat (first | apply Kd.S_alloc | apply Kd.S_drewN | apply Kd.S_drew));exact (Kd.S_mono (Kd.S_far (p := ⟨gb1249, 1, none⟩) (Kd.S_far (p := ⟨gb1249, 0, none⟩) (Kd.S_types HO1234.out BK1249.out (by decide)) (fun _ hk => hk.2) (.int .i64 t1245)) (fun _ hk => hk.2) (.slice Ao53 t1246.length co53)) (fun _ h_ => h_.1))));(case side4 => exact (Kd.S_reads' HO1234.out).2.1);rintro e w55 ⟨rfl, hb⟩;refine ⟨_, rfl, ?_⟩;have n0_ := Aside0.mk (Kd.R_below (by (with_reducible repeat (first | apply Kd.R_alloc | apply Kd.R_drewN | apply Kd.R_drew));exact (Kd.R_mono (Kd.R_far (p := ⟨gb1249, 1, none⟩) (Kd.R_far (p := ⟨gb1249, 0, none⟩) (Kd.R_types HO1224.out BK1249.out (by decide)) (fun _ hk => hk.2) (.int .i64 t1245)) (fun _ hk => hk.2) (.slice Ao53 t1246.length co53)) (fun _ h_ => h_.1))) hb);have n1_ := Aside0.mk (Kd.R_below (by (with_reducible repeat (first | apply Kd.R_alloc | apply Kd.R_drewN | apply Kd.R_drew));exact (Kd.R_mono (Kd.R_far (p := ⟨gb1249, 1, none⟩) (Kd.R_far (p := ⟨gb1249, 0, none⟩) (Kd.R_types HO1227.out BK1249.out (by decide)) (fun _ hk => hk.2) (.int .i64 t1245)) (fun _ hk => hk.2) (.slice Ao53 t1246.length co53)) (fun _ h_ => h_.1))) hb);have n2_ := Aside0.mk (Kd.R_below (by (with_reducible repeat (first | apply Kd.R_alloc | apply Kd.R_drewN | apply Kd.R_drew));exact (Kd.R_mono (Kd.R_far (p := ⟨gb1249, 1, none⟩) (Kd.R_far (p := ⟨gb1249, 0, none⟩) (Kd.R_types HO1230.out BK1249.out (by decide)) (fun _ hk => hk.2) (.int .i64 t1245)) (fun _ hk => hk.2) (.slice Ao53 t1246.length co53)) (fun _ h_ => h_.1))) hb);have n3_ := Aside0.mk (Kd.S_below (by (with_reducible repeat (first | apply Kd.S_alloc | apply Kd.S_drewN | apply Kd.S_drew));exact (Kd.S_mono (Kd.S_far (p := ⟨gb1249, 1, none⟩) (Kd.S_far (p := ⟨gb1249, 0, none⟩) (Kd.S_types HO1234.out BK1249.out (by decide)) (fun _ hk => hk.2) (.int .i64 t1245)) (fun _ hk => hk.2) (.slice Ao53 t1246.length co53)) (fun _ h_ => h_.1))) hb);have n4_ := Aside0.mk (Kd.R_below (by (with_reducible repeat (first | apply Kd.R_alloc | apply Kd.R_drewN | apply Kd.R_drew));exact (Kd.R_mono (Kd.R_far (p := ⟨gb1249, 1, none⟩) (Kd.R_far (p := ⟨gb1249, 0, none⟩) (Kd.R_types HO1238.out BK1249.out (by decide)) (fun _ hk => hk.2) (.int .i64 t1245)) (fun _ hk => hk.2) (.slice Ao53 t1246.length co53)) (fun _ h_ => h_.1))) hb);have n5_ := Aside0.mk (Kd.R_below (by (with_reducible repeat (first | apply Kd.R_alloc | apply Kd.R_drewN | apply Kd.R_drew));exact (Kd.R_mono (Kd.R_far (p := ⟨gb1249, 1, none⟩) (Kd.R_far (p := ⟨gb1249, 0, none⟩) (Kd.R_types HO1241.out BK1249.out (by decide)) (fun _ hk => hk.2) (.int .i64 t1245)) (fun _ hk => hk.2) (.slice Ao53 t1246.length co53)) (fun _ h_ => h_.1))) hb);have n6_ := Aside0.mk (Kd.R_below (by (with_reducible repeat (first | apply Kd.R_alloc | apply Kd.R_drewN | apply Kd.R_drew));exact (Kd.R_mono (Kd.R_far (p := ⟨gb1249, 1, none⟩) (Kd.R_far (p := ⟨gb1249, 0, none⟩) (Kd.R_types HO1244.out BK1249.out (by decide)) (fun _ hk => hk.2) (.int .i64 t1245)) (fun _ hk => hk.2) (.slice Ao53 t1246.length co53)) (fun _ h_ => h_.1))) hb);have n7_ := Aside0.mk (Kd.S_below (by (with_reducible repeat (first | apply Kd.S_alloc | apply Kd.S_drewN | apply Kd.S_drew));exact (Kd.S_mono (Kd.S_far (p := ⟨gb1249, 1, none⟩) (Kd.S_far (p := ⟨gb1249, 0, none⟩) (Kd.S_types HO1248.out BK1249.out (by decide)) (fun _ hk => hk.2) (.int .i64 t1245)) (fun _ hk => hk.2) (.slice Ao53 t1246.length co53)) (fun _ h_ => h_.1))) hb);have n8_ := Aside0.mk (blk_below (g := gb1235) (o := .cells #[.int .i64 t1231, .slice Ao42 t1232.length co42] 71 (0, 0)) (by (with_reducible repeat (first | refine blk_drewN ?_ _ | refine blk_drew ?_ | refine blk_alloc ?_ _));refine blk_far ?_ NB1235_1249.out _;(with_reducible repeat (first | refine blk_drewN ?_ _ | refine blk_drew ?_ | refine blk_alloc ?_ _));refine blk_far ?_ NB1235_1249.out _;(with_reducible repeat (first | refine blk_drewN ?_ _ | refine blk_drew ?_ | refine blk_alloc ?_ _));exact BK1235.out) hb);have n9_ := Aside0.mk (blk_below (g := gb1249) (o := .cells #[.int .i64 t1245, .slice Ao53 t1246.length co53] 71 (0, 0)) (by (with_reducible repeat (first | refine blk_drewN ?_ _ | refine blk_drew ?_ | refine blk_alloc ?_ _));refine blk_put (cs := #[.int .i64 t1245, .slice none 0 0]) ?_ 1 _ rfl;(with_reducible repeat (first | refine blk_drewN ?_ _ | refine blk_drew ?_ | refine blk_alloc ?_ _));refine blk_put (cs := #[.int .i64 0, .slice none 0 0]) ?_ 0 _ rfl;(with_reducible repeat (first | refine blk_drewN ?_ _ | refine blk_drew ?_ | refine blk_alloc ?_ _));exact BK1249.out) hb);have n10_ := Aside0.mk (below_step (bw2_ HB.out GE1235.out GE1249.out) hb);clear HO1224;clear HO1227;clear HO1230;clear HO1234;clear HO1238;clear HO1241;clear HO1244;clear HO1248;clear BK1235;clear BK1249;clear HB;have HO1224 := n0_;have HO1227 := n1_;have HO1230 := n2_;have HO1234 := n3_;have HO1238 := n4_;have HO1241 := n5_;have HO1244 := n6_;have HO1248 := n7_;have BK1235 := n8_;have BK1249 := n9_;have HB := n10_;clear n0_ n1_ n2_ n3_ n4_ n5_ n6_ n7_ n8_ n9_ n10_;(try clear hb);(try clear hb2);(try clear hk);(try clear hi)) | ((with_reducible refine gate_callee (f := 24) rfl ?_);refine goesL_ (some 55) rfl rfl Try.func24 (by kernel_rfl) rfl #[.slice A0 l0.length c0] rfl lf_ ?_;(with_reducible refine (laws_toStringS.calls k _ _ l0 t1251 _ ?side1 ?side2 A20.out).mono ?_);(case side1 => exact rc_ (Kd.C_below HR0.out HB.out));(case side2 => exact HC0.out);rintro e w56 ⟨v1252, rfl, ho0, hb⟩;refine ⟨_, rfl, ?_⟩;have n0_ := Aside0.mk (Kd.R_elder' (rr_ HO1224.out) (Kd.R_base ho0) hb);have n1_ := Aside0.mk (Kd.R_elder' (rr_ HO1227.out) (Kd.R_base ho0) hb);have n2_ := Aside0.mk (Kd.R_elder' (rr_ HO1230.out) (Kd.R_base ho0) hb);have n3_ := Aside0.mk (Kd.S_elder' (rs_ HO1234.out) (Kd.R_base ho0) hb);have n4_ := Aside0.mk (Kd.R_elder' (rr_ HO1238.out) (Kd.R_base ho0) hb);have n5_ := Aside0.mk (Kd.R_elder' (rr_ HO1241.out) (Kd.R_base ho0) hb);have n6_ := Aside0.mk (Kd.R_elder' (rr_ HO1244.out) (Kd.R_base ho0) hb);have n7_ := Aside0.mk (Kd.S_elder' (rs_ HO1248.out) (Kd.R_base ho0) hb);have n8_ := Aside0.mk (Kd.R_lower (Kd.R_new' (Kd.R_new' (Kd.R_new' (Kd.R_new' (Kd.R_new' (Kd.R_new' ho0 (Kd.R_lt (rr_ HO1224.out))) (Kd.R_lt (rr_ HO1227.out))) (Kd.R_lt (rr_ HO1230.out))) (Kd.R_lt (rr_ HO1238.out))) (Kd.R_lt (rr_ HO1241.out))) (Kd.R_lt (rr_ HO1244.out))) (below_size (bw2_ HB.out GE1235.out GE1249.out)));have n9_ := Aside0.mk (blk_below (g := gb1235) (o := .cells #[.int .i64 t1231, .slice Ao42 t1232.length co42] 71 (0, 0)) (rb_ BK1235.out) hb);have n10_ := Aside0.mk (blk_below (g := gb1249) (o := .cells #[.int .i64 t1245, .slice Ao53 t1246.length co53] 71 (0, 0)) (rb_ BK1249.out) hb);have n11_ := Aside0.mk (below_step (bw2_ HB.out GE1235.out GE1249.out) hb);clear HO1224;clear HO1227;clear HO1230;clear HO1234;clear HO1238;clear HO1241;clear HO1244;clear HO1248;clear BK1235;clear BK1249;clear HB;have HO1224 := n0_;have HO1227 := n1_;have HO1230 := n2_;have HO1234 := n3_;have HO1238 := n4_;have HO1241 := n5_;have HO1244 := n6_;have HO1248 := n7_;have HO1253 := n8_;have BK1235 := n9_;have BK1249 := n10_;have HB := n11_;clear n0_ n1_ n2_ n3_ n4_ n5_ n6_ n7_ n8_ n9_ n10_ n11_;(try clear hb);(try clear hb2);(try clear hk);(try clear hi);(try clear ho0);obtain ⟨Ao57, co57, eo57⟩ := Kd.R_slice HO1253.out;subst eo57) | ((with_reducible refine gate_callee (f := 27) rfl ?_);refine goesL_ (some 56) rfl rfl Try.func27 (by kernel_rfl) rfl #[.slice Ao46 t1236.length co46, .slice Ao57 t1251.length co57] rfl lf_ ?_;(with_reducible refine (laws_eqStringS.calls k _ _ t1236 _ _ t1251 true _ ?side1 ?side2 ?side3 ?side4 A21.out).mono ?_);(case side1 => repeat (first | exact (Kd.R_reads' HO1238.out).2.2 | (with_reducible refine Kd.C_alloc ?_ _) | (with_reducible refine Kd.C_drewN ?_ _) | (with_reducible refine Kd.C_drew ?_)));(case side2 => exact (Kd.R_reads' HO1238.out).2.1);(case side3 => repeat (first | exact (Kd.R_reads' HO1253.out).2.2 | (with_reducible refine Kd.C_alloc ?_ _) | (with_reducible refine Kd.C_drewN ?_ _) | (with_reducible refine Kd.C_drew ?_)));(case side4 => exact (Kd.R_reads' HO1253.out).2.1);rintro e w' ⟨rfl, ⟨nd, rfl⟩⟩;refine ⟨_, rfl, ?_⟩) | ((with_reducible refine gate_callee (f := 24) rfl ?_);refine goesL_ (some 60) rfl rfl Try.func24 (by kernel_rfl) rfl #[.slice A1 l1.length c1] rfl lf_ ?_;(with_reducible refine (laws_toStringS.calls k _ _ l1 t1255 _ ?side1 ?side2 A23.out).mono ?_);(case side1 => exact rc_ (Kd.C_below HR1.out (bw2_ HB.out GE1235.out GE1249.out)));(case side2 => exact HC1.out);rintro e w58 ⟨v1256, rfl, ho0, hb⟩;refine ⟨_, rfl, ?_⟩;have n0_ := Aside0.mk (Kd.R_elder' (rr_ HO1224.out) (Kd.R_base ho0) hb);have n1_ := Aside0.mk (Kd.R_elder' (rr_ HO1227.out) (Kd.R_base ho0) hb);have n2_ := Aside0.mk (Kd.R_elder' (rr_ HO1230.out) (Kd.R_base ho0) hb);have n3_ := Aside0.mk (Kd.S_elder' (rs_ HO1234.out) (Kd.R_base ho0) hb);have n4_ := Aside0.mk (Kd.R_elder' (rr_ HO1238.out) (Kd.R_base ho0) hb);have n5_ := Aside0.mk (Kd.R_elder' (rr_ HO1241.out) (Kd.R_base ho0) hb);have n6_ := Aside0.mk (Kd.R_elder' (rr_ HO1244.out) (Kd.R_base ho0) hb);have n7_ := Aside0.mk (Kd.S_elder' (rs_ HO1248.out) (Kd.R_base ho0) hb);have n8_ := Aside0.mk (Kd.R_elder' (rr_ HO1253.out) (Kd.R_base ho0) hb);have n9_ := Aside0.mk (Kd.R_lower (Kd.R_new' (Kd.R_new' (Kd.R_new' (Kd.R_new' (Kd.R_new' (Kd.R_new' (Kd.R_new' ho0 (Kd.R_lt (rr_ HO1224.out))) (Kd.R_lt (rr_ HO1227.out))) (Kd.R_lt (rr_ HO1230.out))) (Kd.R_lt (rr_ HO1238.out))) (Kd.R_lt (rr_ HO1241.out))) (Kd.R_lt (rr_ HO1244.out))) (Kd.R_lt (rr_ HO1253.out))) (below_size (bw2_ HB.out GE1235.out GE1249.out)));have n10_ := Aside0.mk (blk_below (g := gb1235) (o := .cells #[.int .i64 t1231, .slice Ao42 t1232.length co42] 71 (0, 0)) (rb_ BK1235.out) hb);have n11_ := Aside0.mk (blk_below (g := gb1249) (o := .cells #[.int .i64 t1245, .slice Ao53 t1246.length co53] 71 (0, 0)) (rb_ BK1249.out) hb);have n12_ := Aside0.mk (below_step (bw2_ HB.out GE1235.out GE1249.out) hb);clear HO1224;clear HO1227;clear HO1230;clear HO1234;clear HO1238;clear HO1241;clear HO1244;clear HO1248;clear HO1253;clear BK1235;clear BK1249;clear HB;have HO1224 := n0_;have HO1227 := n1_;have HO1230 := n2_;have HO1234 := n3_;have HO1238 := n4_;have HO1241 := n5_;have HO1244 := n6_;have HO1248 := n7_;have HO1253 := n8_;have HO1257 := n9_;have BK1235 := n10_;have BK1249 := n11_;have HB := n12_;clear n0_ n1_ n2_ n3_ n4_ n5_ n6_ n7_ n8_ n9_ n10_ n11_ n12_;(try clear hb);(try clear hb2);(try clear hk);(try clear hi);(try clear ho0);obtain ⟨Ao59, co59, eo59⟩ := Kd.R_slice HO1257.out;subst eo59) | ((with_reducible refine gate_callee (f := 27) rfl ?_);refine goesL_ (some 61) rfl rfl Try.func27 (by kernel_rfl) rfl #[.slice Ao47 t1239.length co47, .slice Ao59 t1255.length co59] rfl lf_ ?_;(with_reducible refine (laws_eqStringS.calls k _ _ t1239 _ _ t1255 true _ ?side1 ?side2 ?side3 ?side4 A24.out).mono ?_);(case side1 => repeat (first | exact (Kd.R_reads' HO1241.out).2.2 | (with_reducible refine Kd.C_alloc ?_ _) | (with_reducible refine Kd.C_drewN ?_ _) | (with_reducible refine Kd.C_drew ?_)));(case side2 => exact (Kd.R_reads' HO1241.out).2.1);(case side3 => repeat (first | exact (Kd.R_reads' HO1257.out).2.2 | (with_reducible refine Kd.C_alloc ?_ _) | (with_reducible refine Kd.C_drewN ?_ _) | (with_reducible refine Kd.C_drew ?_)));(case side4 => exact (Kd.R_reads' HO1257.out).2.1);rintro e w' ⟨rfl, ⟨nd, rfl⟩⟩;refine ⟨_, rfl, ?_⟩) | ((with_reducible refine gate_callee (f := 24) rfl ?_);refine goesL_ (some 65) rfl rfl Try.func24 (by kernel_rfl) rfl #[.slice A2 l2.length c2] rfl lf_ ?_;(with_reducible refine (laws_toStringS.calls k _ _ l2 t1259 _ ?side1 ?side2 A26.out).mono ?_);(case side1 => exact rc_ (Kd.C_below HR2.out (bw2_ HB.out GE1235.out GE1249.out)));(case side2 => exact HC2.out);rintro e w60 ⟨v1260, rfl, ho0, hb⟩;refine ⟨_, rfl, ?_⟩;have n0_ := Aside0.mk (Kd.R_elder' (rr_ HO1224.out) (Kd.R_base ho0) hb);have n1_ := Aside0.mk (Kd.R_elder' (rr_ HO1227.out) (Kd.R_base ho0) hb);have n2_ := Aside0.mk (Kd.R_elder' (rr_ HO1230.out) (Kd.R_base ho0) hb);have n3_ := Aside0.mk (Kd.S_elder' (rs_ HO1234.out) (Kd.R_base ho0) hb);have n4_ := Aside0.mk (Kd.R_elder' (rr_ HO1238.out) (Kd.R_base ho0) hb);have n5_ := Aside0.mk (Kd.R_elder' (rr_ HO1241.out) (Kd.R_base ho0) hb);have n6_ := Aside0.mk (Kd.R_elder' (rr_ HO1244.out) (Kd.R_base ho0) hb);have n7_ := Aside0.mk (Kd.S_elder' (rs_ HO1248.out) (Kd.R_base ho0) hb);have n8_ := Aside0.mk (Kd.R_elder' (rr_ HO1253.out) (Kd.R_base ho0) hb);have n9_ := Aside0.mk (Kd.R_elder' (rr_ HO1257.out) (Kd.R_base ho0) hb);have n10_ := Aside0.mk (Kd.R_lower (Kd.R_new' (Kd.R_new' (Kd.R_new' (Kd.R_new' (Kd.R_new' (Kd.R_new' (Kd.R_new' (Kd.R_new' ho0 (Kd.R_lt (rr_ HO1224.out))) (Kd.R_lt (rr_ HO1227.out))) (Kd.R_lt (rr_ HO1230.out))) (Kd.R_lt (rr_ HO1238.out))) (Kd.R_lt (rr_ HO1241.out))) (Kd.R_lt (rr_ HO1244.out))) (Kd.R_lt (rr_ HO1253.out))) (Kd.R_lt (rr_ HO1257.out))) (below_size (bw2_ HB.out GE1235.out GE1249.out)));have n11_ := Aside0.mk (blk_below (g := gb1235) (o := .cells #[.int .i64 t1231, .slice Ao42 t1232.length co42] 71 (0, 0)) (rb_ BK1235.out) hb);have n12_ := Aside0.mk (blk_below (g := gb1249) (o := .cells #[.int .i64 t1245, .slice Ao53 t1246.length co53] 71 (0, 0)) (rb_ BK1249.out) hb);have n13_ := Aside0.mk (below_step (bw2_ HB.out GE1235.out GE1249.out) hb);clear HO1224;clear HO1227;clear HO1230;clear HO1234;clear HO1238;clear HO1241;clear HO1244;clear HO1248;clear HO1253;clear HO1257;clear BK1235;clear BK1249;clear HB;have HO1224 := n0_;have HO1227 := n1_;have HO1230 := n2_;have HO1234 := n3_;have HO1238 := n4_;have HO1241 := n5_;have HO1244 := n6_;have HO1248 := n7_;have HO1253 := n8_;have HO1257 := n9_;have HO1261 := n10_;have BK1235 := n11_;have BK1249 := n12_;have HB := n13_;clear n0_ n1_ n2_ n3_ n4_ n5_ n6_ n7_ n8_ n9_ n10_ n11_ n12_ n13_;(try clear hb);(try clear hb2);(try clear hk);(try clear hi);(try clear ho0);obtain ⟨Ao61, co61, eo61⟩ := Kd.R_slice HO1261.out;subst eo61) | ((with_reducible refine gate_callee (f := 27) rfl ?_);refine goesL_ (some 66) rfl rfl Try.func27 (by kernel_rfl) rfl #[.slice Ao48 t1242.length co48, .slice Ao61 t1259.length co61] rfl lf_ ?_;(with_reducible refine (laws_eqStringS.calls k _ _ t1242 _ _ t1259 true _ ?side1 ?side2 ?side3 ?side4 A27.out).mono ?_);(case side1 => repeat (first | exact (Kd.R_reads' HO1244.out).2.2 | (with_reducible refine Kd.C_alloc ?_ _) | (with_reducible refine Kd.C_drewN ?_ _) | (with_reducible refine Kd.C_drew ?_)));(case side2 => exact (Kd.R_reads' HO1244.out).2.1);(case side3 => repeat (first | exact (Kd.R_reads' HO1261.out).2.2 | (with_reducible refine Kd.C_alloc ?_ _) | (with_reducible refine Kd.C_drewN ?_ _) | (with_reducible refine Kd.C_drew ?_)));(case side4 => exact (Kd.R_reads' HO1261.out).2.1);rintro e w' ⟨rfl, ⟨nd, rfl⟩⟩;refine ⟨_, rfl, ?_⟩) | ((with_reducible refine gate_callee (f := 28) rfl ?_);refine goesL_ (some 70) rfl rfl Try.func28 (by kernel_rfl) rfl #[.slice Ao46 t1236.length co46, .int .i64 1] rfl lf_ ?_;(with_reducible refine (laws_markStringS.calls k (fun k_ => some k_ = (.slice Ao46 t1236.length co46 : Value).ownBlock) (.slice Ao46 t1236.length co46) t1236 1 t1263 t1264 w _ ?side1 ?side2 A29.out).mono ?_);(case side1 => exact bw2_ HB.out GE1235.out GE1249.out);(case side2 => exact Kd.R_tight rfl HO1238.out);rintro e w62 ⟨rfl, hy0, hb, hkp⟩;refine ⟨_, rfl, ?_⟩;have n0_ := Aside0.mk (Kd.R_mono (ok' := fun k_ => some k_ ≠ (.slice Ao37 t1225.length co37 : Value).ownBlock ∧ some k_ ≠ (.slice Ao38 t1228.length co38 : Value).ownBlock ∧ some k_ ≠ (.slice Ao46 t1236.length co46 : Value).ownBlock ∧ some k_ ≠ (.slice Ao47 t1239.length co47 : Value).ownBlock ∧ some k_ ≠ (.slice Ao48 t1242.length co48 : Value).ownBlock ∧ some k_ ≠ (.slice Ao57 t1251.length co57 : Value).ownBlock ∧ some k_ ≠ (.slice Ao59 t1255.length co59 : Value).ownBlock ∧ some k_ ≠ (.slice Ao61 t1259.length co61 : Value).ownBlock) (Kd.R_keptB (HO1224.out) hkp (fun k_ hk_ hs_ => (hk_.1.1.1.1.1.2) hs_)) (fun k_ hk_ => ⟨hk_.1.1.1.1.1.1.1.1.2, hk_.1.1.1.1.1.1.1.2, hk_.1.1.1.1.1.1.2, hk_.1.1.1.1.1.2, hk_.1.1.1.1.2, hk_.1.1.1.2, hk_.1.1.2, hk_.1.2⟩));have n1_ := Aside0.mk (Kd.R_mono (ok' := fun k_ => some k_ ≠ (.slice Ao36 t1222.length co36 : Value).ownBlock ∧ some k_ ≠ (.slice Ao38 t1228.length co38 : Value).ownBlock ∧ some k_ ≠ (.slice Ao46 t1236.length co46 : Value).ownBlock ∧ some k_ ≠ (.slice Ao47 t1239.length co47 : Value).ownBlock ∧ some k_ ≠ (.slice Ao48 t1242.length co48 : Value).ownBlock ∧ some k_ ≠ (.slice Ao57 t1251.length co57 : Value).ownBlock ∧ some k_ ≠ (.slice Ao59 t1255.length co59 : Value).ownBlock ∧ some k_ ≠ (.slice Ao61 t1259.length co61 : Value).ownBlock) (Kd.R_keptB (HO1227.out) hkp (fun k_ hk_ hs_ => (hk_.1.1.1.1.1.2) hs_)) (fun k_ hk_ => ⟨hk_.1.1.1.1.1.1.1.1.2, hk_.1.1.1.1.1.1.1.2, hk_.1.1.1.1.1.1.2, hk_.1.1.1.1.1.2, hk_.1.1.1.1.2, hk_.1.1.1.2, hk_.1.1.2, hk_.1.2⟩));have n2_ := Aside0.mk (Kd.R_mono (ok' := fun k_ => some k_ ≠ (.slice Ao36 t1222.length co36 : Value).ownBlock ∧ some k_ ≠ (.slice Ao37 t1225.length co37 : Value).ownBlock ∧ some k_ ≠ (.slice Ao46 t1236.length co46 : Value).ownBlock ∧ some k_ ≠ (.slice Ao47 t1239.length co47 : Value).ownBlock ∧ some k_ ≠ (.slice Ao48 t1242.length co48 : Value).ownBlock ∧ some k_ ≠ (.slice Ao57 t1251.length co57 : Value).ownBlock ∧ some k_ ≠ (.slice Ao59 t1255.length co59 : Value).ownBlock ∧ some k_ ≠ (.slice Ao61 t1259.length co61 : Value).ownBlock) (Kd.R_keptB (HO1230.out) hkp (fun k_ hk_ hs_ => (hk_.1.1.1.1.1.2) hs_)) (fun k_ hk_ => ⟨hk_.1.1.1.1.1.1.1.1.2, hk_.1.1.1.1.1.1.1.2, hk_.1.1.1.1.1.1.2, hk_.1.1.1.1.1.2, hk_.1.1.1.1.2, hk_.1.1.1.2, hk_.1.1.2, hk_.1.2⟩));have n3_ := Aside0.mk (Kd.S_mono (ok' := fun k_ => k_ < m2 ∧ some k_ ≠ (.slice Ao36 t1222.length co36 : Value).ownBlock ∧ some k_ ≠ (.slice Ao37 t1225.length co37 : Value).ownBlock ∧ some k_ ≠ (.slice Ao38 t1228.length co38 : Value).ownBlock ∧ some k_ ≠ (.slice Ao46 t1236.length co46 : Value).ownBlock ∧ some k_ ≠ (.slice Ao47 t1239.length co47 : Value).ownBlock ∧ some k_ ≠ (.slice Ao48 t1242.length co48 : Value).ownBlock ∧ some k_ ≠ (.slice Ao53 t1246.length co53 : Value).ownBlock ∧ some k_ ≠ (.slice Ao57 t1251.length co57 : Value).ownBlock ∧ some k_ ≠ (.slice Ao59 t1255.length co59 : Value).ownBlock ∧ some k_ ≠ (.slice Ao61 t1259.length co61 : Value).ownBlock) (Kd.S_keptB (HO1234.out) hkp (fun k_ hk_ hs_ => (hk_.1.1.1.1.1.1.2) hs_)) (fun k_ hk_ => ⟨hk_.1.1.1.1.1.1.1.1.1.1.1, hk_.1.1.1.1.1.1.1.1.1.1.2, hk_.1.1.1.1.1.1.1.1.1.2, hk_.1.1.1.1.1.1.1.1.2, hk_.1.1.1.1.1.1.1.2, hk_.1.1.1.1.1.1.2, hk_.1.1.1.1.1.2, hk_.1.1.1.1.2, hk_.1.1.1.2, hk_.1.1.2, hk_.1.2⟩));have n4_ := Aside0.mk (blk_kept (rb_ BK1235.out) hkp (fun hs_ => (fun e_ => (Kd.R_ne HO1238.out BK1235.out (by decide)) e_) hs_));have n5_ := Aside0.mk (Kd.R_reok rfl hy0 (fun k_ e_ => HO1238.out.1 k_ e_));have n6_ := Aside0.mk (Kd.R_mono (ok' := fun k_ => some k_ ≠ (.slice Ao36 t1222.length co36 : Value).ownBlock ∧ some k_ ≠ (.slice Ao37 t1225.length co37 : Value).ownBlock ∧ some k_ ≠ (.slice Ao38 t1228.length co38 : Value).ownBlock ∧ some k_ ≠ (.slice Ao46 t1236.length co46 : Value).ownBlock ∧ some k_ ≠ (.slice Ao48 t1242.length co48 : Value).ownBlock ∧ some k_ ≠ (.slice Ao57 t1251.length co57 : Value).ownBlock ∧ some k_ ≠ (.slice Ao59 t1255.length co59 : Value).ownBlock ∧ some k_ ≠ (.slice Ao61 t1259.length co61 : Value).ownBlock) (Kd.R_keptB (HO1241.out) hkp (fun k_ hk_ hs_ => (hk_.1.1.1.1.2) hs_)) (fun k_ hk_ => ⟨hk_.1.1.1.1.1.1.1.1.2, hk_.1.1.1.1.1.1.1.2, hk_.1.1.1.1.1.1.2, hk_.1.1.1.1.1.2, hk_.1.1.1.1.2, hk_.1.1.1.2, hk_.1.1.2, hk_.1.2⟩));have n7_ := Aside0.mk (Kd.R_mono (ok' := fun k_ => some k_ ≠ (.slice Ao36 t1222.length co36 : Value).ownBlock ∧ some k_ ≠ (.slice Ao37 t1225.length co37 : Value).ownBlock ∧ some k_ ≠ (.slice Ao38 t1228.length co38 : Value).ownBlock ∧ some k_ ≠ (.slice Ao46 t1236.length co46 : Value).ownBlock ∧ some k_ ≠ (.slice Ao47 t1239.length co47 : Value).ownBlock ∧ some k_ ≠ (.slice Ao57 t1251.length co57 : Value).ownBlock ∧ some k_ ≠ (.slice Ao59 t1255.length co59 : Value).ownBlock ∧ some k_ ≠ (.slice Ao61 t1259.length co61 : Value).ownBlock) (Kd.R_keptB (HO1244.out) hkp (fun k_ hk_ hs_ => (hk_.1.1.1.1.2) hs_)) (fun k_ hk_ => ⟨hk_.1.1.1.1.1.1.1.1.2, hk_.1.1.1.1.1.1.1.2, hk_.1.1.1.1.1.1.2, hk_.1.1.1.1.1.2, hk_.1.1.1.1.2, hk_.1.1.1.2, hk_.1.1.2, hk_.1.2⟩));have n8_ := Aside0.mk (Kd.S_mono (ok' := fun k_ => m2 ≤ k_ ∧ some k_ ≠ (.slice Ao36 t1222.length co36 : Value).ownBlock ∧ some k_ ≠ (.slice Ao37 t1225.length co37 : Value).ownBlock ∧ some k_ ≠ (.slice Ao38 t1228.length co38 : Value).ownBlock ∧ some k_ ≠ (.slice Ao42 t1232.length co42 : Value).ownBlock ∧ some k_ ≠ (.slice Ao46 t1236.length co46 : Value).ownBlock ∧ some k_ ≠ (.slice Ao47 t1239.length co47 : Value).ownBlock ∧ some k_ ≠ (.slice Ao48 t1242.length co48 : Value).ownBlock ∧ some k_ ≠ (.slice Ao57 t1251.length co57 : Value).ownBlock ∧ some k_ ≠ (.slice Ao59 t1255.length co59 : Value).ownBlock ∧ some k_ ≠ (.slice Ao61 t1259.length co61 : Value).ownBlock) (Kd.S_keptB (HO1248.out) hkp (fun k_ hk_ hs_ => (hk_.1.1.1.1.1.2) hs_)) (fun k_ hk_ => ⟨hk_.1.1.1.1.1.1.1.1.1.1.1, hk_.1.1.1.1.1.1.1.1.1.1.2, hk_.1.1.1.1.1.1.1.1.1.2, hk_.1.1.1.1.1.1.1.1.2, hk_.1.1.1.1.1.1.1.2, hk_.1.1.1.1.1.1.2, hk_.1.1.1.1.1.2, hk_.1.1.1.1.2, hk_.1.1.1.2, hk_.1.1.2, hk_.1.2⟩));have n9_ := Aside0.mk (blk_kept (rb_ BK1249.out) hkp (fun hs_ => (fun e_ => (Kd.R_ne HO1238.out BK1249.out (by decide)) e_) hs_));have n10_ := Aside0.mk (Kd.R_mono (ok' := fun k_ => some k_ ≠ (.slice Ao36 t1222.length co36 : Value).ownBlock ∧ some k_ ≠ (.slice Ao37 t1225.length co37 : Value).ownBlock ∧ some k_ ≠ (.slice Ao38 t1228.length co38 : Value).ownBlock ∧ some k_ ≠ (.slice Ao46 t1236.length co46 : Value).ownBlock ∧ some k_ ≠ (.slice Ao47 t1239.length co47 : Value).ownBlock ∧ some k_ ≠ (.slice Ao48 t1242.length co48 : Value).ownBlock ∧ some k_ ≠ (.slice Ao59 t1255.length co59 : Value).ownBlock ∧ some k_ ≠ (.slice Ao61 t1259.length co61 : Value).ownBlock) (Kd.R_keptB (HO1253.out) hkp (fun k_ hk_ hs_ => (hk_.1.1.1.1.2) hs_)) (fun k_ hk_ => ⟨hk_.1.1.1.1.1.1.1.1.2, hk_.1.1.1.1.1.1.1.2, hk_.1.1.1.1.1.1.2, hk_.1.1.1.1.1.2, hk_.1.1.1.1.2, hk_.1.1.1.2, hk_.1.1.2, hk_.1.2⟩));have n11_ := Aside0.mk (Kd.R_mono (ok' := fun k_ => some k_ ≠ (.slice Ao36 t1222.length co36 : Value).ownBlock ∧ some k_ ≠ (.slice Ao37 t1225.length co37 : Value).ownBlock ∧ some k_ ≠ (.slice Ao38 t1228.length co38 : Value).ownBlock ∧ some k_ ≠ (.slice Ao46 t1236.length co46 : Value).ownBlock ∧ some k_ ≠ (.slice Ao47 t1239.length co47 : Value).ownBlock ∧ some k_ ≠ (.slice Ao48 t1242.length co48 : Value).ownBlock ∧ some k_ ≠ (.slice Ao57 t1251.length co57 : Value).ownBlock ∧ some k_ ≠ (.slice Ao61 t1259.length co61 : Value).ownBlock) (Kd.R_keptB (HO1257.out) hkp (fun k_ hk_ hs_ => (hk_.1.1.1.1.2) hs_)) (fun k_ hk_ => ⟨hk_.1.1.1.1.1.1.1.1.2, hk_.1.1.1.1.1.1.1.2, hk_.1.1.1.1.1.1.2, hk_.1.1.1.1.1.2, hk_.1.1.1.1.2, hk_.1.1.1.2, hk_.1.1.2, hk_.1.2⟩));have n12_ := Aside0.mk (Kd.R_mono (ok' := fun k_ => some k_ ≠ (.slice Ao36 t1222.length co36 : Value).ownBlock ∧ some k_ ≠ (.slice Ao37 t1225.length co37 : Value).ownBlock ∧ some k_ ≠ (.slice Ao38 t1228.length co38 : Value).ownBlock ∧ some k_ ≠ (.slice Ao46 t1236.length co46 : Value).ownBlock ∧ some k_ ≠ (.slice Ao47 t1239.length co47 : Value).ownBlock ∧ some k_ ≠ (.slice Ao48 t1242.length co48 : Value).ownBlock ∧ some k_ ≠ (.slice Ao57 t1251.length co57 : Value).ownBlock ∧ some k_ ≠ (.slice Ao59 t1255.length co59 : Value).ownBlock) (Kd.R_keptB (HO1261.out) hkp (fun k_ hk_ hs_ => (hk_.1.1.1.1.2) hs_)) (fun k_ hk_ => ⟨hk_.1.1.1.1.1.1.1.1.2, hk_.1.1.1.1.1.1.1.2, hk_.1.1.1.1.1.1.2, hk_.1.1.1.1.1.2, hk_.1.1.1.1.2, hk_.1.1.1.2, hk_.1.1.2, hk_.1.2⟩));have n13_ := Aside0.mk (hb);clear HO1224;clear HO1227;clear HO1230;clear HO1234;clear BK1235;clear HO1238;clear HO1241;clear HO1244;clear HO1248;clear BK1249;clear HO1253;clear HO1257;clear HO1261;clear HB;have HO1224 := n0_;have HO1227 := n1_;have HO1230 := n2_;have HO1234 := n3_;have BK1235 := n4_;have HO1238 := n5_;have HO1241 := n6_;have HO1244 := n7_;have HO1248 := n8_;have BK1249 := n9_;have HO1253 := n10_;have HO1257 := n11_;have HO1261 := n12_;have HB := n13_;clear n0_ n1_ n2_ n3_ n4_ n5_ n6_ n7_ n8_ n9_ n10_ n11_ n12_ n13_;(try clear hb);(try clear hkp);(try clear hy0)) | ((with_reducible refine gate_callee (f := 28) rfl ?_);refine goesL_ (some 73) rfl rfl Try.func28 (by kernel_rfl) rfl #[.slice Ao47 t1239.length co47, .int .i64 t1263] rfl lf_ ?_;(with_reducible refine (laws_markStringS.calls k (fun k_ => some k_ = (.slice Ao47 t1239.length co47 : Value).ownBlock) (.slice Ao47 t1239.length co47) t1239 t1263 t1265 t1266 w _ ?side1 ?side2 A30.out).mono ?_);(case side1 => exact bw2_ HB.out GE1235.out GE1249.out);(case side2 => exact Kd.R_tight rfl HO1241.out);rintro e w63 ⟨rfl, hy0, hb, hkp⟩;refine ⟨_, rfl, ?_⟩;have n0_ := Aside0.mk (Kd.R_mono (ok' := fun k_ => some k_ ≠ (.slice Ao37 t1225.length co37 : Value).ownBlock ∧ some k_ ≠ (.slice Ao38 t1228.length co38 : Value).ownBlock ∧ some k_ ≠ (.slice Ao46 t1236.length co46 : Value).ownBlock ∧ some k_ ≠ (.slice Ao47 t1239.length co47 : Value).ownBlock ∧ some k_ ≠ (.slice Ao48 t1242.length co48 : Value).ownBlock ∧ some k_ ≠ (.slice Ao57 t1251.length co57 : Value).ownBlock ∧ some k_ ≠ (.slice Ao59 t1255.length co59 : Value).ownBlock ∧ some k_ ≠ (.slice Ao61 t1259.length co61 : Value).ownBlock) (Kd.R_keptB (HO1224.out) hkp (fun k_ hk_ hs_ => (hk_.2.2.2.1) hs_)) (fun k_ hk_ => ⟨hk_.1.1, hk_.1.2.1, hk_.1.2.2.1, hk_.1.2.2.2.1, hk_.1.2.2.2.2.1, hk_.1.2.2.2.2.2.1, hk_.1.2.2.2.2.2.2.1, hk_.1.2.2.2.2.2.2.2⟩));have n1_ := Aside0.mk (Kd.R_mono (ok' := fun k_ => some k_ ≠ (.slice Ao36 t1222.length co36 : Value).ownBlock ∧ some k_ ≠ (.slice Ao38 t1228.length co38 : Value).ownBlock ∧ some k_ ≠ (.slice Ao46 t1236.length co46 : Value).ownBlock ∧ some k_ ≠ (.slice Ao47 t1239.length co47 : Value).ownBlock ∧ some k_ ≠ (.slice Ao48 t1242.length co48 : Value).ownBlock ∧ some k_ ≠ (.slice Ao57 t1251.length co57 : Value).ownBlock ∧ some k_ ≠ (.slice Ao59 t1255.length co59 : Value).ownBlock ∧ some k_ ≠ (.slice Ao61 t1259.length co61 : Value).ownBlock) (Kd.R_keptB (HO1227.out) hkp (fun k_ hk_ hs_ => (hk_.2.2.2.1) hs_)) (fun k_ hk_ => ⟨hk_.1.1, hk_.1.2.1, hk_.1.2.2.1, hk_.1.2.2.2.1, hk_.1.2.2.2.2.1, hk_.1.2.2.2.2.2.1, hk_.1.2.2.2.2.2.2.1, hk_.1.2.2.2.2.2.2.2⟩));have n2_ := Aside0.mk (Kd.R_mono (ok' := fun k_ => some k_ ≠ (.slice Ao36 t1222.length co36 : Value).ownBlock ∧ some k_ ≠ (.slice Ao37 t1225.length co37 : Value).ownBlock ∧ some k_ ≠ (.slice Ao46 t1236.length co46 : Value).ownBlock ∧ some k_ ≠ (.slice Ao47 t1239.length co47 : Value).ownBlock ∧ some k_ ≠ (.slice Ao48 t1242.length co48 : Value).ownBlock ∧ some k_ ≠ (.slice Ao57 t1251.length co57 : Value).ownBlock ∧ some k_ ≠ (.slice Ao59 t1255.length co59 : Value).ownBlock ∧ some k_ ≠ (.slice Ao61 t1259.length co61 : Value).ownBlock) (Kd.R_keptB (HO1230.out) hkp (fun k_ hk_ hs_ => (hk_.2.2.2.1) hs_)) (fun k_ hk_ => ⟨hk_.1.1, hk_.1.2.1, hk_.1.2.2.1, hk_.1.2.2.2.1, hk_.1.2.2.2.2.1, hk_.1.2.2.2.2.2.1, hk_.1.2.2.2.2.2.2.1, hk_.1.2.2.2.2.2.2.2⟩));have n3_ := Aside0.mk (Kd.S_mono (ok' := fun k_ => k_ < m2 ∧ some k_ ≠ (.slice Ao36 t1222.length co36 : Value).ownBlock ∧ some k_ ≠ (.slice Ao37 t1225.length co37 : Value).ownBlock ∧ some k_ ≠ (.slice Ao38 t1228.length co38 : Value).ownBlock ∧ some k_ ≠ (.slice Ao46 t1236.length co46 : Value).ownBlock ∧ some k_ ≠ (.slice Ao47 t1239.length co47 : Value).ownBlock ∧ some k_ ≠ (.slice Ao48 t1242.length co48 : Value).ownBlock ∧ some k_ ≠ (.slice Ao53 t1246.length co53 : Value).ownBlock ∧ some k_ ≠ (.slice Ao57 t1251.length co57 : Value).ownBlock ∧ some k_ ≠ (.slice Ao59 t1255.length co59 : Value).ownBlock ∧ some k_ ≠ (.slice Ao61 t1259.length co61 : Value).ownBlock) (Kd.S_keptB (HO1234.out) hkp (fun k_ hk_ hs_ => (hk_.2.2.2.2.2.1) hs_)) (fun k_ hk_ => ⟨hk_.1.1, hk_.1.2.1, hk_.1.2.2.1, hk_.1.2.2.2.1, hk_.1.2.2.2.2.1, hk_.1.2.2.2.2.2.1, hk_.1.2.2.2.2.2.2.1, hk_.1.2.2.2.2.2.2.2.1, hk_.1.2.2.2.2.2.2.2.2.1, hk_.1.2.2.2.2.2.2.2.2.2.1, hk_.1.2.2.2.2.2.2.2.2.2.2⟩));have n4_ := Aside0.mk (blk_kept (rb_ BK1235.out) hkp (fun hs_ => (fun e_ => (Kd.R_ne HO1241.out BK1235.out (by decide)) e_) hs_));have n5_ := Aside0.mk (Kd.R_mono (ok' := fun k_ => some k_ ≠ (.slice Ao36 t1222.length co36 : Value).ownBlock ∧ some k_ ≠ (.slice Ao37 t1225.length co37 : Value).ownBlock ∧ some k_ ≠ (.slice Ao38 t1228.length co38 : Value).ownBlock ∧ some k_ ≠ (.slice Ao47 t1239.length co47 : Value).ownBlock ∧ some k_ ≠ (.slice Ao48 t1242.length co48 : Value).ownBlock ∧ some k_ ≠ (.slice Ao57 t1251.length co57 : Value).ownBlock ∧ some k_ ≠ (.slice Ao59 t1255.length co59 : Value).ownBlock ∧ some k_ ≠ (.slice Ao61 t1259.length co61 : Value).ownBlock) (Kd.R_keptB (HO1238.out) hkp (fun k_ hk_ hs_ => (hk_.1.1.1.1.2) hs_)) (fun k_ hk_ => ⟨hk_.1.1.1.1.1.1.1.1.2, hk_.1.1.1.1.1.1.1.2, hk_.1.1.1.1.1.1.2, hk_.1.1.1.1.1.2, hk_.1.1.1.1.2, hk_.1.1.1.2, hk_.1.1.2, hk_.1.2⟩));have n6_ := Aside0.mk (Kd.R_reok rfl hy0 (fun k_ e_ => HO1241.out.1 k_ e_));have n7_ := Aside0.mk (Kd.R_mono (ok' := fun k_ => some k_ ≠ (.slice Ao36 t1222.length co36 : Value).ownBlock ∧ some k_ ≠ (.slice Ao37 t1225.length co37 : Value).ownBlock ∧ some k_ ≠ (.slice Ao38 t1228.length co38 : Value).ownBlock ∧ some k_ ≠ (.slice Ao46 t1236.length co46 : Value).ownBlock ∧ some k_ ≠ (.slice Ao47 t1239.length co47 : Value).ownBlock ∧ some k_ ≠ (.slice Ao57 t1251.length co57 : Value).ownBlock ∧ some k_ ≠ (.slice Ao59 t1255.length co59 : Value).ownBlock ∧ some k_ ≠ (.slice Ao61 t1259.length co61 : Value).ownBlock) (Kd.R_keptB (HO1244.out) hkp (fun k_ hk_ hs_ => (hk_.2.2.2.2.1) hs_)) (fun k_ hk_ => ⟨hk_.1.1, hk_.1.2.1, hk_.1.2.2.1, hk_.1.2.2.2.1, hk_.1.2.2.2.2.1, hk_.1.2.2.2.2.2.1, hk_.1.2.2.2.2.2.2.1, hk_.1.2.2.2.2.2.2.2⟩));have n8_ := Aside0.mk (Kd.S_mono (ok' := fun k_ => m2 ≤ k_ ∧ some k_ ≠ (.slice Ao36 t1222.length co36 : Value).ownBlock ∧ some k_ ≠ (.slice Ao37 t1225.length co37 : Value).ownBlock ∧ some k_ ≠ (.slice Ao38 t1228.length co38 : Value).ownBlock ∧ some k_ ≠ (.slice Ao42 t1232.length co42 : Value).ownBlock ∧ some k_ ≠ (.slice Ao46 t1236.length co46 : Value).ownBlock ∧ some k_ ≠ (.slice Ao47 t1239.length co47 : Value).ownBlock ∧ some k_ ≠ (.slice Ao48 t1242.length co48 : Value).ownBlock ∧ some k_ ≠ (.slice Ao57 t1251.length co57 : Value).ownBlock ∧ some k_ ≠ (.slice Ao59 t1255.length co59 : Value).ownBlock ∧ some k_ ≠ (.slice Ao61 t1259.length co61 : Value).ownBlock) (Kd.S_keptB (HO1248.out) hkp (fun k_ hk_ hs_ => (hk_.2.2.2.2.2.2.1) hs_)) (fun k_ hk_ => ⟨hk_.1.1, hk_.1.2.1, hk_.1.2.2.1, hk_.1.2.2.2.1, hk_.1.2.2.2.2.1, hk_.1.2.2.2.2.2.1, hk_.1.2.2.2.2.2.2.1, hk_.1.2.2.2.2.2.2.2.1, hk_.1.2.2.2.2.2.2.2.2.1, hk_.1.2.2.2.2.2.2.2.2.2.1, hk_.1.2.2.2.2.2.2.2.2.2.2⟩));have n9_ := Aside0.mk (blk_kept (rb_ BK1249.out) hkp (fun hs_ => (fun e_ => (Kd.R_ne HO1241.out BK1249.out (by decide)) e_) hs_));have n10_ := Aside0.mk (Kd.R_mono (ok' := fun k_ => some k_ ≠ (.slice Ao36 t1222.length co36 : Value).ownBlock ∧ some k_ ≠ (.slice Ao37 t1225.length co37 : Value).ownBlock ∧ some k_ ≠ (.slice Ao38 t1228.length co38 : Value).ownBlock ∧ some k_ ≠ (.slice Ao46 t1236.length co46 : Value).ownBlock ∧ some k_ ≠ (.slice Ao47 t1239.length co47 : Value).ownBlock ∧ some k_ ≠ (.slice Ao48 t1242.length co48 : Value).ownBlock ∧ some k_ ≠ (.slice Ao59 t1255.length co59 : Value).ownBlock ∧ some k_ ≠ (.slice Ao61 t1259.length co61 : Value).ownBlock) (Kd.R_keptB (HO1253.out) hkp (fun k_ hk_ hs_ => (hk_.2.2.2.2.1) hs_)) (fun k_ hk_ => ⟨hk_.1.1, hk_.1.2.1, hk_.1.2.2.1, hk_.1.2.2.2.1, hk_.1.2.2.2.2.1, hk_.1.2.2.2.2.2.1, hk_.1.2.2.2.2.2.2.1, hk_.1.2.2.2.2.2.2.2⟩));have n11_ := Aside0.mk (Kd.R_mono (ok' := fun k_ => some k_ ≠ (.slice Ao36 t1222.length co36 : Value).ownBlock ∧ some k_ ≠ (.slice Ao37 t1225.length co37 : Value).ownBlock ∧ some k_ ≠ (.slice Ao38 t1228.length co38 : Value).ownBlock ∧ some k_ ≠ (.slice Ao46 t1236.length co46 : Value).ownBlock ∧ some k_ ≠ (.slice Ao47 t1239.length co47 : Value).ownBlock ∧ some k_ ≠ (.slice Ao48 t1242.length co48 : Value).ownBlock ∧ some k_ ≠ (.slice Ao57 t1251.length co57 : Value).ownBlock ∧ some k_ ≠ (.slice Ao61 t1259.length co61 : Value).ownBlock) (Kd.R_keptB (HO1257.out) hkp (fun k_ hk_ hs_ => (hk_.2.2.2.2.1) hs_)) (fun k_ hk_ => ⟨hk_.1.1, hk_.1.2.1, hk_.1.2.2.1, hk_.1.2.2.2.1, hk_.1.2.2.2.2.1, hk_.1.2.2.2.2.2.1, hk_.1.2.2.2.2.2.2.1, hk_.1.2.2.2.2.2.2.2⟩));have n12_ := Aside0.mk (Kd.R_mono (ok' := fun k_ => some k_ ≠ (.slice Ao36 t1222.length co36 : Value).ownBlock ∧ some k_ ≠ (.slice Ao37 t1225.length co37 : Value).ownBlock ∧ some k_ ≠ (.slice Ao38 t1228.length co38 : Value).ownBlock ∧ some k_ ≠ (.slice Ao46 t1236.length co46 : Value).ownBlock ∧ some k_ ≠ (.slice Ao47 t1239.length co47 : Value).ownBlock ∧ some k_ ≠ (.slice Ao48 t1242.length co48 : Value).ownBlock ∧ some k_ ≠ (.slice Ao57 t1251.length co57 : Value).ownBlock ∧ some k_ ≠ (.slice Ao59 t1255.length co59 : Value).ownBlock) (Kd.R_keptB (HO1261.out) hkp (fun k_ hk_ hs_ => (hk_.2.2.2.2.1) hs_)) (fun k_ hk_ => ⟨hk_.1.1, hk_.1.2.1, hk_.1.2.2.1, hk_.1.2.2.2.1, hk_.1.2.2.2.2.1, hk_.1.2.2.2.2.2.1, hk_.1.2.2.2.2.2.2.1, hk_.1.2.2.2.2.2.2.2⟩));have n13_ := Aside0.mk (hb);clear HO1224;clear HO1227;clear HO1230;clear HO1234;clear BK1235;clear HO1238;clear HO1241;clear HO1244;clear HO1248;clear BK1249;clear HO1253;clear HO1257;clear HO1261;clear HB;have HO1224 := n0_;have HO1227 := n1_;have HO1230 := n2_;have HO1234 := n3_;have BK1235 := n4_;have HO1238 := n5_;have HO1241 := n6_;have HO1244 := n7_;have HO1248 := n8_;have BK1249 := n9_;have HO1253 := n10_;have HO1257 := n11_;have HO1261 := n12_;have HB := n13_;clear n0_ n1_ n2_ n3_ n4_ n5_ n6_ n7_ n8_ n9_ n10_ n11_ n12_ n13_;(try clear hb);(try clear hkp);(try clear hy0)) | ((with_reducible refine gate_callee (f := 28) rfl ?_);refine goesL_ (some 76) rfl rfl Try.func28 (by kernel_rfl) rfl #[.slice Ao48 t1242.length co48, .int .i64 t1265] rfl lf_ ?_;(with_reducible refine (laws_markStringS.calls k (fun k_ => some k_ = (.slice Ao48 t1242.length co48 : Value).ownBlock) (.slice Ao48 t1242.length co48) t1242 t1265 t1267 t1268 w _ ?side1 ?side2 A31.out).mono ?_);(case side1 => exact bw2_ HB.out GE1235.out GE1249.out);(case side2 => exact Kd.R_tight rfl HO1244.out);rintro e w64 ⟨rfl, hy0, hb, hkp⟩;refine ⟨_, rfl, ?_⟩;have n0_ := Aside0.mk (Kd.R_mono (ok' := fun k_ => some k_ ≠ (.slice Ao37 t1225.length co37 : Value).ownBlock ∧ some k_ ≠ (.slice Ao38 t1228.length co38 : Value).ownBlock ∧ some k_ ≠ (.slice Ao46 t1236.length co46 : Value).ownBlock ∧ some k_ ≠ (.slice Ao47 t1239.length co47 : Value).ownBlock ∧ some k_ ≠ (.slice Ao48 t1242.length co48 : Value).ownBlock ∧ some k_ ≠ (.slice Ao57 t1251.length co57 : Value).ownBlock ∧ some k_ ≠ (.slice Ao59 t1255.length co59 : Value).ownBlock ∧ some k_ ≠ (.slice Ao61 t1259.length co61 : Value).ownBlock) (Kd.R_keptB (HO1224.out) hkp (fun k_ hk_ hs_ => (hk_.2.2.2.2.1) hs_)) (fun k_ hk_ => ⟨hk_.1.1, hk_.1.2.1, hk_.1.2.2.1, hk_.1.2.2.2.1, hk_.1.2.2.2.2.1, hk_.1.2.2.2.2.2.1, hk_.1.2.2.2.2.2.2.1, hk_.1.2.2.2.2.2.2.2⟩));have n1_ := Aside0.mk (Kd.R_mono (ok' := fun k_ => some k_ ≠ (.slice Ao36 t1222.length co36 : Value).ownBlock ∧ some k_ ≠ (.slice Ao38 t1228.length co38 : Value).ownBlock ∧ some k_ ≠ (.slice Ao46 t1236.length co46 : Value).ownBlock ∧ some k_ ≠ (.slice Ao47 t1239.length co47 : Value).ownBlock ∧ some k_ ≠ (.slice Ao48 t1242.length co48 : Value).ownBlock ∧ some k_ ≠ (.slice Ao57 t1251.length co57 : Value).ownBlock ∧ some k_ ≠ (.slice Ao59 t1255.length co59 : Value).ownBlock ∧ some k_ ≠ (.slice Ao61 t1259.length co61 : Value).ownBlock) (Kd.R_keptB (HO1227.out) hkp (fun k_ hk_ hs_ => (hk_.2.2.2.2.1) hs_)) (fun k_ hk_ => ⟨hk_.1.1, hk_.1.2.1, hk_.1.2.2.1, hk_.1.2.2.2.1, hk_.1.2.2.2.2.1, hk_.1.2.2.2.2.2.1, hk_.1.2.2.2.2.2.2.1, hk_.1.2.2.2.2.2.2.2⟩));have n2_ := Aside0.mk (Kd.R_mono (ok' := fun k_ => some k_ ≠ (.slice Ao36 t1222.length co36 : Value).ownBlock ∧ some k_ ≠ (.slice Ao37 t1225.length co37 : Value).ownBlock ∧ some k_ ≠ (.slice Ao46 t1236.length co46 : Value).ownBlock ∧ some k_ ≠ (.slice Ao47 t1239.length co47 : Value).ownBlock ∧ some k_ ≠ (.slice Ao48 t1242.length co48 : Value).ownBlock ∧ some k_ ≠ (.slice Ao57 t1251.length co57 : Value).ownBlock ∧ some k_ ≠ (.slice Ao59 t1255.length co59 : Value).ownBlock ∧ some k_ ≠ (.slice Ao61 t1259.length co61 : Value).ownBlock) (Kd.R_keptB (HO1230.out) hkp (fun k_ hk_ hs_ => (hk_.2.2.2.2.1) hs_)) (fun k_ hk_ => ⟨hk_.1.1, hk_.1.2.1, hk_.1.2.2.1, hk_.1.2.2.2.1, hk_.1.2.2.2.2.1, hk_.1.2.2.2.2.2.1, hk_.1.2.2.2.2.2.2.1, hk_.1.2.2.2.2.2.2.2⟩));have n3_ := Aside0.mk (Kd.S_mono (ok' := fun k_ => k_ < m2 ∧ some k_ ≠ (.slice Ao36 t1222.length co36 : Value).ownBlock ∧ some k_ ≠ (.slice Ao37 t1225.length co37 : Value).ownBlock ∧ some k_ ≠ (.slice Ao38 t1228.length co38 : Value).ownBlock ∧ some k_ ≠ (.slice Ao46 t1236.length co46 : Value).ownBlock ∧ some k_ ≠ (.slice Ao47 t1239.length co47 : Value).ownBlock ∧ some k_ ≠ (.slice Ao48 t1242.length co48 : Value).ownBlock ∧ some k_ ≠ (.slice Ao53 t1246.length co53 : Value).ownBlock ∧ some k_ ≠ (.slice Ao57 t1251.length co57 : Value).ownBlock ∧ some k_ ≠ (.slice Ao59 t1255.length co59 : Value).ownBlock ∧ some k_ ≠ (.slice Ao61 t1259.length co61 : Value).ownBlock) (Kd.S_keptB (HO1234.out) hkp (fun k_ hk_ hs_ => (hk_.2.2.2.2.2.2.1) hs_)) (fun k_ hk_ => ⟨hk_.1.1, hk_.1.2.1, hk_.1.2.2.1, hk_.1.2.2.2.1, hk_.1.2.2.2.2.1, hk_.1.2.2.2.2.2.1, hk_.1.2.2.2.2.2.2.1, hk_.1.2.2.2.2.2.2.2.1, hk_.1.2.2.2.2.2.2.2.2.1, hk_.1.2.2.2.2.2.2.2.2.2.1, hk_.1.2.2.2.2.2.2.2.2.2.2⟩));have n4_ := Aside0.mk (blk_kept (rb_ BK1235.out) hkp (fun hs_ => (fun e_ => (Kd.R_ne HO1244.out BK1235.out (by decide)) e_) hs_));have n5_ := Aside0.mk (Kd.R_mono (ok' := fun k_ => some k_ ≠ (.slice Ao36 t1222.length co36 : Value).ownBlock ∧ some k_ ≠ (.slice Ao37 t1225.length co37 : Value).ownBlock ∧ some k_ ≠ (.slice Ao38 t1228.length co38 : Value).ownBlock ∧ some k_ ≠ (.slice Ao47 t1239.length co47 : Value).ownBlock ∧ some k_ ≠ (.slice Ao48 t1242.length co48 : Value).ownBlock ∧ some k_ ≠ (.slice Ao57 t1251.length co57 : Value).ownBlock ∧ some k_ ≠ (.slice Ao59 t1255.length co59 : Value).ownBlock ∧ some k_ ≠ (.slice Ao61 t1259.length co61 : Value).ownBlock) (Kd.R_keptB (HO1238.out) hkp (fun k_ hk_ hs_ => (hk_.2.2.2.2.1) hs_)) (fun k_ hk_ => ⟨hk_.1.1, hk_.1.2.1, hk_.1.2.2.1, hk_.1.2.2.2.1, hk_.1.2.2.2.2.1, hk_.1.2.2.2.2.2.1, hk_.1.2.2.2.2.2.2.1, hk_.1.2.2.2.2.2.2.2⟩));have n6_ := Aside0.mk (Kd.R_mono (ok' := fun k_ => some k_ ≠ (.slice Ao36 t1222.length co36 : Value).ownBlock ∧ some k_ ≠ (.slice Ao37 t1225.length co37 : Value).ownBlock ∧ some k_ ≠ (.slice Ao38 t1228.length co38 : Value).ownBlock ∧ some k_ ≠ (.slice Ao46 t1236.length co46 : Value).ownBlock ∧ some k_ ≠ (.slice Ao48 t1242.length co48 : Value).ownBlock ∧ some k_ ≠ (.slice Ao57 t1251.length co57 : Value).ownBlock ∧ some k_ ≠ (.slice Ao59 t1255.length co59 : Value).ownBlock ∧ some k_ ≠ (.slice Ao61 t1259.length co61 : Value).ownBlock) (Kd.R_keptB (HO1241.out) hkp (fun k_ hk_ hs_ => (hk_.2.2.2.2.1) hs_)) (fun k_ hk_ => ⟨hk_.1.1, hk_.1.2.1, hk_.1.2.2.1, hk_.1.2.2.2.1, hk_.1.2.2.2.2.1, hk_.1.2.2.2.2.2.1, hk_.1.2.2.2.2.2.2.1, hk_.1.2.2.2.2.2.2.2⟩));have n7_ := Aside0.mk (Kd.R_reok rfl hy0 (fun k_ e_ => HO1244.out.1 k_ e_));have n8_ := Aside0.mk (Kd.S_mono (ok' := fun k_ => m2 ≤ k_ ∧ some k_ ≠ (.slice Ao36 t1222.length co36 : Value).ownBlock ∧ some k_ ≠ (.slice Ao37 t1225.length co37 : Value).ownBlock ∧ some k_ ≠ (.slice Ao38 t1228.length co38 : Value).ownBlock ∧ some k_ ≠ (.slice Ao42 t1232.length co42 : Value).ownBlock ∧ some k_ ≠ (.slice Ao46 t1236.length co46 : Value).ownBlock ∧ some k_ ≠ (.slice Ao47 t1239.length co47 : Value).ownBlock ∧ some k_ ≠ (.slice Ao48 t1242.length co48 : Value).ownBlock ∧ some k_ ≠ (.slice Ao57 t1251.length co57 : Value).ownBlock ∧ some k_ ≠ (.slice Ao59 t1255.length co59 : Value).ownBlock ∧ some k_ ≠ (.slice Ao61 t1259.length co61 : Value).ownBlock) (Kd.S_keptB (HO1248.out) hkp (fun k_ hk_ hs_ => (hk_.2.2.2.2.2.2.2.1) hs_)) (fun k_ hk_ => ⟨hk_.1.1, hk_.1.2.1, hk_.1.2.2.1, hk_.1.2.2.2.1, hk_.1.2.2.2.2.1, hk_.1.2.2.2.2.2.1, hk_.1.2.2.2.2.2.2.1, hk_.1.2.2.2.2.2.2.2.1, hk_.1.2.2.2.2.2.2.2.2.1, hk_.1.2.2.2.2.2.2.2.2.2.1, hk_.1.2.2.2.2.2.2.2.2.2.2⟩));have n9_ := Aside0.mk (blk_kept (rb_ BK1249.out) hkp (fun hs_ => (fun e_ => (Kd.R_ne HO1244.out BK1249.out (by decide)) e_) hs_));have n10_ := Aside0.mk (Kd.R_mono (ok' := fun k_ => some k_ ≠ (.slice Ao36 t1222.length co36 : Value).ownBlock ∧ some k_ ≠ (.slice Ao37 t1225.length co37 : Value).ownBlock ∧ some k_ ≠ (.slice Ao38 t1228.length co38 : Value).ownBlock ∧ some k_ ≠ (.slice Ao46 t1236.length co46 : Value).ownBlock ∧ some k_ ≠ (.slice Ao47 t1239.length co47 : Value).ownBlock ∧ some k_ ≠ (.slice Ao48 t1242.length co48 : Value).ownBlock ∧ some k_ ≠ (.slice Ao59 t1255.length co59 : Value).ownBlock ∧ some k_ ≠ (.slice Ao61 t1259.length co61 : Value).ownBlock) (Kd.R_keptB (HO1253.out) hkp (fun k_ hk_ hs_ => (hk_.2.2.2.2.2.1) hs_)) (fun k_ hk_ => ⟨hk_.1.1, hk_.1.2.1, hk_.1.2.2.1, hk_.1.2.2.2.1, hk_.1.2.2.2.2.1, hk_.1.2.2.2.2.2.1, hk_.1.2.2.2.2.2.2.1, hk_.1.2.2.2.2.2.2.2⟩));have n11_ := Aside0.mk (Kd.R_mono (ok' := fun k_ => some k_ ≠ (.slice Ao36 t1222.length co36 : Value).ownBlock ∧ some k_ ≠ (.slice Ao37 t1225.length co37 : Value).ownBlock ∧ some k_ ≠ (.slice Ao38 t1228.length co38 : Value).ownBlock ∧ some k_ ≠ (.slice Ao46 t1236.length co46 : Value).ownBlock ∧ some k_ ≠ (.slice Ao47 t1239.length co47 : Value).ownBlock ∧ some k_ ≠ (.slice Ao48 t1242.length co48 : Value).ownBlock ∧ some k_ ≠ (.slice Ao57 t1251.length co57 : Value).ownBlock ∧ some k_ ≠ (.slice Ao61 t1259.length co61 : Value).ownBlock) (Kd.R_keptB (HO1257.out) hkp (fun k_ hk_ hs_ => (hk_.2.2.2.2.2.1) hs_)) (fun k_ hk_ => ⟨hk_.1.1, hk_.1.2.1, hk_.1.2.2.1, hk_.1.2.2.2.1, hk_.1.2.2.2.2.1, hk_.1.2.2.2.2.2.1, hk_.1.2.2.2.2.2.2.1, hk_.1.2.2.2.2.2.2.2⟩));have n12_ := Aside0.mk (Kd.R_mono (ok' := fun k_ => some k_ ≠ (.slice Ao36 t1222.length co36 : Value).ownBlock ∧ some k_ ≠ (.slice Ao37 t1225.length co37 : Value).ownBlock ∧ some k_ ≠ (.slice Ao38 t1228.length co38 : Value).ownBlock ∧ some k_ ≠ (.slice Ao46 t1236.length co46 : Value).ownBlock ∧ some k_ ≠ (.slice Ao47 t1239.length co47 : Value).ownBlock ∧ some k_ ≠ (.slice Ao48 t1242.length co48 : Value).ownBlock ∧ some k_ ≠ (.slice Ao57 t1251.length co57 : Value).ownBlock ∧ some k_ ≠ (.slice Ao59 t1255.length co59 : Value).ownBlock) (Kd.R_keptB (HO1261.out) hkp (fun k_ hk_ hs_ => (hk_.2.2.2.2.2.1) hs_)) (fun k_ hk_ => ⟨hk_.1.1, hk_.1.2.1, hk_.1.2.2.1, hk_.1.2.2.2.1, hk_.1.2.2.2.2.1, hk_.1.2.2.2.2.2.1, hk_.1.2.2.2.2.2.2.1, hk_.1.2.2.2.2.2.2.2⟩));have n13_ := Aside0.mk (hb);clear HO1224;clear HO1227;clear HO1230;clear HO1234;clear BK1235;clear HO1238;clear HO1241;clear HO1244;clear HO1248;clear BK1249;clear HO1253;clear HO1257;clear HO1261;clear HB;have HO1224 := n0_;have HO1227 := n1_;have HO1230 := n2_;have HO1234 := n3_;have BK1235 := n4_;have HO1238 := n5_;have HO1241 := n6_;have HO1244 := n7_;have HO1248 := n8_;have BK1249 := n9_;have HO1253 := n10_;have HO1257 := n11_;have HO1261 := n12_;have HB := n13_;clear n0_ n1_ n2_ n3_ n4_ n5_ n6_ n7_ n8_ n9_ n10_ n11_ n12_ n13_;(try clear hb);(try clear hkp);(try clear hy0))));(try simp only [Act.put, List.setIfInBounds_toArray, List.set_cons_zero, List.set_cons_succ]);go_cut [84] (fun v84 wc => ∃ (kq : Nat) (x84_31 : Bool), v84 = .bool x84_31 ∧ Aside0 (laws_FnExactChunksOf.j0 kq l0 l1 l2 x84_31 t1231 t1232 t1245 t1246 = some r) ∧ Aside0 (kq ≤ k) ∧ Aside0 (Kd.S k58 58 wc w.heap.size (fun k_ => k_ < m2 ∧ some k_ ≠ ((.slice Ao53 t1246.length co53) : Value).ownBlock) (.slice Ao42 t1232.length co42) t1232) ∧ Aside0 (Kd.S k58 58 wc w.heap.size (fun k_ => m2 ≤ k_ ∧ some k_ ≠ ((.slice Ao42 t1232.length co42) : Value).ownBlock) (.slice Ao53 t1246.length co53) t1246) ∧ Aside0 (wc.heap[gb1235]? = some (.cells #[.int .i64 t1231, (.slice Ao42 t1232.length co42)] 71 (0, 0))) ∧ Aside0 (wc.heap[gb1249]? = some (.cells #[.int .i64 t1245, (.slice Ao53 t1246.length co53)] 71 (0, 0))) ∧ Aside0 (Below w.heap.size w wc))
        (case first => have H := HC32.out;clear HC32;by_cases c65 : t1267 < 0;(·rw [if_pos c65] at H;have c65b0 : decide (t1267 < 0) = true := decide_eq_true c65;clear c65;(first | rw [c65b0] | (simp only [i64_w, i32_w];rw [c65b0]) | skip);have H' := Aside0.mk H;clear H;go_wp2;go_meet;case rel => exact ⟨_, (true), ls_, H', ⟨by first | omega | exact Nat.le_refl _⟩, ⟨by (with_reducible repeat (first | apply Kd.S_alloc | apply Kd.S_drewN | apply Kd.S_drew));exact Kd.S_mono HO1234.out (fun _ hk => ⟨hk.1, hk.2.2.2.2.2.2.2.1⟩)⟩, ⟨by (with_reducible repeat (first | apply Kd.S_alloc | apply Kd.S_drewN | apply Kd.S_drew));exact Kd.S_mono HO1248.out (fun _ hk => ⟨hk.1, hk.2.2.2.2.1⟩)⟩, ⟨rb_ BK1235.out⟩, ⟨rb_ BK1249.out⟩, ⟨bw2_ HB.out GE1235.out GE1249.out⟩⟩);·rw [if_neg c65] at H;have c65b0 : decide (t1267 < 0) = false := decide_eq_false c65;clear c65;(first | rw [c65b0] | (simp only [i64_w, i32_w];rw [c65b0]) | skip);replace H := Option.bind_eq_some_iff.mp H;obtain ⟨t1269, A660, H⟩ := H;replace H : (laws_FnExactChunksOf.j0 k l0 l1 l2 (!t1269) t1231 t1232 t1245 t1246) = some r := H;have A66 := Aside0.mk A660;clear A660;have H' := Aside0.mk H;clear H;have hnb67 := NB1249_1235.out;have hnc67 := NB1235_1249.out;have hcz68_0 : w64.cell? ⟨gb1249, 0, none⟩ = some (.int .i64 t1245) := (blk_cell BK1249.out 0).trans rfl;have hcz68_1 : w64.cell? ⟨gb1249, 1, none⟩ = some (.slice Ao53 t1246.length co53) := (blk_cell BK1249.out 1).trans rfl;have hfz68_0 := blk_frozen BK1249.out 0;have hfz68_1 := blk_frozen BK1249.out 1;have hcz69_0 : w64.cell? ⟨gb1235, 0, none⟩ = some (.int .i64 t1231) := (blk_cell BK1235.out 0).trans rfl;have hcz69_1 : w64.cell? ⟨gb1235, 1, none⟩ = some (.slice Ao42 t1232.length co42) := (blk_cell BK1235.out 1).trans rfl;have hfz69_0 := blk_frozen BK1235.out 0;have hfz69_1 := blk_frozen BK1235.out 1;go_wp2_with (first | (go_at_call 51;(with_reducible refine (laws_eqChunksResult.calls k t1245 _ _ t1246 t1231 _ _ t1232 t1269 _ ?side1 ?side2 ?side3 ?side4 A66.out).mono ?_);(case side1 => repeat (first | exact (Kd.S_reads' HO1248.out).2.2 | (with_reducible refine Kd.C_alloc ?_ _) | (with_reducible refine Kd.C_drewN ?_ _) | (with_reducible refine Kd.C_drew ?_)));(case side2 => exact (Kd.S_reads' HO1248.out).2.1);(case side3 => repeat (first | exact (Kd.S_reads' HO1234.out).2.2 | (with_reducible refine Kd.C_alloc ?_ _) | (with_reducible refine Kd.C_drewN ?_ _) | (with_reducible refine Kd.C_drew ?_)));(case side4 => exact (Kd.S_reads' HO1234.out).2.1);rintro e w70 ⟨rfl, hb⟩;have n0_ := Aside0.mk (Kd.R_below (rr_ HO1224.out) hb);have n1_ := Aside0.mk (Kd.R_below (rr_ HO1227.out) hb);have n2_ := Aside0.mk (Kd.R_below (rr_ HO1230.out) hb);have n3_ := Aside0.mk (Kd.S_below (rs_ HO1234.out) hb);have n4_ := Aside0.mk (Kd.R_below (rr_ HO1238.out) hb);have n5_ := Aside0.mk (Kd.R_below (rr_ HO1241.out) hb);have n6_ := Aside0.mk (Kd.R_below (rr_ HO1244.out) hb);have n7_ := Aside0.mk (Kd.S_below (rs_ HO1248.out) hb);have n8_ := Aside0.mk (Kd.R_below (rr_ HO1253.out) hb);have n9_ := Aside0.mk (Kd.R_below (rr_ HO1257.out) hb);have n10_ := Aside0.mk (Kd.R_below (rr_ HO1261.out) hb);have n11_ := Aside0.mk (blk_below (g := gb1235) (o := .cells #[.int .i64 t1231, .slice Ao42 t1232.length co42] 71 (0, 0)) (rb_ BK1235.out) hb);have n12_ := Aside0.mk (blk_below (g := gb1249) (o := .cells #[.int .i64 t1245, .slice Ao53 t1246.length co53] 71 (0, 0)) (rb_ BK1249.out) hb);have n13_ := Aside0.mk (below_step (bw2_ HB.out GE1235.out GE1249.out) hb);clear HO1224;clear HO1227;clear HO1230;clear HO1234;clear HO1238;clear HO1241;clear HO1244;clear HO1248;clear HO1253;clear HO1257;clear HO1261;clear BK1235;clear BK1249;clear HB;have HO1224 := n0_;have HO1227 := n1_;have HO1230 := n2_;have HO1234 := n3_;have HO1238 := n4_;have HO1241 := n5_;have HO1244 := n6_;have HO1248 := n7_;have HO1253 := n8_;have HO1257 := n9_;have HO1261 := n10_;have BK1235 := n11_;have BK1249 := n12_;have HB := n13_;clear n0_ n1_ n2_ n3_ n4_ n5_ n6_ n7_ n8_ n9_ n10_ n11_ n12_ n13_;(try clear hb);(try clear hb2);(try clear hk);(try clear hi)));go_meet;case rel => exact ⟨_, (!t1269), ls_, H', ⟨by first | omega | exact Nat.le_refl _⟩, ⟨by (with_reducible repeat (first | apply Kd.S_alloc | apply Kd.S_drewN | apply Kd.S_drew));exact Kd.S_mono HO1234.out (fun _ hk => ⟨hk.1, hk.2.2.2.2.2.2.2.1⟩)⟩, ⟨by (with_reducible repeat (first | apply Kd.S_alloc | apply Kd.S_drewN | apply Kd.S_drew));exact Kd.S_mono HO1248.out (fun _ hk => ⟨hk.1, hk.2.2.2.2.1⟩)⟩, ⟨rb_ BK1235.out⟩, ⟨rb_ BK1249.out⟩, ⟨bw2_ HB.out GE1235.out GE1249.out⟩⟩)
        case rest =>
         clear HC32
         try clear c1
         try clear c2
         try clear p2
         try clear c5
         try clear c5b0
         try clear c6
         try clear c7
         try clear c7b0
         try clear c9
         try clear c9b0
         try clear c10
         try clear c19
         try clear c22
         try clear c24
         try clear c25
         try clear c27
         try clear c28
         try clear c51
         try clear c54
         try clear c55
         try clear c65
         try clear c65b0
         try clear c67
         try clear hcz41_0
         try clear hcz41_1
         try clear hcz52_0
         try clear hcz52_1
         try clear hcz54_0
         try clear hcz54_1
         try clear hcz68_0
         try clear hcz68_1
         try clear hcz69_0
         try clear hcz69_1
         try clear hfz41_0
         try clear hfz41_1
         try clear hfz52_0
         try clear hfz52_1
         try clear hfz54_0
         try clear hfz54_1
         try clear hfz68_0
         try clear hfz68_1
         try clear hfz69_0
         try clear hfz69_1
         obtain ⟨kq, x84_31, rfl, HA, HJ31, HO_1236001, HO_1250001, BK1235, BK1249, HB⟩ := hcut
         cases kq with
         | zero => exact absurd HA.out (by simp [laws_FnExactChunksOf.j0])
         | succ kj31 =>
          have H := HA.out
          clear HA
          simp only [laws_FnExactChunksOf.j0] at H
          by_cases c71 : x84_31 = true
          ·subst c71
           have H1 : (some false) = some r := by rw [if_pos rfl] at H;exact H
           clear H
           have H := H1
           clear H1
           exact absurd ((Option.some.inj H).trans HLAW.out) (by decide)
          ·replace c71 := Bool.eq_false_iff.mpr c71
           subst c71
           have H1 : ((laws_markChunksResult.f kj31 t1245 t1246 1).bind fun bt1270 => ((laws_heldChunksResult.f kj31 t1245 bt1270.2 1).bind fun t1272 => (if t1272 < 0 then (some false) else (if t1272 = bt1270.1 then ((laws_toStringS.f kj31 l0).bind fun t1273 => ((laws_toStringS.f kj31 l1).bind fun t1276 => ((laws_toStringS.f kj31 l2).bind fun t1279 => ((impl_ChunksOf.f kj31 t1273 t1276 t1279).bind fun bt1282 => ((laws_eqChunksResult.f kj31 bt1282.1 bt1282.2 t1231 t1232).bind fun t1287 => (if t1287 = true then ((laws_heldChunksResult.f kj31 t1245 bt1270.2 1).bind fun t1288 => (if t1288 < 0 then (some false) else (if t1288 = bt1270.1 then (some true) else (some false)))) else (some false))))))) else (some false))))) = some r := by rw [if_neg (show ¬ (false = true) by decide)] at H;exact H
           clear H
           have H := H1
           clear H1
           replace H := Option.bind_eq_some_iff.mp H
           obtain ⟨⟨t1270, t1271⟩, A720, H⟩ := H
           replace H : ((laws_heldChunksResult.f kj31 t1245 t1271 1).bind fun t1272 => (if t1272 < 0 then (some false) else (if t1272 = t1270 then ((laws_toStringS.f kj31 l0).bind fun t1273 => ((laws_toStringS.f kj31 l1).bind fun t1276 => ((laws_toStringS.f kj31 l2).bind fun t1279 => ((impl_ChunksOf.f kj31 t1273 t1276 t1279).bind fun bt1282 => ((laws_eqChunksResult.f kj31 bt1282.1 bt1282.2 t1231 t1232).bind fun t1287 => (if t1287 = true then ((laws_heldChunksResult.f kj31 t1245 t1271 1).bind fun t1288 => (if t1288 < 0 then (some false) else (if t1288 = t1270 then (some true) else (some false)))) else (some false))))))) else (some false)))) = some r := H
           have A72 := Aside0.mk A720
           clear A720
           replace H := Option.bind_eq_some_iff.mp H
           obtain ⟨t1272, A730, H⟩ := H
           replace H : (if t1272 < 0 then (some false) else (if t1272 = t1270 then ((laws_toStringS.f kj31 l0).bind fun t1273 => ((laws_toStringS.f kj31 l1).bind fun t1276 => ((laws_toStringS.f kj31 l2).bind fun t1279 => ((impl_ChunksOf.f kj31 t1273 t1276 t1279).bind fun bt1282 => ((laws_eqChunksResult.f kj31 bt1282.1 bt1282.2 t1231 t1232).bind fun t1287 => (if t1287 = true then ((laws_heldChunksResult.f kj31 t1245 t1271 1).bind fun t1288 => (if t1288 < 0 then (some false) else (if t1288 = t1270 then (some true) else (some false)))) else (some false))))))) else (some false))) = some r := H
           have A73 := Aside0.mk A730
           clear A730
           by_cases c74 : t1272 < 0
           ·rw [if_pos c74] at H
            have c74b0 : decide (t1272 < 0) = true := decide_eq_true c74
            clear c74
            exact absurd ((Option.some.inj H).trans HLAW.out) (by decide)
           ·rw [if_neg c74] at H
            have c74b0 : decide (t1272 < 0) = false := decide_eq_false c74
            clear c74
            by_cases c75 : t1272 = t1270
            ·rw [if_pos c75] at H
             have c75b0 : (t1272 == t1270) = true := beq_iff_eq.mpr c75
             have c75b1 : (t1272 != t1270) = false := bne_eq_false_iff_eq.mpr c75
             clear c75
             replace H := Option.bind_eq_some_iff.mp H
             obtain ⟨t1273, A760, H⟩ := H
             replace H : ((laws_toStringS.f kj31 l1).bind fun t1276 => ((laws_toStringS.f kj31 l2).bind fun t1279 => ((impl_ChunksOf.f kj31 t1273 t1276 t1279).bind fun bt1282 => ((laws_eqChunksResult.f kj31 bt1282.1 bt1282.2 t1231 t1232).bind fun t1287 => (if t1287 = true then ((laws_heldChunksResult.f kj31 t1245 t1271 1).bind fun t1288 => (if t1288 < 0 then (some false) else (if t1288 = t1270 then (some true) else (some false)))) else (some false)))))) = some r := H
             have A76 := Aside0.mk A760
             clear A760
             replace H := Option.bind_eq_some_iff.mp H
             obtain ⟨t1276, A770, H⟩ := H
             replace H : ((laws_toStringS.f kj31 l2).bind fun t1279 => ((impl_ChunksOf.f kj31 t1273 t1276 t1279).bind fun bt1282 => ((laws_eqChunksResult.f kj31 bt1282.1 bt1282.2 t1231 t1232).bind fun t1287 => (if t1287 = true then ((laws_heldChunksResult.f kj31 t1245 t1271 1).bind fun t1288 => (if t1288 < 0 then (some false) else (if t1288 = t1270 then (some true) else (some false)))) else (some false))))) = some r := H
             have A77 := Aside0.mk A770
             clear A770
             replace H := Option.bind_eq_some_iff.mp H
             obtain ⟨t1279, A780, H⟩ := H
             replace H : ((impl_ChunksOf.f kj31 t1273 t1276 t1279).bind fun bt1282 => ((laws_eqChunksResult.f kj31 bt1282.1 bt1282.2 t1231 t1232).bind fun t1287 => (if t1287 = true then ((laws_heldChunksResult.f kj31 t1245 t1271 1).bind fun t1288 => (if t1288 < 0 then (some false) else (if t1288 = t1270 then (some true) else (some false)))) else (some false)))) = some r := H
             have A78 := Aside0.mk A780
             clear A780
             replace H := Option.bind_eq_some_iff.mp H
             obtain ⟨⟨t1282, t1283⟩, A790, H⟩ := H
             replace H : ((laws_eqChunksResult.f kj31 t1282 t1283 t1231 t1232).bind fun t1287 => (if t1287 = true then ((laws_heldChunksResult.f kj31 t1245 t1271 1).bind fun t1288 => (if t1288 < 0 then (some false) else (if t1288 = t1270 then (some true) else (some false)))) else (some false))) = some r := H
             have A79 := Aside0.mk A790
             clear A790
             replace H := Option.bind_eq_some_iff.mp H
             obtain ⟨t1287, A800, H⟩ := H
             replace H : (if t1287 = true then ((laws_heldChunksResult.f kj31 t1245 t1271 1).bind fun t1288 => (if t1288 < 0 then (some false) else (if t1288 = t1270 then (some true) else (some false)))) else (some false)) = some r := H
             have A80 := Aside0.mk A800
             clear A800
             by_cases c81 : t1287 = true
             ·subst c81
              have H1 : ((laws_heldChunksResult.f kj31 t1245 t1271 1).bind fun t1288 => (if t1288 < 0 then (some false) else (if t1288 = t1270 then (some true) else (some false)))) = some r := by rw [if_pos rfl] at H;exact H
              clear H
              have H := H1
              clear H1
              replace H := Option.bind_eq_some_iff.mp H
              obtain ⟨t1288, A820, H⟩ := H
              replace H : (if t1288 < 0 then (some false) else (if t1288 = t1270 then (some true) else (some false))) = some r := H
              have A82 := Aside0.mk A820
              clear A820
              by_cases c83 : t1288 < 0
              ·rw [if_pos c83] at H
               have c83b0 : decide (t1288 < 0) = true := decide_eq_true c83
               clear c83
               exact absurd ((Option.some.inj H).trans HLAW.out) (by decide)
              ·rw [if_neg c83] at H
               have c83b0 : decide (t1288 < 0) = false := decide_eq_false c83
               clear c83
               by_cases c84 : t1288 = t1270
               ·rw [if_pos c84] at H
                have c84b0 : (t1288 == t1270) = true := beq_iff_eq.mpr c84
                have c84b1 : (t1288 != t1270) = false := bne_eq_false_iff_eq.mpr c84
                clear c84
                obtain rfl := Option.some.inj H
                have hnb85 := NB1249_1235.out
                have hnc85 := NB1235_1249.out
                have hcz86_0 : wc.cell? ⟨gb1249, 0, none⟩ = some (.int .i64 t1245) := (blk_cell BK1249.out 0).trans rfl
                have hcz86_1 : wc.cell? ⟨gb1249, 1, none⟩ = some (.slice Ao53 t1246.length co53) := (blk_cell BK1249.out 1).trans rfl
                have hfz86_0 := blk_frozen BK1249.out 0
                have hfz86_1 := blk_frozen BK1249.out 1
                go_wp2_with (first | ((with_reducible refine gate_callee (f := 52) rfl ?_);refine goesL_ (some 87) rfl rfl Try.func52 (by kernel_rfl) rfl #[.agg #[.int .i64 t1245, .slice Ao53 t1246.length co53], .int .i64 1] rfl lf_ ?_;(with_reducible refine (laws_markChunksResult.calls kj31 t1245 (fun k_ => ((m2 ≤ k_ ∧ some k_ ≠ (.slice Ao42 t1232.length co42 : Value).ownBlock) ∧ k_ ≠ gb1235) ∧ k_ ≠ gb1249) (.slice Ao53 t1246.length co53) t1246 1 t1270 t1271 w _ ?side1 ?side2 A72.out).mono ?_);(case side1 => exact bw2_ HB.out GE1235.out GE1249.out);(case side2 => exact Kd.S_types (Kd.S_types HO_1250001.out (rb_ BK1235.out) (by decide)) (rb_ BK1249.out) (by decide));rintro e w87 ⟨rfl, hy0, hb, hkp⟩;refine ⟨_, rfl, ?_⟩;have n0_ := Aside0.mk (Kd.S_mono (ok' := fun k_ => some k_ ≠ (.slice Ao53 t1246.length co53 : Value).ownBlock) (Kd.S_keptB (HO_1236001.out) hkp (fun k_ hk_ hs_ => absurd hk_.1 (Nat.not_lt.2 hs_.1.1.1))) (fun k_ hk_ => hk_.1.2));have n1_ := Aside0.mk (Kd.S_mono hy0 (fun _ hk => hk.1.1.2));have n2_ := Aside0.mk (blk_kept (rb_ BK1235.out) hkp (fun hs_ => hs_.1.2 rfl));have n3_ := Aside0.mk (blk_kept (rb_ BK1249.out) hkp (fun hs_ => hs_.2 rfl));have n4_ := Aside0.mk (hb);clear HO_1236001;clear HO_1250001;clear BK1235;clear BK1249;clear HB;have HO_1236001 := n0_;have HO_1250001 := n1_;have BK1235 := n2_;have BK1249 := n3_;have HB := n4_;clear n0_ n1_ n2_ n3_ n4_;(try clear hb);(try clear hkp);(try clear hy0);have hcz88_0 : w87.cell? ⟨gb1249, 0, none⟩ = some (.int .i64 t1245) := (blk_cell BK1249.out 0).trans rfl;have hcz88_1 : w87.cell? ⟨gb1249, 1, none⟩ = some (.slice Ao53 t1246.length co53) := (blk_cell BK1249.out 1).trans rfl;have hfz88_0 := blk_frozen BK1249.out 0;have hfz88_1 := blk_frozen BK1249.out 1) | ((with_reducible refine gate_callee (f := 53) rfl ?_);refine goesL_ (some 90) rfl rfl Try.func53 (by kernel_rfl) rfl #[.agg #[.int .i64 t1245, .slice Ao53 t1271.length co53], .int .i64 1] rfl (by (try simp only [List.map_toArray, List.map_cons, List.map_nil]);first | done | (rw [show t1271.length = t1246.length from (Kd.S_reads' HO_1250001.out).1.symm] <;> rfl) | rfl | (simp only [List.length_drop, List.length_take];rfl)) ?_;(with_reducible refine (laws_heldChunksResult.calls kj31 t1245 _ _ t1271 1 t1272 _ ?side1 ?side2 A73.out).mono ?_);(case side1 => repeat (first | exact (Kd.S_reads' HO_1250001.out).2.2 | (with_reducible refine Kd.C_alloc ?_ _) | (with_reducible refine Kd.C_drewN ?_ _) | (with_reducible refine Kd.C_drew ?_)));(case side2 => rw [show t1271.length = t1246.length from (Kd.S_reads' HO_1250001.out).1.symm];exact (Kd.S_reads' HO_1250001.out).2.1);rintro e w89 ⟨rfl, hb⟩;refine ⟨_, rfl, ?_⟩;have n0_ := Aside0.mk (Kd.S_below (rs_ HO_1236001.out) hb);have n1_ := Aside0.mk (Kd.S_below (rs_ HO_1250001.out) hb);have n2_ := Aside0.mk (blk_below (g := gb1235) (o := .cells #[.int .i64 t1231, .slice Ao42 t1232.length co42] 71 (0, 0)) (rb_ BK1235.out) hb);have n3_ := Aside0.mk (blk_below (g := gb1249) (o := .cells #[.int .i64 t1245, .slice Ao53 t1246.length co53] 71 (0, 0)) (rb_ BK1249.out) hb);have n4_ := Aside0.mk (below_step (bw2_ HB.out GE1235.out GE1249.out) hb);clear HO_1236001;clear HO_1250001;clear BK1235;clear BK1249;clear HB;have HO_1236001 := n0_;have HO_1250001 := n1_;have BK1235 := n2_;have BK1249 := n3_;have HB := n4_;clear n0_ n1_ n2_ n3_ n4_;(try clear hb);(try clear hb2);(try clear hk);(try clear hi)) | ((with_reducible refine gate_callee (f := 24) rfl ?_);refine goesL_ (some 97) rfl rfl Try.func24 (by kernel_rfl) rfl #[.slice A0 l0.length c0] rfl lf_ ?_;(with_reducible refine (laws_toStringS.calls kj31 _ _ l0 t1273 _ ?side1 ?side2 A76.out).mono ?_);(case side1 => exact rc_ (Kd.C_below HR0.out HB.out));(case side2 => exact HC0.out);rintro e w90 ⟨v1274, rfl, ho0, hb⟩;refine ⟨_, rfl, ?_⟩;have n0_ := Aside0.mk (Kd.S_elder' (rs_ HO_1236001.out) (Kd.R_base ho0) hb);have n1_ := Aside0.mk (Kd.S_elder' (rs_ HO_1250001.out) (Kd.R_base ho0) hb);have n2_ := Aside0.mk (Kd.R_lower ho0 (below_size (bw2_ HB.out GE1235.out GE1249.out)));have n3_ := Aside0.mk (blk_below (g := gb1235) (o := .cells #[.int .i64 t1231, .slice Ao42 t1232.length co42] 71 (0, 0)) (rb_ BK1235.out) hb);have n4_ := Aside0.mk (blk_below (g := gb1249) (o := .cells #[.int .i64 t1245, .slice Ao53 t1246.length co53] 71 (0, 0)) (rb_ BK1249.out) hb);have n5_ := Aside0.mk (below_step (bw2_ HB.out GE1235.out GE1249.out) hb);clear HO_1236001;clear HO_1250001;clear BK1235;clear BK1249;clear HB;have HO_1236001 := n0_;have HO_1250001 := n1_;have HO1275 := n2_;have BK1235 := n3_;have BK1249 := n4_;have HB := n5_;clear n0_ n1_ n2_ n3_ n4_ n5_;(try clear hb);(try clear hb2);(try clear hk);(try clear hi);(try clear ho0)) | ((with_reducible refine gate_callee (f := 24) rfl ?_);refine goesL_ (some 99) rfl rfl Try.func24 (by kernel_rfl) rfl #[.slice A1 l1.length c1] rfl lf_ ?_;(with_reducible refine (laws_toStringS.calls kj31 _ _ l1 t1276 _ ?side1 ?side2 A77.out).mono ?_);(case side1 => exact rc_ (Kd.C_below HR1.out HB.out));(case side2 => exact HC1.out);rintro e w91 ⟨v1277, rfl, ho0, hb⟩;refine ⟨_, rfl, ?_⟩;have n0_ := Aside0.mk (Kd.S_elder' (rs_ HO_1236001.out) (Kd.R_base ho0) hb);have n1_ := Aside0.mk (Kd.S_elder' (rs_ HO_1250001.out) (Kd.R_base ho0) hb);have n2_ := Aside0.mk (Kd.R_elder' (rr_ HO1275.out) (Kd.R_base ho0) hb);have n3_ := Aside0.mk (Kd.R_lower (Kd.R_new' ho0 (Kd.R_lt (rr_ HO1275.out))) (below_size (bw2_ HB.out GE1235.out GE1249.out)));have n4_ := Aside0.mk (blk_below (g := gb1235) (o := .cells #[.int .i64 t1231, .slice Ao42 t1232.length co42] 71 (0, 0)) (rb_ BK1235.out) hb);have n5_ := Aside0.mk (blk_below (g := gb1249) (o := .cells #[.int .i64 t1245, .slice Ao53 t1246.length co53] 71 (0, 0)) (rb_ BK1249.out) hb);have n6_ := Aside0.mk (below_step (bw2_ HB.out GE1235.out GE1249.out) hb);clear HO_1236001;clear HO_1250001;clear HO1275;clear BK1235;clear BK1249;clear HB;have HO_1236001 := n0_;have HO_1250001 := n1_;have HO1275 := n2_;have HO1278 := n3_;have BK1235 := n4_;have BK1249 := n5_;have HB := n6_;clear n0_ n1_ n2_ n3_ n4_ n5_ n6_;(try clear hb);(try clear hb2);(try clear hk);(try clear hi);(try clear ho0)) | ((with_reducible refine gate_callee (f := 24) rfl ?_);refine goesL_ (some 101) rfl rfl Try.func24 (by kernel_rfl) rfl #[.slice A2 l2.length c2] rfl lf_ ?_;(with_reducible refine (laws_toStringS.calls kj31 _ _ l2 t1279 _ ?side1 ?side2 A78.out).mono ?_);(case side1 => exact rc_ (Kd.C_below HR2.out HB.out));(case side2 => exact HC2.out);rintro e w92 ⟨v1280, rfl, ho0, hb⟩;refine ⟨_, rfl, ?_⟩;have n0_ := Aside0.mk (Kd.S_elder' (rs_ HO_1236001.out) (Kd.R_base ho0) hb);have n1_ := Aside0.mk (Kd.S_elder' (rs_ HO_1250001.out) (Kd.R_base ho0) hb);have n2_ := Aside0.mk (Kd.R_elder' (rr_ HO1275.out) (Kd.R_base ho0) hb);have n3_ := Aside0.mk (Kd.R_elder' (rr_ HO1278.out) (Kd.R_base ho0) hb);have n4_ := Aside0.mk (Kd.R_lower (Kd.R_new' (Kd.R_new' ho0 (Kd.R_lt (rr_ HO1275.out))) (Kd.R_lt (rr_ HO1278.out))) (below_size (bw2_ HB.out GE1235.out GE1249.out)));have n5_ := Aside0.mk (blk_below (g := gb1235) (o := .cells #[.int .i64 t1231, .slice Ao42 t1232.length co42] 71 (0, 0)) (rb_ BK1235.out) hb);have n6_ := Aside0.mk (blk_below (g := gb1249) (o := .cells #[.int .i64 t1245, .slice Ao53 t1246.length co53] 71 (0, 0)) (rb_ BK1249.out) hb);have n7_ := Aside0.mk (below_step (bw2_ HB.out GE1235.out GE1249.out) hb);clear HO_1236001;clear HO_1250001;clear HO1275;clear HO1278;clear BK1235;clear BK1249;clear HB;have HO_1236001 := n0_;have HO_1250001 := n1_;have HO1275 := n2_;have HO1278 := n3_;have HO1281 := n4_;have BK1235 := n5_;have BK1249 := n6_;have HB := n7_;clear n0_ n1_ n2_ n3_ n4_ n5_ n6_ n7_;(try clear hb);(try clear hb2);(try clear hk);(try clear hi);(try clear ho0);obtain ⟨Ao93, co93, eo93⟩ := Kd.R_slice HO1275.out;subst eo93;obtain ⟨Ao94, co94, eo94⟩ := Kd.R_slice HO1278.out;subst eo94;obtain ⟨Ao95, co95, eo95⟩ := Kd.R_slice HO1281.out;subst eo95) | ((with_reducible refine gate_callee (f := 55) rfl ?_);refine goesL_ (some 102) rfl rfl Try.func55 (by kernel_rfl) rfl #[.slice Ao93 t1273.length co93, .slice Ao94 t1276.length co94, .slice Ao95 t1279.length co95] rfl lf_ ?_;(with_reducible refine (impl_ChunksOf.calls kj31 _ _ t1273 _ _ t1276 _ _ t1279 t1282 t1283 _ ?side1 ?side2 ?side3 ?side4 ?side5 ?side6 A79.out).mono ?_);(case side1 => repeat (first | exact (Kd.R_reads' HO1275.out).2.2 | (with_reducible refine Kd.C_alloc ?_ _) | (with_reducible refine Kd.C_drewN ?_ _) | (with_reducible refine Kd.C_drew ?_)));(case side2 => exact (Kd.R_reads' HO1275.out).2.1);(case side3 => repeat (first | exact (Kd.R_reads' HO1278.out).2.2 | (with_reducible refine Kd.C_alloc ?_ _) | (with_reducible refine Kd.C_drewN ?_ _) | (with_reducible refine Kd.C_drew ?_)));(case side4 => exact (Kd.R_reads' HO1278.out).2.1);(case side5 => repeat (first | exact (Kd.R_reads' HO1281.out).2.2 | (with_reducible refine Kd.C_alloc ?_ _) | (with_reducible refine Kd.C_drewN ?_ _) | (with_reducible refine Kd.C_drew ?_)));(case side6 => exact (Kd.R_reads' HO1281.out).2.1);rintro e w96 ⟨v1284, rfl, ho0, hb⟩;refine ⟨_, rfl, ?_⟩;have n0_ := Aside0.mk (Kd.S_elder' (rs_ HO_1236001.out) (Kd.S_base ho0) hb);have n1_ := Aside0.mk (Kd.S_elder' (rs_ HO_1250001.out) (Kd.S_base ho0) hb);have n2_ := Aside0.mk (Kd.R_below (rr_ HO1275.out) hb);have n3_ := Aside0.mk (Kd.R_below (rr_ HO1278.out) hb);have n4_ := Aside0.mk (Kd.R_below (rr_ HO1281.out) hb);have n5_ := Aside0.mk (Kd.S_lower (Kd.S_new' (Kd.S_new' (Kd.S_new' (Kd.S_new' (Kd.S_new' ho0 (Kd.S_lt (rs_ HO_1236001.out))) (Kd.S_lt (rs_ HO_1250001.out))) (Kd.R_lt (rr_ HO1275.out))) (Kd.R_lt (rr_ HO1278.out))) (Kd.R_lt (rr_ HO1281.out))) (below_size (bw2_ HB.out GE1235.out GE1249.out)));have n6_ := Aside0.mk (blk_below (g := gb1235) (o := .cells #[.int .i64 t1231, .slice Ao42 t1232.length co42] 71 (0, 0)) (rb_ BK1235.out) hb);have n7_ := Aside0.mk (blk_below (g := gb1249) (o := .cells #[.int .i64 t1245, .slice Ao53 t1246.length co53] 71 (0, 0)) (rb_ BK1249.out) hb);have n8_ := Aside0.mk (below_step (bw2_ HB.out GE1235.out GE1249.out) hb);clear HO_1236001;clear HO_1250001;clear HO1275;clear HO1278;clear HO1281;clear BK1235;clear BK1249;clear HB;have HO_1236001 := n0_;have HO_1250001 := n1_;have HO1275 := n2_;have HO1278 := n3_;have HO1281 := n4_;have HO1285 := n5_;have BK1235 := n6_;have BK1249 := n7_;have HB := n8_;clear n0_ n1_ n2_ n3_ n4_ n5_ n6_ n7_ n8_;(try clear hb);(try clear hb2);(try clear hk);(try clear hi);(try clear ho0)) | ((with_reducible refine gate_dst (N := 16) rfl ?_);refine box_event ?hg (N := 16) ?hd (cs := #[.int .i64 0, .slice none 0 0]) (t := 71) ?hr ?_;(case hd => rfl);(case hg => rfl);(case hr => first | (go_simp;done) | (go_simp;rfl));intro gb1286 hg w97 hbox hb;have n0_ := Aside0.mk (Kd.S_below (rs_ HO_1236001.out) hb);have n1_ := Aside0.mk (Kd.S_below (rs_ HO_1250001.out) hb);have n2_ := Aside0.mk (Kd.R_below (rr_ HO1275.out) hb);have n3_ := Aside0.mk (Kd.R_below (rr_ HO1278.out) hb);have n4_ := Aside0.mk (Kd.R_below (rr_ HO1281.out) hb);have n5_ := Aside0.mk (Kd.S_below (rs_ HO1285.out) hb);have n6_ := Aside0.mk (blk_below (g := gb1235) (o := .cells #[.int .i64 t1231, .slice Ao42 t1232.length co42] 71 (0, 0)) (rb_ BK1235.out) hb);have n7_ := Aside0.mk (blk_below (g := gb1249) (o := .cells #[.int .i64 t1245, .slice Ao53 t1246.length co53] 71 (0, 0)) (rb_ BK1249.out) hb);have n8_ := Aside0.mk (below_step (bw2_ HB.out GE1235.out GE1249.out) hb);have n9_ := Aside0.mk (hbox);have n10_ := Aside0.mk ((by rw [hg];exact (below_size (bw2_ HB.out GE1235.out GE1249.out)) : w.heap.size ≤ gb1286));have n11_ := Aside0.mk ((by rw [hg];exact (below_size (bw2_ HB.out GE1235.out GE1249.out)) : w.heap.size ≤ gb1286));have n12_ := Aside0.mk ((by rw [hg];exact Nat.ne_of_lt (blk_lt (g := gb1235) (o := .cells #[.int .i64 t1231, .slice Ao42 t1232.length co42] 71 (0, 0)) (rb_ BK1235.out)) : gb1235 ≠ gb1286));have n13_ := Aside0.mk ((by rw [hg];exact Nat.ne_of_gt (blk_lt (g := gb1235) (o := .cells #[.int .i64 t1231, .slice Ao42 t1232.length co42] 71 (0, 0)) (rb_ BK1235.out)) : gb1286 ≠ gb1235));have n14_ := Aside0.mk ((by rw [hg];exact Nat.ne_of_lt (blk_lt (g := gb1249) (o := .cells #[.int .i64 t1245, .slice Ao53 t1246.length co53] 71 (0, 0)) (rb_ BK1249.out)) : gb1249 ≠ gb1286));have n15_ := Aside0.mk ((by rw [hg];exact Nat.ne_of_gt (blk_lt (g := gb1249) (o := .cells #[.int .i64 t1245, .slice Ao53 t1246.length co53] 71 (0, 0)) (rb_ BK1249.out)) : gb1286 ≠ gb1249));clear HO_1236001;clear HO_1250001;clear HO1275;clear HO1278;clear HO1281;clear HO1285;clear BK1235;clear BK1249;clear HB;have HO_1236001 := n0_;have HO_1250001 := n1_;have HO1275 := n2_;have HO1278 := n3_;have HO1281 := n4_;have HO1285 := n5_;have BK1235 := n6_;have BK1249 := n7_;have HB := n8_;have BK1286 := n9_;have GW1286 := n10_;have GE1286 := n11_;have NB1235_1286 := n12_;have NB1286_1235 := n13_;have NB1249_1286 := n14_;have NB1286_1249 := n15_;clear n0_ n1_ n2_ n3_ n4_ n5_ n6_ n7_ n8_ n9_ n10_ n11_ n12_ n13_ n14_ n15_;clear hb hbox hg;have hnb98 := NB1286_1235.out;have hnc98 := NB1235_1286.out;have hnb99 := NB1286_1249.out;have hnc99 := NB1249_1286.out;have hcz100_0 : w97.cell? ⟨gb1286, 0, none⟩ = some (.int .i64 0) := (blk_cell BK1286.out 0).trans rfl;have hcz100_1 : w97.cell? ⟨gb1286, 1, none⟩ = some (.slice none 0 0) := (blk_cell BK1286.out 1).trans rfl;have hfz100_0 := blk_frozen BK1286.out 0;have hfz100_1 := blk_frozen BK1286.out 1;obtain ⟨Ao101, co101, eo101⟩ := Kd.S_slice HO1285.out;subst eo101;have hcz102_0 : w97.cell? ⟨gb1235, 0, none⟩ = some (.int .i64 t1231) := (blk_cell BK1235.out 0).trans rfl;have hcz102_1 : w97.cell? ⟨gb1235, 1, none⟩ = some (.slice Ao42 t1232.length co42) := (blk_cell BK1235.out 1).trans rfl;have hfz102_0 := blk_frozen BK1235.out 0;have hfz102_1 := blk_frozen BK1235.out 1) | ((with_reducible refine gate_callee (f := 51) rfl ?_);refine goesL_ (some 105) rfl rfl Try.func51 (by kernel_rfl) rfl #[.agg #[.int .i64 t1282, .slice Ao101 t1283.length co101], .agg #[.int .i64 t1231, .slice Ao42 t1232.length co42]] rfl lf_ ?_;(with_reducible refine (laws_eqChunksResult.calls kj31 t1282 _ _ t1283 t1231 _ _ t1232 true _ ?side1 ?side2 ?side3 ?side4 A80.out).mono ?_);(case side1 => refine (Kd.S_reads' (e := 58) (base := w.heap.size) (ok := fun k_ => (((((True ∧ some k_ ≠ (.slice Ao42 t1232.length co42 : Value).ownBlock) ∧ some k_ ≠ (.slice Ao53 t1246.length co53 : Value).ownBlock) ∧ some k_ ≠ (.slice Ao93 t1273.length co93 : Value).ownBlock) ∧ some k_ ≠ (.slice Ao94 t1276.length co94 : Value).ownBlock) ∧ some k_ ≠ (.slice Ao95 t1279.length co95 : Value).ownBlock)) (n := t1283.length) (c := co101) ?_).2.2;exact (by (with_reducible repeat (first | apply Kd.S_alloc | apply Kd.S_drewN | apply Kd.S_drew));exact (Kd.S_mono (Kd.S_far (p := ⟨gb1286, 1, none⟩) (Kd.S_far (p := ⟨gb1286, 0, none⟩) (Kd.S_types HO1285.out BK1286.out (by decide)) (fun _ hk => hk.2) (.int .i64 t1282)) (fun _ hk => hk.2) (.slice Ao101 t1283.length co101)) (fun _ h_ => h_.1))));(case side2 => exact (Kd.S_reads' HO1285.out).2.1);(case side3 => refine (Kd.S_reads' (e := 58) (base := w.heap.size) (ok := fun k_ => ((((some k_ ≠ (.slice Ao53 t1246.length co53 : Value).ownBlock ∧ some k_ ≠ (.slice Ao93 t1273.length co93 : Value).ownBlock) ∧ some k_ ≠ (.slice Ao94 t1276.length co94 : Value).ownBlock) ∧ some k_ ≠ (.slice Ao95 t1279.length co95 : Value).ownBlock) ∧ some k_ ≠ (.slice Ao101 t1283.length co101 : Value).ownBlock)) (n := t1232.length) (c := co42) ?_).2.2;exact (by (with_reducible repeat (first | apply Kd.S_alloc | apply Kd.S_drewN | apply Kd.S_drew));exact (Kd.S_mono (Kd.S_far (p := ⟨gb1286, 1, none⟩) (Kd.S_far (p := ⟨gb1286, 0, none⟩) (Kd.S_types HO_1236001.out BK1286.out (by decide)) (fun _ hk => hk.2) (.int .i64 t1282)) (fun _ hk => hk.2) (.slice Ao101 t1283.length co101)) (fun _ h_ => h_.1))));(case side4 => exact (Kd.S_reads' HO_1236001.out).2.1);rintro e w103 ⟨rfl, hb⟩;refine ⟨_, rfl, ?_⟩;have n0_ := Aside0.mk (Kd.S_below (by (with_reducible repeat (first | apply Kd.S_alloc | apply Kd.S_drewN | apply Kd.S_drew));exact (Kd.S_mono (Kd.S_far (p := ⟨gb1286, 1, none⟩) (Kd.S_far (p := ⟨gb1286, 0, none⟩) (Kd.S_types HO_1236001.out BK1286.out (by decide)) (fun _ hk => hk.2) (.int .i64 t1282)) (fun _ hk => hk.2) (.slice Ao101 t1283.length co101)) (fun _ h_ => h_.1))) hb);have n1_ := Aside0.mk (Kd.S_below (by (with_reducible repeat (first | apply Kd.S_alloc | apply Kd.S_drewN | apply Kd.S_drew));exact (Kd.S_mono (Kd.S_far (p := ⟨gb1286, 1, none⟩) (Kd.S_far (p := ⟨gb1286, 0, none⟩) (Kd.S_types HO_1250001.out BK1286.out (by decide)) (fun _ hk => hk.2) (.int .i64 t1282)) (fun _ hk => hk.2) (.slice Ao101 t1283.length co101)) (fun _ h_ => h_.1))) hb);have n2_ := Aside0.mk (Kd.R_below (by (with_reducible repeat (first | apply Kd.R_alloc | apply Kd.R_drewN | apply Kd.R_drew));exact (Kd.R_mono (Kd.R_far (p := ⟨gb1286, 1, none⟩) (Kd.R_far (p := ⟨gb1286, 0, none⟩) (Kd.R_types HO1275.out BK1286.out (by decide)) (fun _ hk => hk.2) (.int .i64 t1282)) (fun _ hk => hk.2) (.slice Ao101 t1283.length co101)) (fun _ h_ => h_.1))) hb);have n3_ := Aside0.mk (Kd.R_below (by (with_reducible repeat (first | apply Kd.R_alloc | apply Kd.R_drewN | apply Kd.R_drew));exact (Kd.R_mono (Kd.R_far (p := ⟨gb1286, 1, none⟩) (Kd.R_far (p := ⟨gb1286, 0, none⟩) (Kd.R_types HO1278.out BK1286.out (by decide)) (fun _ hk => hk.2) (.int .i64 t1282)) (fun _ hk => hk.2) (.slice Ao101 t1283.length co101)) (fun _ h_ => h_.1))) hb);have n4_ := Aside0.mk (Kd.R_below (by (with_reducible repeat (first | apply Kd.R_alloc | apply Kd.R_drewN | apply Kd.R_drew));exact (Kd.R_mono (Kd.R_far (p := ⟨gb1286, 1, none⟩) (Kd.R_far (p := ⟨gb1286, 0, none⟩) (Kd.R_types HO1281.out BK1286.out (by decide)) (fun _ hk => hk.2) (.int .i64 t1282)) (fun _ hk => hk.2) (.slice Ao101 t1283.length co101)) (fun _ h_ => h_.1))) hb);have n5_ := Aside0.mk (Kd.S_below (by (with_reducible repeat (first | apply Kd.S_alloc | apply Kd.S_drewN | apply Kd.S_drew));exact (Kd.S_mono (Kd.S_far (p := ⟨gb1286, 1, none⟩) (Kd.S_far (p := ⟨gb1286, 0, none⟩) (Kd.S_types HO1285.out BK1286.out (by decide)) (fun _ hk => hk.2) (.int .i64 t1282)) (fun _ hk => hk.2) (.slice Ao101 t1283.length co101)) (fun _ h_ => h_.1))) hb);have n6_ := Aside0.mk (blk_below (g := gb1235) (o := .cells #[.int .i64 t1231, .slice Ao42 t1232.length co42] 71 (0, 0)) (by (with_reducible repeat (first | refine blk_drewN ?_ _ | refine blk_drew ?_ | refine blk_alloc ?_ _));refine blk_far ?_ NB1235_1286.out _;(with_reducible repeat (first | refine blk_drewN ?_ _ | refine blk_drew ?_ | refine blk_alloc ?_ _));refine blk_far ?_ NB1235_1286.out _;(with_reducible repeat (first | refine blk_drewN ?_ _ | refine blk_drew ?_ | refine blk_alloc ?_ _));exact BK1235.out) hb);have n7_ := Aside0.mk (blk_below (g := gb1249) (o := .cells #[.int .i64 t1245, .slice Ao53 t1246.length co53] 71 (0, 0)) (by (with_reducible repeat (first | refine blk_drewN ?_ _ | refine blk_drew ?_ | refine blk_alloc ?_ _));refine blk_far ?_ NB1249_1286.out _;(with_reducible repeat (first | refine blk_drewN ?_ _ | refine blk_drew ?_ | refine blk_alloc ?_ _));refine blk_far ?_ NB1249_1286.out _;(with_reducible repeat (first | refine blk_drewN ?_ _ | refine blk_drew ?_ | refine blk_alloc ?_ _));exact BK1249.out) hb);have n8_ := Aside0.mk (blk_below (g := gb1286) (o := .cells #[.int .i64 t1282, .slice Ao101 t1283.length co101] 71 (0, 0)) (by (with_reducible repeat (first | refine blk_drewN ?_ _ | refine blk_drew ?_ | refine blk_alloc ?_ _));refine blk_put (cs := #[.int .i64 t1282, .slice none 0 0]) ?_ 1 _ rfl;(with_reducible repeat (first | refine blk_drewN ?_ _ | refine blk_drew ?_ | refine blk_alloc ?_ _));refine blk_put (cs := #[.int .i64 0, .slice none 0 0]) ?_ 0 _ rfl;(with_reducible repeat (first | refine blk_drewN ?_ _ | refine blk_drew ?_ | refine blk_alloc ?_ _));exact BK1286.out) hb);have n9_ := Aside0.mk (below_step (by repeat (first | (with_reducible first | exact HB.out | apply below_alloc | apply pw_below_drewN | apply below_drew1 | refine below_set ?_ GE1235.out | refine below_set ?_ GE1249.out | refine below_set ?_ GE1286.out) | exact HB.out)) hb);clear HO_1236001;clear HO_1250001;clear HO1275;clear HO1278;clear HO1281;clear HO1285;clear BK1235;clear BK1249;clear BK1286;clear HB;have HO_1236001 := n0_;have HO_1250001 := n1_;have HO1275 := n2_;have HO1278 := n3_;have HO1281 := n4_;have HO1285 := n5_;have BK1235 := n6_;have BK1249 := n7_;have BK1286 := n8_;have HB := n9_;clear n0_ n1_ n2_ n3_ n4_ n5_ n6_ n7_ n8_ n9_;(try clear hb);(try clear hb2);(try clear hk);(try clear hi);have hcz104_0 : w103.cell? ⟨gb1249, 0, none⟩ = some (.int .i64 t1245) := (blk_cell BK1249.out 0).trans rfl;have hcz104_1 : w103.cell? ⟨gb1249, 1, none⟩ = some (.slice Ao53 t1246.length co53) := (blk_cell BK1249.out 1).trans rfl;have hfz104_0 := blk_frozen BK1249.out 0;have hfz104_1 := blk_frozen BK1249.out 1) | ((with_reducible refine gate_callee (f := 53) rfl ?_);refine goesL_ (some 109) rfl rfl Try.func53 (by kernel_rfl) rfl #[.agg #[.int .i64 t1245, .slice Ao53 t1271.length co53], .int .i64 1] rfl (by (try simp only [List.map_toArray, List.map_cons, List.map_nil]);first | done | (rw [show t1271.length = t1246.length from (Kd.S_reads' HO_1250001.out).1.symm] <;> rfl) | rfl | (simp only [List.length_drop, List.length_take];rfl)) ?_;(with_reducible refine (laws_heldChunksResult.calls kj31 t1245 _ _ t1271 1 t1288 _ ?side1 ?side2 A82.out).mono ?_);(case side1 => repeat (first | exact (Kd.S_reads' HO_1250001.out).2.2 | (with_reducible refine Kd.C_alloc ?_ _) | (with_reducible refine Kd.C_drewN ?_ _) | (with_reducible refine Kd.C_drew ?_)));(case side2 => rw [show t1271.length = t1246.length from (Kd.S_reads' HO_1250001.out).1.symm];exact (Kd.S_reads' HO_1250001.out).2.1);rintro e w105 ⟨rfl, hb⟩;refine ⟨_, rfl, ?_⟩;have n0_ := Aside0.mk (Kd.S_below (rs_ HO_1236001.out) hb);have n1_ := Aside0.mk (Kd.S_below (rs_ HO_1250001.out) hb);have n2_ := Aside0.mk (Kd.R_below (rr_ HO1275.out) hb);have n3_ := Aside0.mk (Kd.R_below (rr_ HO1278.out) hb);have n4_ := Aside0.mk (Kd.R_below (rr_ HO1281.out) hb);have n5_ := Aside0.mk (Kd.S_below (rs_ HO1285.out) hb);have n6_ := Aside0.mk (blk_below (g := gb1235) (o := .cells #[.int .i64 t1231, .slice Ao42 t1232.length co42] 71 (0, 0)) (rb_ BK1235.out) hb);have n7_ := Aside0.mk (blk_below (g := gb1249) (o := .cells #[.int .i64 t1245, .slice Ao53 t1246.length co53] 71 (0, 0)) (rb_ BK1249.out) hb);have n8_ := Aside0.mk (blk_below (g := gb1286) (o := .cells #[.int .i64 t1282, .slice Ao101 t1283.length co101] 71 (0, 0)) (rb_ BK1286.out) hb);have n9_ := Aside0.mk (below_step (by repeat (first | (with_reducible first | exact HB.out | apply below_alloc | apply pw_below_drewN | apply below_drew1 | refine below_set ?_ GE1235.out | refine below_set ?_ GE1249.out | refine below_set ?_ GE1286.out) | exact HB.out)) hb);clear HO_1236001;clear HO_1250001;clear HO1275;clear HO1278;clear HO1281;clear HO1285;clear BK1235;clear BK1249;clear BK1286;clear HB;have HO_1236001 := n0_;have HO_1250001 := n1_;have HO1275 := n2_;have HO1278 := n3_;have HO1281 := n4_;have HO1285 := n5_;have BK1235 := n6_;have BK1249 := n7_;have BK1286 := n8_;have HB := n9_;clear n0_ n1_ n2_ n3_ n4_ n5_ n6_ n7_ n8_ n9_;(try clear hb);(try clear hb2);(try clear hk);(try clear hi)))
                go_ret
                exact ⟨by first | rfl | (simp [errW_none, errW_some] <;> rfl) | (simp [*, errW_none, errW_some] <;> rfl), by repeat (first | (with_reducible first | exact HB.out | apply below_alloc | apply pw_below_drewN | apply below_drew1 | refine below_set ?_ GE1235.out | refine below_set ?_ GE1249.out | refine below_set ?_ GE1286.out) | exact HB.out)⟩
               ·rw [if_neg c84] at H
                have c84b0 : (t1288 == t1270) = false := beq_eq_false_iff_ne.mpr c84
                have c84b1 : (t1288 != t1270) = true := bne_iff_ne.mpr c84
                exact absurd ((Option.some.inj H).trans HLAW.out) (by decide)
             ·replace c81 := Bool.eq_false_iff.mpr c81
              subst c81
              have H1 : (some false) = some r := by rw [if_neg (show ¬ (false = true) by decide)] at H;exact H
              clear H
              have H := H1
              clear H1
              exact absurd ((Option.some.inj H).trans HLAW.out) (by decide)
            ·rw [if_neg c75] at H
             have c75b0 : (t1272 == t1270) = false := beq_eq_false_iff_ne.mpr c75
             have c75b1 : (t1272 != t1270) = true := bne_iff_ne.mpr c75
             exact absurd ((Option.some.inj H).trans HLAW.out) (by decide)
       ·replace c28 := Bool.eq_false_iff.mpr c28;subst c28;(have H1 : (some false) = some r := by rw [if_neg (show ¬ (false = true) by decide)] at H;exact H);clear H;have H := H1;clear H1;exact absurd ((Option.some.inj H).trans HLAW.out) (by decide)
      ·replace c25 := Bool.eq_false_iff.mpr c25;subst c25;(have H1 : (some false) = some r := by rw [if_neg (show ¬ (false = true) by decide)] at H;exact H);clear H;have H := H1;clear H1;exact absurd ((Option.some.inj H).trans HLAW.out) (by decide)
     ·replace c22 := Bool.eq_false_iff.mpr c22;subst c22;(have H1 : (some false) = some r := by rw [if_neg (show ¬ (false = true) by decide)] at H;exact H);clear H;have H := H1;clear H1;exact absurd ((Option.some.inj H).trans HLAW.out) (by decide)
    ·replace c19 := Bool.eq_false_iff.mpr c19;subst c19;(have H1 : (some false) = some r := by rw [if_neg (show ¬ (false = true) by decide)] at H;exact H);clear H;have H := H1;clear H1;exact absurd ((Option.some.inj H).trans HLAW.out) (by decide)
end Go.Proofs.Ytjngmhngedecdaa.P
end
section
set_option linter.unusedVariables false
namespace Go.Proofs.Ytjngmhngedecdaa.P
open Go.RowKit Go.Proofs.YtjngmhngedecdaaW.PrintWords Go.Proofs.YtjngmhngedecdaaW.PrintLast
namespace UFnExactChunksOf
def Pure : Prop := ∀ (l0 : List ByteArray) (l1 : List ByteArray) (l2 : List ByteArray), (l0.length ≤ 9223372036854775807 ∧ ∀ x ∈ l0, x.size ≤ 9223372036854775807) → (l1.length ≤ 9223372036854775807 ∧ ∀ x ∈ l1, x.size ≤ 9223372036854775807) → (l2.length ≤ 9223372036854775807 ∧ ∀ x ∈ l2, x.size ≤ 9223372036854775807) → ∃ k, laws_FnExactChunksOf.f k l0 l1 l2 = some true
end UFnExactChunksOf
end Go.Proofs.Ytjngmhngedecdaa.P
end
section
set_option linter.unusedVariables false
set_option linter.unusedSimpArgs false
namespace Go.Proofs.Ytjngmhngedecdaa.P
open Go.RowKit Go.Proofs.YtjngmhngedecdaaW.PrintWords Go.Proofs.YtjngmhngedecdaaW.PrintLast
theorem wid {x : Int} (h0 : -9223372036854775808 ≤ x) (h1 : x ≤ 9223372036854775807) : wrap64 x = x := by
  unfold wrap64
  omega
theorem wsucc {i n : Nat} (h : i < n) (hn : n ≤ 9223372036854775807) : wrap64 ((i : Int) + 1) = ((i + 1 : Nat) : Int) := by
  rw [wid (by omega) (by omega)]
  rfl
theorem Ev_if {α : Type} {c : Prop} [Decidable c] {a b : Nat → Option α} {r : α} (hp : c → Ev a r) (hn : ¬ c → Ev b r) : Ev (fun k => if c then a k else b k) r := by
  by_cases h : c
  · exact (hp h).congr (fun k => if_pos h)
  · exact (hn h).congr (fun k => if_neg h)
theorem Ev_pos {α : Type} {c : Prop} [Decidable c] {a b : Nat → Option α} {r : α} (hc : c) (h : Ev a r) : Ev (fun k => if c then a k else b k) r := h.congr (fun k => if_pos hc)
theorem Ev_neg {α : Type} {c : Prop} [Decidable c] {a b : Nat → Option α} {r : α} (hc : ¬ c) (h : Ev b r) : Ev (fun k => if c then a k else b k) r := h.congr (fun k => if_neg hc)
theorem Ev_call {α β : Type} {g : Nat → Option α} {f : Nat → α → Option β} {a : α} {r : β} (h : Ev g a) (k : Ev (fun n => f n a) r) : Ev (fun n => (g n).bind (f n)) r := Ev.bind h k
theorem Ev_const {α β : Type} {g : Option α} {f : Nat → α → Option β} {a : α} {r : β} (h : g = some a) (k : Ev (fun n => f n a) r) : Ev (fun n => g.bind (f n)) r :=
  Ev.bind (g := fun _ => g) ⟨0, fun _ _ => h⟩ k
theorem Ev_eq {α : Type} {g : Nat → Option α} {r r' : α} (h : Ev g r) (e : r = r') : Ev g r' := e ▸ h
theorem Ev_val {α : Type} {r r' : α} (h : r = r') : Ev (fun _ => some r) r' := ⟨0, fun _ _ => by rw [h]⟩
theorem rd_nat {α : Type} (d : α) {xs : List α} {i : Nat} (h : i < xs.length) : rdOf d xs (i : Int) = xs[i] := by
  unfold rdOf
  rw [Int.toNat_natCast, List.getD_eq_getElem?_getD, List.getElem?_eq_getElem h]
  rfl
theorem rdi_nat {xs : List Int} {i : Nat} (h : i < xs.length) : rd xs (i : Int) = xs[i] := by
  unfold rd
  rw [Int.toNat_natCast, List.getD_eq_getElem?_getD, List.getElem?_eq_getElem h]
  rfl
theorem bt_nat {s : ByteArray} {i : Nat} (h : i < s.data.toList.length) : bt s (i : Int) = ((s.data.toList[i]).toNat : Int) := by
  have h' : i < s.size := by simpa using h
  unfold bt
  rw [dif_pos (by rw [Int.toNat_natCast]; exact h')]
  simp [ByteArray.getElem_eq_getElem_data]
theorem data_eq {a b : ByteArray} : a.toList = b.toList ↔ a = b := by
  rw [ByteArray.toList_eq, ByteArray.toList_eq]
  constructor
  · intro h
    cases a
    cases b
    simpa using h
  · rintro rfl
    rfl
theorem toList_nil {a : ByteArray} : a.toList = ([] : List UInt8) ↔ a.data.toList = [] := by rw [ByteArray.toList_eq]
theorem size_data (a : ByteArray) : a.data.toList.length = a.size := by simp
theorem dec_same {α : Type} [DecidableEq α] {x y : α} {l m : List α} (h : x = y) : decide (l = m) = decide (x :: l = y :: m) := by
  subst h
  simp
theorem dec_diff {α : Type} [DecidableEq α] {x y : α} {l m : List α} (h : x ≠ y) : false = decide (x :: l = y :: m) := by simp [h]
theorem drop_at {α : Type} {xs : List α} {i : Nat} (h : i < xs.length) : xs.drop i = xs[i] :: xs.drop (i + 1) := List.drop_eq_getElem_cons h
def total : List ByteArray → Nat
  | [] => 0
  | x :: l => x.size + total l
end Go.Proofs.Ytjngmhngedecdaa.P
end
section
namespace Go.Proofs.Ytjngmhngedecdaa.P
open Go.RowKit Go.Proofs.YtjngmhngedecdaaW.PrintWords Go.Proofs.YtjngmhngedecdaaW.PrintLast Go.Proofs.YtjngmhngedecdaaW.PrintMore
attribute [local go_sem] max2_int min2_int max_two min_two max_three min_three max_four min_four
end Go.Proofs.Ytjngmhngedecdaa.P
end
section
set_option linter.unusedVariables false
set_option linter.unusedSimpArgs false
namespace Go.Proofs.Ytjngmhngedecdaa.P
open Go.RowKit Go.Proofs.YtjngmhngedecdaaW.PrintWords Go.Proofs.YtjngmhngedecdaaW.PrintLast
theorem sz_loop (xs : List ByteArray) (hx : ∀ x ∈ xs, x.size ≤ 9223372036854775807) (hl : xs.length ≤ 9223372036854775807) : ∀ (d i : Nat) (n : Int), xs.length - i = d → i ≤ xs.length → 0 ≤ n → n ≤ 1048576 →
    ∃ r, Ev (fun k => laws_szStringS.l0 k xs n (i : Int)) r ∧ (r < 0 ∨ (0 ≤ r ∧ r ≤ n ∧ (total (xs.drop i) : Int) = n - r)) := by
  intro d
  induction d with
  | zero =>
    intro i n hd hi h0 h1
    have : i = xs.length := by omega
    subst this
    refine ⟨n, Ev.step (fun k => by rw [laws_szStringS.l0]) (Ev_neg (by omega) (Ev.now _)), .inr ⟨h0, Int.le_refl _, ?_⟩⟩
    rw [List.drop_length]
    simp [total]
  | succ d ih =>
    intro i n hd hi h0 h1
    have hlt : i < xs.length := by omega
    have hs := hx xs[i] (List.getElem_mem hlt)
    by_cases hc : n - (xs[i].size : Int) < 0
    · refine ⟨-1, Ev.step (fun k => by rw [laws_szStringS.l0]) (Ev_pos (by omega) (Ev_pos (by omega) ?_)), .inl (by omega)⟩
      rw [rd_nat _ hlt, wid (by omega) (by omega)]
      exact Ev_pos hc (Ev.now _)
    · obtain ⟨r, hr, hp⟩ := ih (i + 1) (n - (xs[i].size : Int)) (by omega) (by omega) (by omega) (by omega)
      refine ⟨r, Ev.step (fun k => by rw [laws_szStringS.l0]) (Ev_pos (by omega) (Ev_pos (by omega) ?_)), ?_⟩
      · rw [rd_nat _ hlt, wid (by omega) (by omega), wsucc hlt hl]
        exact Ev_neg hc hr
      · rcases hp with hp | ⟨h2, h3, h4⟩
        · exact .inl hp
        · refine .inr ⟨h2, by omega, ?_⟩
          rw [drop_at hlt]
          simp only [total]
          omega
theorem sz_tells (xs : List ByteArray) (hg : xs.length ≤ 9223372036854775807 ∧ ∀ x ∈ xs, x.size ≤ 9223372036854775807) (n : Int) (h0 : 0 ≤ n) (h1 : n ≤ 1048576) :
    ∃ r, Ev (fun k => laws_szStringS.f k xs n) r ∧ (r < 0 ∨ (0 ≤ r ∧ r ≤ n ∧ (xs.length : Int) + (total xs : Int) = n - r)) := by
  by_cases hc : n - (xs.length : Int) < 0
  · refine ⟨-1, ?_, .inl (by omega)⟩
    unfold laws_szStringS.f
    rw [wid (by omega) (by omega)]
    exact Ev_pos hc (Ev.now _)
  · obtain ⟨r, hr, hp⟩ := sz_loop xs hg.2 hg.1 _ 0 (n - (xs.length : Int)) rfl (by omega) (by omega) (by omega)
    refine ⟨r, ?_, ?_⟩
    · unfold laws_szStringS.f
      rw [wid (by omega) (by omega)]
      exact Ev_neg hc hr
    · rcases hp with hp | ⟨h2, h3, h4⟩
      · exact .inl hp
      · rw [List.drop_zero] at h4
        exact .inr ⟨h2, by omega, by omega⟩
theorem to_loop (xs : List ByteArray) (hl : xs.length ≤ 9223372036854775807) : ∀ (d i : Nat) (ys : List ByteArray), xs.length - i = d → i ≤ xs.length → ys.length = xs.length →
    Ev (fun k => laws_toStringS.l0 k xs ys (i : Int)) (ys.take i ++ xs.drop i) := by
  intro d
  induction d with
  | zero =>
    intro i ys hd hi hy
    have : i = xs.length := by omega
    subst this
    refine Ev.step (fun k => by rw [laws_toStringS.l0]) (Ev_neg (by omega) (Ev_val ?_))
    rw [List.drop_length, List.append_nil, ← hy, List.take_length]
  | succ d ih =>
    intro i ys hd hi hy
    have hlt : i < xs.length := by omega
    refine Ev.step (fun k => by rw [laws_toStringS.l0]) (Ev_pos (by omega) (Ev_pos (by omega) (Ev_pos (by omega) ?_)))
    rw [rd_nat _ hlt, wsucc hlt hl, Int.toNat_natCast]
    have h := ih (i + 1) (ys.set i xs[i]) (by omega) (by omega) (by rw [List.length_set]; exact hy)
    refine Ev_eq h ?_
    rw [drop_at hlt, List.take_succ_eq_append_getElem (by rw [List.length_set]; omega), List.getElem_set_self, List.take_set_of_le (by omega), List.append_assoc]
    rfl
theorem to_tells (xs : List ByteArray) (hl : xs.length ≤ 17592186044416) : Ev (fun k => laws_toStringS.f k xs) xs := by
  unfold laws_toStringS.f
  refine Ev_pos (by omega) (Ev_pos (by rw [Int.toNat_natCast]; exact hl) ?_)
  have h := to_loop xs (by omega) _ 0 (List.replicate ((xs.length : Int) : Int).toNat (⟨#[]⟩ : ByteArray)) rfl (by omega) (by simp)
  exact Ev_eq h (by simp)
theorem eq_loop (xs : List ByteArray) (hl : xs.length ≤ 9223372036854775807) : ∀ (d i : Nat), xs.length - i = d → i ≤ xs.length → Ev (fun k => laws_eqStringS.l0 k xs xs (i : Int)) true := by
  intro d
  induction d with
  | zero => intro i hd hi; exact Ev.step (fun k => by rw [laws_eqStringS.l0]) (Ev_neg (by omega) (Ev.now _))
  | succ d ih =>
    intro i hd hi
    have hlt : i < xs.length := by omega
    refine Ev.step (fun k => by rw [laws_eqStringS.l0]) (Ev_pos (by omega) (Ev_pos (by omega) (Ev_pos (by omega) (Ev_pos rfl ?_))))
    rw [wsucc hlt hl]
    exact ih (i + 1) (by omega) (by omega)
theorem eq_tells (xs : List ByteArray) (hl : xs.length ≤ 9223372036854775807) : Ev (fun k => laws_eqStringS.f k xs xs) true := by
  unfold laws_eqStringS.f
  exact Ev_pos rfl (eq_loop xs hl _ 0 rfl (by omega))
theorem ssame_loop (xs ys : List ByteArray) (hl : xs.length ≤ 9223372036854775807) (he : xs.length = ys.length) : ∀ (d i : Nat), xs.length - i = d → i ≤ xs.length → Ev (fun k => spec_SameLines.l0 k xs ys (i : Int)) (decide (xs.drop i = ys.drop i)) := by
  intro d
  induction d with
  | zero =>
    intro i hd hi
    refine Ev.step (fun k => by rw [spec_SameLines.l0]) (Ev_neg (by omega) (Ev_val ?_))
    rw [List.drop_eq_nil_of_le (by omega), List.drop_eq_nil_of_le (by omega)]
    simp
  | succ d ih =>
    intro i hd hi
    have hlt : i < xs.length := by omega
    have hlt2 : i < ys.length := by omega
    refine Ev.step (fun k => by rw [spec_SameLines.l0]) (Ev_pos (by omega) (Ev_pos (by omega) (Ev_pos (by omega) ?_)))
    rw [rd_nat _ hlt, rd_nat _ hlt2, wsucc hlt hl, drop_at hlt, drop_at hlt2]
    refine Ev_if (fun h => Ev_eq (ih (i + 1) (by omega) (by omega)) ?_) (fun h => Ev_val ?_)
    · exact dec_same (data_eq.1 h)
    · exact dec_diff (fun e => h (data_eq.2 e))
theorem ssame_tells (xs ys : List ByteArray) (hl : xs.length ≤ 9223372036854775807) : Ev (fun k => spec_SameLines.f k xs ys) (decide (xs = ys)) := by
  unfold spec_SameLines.f
  refine Ev_if (fun h => ?_) (fun h => Ev_val ?_)
  · exact ssame_loop xs ys hl (by omega) _ 0 rfl (by omega)
  · have : xs ≠ ys := fun e => h (by rw [e])
    simp [this]
theorem isame_loop (xs ys : List ByteArray) (hl : xs.length ≤ 9223372036854775807) (he : xs.length = ys.length) : ∀ (d i : Nat), xs.length - i = d → i ≤ xs.length → Ev (fun k => slices_Equal_string_string.l0 k xs ys (xs.length : Int) (i : Int)) (decide (xs.drop i = ys.drop i)) := by
  intro d
  induction d with
  | zero =>
    intro i hd hi
    refine Ev.step (fun k => by rw [slices_Equal_string_string.l0]) (Ev_neg (by omega) (Ev_val ?_))
    rw [List.drop_eq_nil_of_le (by omega), List.drop_eq_nil_of_le (by omega)]
    simp
  | succ d ih =>
    intro i hd hi
    have hlt : i < xs.length := by omega
    have hlt2 : i < ys.length := by omega
    refine Ev.step (fun k => by rw [slices_Equal_string_string.l0]) (Ev_pos (by omega) (Ev_pos (by omega) (Ev_pos (by omega) (Ev_pos (by omega) ?_))))
    rw [rd_nat _ hlt, rd_nat _ hlt2, wsucc hlt hl, drop_at hlt, drop_at hlt2]
    refine Ev_if (fun h => Ev_eq (ih (i + 1) (by omega) (by omega)) ?_) (fun h => Ev_val ?_)
    · exact dec_same (data_eq.1 h)
    · exact dec_diff (fun e => h (data_eq.2 e))
theorem isame_tells (xs ys : List ByteArray) (hl : xs.length ≤ 9223372036854775807) : Ev (fun k => slices_Equal_string_string.f k xs ys) (decide (xs = ys)) := by
  unfold slices_Equal_string_string.f
  refine Ev_if (fun h => ?_) (fun h => Ev_val ?_)
  · exact isame_loop xs ys hl (by omega) _ 0 rfl (by omega)
  · have : xs ≠ ys := fun e => h (by rw [e])
    simp [this]
end Go.Proofs.Ytjngmhngedecdaa.P
end
section
set_option linter.unusedVariables false
set_option linter.unusedSimpArgs false
namespace Go.Proofs.Ytjngmhngedecdaa.P
open Go.RowKit
theorem index_low (l : List UInt8) (c : UInt8) : -1 ≤ Lib.indexByte l c := by
  induction l with
  | nil => simp [Lib.indexByte]
  | cons b l ih =>
    unfold Lib.indexByte
    split
    · omega
    · split
      · omega
      · omega
theorem index_mem (l : List UInt8) (c : UInt8) : Lib.indexByte l c ≥ 0 ↔ c ∈ l := by
  induction l with
  | nil => simp [Lib.indexByte]
  | cons b l ih =>
    have hl := index_low l c
    unfold Lib.indexByte
    by_cases h : b = c
    · subst h
      simp
    · have h2 : (b == c) = false := by simpa using h
      rw [h2, List.mem_cons]
      have h3 : ¬ c = b := fun e => h e.symm
      by_cases h4 : Lib.indexByte l c = -1
      · have h5 : (Lib.indexByte l c == -1) = true := by simpa using h4
        rw [h5]
        have : ¬ c ∈ l := fun hm => by have := ih.2 hm; omega
        simp [h3, this]
      · have h5 : (Lib.indexByte l c == -1) = false := by simpa using h4
        rw [h5]
        have : c ∈ l := ih.1 (by omega)
        simp [this]
        omega
def lineEnd : List UInt8 → Nat
  | [] => 0
  | c :: l => if c = 10 then 0 else lineEnd l + 1
theorem lineEnd_le (l : List UInt8) : lineEnd l ≤ l.length := by
  induction l with
  | nil => simp [lineEnd]
  | cons c l ih =>
    unfold lineEnd
    split
    · omega
    · simp
      omega
theorem lineEnd_mem (l : List UInt8) : lineEnd l < l.length ↔ 10 ∈ l := by
  induction l with
  | nil => simp [lineEnd]
  | cons c l ih =>
    unfold lineEnd
    by_cases h : c = 10
    · subst h
      simp
    · rw [if_neg h, List.length_cons, List.mem_cons]
      have h2 : ¬ (10 : UInt8) = c := fun e => h e.symm
      simp only [h2, false_or]
      rw [← ih]
      omega
theorem lineEnd_early (l : List UInt8) : lineEnd l < l.length - 1 ↔ 10 ∈ l.dropLast := by
  induction l with
  | nil => simp [lineEnd]
  | cons c l ih =>
    cases l with
    | nil =>
      simp [lineEnd]
    | cons d l =>
      unfold lineEnd
      by_cases h : c = 10
      · subst h
        simp
      · rw [if_neg h, List.dropLast_cons_cons, List.mem_cons]
        have h2 : ¬ (10 : UInt8) = c := fun e => h e.symm
        simp only [h2, false_or]
        rw [← ih]
        simp only [List.length_cons]
        omega
theorem suffix_last (l : List UInt8) : Lib.hasSuffix l [10] = true ↔ ∃ r, l = r ++ [10] := by
  unfold Lib.hasSuffix
  rw [List.isSuffixOf_iff_suffix]
  constructor
  · rintro ⟨r, h⟩
    exact ⟨r, h.symm⟩
  · rintro ⟨r, h⟩
    exact ⟨r, h.symm⟩
theorem suffix_iff (l : List UInt8) (h : ¬ 10 ∈ l.dropLast) : Lib.hasSuffix l [10] = true ↔ 10 ∈ l := by
  rw [suffix_last]
  constructor
  · rintro ⟨r, rfl⟩
    simp
  · intro hm
    have hne : l ≠ [] := by
      rintro rfl
      simp at hm
    have e := List.dropLast_concat_getLast hne
    rw [← e] at hm
    rcases List.mem_append.1 hm with h1 | h1
    · exact absurd h1 h
    · refine ⟨l.dropLast, ?_⟩
      have h2 : (10 : UInt8) = l.getLast hne := by simpa using h1
      rw [h2]
      exact e.symm
end Go.Proofs.Ytjngmhngedecdaa.P
end
section
set_option linter.unusedVariables false
set_option linter.unusedSimpArgs false
namespace Go.Proofs.Ytjngmhngedecdaa.P
open Go.RowKit Go.Proofs.YtjngmhngedecdaaW.PrintWords Go.Proofs.YtjngmhngedecdaaW.PrintLast
theorem ended_loop (s : ByteArray) (hs : s.size ≤ 9223372036854775807) : ∀ (d i : Nat), s.size - i = d → i ≤ s.size → Ev (fun k => spec_l1Ended.l0 k s (i : Int)) (((i + lineEnd (s.data.toList.drop i) : Nat)) : Int) := by
  intro d
  induction d with
  | zero =>
    intro i hd hi
    refine Ev.step (fun k => by rw [spec_l1Ended.l0]) (Ev_neg (by omega) (Ev_val ?_))
    rw [List.drop_eq_nil_of_le (by rw [size_data]; omega)]
    simp only [lineEnd]
    omega
  | succ d ih =>
    intro i hd hi
    have hlt : i < s.data.toList.length := by rw [size_data]; omega
    refine Ev.step (fun k => by rw [spec_l1Ended.l0]) (Ev_pos (by omega) (Ev_pos (by omega) ?_))
    rw [bt_nat hlt, drop_at hlt, wsucc (n := s.size) (by omega) hs]
    refine Ev_if (fun h => Ev_val ?_) (fun h => Ev_eq (ih (i + 1) (by omega) (by omega)) ?_)
    · have : s.data.toList[i] = 10 := by
        apply UInt8.toNat_inj.1
        have h2 : s.data.toList[i].toNat = 10 := by omega
        exact h2
      rw [lineEnd, if_pos this]
      rfl
    · have : ¬ s.data.toList[i] = 10 := fun e => h (by rw [e]; rfl)
      rw [lineEnd, if_neg this]
      omega
theorem ended_tells (s : ByteArray) (hs : s.size ≤ 9223372036854775807) : Ev (fun k => spec_l1Ended.f k s) ((lineEnd s.data.toList : Nat) : Int) := by
  unfold spec_l1Ended.f
  have h := ended_loop s hs _ 0 rfl (by omega)
  rw [List.drop_zero, Nat.zero_add] at h
  exact h
def lineBad (s : List UInt8) (last : Bool) : Bool := decide (s = [] ∨ 10 ∈ s.dropLast ∨ (¬ 10 ∈ s ∧ last = false))
def linesBad : List ByteArray → Bool
  | [] => false
  | x :: r => lineBad x.data.toList (decide (r = [])) || linesBad r
theorem lb_go {x : ByteArray} {r : List ByteArray} (h : lineBad x.data.toList (decide (r = [])) = false) : (if linesBad r then (1 : Int) else 0) = if linesBad (x :: r) then 1 else 0 := by
  unfold linesBad
  rw [h, Bool.false_or]
  cases r <;> rfl
theorem lb_end {x : ByteArray} {r : List ByteArray} (h : lineBad x.data.toList (decide (r = [])) = true) : (1 : Int) = if linesBad (x :: r) then 1 else 0 := by
  unfold linesBad
  rw [h, Bool.true_or]
  rfl
def LF (xs : List ByteArray) : Int := if xs.length > 100 ∨ total xs > 2000 then 2 else if linesBad xs then 1 else 0
theorem slf_loop1 (xs : List ByteArray) (hx : ∀ x ∈ xs, x.size ≤ 9223372036854775807) (hl : xs.length ≤ 9223372036854775807) : ∀ (d i : Nat), xs.length - i = d → i ≤ xs.length →
    Ev (fun k => spec_LinesFault.l1 k xs (i : Int)) (if linesBad (xs.drop i) then 1 else 0) := by
  intro d
  induction d with
  | zero =>
    intro i hd hi
    refine Ev.step (fun k => by rw [spec_LinesFault.l1]) (Ev_neg (by omega) (Ev_val ?_))
    rw [List.drop_eq_nil_of_le (by omega)]
    rfl
  | succ d ih =>
    intro i hd hi
    have hlt : i < xs.length := by omega
    have hs := hx xs[i] (List.getElem_mem hlt)
    refine Ev.step (fun k => by rw [spec_LinesFault.l1]) (Ev_pos (by omega) (Ev_pos (by omega) ?_))
    rw [rd_nat _ hlt, drop_at hlt, wsucc hlt hl]
    refine Ev_call (ended_tells _ hs) ?_
    have hle := lineEnd_le xs[i].data.toList
    rw [size_data] at hle
    have hrest : xs.drop (i + 1) = [] ↔ i + 1 = xs.length := by
      rw [List.drop_eq_nil_iff]
      omega
    refine Ev_if (fun h => Ev_val ?_) (fun h => ?_)
    · have h2 := toList_nil.1 h
      exact lb_end (by simp [lineBad, h2])
    have hne : ¬ xs[i].data.toList = [] := fun e => h (toList_nil.2 e)
    have h0 : xs[i].data.toList.length ≠ 0 := fun e => hne (List.length_eq_zero_iff.1 e)
    rw [size_data] at h0
    rw [wid (by omega) (by omega)]
    have hearly := lineEnd_early xs[i].data.toList
    rw [size_data] at hearly
    have hmem := lineEnd_mem xs[i].data.toList
    rw [size_data] at hmem
    refine Ev_if (fun h => Ev_val ?_) (fun h => ?_)
    · have h2 : 10 ∈ xs[i].data.toList.dropLast := hearly.1 (by omega)
      exact lb_end (by simp [lineBad, h2])
    have hn2 : ¬ 10 ∈ xs[i].data.toList.dropLast := fun e => h (by have := hearly.2 e; omega)
    have go : (¬ 10 ∈ xs[i].data.toList → i + 1 = xs.length) → Ev (fun k => spec_LinesFault.l1 k xs ((i + 1 : Nat) : Int)) (if linesBad (xs[i] :: xs.drop (i + 1)) then 1 else 0) := by
      intro hg
      refine Ev_eq (ih (i + 1) (by omega) (by omega)) ?_
      have : lineBad xs[i].data.toList (decide (xs.drop (i + 1) = [])) = false := by
        unfold lineBad
        rw [decide_eq_false_iff_not]
        rintro (h1 | h1 | ⟨h1, h2⟩)
        · exact hne h1
        · exact hn2 h1
        · rw [decide_eq_false_iff_not, hrest] at h2
          exact h2 (hg h1)
      exact lb_go this
    refine Ev_if (fun h => ?_) (fun h => ?_)
    · have hno : ¬ 10 ∈ xs[i].data.toList := fun e => by have := hmem.2 e; omega
      rw [wid (by omega) (by omega)]
      refine Ev_if (fun h3 => Ev_val ?_) (fun h3 => go (fun _ => by omega))
      have : lineBad xs[i].data.toList (decide (xs.drop (i + 1) = [])) = true := by
        unfold lineBad
        rw [decide_eq_true_iff]
        refine .inr (.inr ⟨hno, ?_⟩)
        rw [decide_eq_false_iff_not, hrest]
        omega
      exact lb_end this
    · exact go (fun hno => absurd (hmem.1 (by omega)) hno)
theorem slf_loop0 (xs : List ByteArray) (hx : ∀ x ∈ xs, x.size ≤ 9223372036854775807) (hl : xs.length ≤ 9223372036854775807) (hb : total xs ≤ 9223372036854775807) : ∀ (d i n : Nat), xs.length - i = d → i ≤ xs.length → n + total (xs.drop i) = total xs →
    Ev (fun k => spec_LinesFault.l0 k xs (n : Int) (i : Int)) (LF xs) := by
  intro d
  induction d with
  | zero =>
    intro i n hd hi hn
    rw [List.drop_eq_nil_of_le (by omega)] at hn
    simp only [total, Nat.add_zero] at hn
    refine Ev.step (fun k => by rw [spec_LinesFault.l0]) (Ev_neg (by omega) ?_)
    have body : ∀ b : Bool, b = decide (xs.length > 100 ∨ total xs > 2000) → Ev (fun k => spec_LinesFault.j1 k xs b) (LF xs) := by
      intro b hb2
      refine Ev.step (fun k => by rw [spec_LinesFault.j1]) ?_
      unfold LF
      rw [hb2]
      refine Ev_if (fun h => Ev_val ?_) (fun h => ?_)
      · rw [if_pos (of_decide_eq_true h)]
      · rw [if_neg (fun e => h (decide_eq_true e))]
        have := slf_loop1 xs hx hl _ 0 rfl (by omega)
        rw [List.drop_zero] at this
        exact this
    refine Ev_if (fun h => body _ ?_) (fun h => body _ ?_)
    · symm
      rw [decide_eq_true_iff]
      exact .inl (by omega)
    · rw [decide_eq_decide]
      omega
  | succ d ih =>
    intro i n hd hi hn
    have hlt : i < xs.length := by omega
    rw [drop_at hlt] at hn
    simp only [total] at hn
    refine Ev.step (fun k => by rw [spec_LinesFault.l0]) (Ev_pos (by omega) (Ev_pos (by omega) ?_))
    rw [rd_nat _ hlt, wsucc hlt hl, wid (by omega) (by omega), show (n : Int) + (xs[i].size : Int) = ((n + xs[i].size : Nat) : Int) by omega]
    exact ih (i + 1) (n + xs[i].size) (by omega) (by omega) (by omega)
theorem slf_tells (xs : List ByteArray) (hx : ∀ x ∈ xs, x.size ≤ 9223372036854775807) (hl : xs.length ≤ 9223372036854775807) (hb : total xs ≤ 9223372036854775807) : Ev (fun k => spec_LinesFault.f k xs) (LF xs) := by
  unfold spec_LinesFault.f
  exact slf_loop0 xs hx hl hb _ 0 0 rfl (by omega) (by simp)
theorem isLine_tells (s : ByteArray) (hs : s.size ≤ 9223372036854775807) : impl_isLine.f s = some (decide (¬ (s.data.toList = [] ∨ 10 ∈ s.data.toList.dropLast))) := by
  unfold impl_isLine.f
  by_cases h : s.data.toList = []
  · rw [if_pos (toList_nil.2 h)]
    simp [h]
  · have h0 : s.data.toList.length ≠ 0 := fun e => h (List.length_eq_zero_iff.1 e)
    rw [size_data] at h0
    rw [if_neg (fun e => h (toList_nil.1 e)), wid (by omega) (by omega), if_pos (by omega), if_pos (by omega)]
    have he : (s.extract 0 ((s.size : Int) - 1).toNat).data.toList = s.data.toList.dropLast := by
      rw [← ByteArray.toList_eq, Lib.extract_toList, List.drop_zero, List.dropLast_eq_take, size_data]
      congr 1
      omega
    unfold strings_Contains.f
    simp only [Option.bind_some]
    rw [he]
    congr 1
    have hi := index_mem s.data.toList.dropLast 10
    by_cases hm : 10 ∈ s.data.toList.dropLast
    · have : (0 : Int) ≤ Lib.indexByte s.data.toList.dropLast 10 := hi.2 hm
      simp [hm, this]
    · have : ¬ (0 : Int) ≤ Lib.indexByte s.data.toList.dropLast 10 := fun e => hm (hi.1 e)
      simp only [this, hm, h]
      simp
theorem isWhole_tells (s : ByteArray) (hs : s.size ≤ 9223372036854775807) : impl_isWhole.f s = some (Lib.hasSuffix s.data.toList [10]) := by
  unfold impl_isWhole.f strings_HasSuffix.f
  rw [if_pos hs]
  rfl
theorem ilf_loop (xs : List ByteArray) (hx : ∀ x ∈ xs, x.size ≤ 9223372036854775807) (hl : xs.length ≤ 9223372036854775807) : ∀ (d i : Nat), xs.length - i = d → i ≤ xs.length →
    Ev (fun k => impl_LinesFault.l0 k xs xs (xs.length : Int) (i : Int)) (if linesBad (xs.drop i) then 1 else 0) := by
  intro d
  induction d with
  | zero =>
    intro i hd hi
    refine Ev.step (fun k => by rw [impl_LinesFault.l0]) (Ev_neg (by omega) (Ev_val ?_))
    rw [List.drop_eq_nil_of_le (by omega)]
    rfl
  | succ d ih =>
    intro i hd hi
    have hlt : i < xs.length := by omega
    have hs := hx xs[i] (List.getElem_mem hlt)
    have hrest : xs.drop (i + 1) = [] ↔ i + 1 = xs.length := by
      rw [List.drop_eq_nil_iff]
      omega
    refine Ev.step (fun k => by rw [impl_LinesFault.l0]) (Ev_pos (by omega) (Ev_pos (by omega) (Ev_pos (by omega) ?_)))
    rw [rd_nat _ hlt, drop_at hlt, wsucc hlt hl]
    refine Ev_const (isLine_tells _ hs) ?_
    refine Ev_if (fun h => ?_) (fun h => Ev_val ?_)
    · have h := of_decide_eq_true h
      have hne : ¬ xs[i].data.toList = [] := fun e => h (.inl e)
      have hn2 : ¬ 10 ∈ xs[i].data.toList.dropLast := fun e => h (.inr e)
      have go : (¬ 10 ∈ xs[i].data.toList → i + 1 = xs.length) → Ev (fun k => impl_LinesFault.l0 k xs xs (xs.length : Int) ((i + 1 : Nat) : Int)) (if linesBad (xs[i] :: xs.drop (i + 1)) then 1 else 0) := by
        intro hg
        refine Ev_eq (ih (i + 1) (by omega) (by omega)) ?_
        have : lineBad xs[i].data.toList (decide (xs.drop (i + 1) = [])) = false := by
          unfold lineBad
          rw [decide_eq_false_iff_not]
          rintro (h1 | h1 | ⟨h1, h2⟩)
          · exact hne h1
          · exact hn2 h1
          · rw [decide_eq_false_iff_not, hrest] at h2
            exact h2 (hg h1)
        exact lb_go this
      have hsuf := suffix_iff _ hn2
      refine Ev_const (isWhole_tells _ hs) (Ev_if (fun h3 => go (fun hno => absurd (hsuf.1 h3) hno)) (fun h3 => ?_))
      rw [wid (by omega) (by omega)]
      refine Ev_if (fun h4 => go (fun _ => by omega)) (fun h4 => Ev_val ?_)
      have : lineBad xs[i].data.toList (decide (xs.drop (i + 1) = [])) = true := by
        unfold lineBad
        rw [decide_eq_true_iff]
        refine .inr (.inr ⟨fun e => h3 (hsuf.2 e), ?_⟩)
        rw [decide_eq_false_iff_not, hrest]
        omega
      exact lb_end this
    · have h2 : xs[i].data.toList = [] ∨ 10 ∈ xs[i].data.toList.dropLast := Classical.byContradiction (fun e => h (decide_eq_true e))
      have : lineBad xs[i].data.toList (decide (xs.drop (i + 1) = [])) = true := by
        unfold lineBad
        rw [decide_eq_true_iff]
        rcases h2 with h2 | h2
        · exact .inl h2
        · exact .inr (.inl h2)
      exact lb_end this
theorem join_flat (xs : List ByteArray) : Lib.join (xs.map (·.data.toList)) [] = (xs.map (·.data.toList)).flatten := by
  unfold Lib.join
  induction xs with
  | nil => rfl
  | cons x l ih =>
    cases l with
    | nil => simp [List.intercalate]
    | cons y l =>
      simp only [List.map_cons, List.intercalate, List.intersperse, List.flatten_cons, List.nil_append] at ih ⊢
      rw [ih]
theorem join_all (xs : List ByteArray) : (Lib.join (xs.map (·.data.toList)) []).length = total xs := by
  rw [join_flat]
  induction xs with
  | nil => rfl
  | cons x l ih =>
    rw [List.map_cons, List.flatten_cons, List.length_append, ih, size_data]
    rfl
theorem ilf_tells (xs : List ByteArray) (hx : ∀ x ∈ xs, x.size ≤ 9223372036854775807) (hl : xs.length ≤ 140737488355328) (hb : total xs ≤ 140737488355328) : Ev (fun k => impl_LinesFault.f k xs) (LF xs) := by
  unfold impl_LinesFault.f
  have body : ∀ b : Bool, b = decide (xs.length > 100 ∨ total xs > 2000) → Ev (fun k => impl_LinesFault.j0 k xs b) (LF xs) := by
    intro b hb2
    refine Ev.step (fun k => by rw [impl_LinesFault.j0]) ?_
    unfold LF
    rw [hb2]
    refine Ev_if (fun h => Ev_val ?_) (fun h => ?_)
    · rw [if_pos (of_decide_eq_true h)]
    · rw [if_neg (fun e => h (decide_eq_true e))]
      have := ilf_loop xs hx (by omega) _ 0 rfl (by omega)
      rw [List.drop_zero] at this
      exact this
  refine Ev_if (fun h => body _ ?_) (fun h => ?_)
  · symm
    rw [decide_eq_true_iff]
    exact .inl (by omega)
  · have hj := join_all xs
    refine Ev_const (a := ⟨(Lib.join (xs.map (·.data.toList)) []).toArray⟩) ?_ (body _ ?_)
    · unfold strings_Join.f
      exact if_pos ⟨hl, by show (Lib.join _ []).length ≤ _; omega⟩
    · rw [decide_eq_decide]
      have : ((⟨(Lib.join (xs.map (·.data.toList)) []).toArray⟩ : ByteArray).size) = total xs := by
        rw [← hj]
        simp [ByteArray.size]
      rw [this]
      omega
end Go.Proofs.Ytjngmhngedecdaa.P
end
section
namespace Go.Proofs.Ytjngmhngedecdaa.P
open Go.RowKit Go.Proofs.YtjngmhngedecdaaW.PrintWords Go.Proofs.YtjngmhngedecdaaW.PrintLast Go.Proofs.YtjngmhngedecdaaW.PrintMore
attribute [local go_sem] max2_int min2_int max_two min_two max_three min_three max_four min_four
end Go.Proofs.Ytjngmhngedecdaa.P
end
section
set_option linter.unusedVariables false
set_option linter.unusedSimpArgs false
namespace Go.Proofs.Ytjngmhngedecdaa.P
open Go.RowKit Go.Proofs.YtjngmhngedecdaaW.PrintWords Go.Proofs.YtjngmhngedecdaaW.PrintLast
def Small (xs : List ByteArray) : Prop := (∀ x ∈ xs, x.size ≤ 9223372036854775807) ∧ xs.length ≤ 1048576 ∧ total xs ≤ 1048576
theorem Small.slf {xs : List ByteArray} (h : Small xs) : Ev (fun k => spec_LinesFault.f k xs) (LF xs) := slf_tells xs h.1 (by have := h.2.1; omega) (by have := h.2.2; omega)
theorem Small.ilf {xs : List ByteArray} (h : Small xs) : Ev (fun k => impl_LinesFault.f k xs) (LF xs) := ilf_tells xs h.1 (by have := h.2.1; omega) (by have := h.2.2; omega)
theorem LF_zero {xs : List ByteArray} (h : LF xs = 0) : xs.length ≤ 100 ∧ total xs ≤ 2000 ∧ linesBad xs = false := by
  unfold LF at h
  split at h
  · omega
  · rename_i h1
    split at h
    · omega
    · rename_i h2
      exact ⟨by omega, by omega, by simpa using h2⟩
def LF2 (a b : List ByteArray) : Int := if LF a = 0 then LF b else LF a
theorem LF2_zero {a b : List ByteArray} (h : LF2 a b = 0) : LF a = 0 ∧ LF b = 0 := by
  unfold LF2 at h
  split at h
  · exact ⟨by assumption, h⟩
  · exact absurd h (by assumption)
theorem asked_tells {a b : List ByteArray} (ha : Small a) (hb : Small b) : Ev (fun k => spec_l2Asked.f k a b) (LF2 a b) := by
  unfold spec_l2Asked.f LF2
  refine Ev_call ha.slf (Ev_if (fun h => ?_) (fun h => ?_))
  · rw [if_pos h]
    exact Ev_call hb.slf (Ev.now _)
  · rw [if_neg h]
    exact Ev.now _
def firstOf : List Int → Int
  | [] => 0
  | c :: l => if c = 0 then firstOf l else c
theorem first_loop (xs : List Int) (hl : xs.length ≤ 9223372036854775807) : ∀ (d i : Nat), xs.length - i = d → i ≤ xs.length → Ev (fun k => impl_firstCode.l0 k xs (xs.length : Int) (i : Int)) (firstOf (xs.drop i)) := by
  intro d
  induction d with
  | zero =>
    intro i hd hi
    refine Ev.step (fun k => by rw [impl_firstCode.l0]) (Ev_neg (by omega) (Ev_val ?_))
    rw [List.drop_eq_nil_of_le (by omega)]
    rfl
  | succ d ih =>
    intro i hd hi
    have hlt : i < xs.length := by omega
    refine Ev.step (fun k => by rw [impl_firstCode.l0]) (Ev_pos (by omega) (Ev_pos (by omega) (Ev_pos (by omega) ?_)))
    rw [rdi_nat hlt, drop_at hlt, wsucc hlt hl, firstOf]
    refine Ev_if (fun h => ?_) (fun h => ?_)
    · rw [if_pos h]
      exact ih (i + 1) (by omega) (by omega)
    · rw [if_neg h]
      exact Ev.now _
theorem first_tells (xs : List Int) (hl : xs.length ≤ 9223372036854775807) : Ev (fun k => impl_firstCode.f k xs) (firstOf xs) := by
  unfold impl_firstCode.f
  have := first_loop xs hl _ 0 rfl (by omega)
  rw [List.drop_zero] at this
  exact this
end Go.Proofs.Ytjngmhngedecdaa.P
end
section
set_option linter.unusedVariables false
set_option linter.unusedSimpArgs false
namespace Go.Proofs.Ytjngmhngedecdaa.P
open Go.RowKit Go.Proofs.YtjngmhngedecdaaW.PrintWords Go.Proofs.YtjngmhngedecdaaW.PrintLast
theorem guard_lines (xs : List ByteArray) (hg : xs.length ≤ 9223372036854775807 ∧ ∀ x ∈ xs, x.size ≤ 9223372036854775807) (n : Int) (h0 : 0 ≤ n) (h1 : n ≤ 1048576) {F : Nat → Int → Option Bool}
    (h : ∀ r, 0 ≤ r → r ≤ n → Small xs → Ev (fun k => F k r) true) : Ev (fun k => (laws_szStringS.f k xs n).bind fun t => (if t < 0 then (some true) else F k t)) true := by
  obtain ⟨r, hr, hp⟩ := sz_tells xs hg n h0 h1
  refine Ev_call hr ?_
  rcases hp with hp | ⟨h2, h3, h4⟩
  · exact Ev_pos hp (Ev.now _)
  · exact Ev_neg (by omega) (h r h2 h3 ⟨hg.2, by omega, by omega⟩)
theorem Small.to {xs : List ByteArray} (h : Small xs) : Ev (fun k => laws_toStringS.f k xs) xs := to_tells xs (by have := h.2.1; omega)
theorem Small.eq {xs : List ByteArray} (h : Small xs) : Ev (fun k => laws_eqStringS.f k xs xs) true := eq_tells xs (by have := h.2.1; omega)
end Go.Proofs.Ytjngmhngedecdaa.P
end
section
namespace Go.Proofs.Ytjngmhngedecdaa.P
open Go.RowKit
theorem wsucc' {i : Nat} (hn : i < 9223372036854775807) : wrap64 ((i : Int) + 1) = ((i + 1 : Nat) : Int) := by
  rw [wid (by omega) (by omega)]
  omega
end Go.Proofs.Ytjngmhngedecdaa.P
end
section
namespace Go.Proofs.Ytjngmhngedecdaa.P
open Go.RowKit Go.Proofs.YtjngmhngedecdaaW.PrintWords Go.Proofs.YtjngmhngedecdaaW.PrintLast Go.Proofs.YtjngmhngedecdaaW.PrintMore
attribute [local go_sem] max2_int min2_int max_two min_two max_three min_three max_four min_four
end Go.Proofs.Ytjngmhngedecdaa.P
end
section
namespace Go.Proofs.Ytjngmhngedecdaa.P
open Go.RowKit Go.Proofs.YtjngmhngedecdaaW.PrintWords Go.Proofs.YtjngmhngedecdaaW.PrintLast Go.Proofs.YtjngmhngedecdaaW.PrintMore
attribute [local go_sem] max2_int min2_int max_two min_two max_three min_three max_four min_four
end Go.Proofs.Ytjngmhngedecdaa.P
end
section
set_option linter.unusedVariables false
namespace Go.Proofs.Ytjngmhngedecdaa.P
end Go.Proofs.Ytjngmhngedecdaa.P
end
section
set_option linter.unusedVariables false
namespace Go.Proofs.Ytjngmhngedecdaa.P
def lw (l : List ByteArray) : Nat := l.length + total l
theorem total_append (x y : List ByteArray) : total (x ++ y) = total x + total y := by
  induction x with
  | nil => simp [total]
  | cons a x ih => simp only [List.cons_append, total, ih]; omega
theorem lw_append (x y : List ByteArray) : lw (x ++ y) = lw x + lw y := by
  simp only [lw, total_append, List.length_append]
  omega
theorem lw_small {x : List ByteArray} (h : ∀ a ∈ x, a.size ≤ 9223372036854775807) (hw : lw x ≤ 1048576) : Small x := ⟨h, by unfold lw at hw; omega, by unfold lw at hw; omega⟩
end Go.Proofs.Ytjngmhngedecdaa.P
end
section
namespace Go.Proofs.Ytjngmhngedecdaa.P
open Go.RowKit Go.Proofs.YtjngmhngedecdaaW.PrintWords Go.Proofs.YtjngmhngedecdaaW.PrintLast Go.Proofs.YtjngmhngedecdaaW.PrintMore
attribute [local go_sem] max2_int min2_int max_two min_two max_three min_three max_four min_four
end Go.Proofs.Ytjngmhngedecdaa.P
end
section
namespace Go.Proofs.Ytjngmhngedecdaa.P
open Go.RowKit Go.Proofs.YtjngmhngedecdaaW.PrintWords Go.Proofs.YtjngmhngedecdaaW.PrintLast Go.Proofs.YtjngmhngedecdaaW.PrintMore
attribute [local go_sem] max2_int min2_int max_two min_two max_three min_three max_four min_four
end Go.Proofs.Ytjngmhngedecdaa.P
end
section
namespace Go.Proofs.Ytjngmhngedecdaa.P
open Go.RowKit Go.Proofs.YtjngmhngedecdaaW.PrintWords Go.Proofs.YtjngmhngedecdaaW.PrintLast Go.Proofs.YtjngmhngedecdaaW.PrintMore
attribute [local go_sem] max2_int min2_int max_two min_two max_three min_three max_four min_four
end Go.Proofs.Ytjngmhngedecdaa.P
end
section
namespace Go.Proofs.Ytjngmhngedecdaa.P
open Go.RowKit Go.Proofs.YtjngmhngedecdaaW.PrintWords Go.Proofs.YtjngmhngedecdaaW.PrintLast Go.Proofs.YtjngmhngedecdaaW.PrintMore
attribute [local go_sem] max2_int min2_int max_two min_two max_three min_three max_four min_four
end Go.Proofs.Ytjngmhngedecdaa.P
end
section
namespace Go.Proofs.Ytjngmhngedecdaa.P
open Go.RowKit Go.Proofs.YtjngmhngedecdaaW.PrintWords Go.Proofs.YtjngmhngedecdaaW.PrintLast Go.Proofs.YtjngmhngedecdaaW.PrintMore
attribute [local go_sem] max2_int min2_int max_two min_two max_three min_three max_four min_four
end Go.Proofs.Ytjngmhngedecdaa.P
end
section
namespace Go.Proofs.Ytjngmhngedecdaa.P
open Go.RowKit Go.Proofs.YtjngmhngedecdaaW.PrintWords Go.Proofs.YtjngmhngedecdaaW.PrintLast Go.Proofs.YtjngmhngedecdaaW.PrintMore
attribute [local go_sem] max2_int min2_int max_two min_two max_three min_three max_four min_four
end Go.Proofs.Ytjngmhngedecdaa.P
end
section
namespace Go.Proofs.Ytjngmhngedecdaa.P
open Go.RowKit Go.Proofs.YtjngmhngedecdaaW.PrintWords Go.Proofs.YtjngmhngedecdaaW.PrintLast Go.Proofs.YtjngmhngedecdaaW.PrintMore
attribute [local go_sem] max2_int min2_int max_two min_two max_three min_three max_four min_four
end Go.Proofs.Ytjngmhngedecdaa.P
end
section
namespace Go.Proofs.Ytjngmhngedecdaa.P
open Go.RowKit Go.Proofs.YtjngmhngedecdaaW.PrintWords Go.Proofs.YtjngmhngedecdaaW.PrintLast Go.Proofs.YtjngmhngedecdaaW.PrintMore
attribute [local go_sem] max2_int min2_int max_two min_two max_three min_three max_four min_four
end Go.Proofs.Ytjngmhngedecdaa.P
end
section
set_option linter.unusedVariables false
set_option linter.unusedSimpArgs false
namespace Go.Proofs.Ytjngmhngedecdaa.P
open Go.RowKit Go.Proofs.YtjngmhngedecdaaW.PrintWords Go.Proofs.YtjngmhngedecdaaW.PrintLast
theorem rdk_nat {l : List S58} {i : Nat} (h : i < l.length) : rd_T58 l (i : Int) = l[i] := by
  unfold rd_T58
  rw [Int.toNat_natCast, List.getD_eq_getElem?_getD, List.getElem?_eq_getElem h]
  rfl
def kw : List S58 → Nat
  | [] => 0
  | c :: l => lw c.f1 + lw c.f2 + lw c.f3 + kw l
theorem kw_at : ∀ (l : List S58) (i : Nat) (h : i < l.length), lw l[i].f1 + lw l[i].f2 + lw l[i].f3 ≤ kw l := by
  intro l
  induction l with
  | nil => intro i h; exact absurd h (by simp)
  | cons c l ih =>
    intro i h
    cases i with
    | zero => simp only [List.getElem_cons_zero, kw]; omega
    | succ i => simp only [List.getElem_cons_succ, kw]; have := ih i (by simpa using h); omega
def GK (c : S58) : Prop := (∀ a ∈ c.f1, a.size ≤ 9223372036854775807) ∧ (∀ a ∈ c.f2, a.size ≤ 9223372036854775807) ∧ (∀ a ∈ c.f3, a.size ≤ 9223372036854775807)
def SmallK (l : List S58) : Prop := (∀ c ∈ l, GK c) ∧ l.length ≤ 1048576 ∧ kw l ≤ 1048576
theorem SmallK.at {l : List S58} (h : SmallK l) {i : Nat} (hi : i < l.length) : Small l[i].f1 ∧ Small l[i].f2 ∧ Small l[i].f3 := by
  have h1 := h.1 l[i] (List.getElem_mem hi)
  have h2 := kw_at l i hi
  have h3 := h.2.2
  exact ⟨lw_small h1.1 (by omega), lw_small h1.2.1 (by omega), lw_small h1.2.2 (by omega)⟩
def sideK (n : Int) (c : S58) : List ByteArray := if n = 0 then c.f1 else if n = 1 then c.f2 else c.f3
def sides (n : Int) (l : List S58) : List ByteArray := (l.map (sideK n)).flatten
theorem sides_cons (n : Int) (c : S58) (l : List S58) : sides n (c :: l) = sideK n c ++ sides n l := rfl
def kindK (b o t : List ByteArray) : Int := if b = o ∧ b = t then 0 else if b = t then 1 else if b = o then 2 else if o = t then 3 else 4
theorem kindK_val (b o t : List ByteArray) {p q r : Bool} (hp : p = decide (b = o)) (hq : q = decide (b = t)) (hr : r = decide (o = t)) : kindK b o t = if p = true ∧ q = true then 0 else if q = true then 1 else if p = true then 2 else if r = true then 3 else 4 := by
  subst hp hq hr
  simp only [kindK, decide_eq_true_eq]
theorem skind_tells {b o t : List ByteArray} (hb : b.length ≤ 1048576) (ho : o.length ≤ 1048576) : Ev (fun k => spec_l4Kind.f k b o t) (kindK b o t) := by
  unfold spec_l4Kind.f
  refine Ev_call (ssame_tells b o (by omega)) (Ev_call (ssame_tells b t (by omega)) ?_)
  rw [kindK_val b o t rfl rfl rfl]
  generalize decide (b = o) = p
  generalize decide (b = t) = q
  refine Ev_if (fun h1 => Ev.step (fun k => by rw [spec_l4Kind.j0]) ?_) (fun h1 => Ev.step (fun k => by rw [spec_l4Kind.j0]) ?_)
  · cases q
    · refine Ev_neg (by simp) (Ev_neg (by simp) (Ev_pos h1 (Ev_val ?_)))
      simp [h1]
    · refine Ev_pos rfl (Ev_val ?_)
      simp [h1]
  · refine Ev_neg (by simp) (Ev_if (fun h2 => Ev_val ?_) (fun h2 => Ev_neg h1 (Ev_call (ssame_tells o t (by omega)) (Ev_if (fun h3 => Ev_val ?_) (fun h3 => Ev_val ?_)))))
    · simp [h1, h2]
    · simp [h1, h2, h3]
    · simp [h1, h2, h3]
theorem ikind_tells {b o t : List ByteArray} (hb : b.length ≤ 1048576) (ho : o.length ≤ 1048576) : Ev (fun k => impl_kindOf.f k b o t) (kindK b o t) := by
  unfold impl_kindOf.f
  refine Ev_call (isame_tells b o (by omega)) (Ev_call (isame_tells b t (by omega)) (Ev_call (isame_tells o t (by omega)) ?_))
  rw [kindK_val b o t rfl rfl rfl]
  generalize decide (b = o) = p
  generalize decide (b = t) = q
  generalize decide (o = t) = r
  refine Ev_if (fun h1 => Ev.step (fun k => by rw [impl_kindOf.j0]) ?_) (fun h1 => Ev.step (fun k => by rw [impl_kindOf.j0]) ?_)
  · cases q
    · refine Ev_neg (by simp) (Ev_neg (by simp) (Ev_pos h1 (Ev_val ?_)))
      simp [h1]
    · refine Ev_pos rfl (Ev_val ?_)
      simp [h1]
  · refine Ev_neg (by simp) (Ev_if (fun h2 => Ev_val ?_) (fun h2 => Ev_neg h1 (Ev_if (fun h3 => Ev_val ?_) (fun h3 => Ev_val ?_))))
    · simp [h1, h2]
    · simp [h1, h2, h3]
    · simp [h1, h2, h3]
theorem eqks_loop (xs : List S58) (hs : SmallK xs) : ∀ (d i : Nat), xs.length - i = d → i ≤ xs.length → Ev (fun k => laws_eqChunkS.l0 k xs xs (i : Int)) true := by
  have hl := hs.2.1
  intro d
  induction d with
  | zero => intro i hd hi; exact Ev.step (fun k => by rw [laws_eqChunkS.l0]) (Ev_neg (by omega) (Ev.now _))
  | succ d ih =>
    intro i hd hi
    have hlt : i < xs.length := by omega
    have hk := hs.at hlt
    refine Ev.step (fun k => by rw [laws_eqChunkS.l0]) (Ev_pos (by omega) (Ev_pos (by omega) (Ev_pos (by omega) ?_)))
    rw [rdk_nat hlt, wsucc hlt (by omega)]
    refine Ev_call (a := true) ?_ (Ev_pos rfl (ih (i + 1) (by omega) (by omega)))
    unfold laws_eqChunk.f
    exact Ev_pos rfl (Ev_call hk.1.eq (Ev_pos rfl (Ev_call hk.2.1.eq (Ev_pos rfl (Ev_call hk.2.2.eq (Ev_pos rfl (Ev.now _)))))))
theorem eqks_tells {xs : List S58} (hs : SmallK xs) : Ev (fun k => laws_eqChunkS.f k xs xs) true := by
  unfold laws_eqChunkS.f
  exact Ev_pos rfl (eqks_loop xs hs _ 0 rfl (by omega))
end Go.Proofs.Ytjngmhngedecdaa.P
end
section
namespace Go.Proofs.Ytjngmhngedecdaa.P
open Go.RowKit Go.Proofs.YtjngmhngedecdaaW.PrintWords Go.Proofs.YtjngmhngedecdaaW.PrintLast Go.Proofs.YtjngmhngedecdaaW.PrintMore
attribute [local go_sem] max2_int min2_int max_two min_two max_three min_three max_four min_four
end Go.Proofs.Ytjngmhngedecdaa.P
end
section
namespace Go.Proofs.Ytjngmhngedecdaa.P
open Go.RowKit Go.Proofs.YtjngmhngedecdaaW.PrintWords Go.Proofs.YtjngmhngedecdaaW.PrintLast Go.Proofs.YtjngmhngedecdaaW.PrintMore
attribute [local go_sem] max2_int min2_int max_two min_two max_three min_three max_four min_four
end Go.Proofs.Ytjngmhngedecdaa.P
end
section
namespace Go.Proofs.Ytjngmhngedecdaa.P
open Go.RowKit Go.Proofs.YtjngmhngedecdaaW.PrintWords Go.Proofs.YtjngmhngedecdaaW.PrintLast Go.Proofs.YtjngmhngedecdaaW.PrintMore
attribute [local go_sem] max2_int min2_int max_two min_two max_three min_three max_four min_four
end Go.Proofs.Ytjngmhngedecdaa.P
end
section
set_option linter.unusedVariables false
set_option linter.unusedSimpArgs false
namespace Go.Proofs.Ytjngmhngedecdaa.P
open Go.RowKit Go.Proofs.YtjngmhngedecdaaW.PrintWords Go.Proofs.YtjngmhngedecdaaW.PrintLast
theorem mtext_loop : ∀ (n : Nat) (s : ByteArray), n + s.size ≤ 4611686018427387904 → ∃ t, Ev (fun k => laws_markText.l0 k (n : Int) s) t := by
  intro n
  induction n using Nat.strongRecOn with
  | _ n ih =>
    intro s hs
    by_cases h : n = 0
    · subst h
      exact ⟨_, Ev.step (fun k => by rw [laws_markText.l0]) (Ev_neg (by omega) (Ev_pos (by omega) (Ev.now _)))⟩
    · have hq : Int.tdiv (n : Int) 10 = ((n / 10 : Nat) : Int) := by
        rw [Int.tdiv_eq_ediv_of_nonneg (by omega)]
        omega
      have hsz : (strOfNums [(wrap64 (48 + (Int.tmod (n : Int) 10))) % 256] ++ s).size = 1 + s.size := by
        rw [ByteArray.size_append, strOfNums_size]
        rfl
      obtain ⟨t, ht⟩ := ih (n / 10) (by omega) (strOfNums [(wrap64 (48 + (Int.tmod (n : Int) 10))) % 256] ++ s) (by rw [hsz]; omega)
      refine ⟨t, Ev.step (fun k => by rw [laws_markText.l0]) (Ev_pos (by omega) ?_)⟩
      refine Ev_const rfl ?_
      refine Ev_pos (by rw [strOfNums_size]; simp; omega) ?_
      rw [hq, wid (by omega) (by omega)]
      exact ht
theorem mtext_some (n : Nat) (hn : n ≤ 4611686018427387904) : ∃ t, Ev (fun k => laws_markText.f k (n : Int)) t := by
  unfold laws_markText.f
  by_cases h : n = 0
  · subst h
    exact ⟨_, Ev_pos (by omega) (Ev.now _)⟩
  · obtain ⟨t, ht⟩ := mtext_loop n (⟨#[]⟩ : ByteArray) (by simp [ByteArray.size]; exact hn)
    exact ⟨t, Ev_neg (by omega) ht⟩
noncomputable def mtx (n : Nat) : ByteArray := @Classical.epsilon ByteArray ⟨⟨#[]⟩⟩ (fun t => Ev (fun k => laws_markText.f k (n : Int)) t)
theorem mtx_tells (n : Nat) (hn : n ≤ 4611686018427387904) : Ev (fun k => laws_markText.f k (n : Int)) (mtx n) := @Classical.epsilon_spec _ _ (mtext_some n hn)
noncomputable def mks : Nat → Nat → List ByteArray
  | _, 0 => []
  | n, d + 1 => mtx n :: mks (n + 1) d
theorem mks_length : ∀ (d n : Nat), (mks n d).length = d
  | 0, _ => rfl
  | d + 1, n => by rw [mks, List.length_cons, mks_length d (n + 1)]
theorem mark_loop (L : Nat) (hL : L ≤ 1000000000) : ∀ (d i n : Nat) (x : List ByteArray), L - i = d → i ≤ L → x.length = L → n + d ≤ 4611686018427387904 →
    Ev (fun k => laws_markStringS.l0 k x (n : Int) (i : Int)) (((n + d : Nat) : Int), x.take i ++ mks n d) := by
  intro d
  induction d with
  | zero =>
    intro i n x hd hi hx hn
    refine Ev.step (fun k => by rw [laws_markStringS.l0]) (Ev_neg (by omega) (Ev_val ?_))
    rw [mks, List.append_nil, List.take_of_length_le (by omega)]
    rfl
  | succ d ih =>
    intro i n x hd hi hx hn
    refine Ev.step (fun k => by rw [laws_markStringS.l0]) (Ev_pos (by omega) ?_)
    refine Ev_call (mtx_tells n (by omega)) ?_
    refine Ev_pos (by omega) ?_
    rw [wsucc' (i := n) (by omega), wsucc' (i := i) (by omega), Int.toNat_natCast]
    refine Ev_eq (ih (i + 1) (n + 1) (x.set i (mtx n)) (by omega) (by omega) (by rw [List.length_set]; exact hx) (by omega)) ?_
    rw [mks, List.take_succ_eq_append_getElem (by rw [List.length_set]; omega), List.getElem_set_self, List.take_set_of_le (by omega), List.append_assoc, show n + 1 + d = n + (d + 1) by omega]
    rfl
theorem mark_tells (x : List ByteArray) (n : Nat) (hx : x.length ≤ 1000000000) (hn : n ≤ 4611686017427387904) : Ev (fun k => laws_markStringS.f k x (n : Int)) (((n + x.length : Nat) : Int), mks n x.length) := by
  unfold laws_markStringS.f
  have h := mark_loop x.length hx _ 0 n x rfl (by omega) rfl (by omega)
  rw [List.take_zero, List.nil_append, Nat.sub_zero] at h
  exact h
theorem held_loop : ∀ (d n : Nat) (p : List ByteArray), p.length + d ≤ 1000000000 → n + d ≤ 4611686018427387904 → Ev (fun k => laws_heldStringS.l0 k (p ++ mks n d) (n : Int) (p.length : Int)) ((n + d : Nat) : Int) := by
  intro d
  induction d with
  | zero =>
    intro n p hp hn
    refine Ev.step (fun k => by rw [laws_heldStringS.l0]) ?_
    exact Ev_neg (by rw [mks, List.append_nil]; omega) (Ev.now _)
  | succ d ih =>
    intro n p hp hn
    have hl : (p ++ mks n (d + 1)).length = p.length + (d + 1) := by rw [List.length_append, mks_length]
    refine Ev.step (fun k => by rw [laws_heldStringS.l0]) (Ev_pos (by omega) (Ev_pos (by omega) ?_))
    refine Ev_call (mtx_tells n (by omega)) ?_
    have hg : rdOf ByteArray.empty (p ++ mks n (d + 1)) (p.length : Int) = mtx n := by
      rw [rd_nat _ (by omega), List.getElem_append_right (by omega)]
      simp [mks]
    rw [hg, wsucc' (i := n) (by omega), wsucc' (i := p.length) (by omega)]
    refine Ev_pos rfl ?_
    have h := ih (n + 1) (p ++ [mtx n]) (by simp; omega) (by omega)
    rw [List.append_assoc, List.length_append, List.length_singleton] at h
    rw [show n + (d + 1) = n + 1 + d by omega, mks]
    exact h
theorem held_tells (n d : Nat) (hd : d ≤ 1000000000) (hn : n ≤ 4611686017427387904) : Ev (fun k => laws_heldStringS.f k (mks n d) (n : Int)) ((n + d : Nat) : Int) := by
  unfold laws_heldStringS.f
  exact held_loop d n [] (by simp; exact hd) (by omega)
end Go.Proofs.Ytjngmhngedecdaa.P
end
section
set_option linter.unusedVariables false
set_option linter.unusedSimpArgs false
namespace Go.Proofs.Ytjngmhngedecdaa.P
open Go.RowKit Go.Proofs.YtjngmhngedecdaaW.PrintWords Go.Proofs.YtjngmhngedecdaaW.PrintLast
abbrev CK := S58
def nc (c : CK) : Nat := c.f1.length + c.f2.length + c.f3.length
noncomputable def mkk : Nat → List CK → List CK
  | _, [] => []
  | n, c :: l => ⟨(n : Int), mks (n + 1) c.f1.length, mks (n + 1 + c.f1.length) c.f2.length, mks (n + 1 + c.f1.length + c.f2.length) c.f3.length⟩ :: mkk (n + 1 + c.f1.length + c.f2.length + c.f3.length) l
def ksz : Nat → List CK → Nat
  | n, [] => n
  | n, c :: l => ksz (n + 1 + c.f1.length + c.f2.length + c.f3.length) l
theorem ksz_ge : ∀ (l : List CK) (n : Nat), n ≤ ksz n l := by
  intro l
  induction l with
  | nil => intro n; exact Nat.le_refl _
  | cons c l ih => intro n; rw [ksz]; have := ih (n + 1 + c.f1.length + c.f2.length + c.f3.length); omega
theorem ksz_le : ∀ (l : List CK) (n : Nat), ksz n l ≤ n + l.length + kw l := by
  intro l
  induction l with
  | nil => intro n; simp [ksz]
  | cons c l ih =>
    intro n
    rw [ksz]
    have := ih (n + 1 + c.f1.length + c.f2.length + c.f3.length)
    simp only [List.length_cons, kw, lw]
    omega
theorem setk_mid {α : Type} (p : List α) (c v : α) (r : List α) : (p ++ c :: r).set p.length v = p ++ v :: r := by
  rw [List.set_append_right _ _ (Nat.le_refl _), Nat.sub_self]
  rfl
theorem rdk_mid (p : List CK) (c : CK) (r : List CK) : rd_T58 (p ++ c :: r) (p.length : Int) = c := by
  rw [rdk_nat (by simp)]
  simp
theorem markks_loop : ∀ (l p : List CK) (n : Nat), p.length + l.length ≤ 1048576 → (∀ c ∈ l, nc c ≤ 1048576) → ksz n l ≤ 4611686017427387000 →
    Ev (fun k => laws_markChunkS.l0 k (p ++ l) (n : Int) (p.length : Int)) (((ksz n l : Nat) : Int), p ++ mkk n l) := by
  intro l
  induction l with
  | nil =>
    intro p n hp hc hn
    refine Ev.step (fun k => by rw [laws_markChunkS.l0]) ?_
    refine Ev_neg (by rw [List.append_nil]; omega) (Ev_val ?_)
    rw [ksz, mkk]
  | cons c l ih =>
    intro p n hp hc hn
    have h0 := ksz_ge (c :: l) n
    have h1 := ksz_ge l (n + 1 + c.f1.length + c.f2.length + c.f3.length)
    rw [ksz] at hn
    have hc0 := hc c (by simp)
    unfold nc at hc0
    simp only [List.length_cons] at hp
    refine Ev.step (fun k => by rw [laws_markChunkS.l0]) ?_
    refine Ev_pos (by rw [List.length_append, List.length_cons]; omega) (Ev_pos (by omega) ?_)
    refine Ev_const rfl ?_
    rw [Int.toNat_natCast, rdk_mid, setk_mid, rdk_mid, wsucc' (i := n) (by omega), wsucc' (i := p.length) (by omega)]
    refine Ev_call (mark_tells c.f1 (n + 1) (by omega) (by omega)) (Ev_const rfl ?_)
    rw [setk_mid, rdk_mid]
    refine Ev_call (mark_tells c.f2 (n + 1 + c.f1.length) (by omega) (by omega)) (Ev_const rfl ?_)
    rw [setk_mid, rdk_mid]
    refine Ev_call (mark_tells c.f3 (n + 1 + c.f1.length + c.f2.length) (by omega) (by omega)) (Ev_const rfl ?_)
    rw [setk_mid]
    have e := ih (p ++ [⟨(n : Int), mks (n + 1) c.f1.length, mks (n + 1 + c.f1.length) c.f2.length, mks (n + 1 + c.f1.length + c.f2.length) c.f3.length⟩]) (n + 1 + c.f1.length + c.f2.length + c.f3.length) (by simp; omega) (fun x hx => hc x (by simp [hx])) (by omega)
    rw [List.append_assoc, List.length_append, List.append_assoc] at e
    exact e
theorem markks_from {l : List CK} (n : Nat) (hn : n ≤ 4611686017420000000) (h1 : l.length ≤ 1048576) (h2 : kw l ≤ 1048576) : Ev (fun k => laws_markChunkS.f k l (n : Int)) (((ksz n l : Nat) : Int), mkk n l) := by
  unfold laws_markChunkS.f
  have hc : ∀ c ∈ l, nc c ≤ 1048576 := fun c hc => by
    obtain ⟨i, hi, rfl⟩ := List.mem_iff_getElem.1 hc
    have := kw_at l i hi
    unfold nc
    unfold lw at this
    omega
  have h3 := ksz_le l n
  exact markks_loop l [] n (by simp; omega) hc (by omega)
theorem markks_tells {l : List CK} (h : SmallK l) : Ev (fun k => laws_markChunkS.f k l 1) (((ksz 1 l : Nat) : Int), mkk 1 l) := markks_from 1 (by omega) h.2.1 h.2.2
theorem heldks_loop : ∀ (l p : List CK) (n : Nat), p.length + l.length ≤ 1048576 → (∀ c ∈ l, nc c ≤ 1048576) → ksz n l ≤ 4611686017427387000 →
    Ev (fun k => laws_heldChunkS.l0 k (p ++ mkk n l) (n : Int) (p.length : Int)) ((ksz n l : Nat) : Int) := by
  intro l
  induction l with
  | nil =>
    intro p n hp hc hn
    refine Ev.step (fun k => by rw [laws_heldChunkS.l0]) ?_
    rw [mkk, ksz]
    exact Ev_neg (by rw [List.append_nil]; omega) (Ev_val rfl)
  | cons c l ih =>
    intro p n hp hc hn
    have h0 := ksz_ge (c :: l) n
    have h1 := ksz_ge l (n + 1 + c.f1.length + c.f2.length + c.f3.length)
    rw [ksz] at hn
    have hc0 := hc c (by simp)
    unfold nc at hc0
    simp only [List.length_cons] at hp
    rw [mkk]
    refine Ev.step (fun k => by rw [laws_heldChunkS.l0]) ?_
    refine Ev_pos (by rw [List.length_append, List.length_cons]; omega) (Ev_pos (by omega) ?_)
    rw [rdk_mid, wsucc' (i := n) (by omega), wsucc' (i := p.length) (by omega)]
    refine Ev_pos rfl (Ev_call (held_tells (n + 1) c.f1.length (by omega) (by omega)) (Ev_neg (by omega) ?_))
    refine Ev_call (held_tells (n + 1 + c.f1.length) c.f2.length (by omega) (by omega)) (Ev_neg (by omega) ?_)
    refine Ev_call (held_tells (n + 1 + c.f1.length + c.f2.length) c.f3.length (by omega) (by omega)) (Ev_neg (by omega) ?_)
    have e := ih (p ++ [⟨(n : Int), mks (n + 1) c.f1.length, mks (n + 1 + c.f1.length) c.f2.length, mks (n + 1 + c.f1.length + c.f2.length) c.f3.length⟩]) (n + 1 + c.f1.length + c.f2.length + c.f3.length) (by simp; omega) (fun x hx => hc x (by simp [hx])) (by omega)
    rw [List.append_assoc, List.length_append] at e
    exact e
theorem heldks_tells {l : List CK} (h1 : l.length ≤ 1048576) (h2 : kw l ≤ 1048576) : Ev (fun k => laws_heldChunkS.f k (mkk 1 l) 1) ((ksz 1 l : Nat) : Int) := by
  unfold laws_heldChunkS.f
  have hc : ∀ c ∈ l, nc c ≤ 1048576 := fun c hc => by
    obtain ⟨i, hi, rfl⟩ := List.mem_iff_getElem.1 hc
    have := kw_at l i hi
    unfold nc
    unfold lw at this
    omega
  have h3 := ksz_le l 1
  exact heldks_loop l [] 1 (by simp; omega) hc (by omega)
end Go.Proofs.Ytjngmhngedecdaa.P
end
section
set_option linter.unusedVariables false
set_option linter.unusedSimpArgs false
namespace Go.Proofs.Ytjngmhngedecdaa.P
open Go.RowKit Go.Proofs.YtjngmhngedecdaaW.PrintWords Go.Proofs.YtjngmhngedecdaaW.PrintLast
def mkc (b o t : List ByteArray) : CK := ⟨kindK b o t, b, o, t⟩
theorem copy_tells {x : List ByteArray} (h : x.length ≤ 1048576) : spec_l4Copy.f x = some x := by
  unfold spec_l4Copy.f
  show (if ([] : List ByteArray).length + x.length < 8796093022208 then _ else _) = _
  rw [if_pos (by simp; omega)]
  rfl
theorem clone_tells {x : List ByteArray} (h : x.length ≤ 1048576) : slices_CloneS.f x = some x := by
  unfold slices_CloneS.f
  rw [if_pos (by omega)]
theorem put_tells (out : List CK) {b o t : List ByteArray} (hb : b.length ≤ 1048576) (ho : o.length ≤ 1048576) (ht : t.length ≤ 1048576) (hl : out.length ≤ 1759218604440) :
    Ev (fun k => spec_l4Put.f k out b o t) (if b.length + o.length + t.length = 0 then out else out ++ [mkc b o t]) := by
  unfold spec_l4Put.f
  rw [wid (x := (b.length : Int) + (o.length : Int)) (by omega) (by omega), wid (by omega) (by omega)]
  refine Ev_if (fun h => Ev_val ?_) (fun h => ?_)
  · rw [if_pos (by omega)]
  · rw [if_neg (by omega)]
    exact Ev_call (skind_tells hb ho) (Ev_const (copy_tells hb) (Ev_const (copy_tells ho) (Ev_const (copy_tells ht) (Ev_pos (by omega) (Ev.now _)))))
theorem chunkOf_tells {b o t : List ByteArray} (hb : b.length ≤ 1048576) (ho : o.length ≤ 1048576) (ht : t.length ≤ 1048576) :
    Ev (fun k => impl_chunkOf.f k b o t) (kindK b o t, b, o, t) := by
  unfold impl_chunkOf.f
  exact Ev_call (ikind_tells hb ho) (Ev_const (clone_tells hb) (Ev_const (clone_tells ho) (Ev_const (clone_tells ht) (Ev.now _))))
end Go.Proofs.Ytjngmhngedecdaa.P
end
section
set_option linter.unusedVariables false
set_option linter.unusedSimpArgs false
namespace Go.Proofs.Ytjngmhngedecdaa.P
section
variable {α : Type} [DecidableEq α]
def lcs : List α → List α → Nat
  | [], _ => 0
  | _ :: _, [] => 0
  | x :: a, y :: b => if x = y then lcs a b + 1 else max (lcs a (y :: b)) (lcs (x :: a) b)
termination_by a b => a.length + b.length
theorem lcs_nil (b : List α) : lcs [] b = 0 := by rw [lcs]
theorem lcs_nil' (a : List α) : lcs a [] = 0 := by cases a <;> rw [lcs]
theorem lcs_cons (x y : α) (a b : List α) : lcs (x :: a) (y :: b) = if x = y then lcs a b + 1 else max (lcs a (y :: b)) (lcs (x :: a) b) := by rw [lcs]
theorem lcs_both : ∀ (n : Nat) (a b : List α), a.length + b.length = n → (∀ x, lcs a b ≤ lcs (x :: a) b) ∧ (∀ y, lcs a (y :: b) ≤ lcs a b + 1) := by
  intro n
  induction n using Nat.strongRecOn with
  | _ n ih =>
    intro a b hn
    constructor
    · intro x
      cases b with
      | nil => rw [lcs_nil', lcs_nil']; exact Nat.le_refl _
      | cons y b =>
        rw [lcs_cons]
        split
        · exact (ih (a.length + b.length) (by simp at hn; omega) a b rfl).2 y
        · exact Nat.le_max_left _ _
    · intro y
      cases a with
      | nil => rw [lcs_nil, lcs_nil]; omega
      | cons x a =>
        have h := ih (a.length + b.length) (by simp at hn; omega) a b rfl
        have h1 := h.1 x
        have h2 := h.2 y
        rw [lcs_cons]
        split <;> omega
theorem lcs_step (y : α) (a b : List α) : lcs a (y :: b) ≤ lcs a b + 1 := (lcs_both _ a b rfl).2 y
theorem lcs_comm : ∀ (n : Nat) (a b : List α), a.length + b.length = n → lcs a b = lcs b a := by
  intro n
  induction n using Nat.strongRecOn with
  | _ n ih =>
    intro a b hn
    cases a with
    | nil => rw [lcs_nil, lcs_nil']
    | cons x a =>
      cases b with
      | nil => rw [lcs_nil, lcs_nil']
      | cons y b =>
        simp only [List.length_cons] at hn
        have h0 := ih (a.length + b.length) (by omega) a b rfl
        have h1 := ih (a.length + (b.length + 1)) (by omega) a (y :: b) rfl
        have h2 := ih (a.length + 1 + b.length) (by omega) (x :: a) b rfl
        rw [lcs_cons, lcs_cons]
        by_cases h : x = y
        · rw [if_pos h, if_pos h.symm, h0]
        · rw [if_neg h, if_neg (fun e => h e.symm), h1, h2]
          exact Nat.max_comm _ _
theorem lcs_symm (a b : List α) : lcs a b = lcs b a := lcs_comm _ a b rfl
theorem lcs_step' (x : α) (a b : List α) : lcs (x :: a) b ≤ lcs a b + 1 := by rw [lcs_symm (x :: a) b, lcs_symm a b]; exact lcs_step x b a
theorem lcs_le : ∀ (a b : List α), lcs a b ≤ a.length := by
  intro a b
  induction a with
  | nil => rw [lcs_nil]; exact Nat.le_refl _
  | cons x a ih =>
    have := lcs_step' x a b
    simp only [List.length_cons]
    omega
theorem lcs_at {a b : List α} {i j : Nat} (hi : i < a.length) (hj : j < b.length) :
    lcs (a.drop i) (b.drop j) = if a[i] = b[j] then lcs (a.drop (i + 1)) (b.drop (j + 1)) + 1 else max (lcs (a.drop (i + 1)) (b.drop j)) (lcs (a.drop i) (b.drop (j + 1))) := by
  rw [drop_at hi, drop_at hj, lcs_cons]
theorem lcs_at3 {a b : List α} {i j : Nat} (hi : i < a.length) (hj : j < b.length) (h : a[i] = b[j]) :
    lcs (a.drop i) (b.drop j) = max (max (lcs (a.drop (i + 1)) (b.drop j)) (lcs (a.drop i) (b.drop (j + 1)))) (lcs (a.drop (i + 1)) (b.drop (j + 1)) + 1) := by
  have e := lcs_at hi hj
  rw [if_pos h] at e
  have h1 : lcs (a.drop (i + 1)) (b.drop j) ≤ lcs (a.drop (i + 1)) (b.drop (j + 1)) + 1 := by
    rw [drop_at hj]
    exact lcs_step _ _ _
  have h2 : lcs (a.drop i) (b.drop (j + 1)) ≤ lcs (a.drop (i + 1)) (b.drop (j + 1)) + 1 := by
    rw [drop_at hi]
    exact lcs_step' _ _ _
  omega
end
theorem getD_set {β : Type} {l : List β} {i r : Nat} {x d : β} (h : i < l.length) : (l.set i x).getD r d = if r = i then x else l.getD r d := by
  rw [List.getD_eq_getElem?_getD, List.getD_eq_getElem?_getD, List.getElem?_set]
  by_cases e : i = r
  · subst e
    simp [h]
  · rw [if_neg e, if_neg (fun z => e z.symm)]
structure TabInv {α : Type} [DecidableEq α] (a b : List α) (t : List (List Int)) (i j : Nat) : Prop where
  len : t.length = a.length + 1
  rows : ∀ r, r ≤ a.length → (t.getD r []).length = b.length + 1
  val : ∀ r c, r ≤ a.length → c ≤ b.length → (i ≤ r ∨ (r + 1 = i ∧ j ≤ c) ∨ c = b.length ∨ r = a.length) → (t.getD r []).getD c 0 = (lcs (a.drop r) (b.drop c) : Int)
theorem TabInv.start {α : Type} [DecidableEq α] (a b : List α) : TabInv a b (List.replicate (a.length + 1) (List.replicate (b.length + 1) 0)) (a.length) (b.length) := by
  have hg : ∀ r, r ≤ a.length → (List.replicate (a.length + 1) (List.replicate (b.length + 1) (0 : Int))).getD r [] = List.replicate (b.length + 1) 0 := fun r hr => by
    rw [List.getD_eq_getElem?_getD, List.getElem?_replicate, if_pos (by omega)]
    rfl
  refine ⟨by simp, fun r hr => by rw [hg r hr]; simp, fun r c hr hc h => ?_⟩
  rw [hg r hr, List.getD_eq_getElem?_getD, List.getElem?_replicate, if_pos (by omega), Option.getD_some]
  have : lcs (a.drop r) (b.drop c) = 0 := by
    have hcase : c = b.length ∨ r = a.length := by omega
    rcases hcase with e | e
    · rw [List.drop_eq_nil_of_le (show b.length ≤ c by omega), lcs_nil']
    · rw [List.drop_eq_nil_of_le (show a.length ≤ r by omega), lcs_nil]
  rw [this]
  rfl
theorem TabInv.put {α : Type} [DecidableEq α] {a b : List α} {t : List (List Int)} {i j : Nat} (h : TabInv a b t (i + 1) (j + 1)) (hi : i < a.length) (hj : j < b.length) {v : Int} (hv : v = (lcs (a.drop i) (b.drop j) : Int)) :
    TabInv a b (t.set i ((t.getD i []).set j v)) (i + 1) j := by
  have hl := h.len
  have hr0 := h.rows i (by omega)
  refine ⟨by rw [List.length_set]; exact hl, fun r hr => ?_, fun r c hr hc hcase => ?_⟩
  · rw [getD_set (by omega)]
    split
    · rw [List.length_set]; exact hr0
    · exact h.rows r hr
  · rw [getD_set (by omega)]
    by_cases e : r = i
    · subst e
      rw [if_pos rfl, getD_set (by omega)]
      by_cases e2 : c = j
      · subst e2
        rw [if_pos rfl, hv]
      · rw [if_neg e2]
        exact h.val r c hr hc (by omega)
    · rw [if_neg e]
      exact h.val r c hr hc (by omega)
theorem TabInv.next {α : Type} [DecidableEq α] {a b : List α} {t : List (List Int)} {i : Nat} (h : TabInv a b t (i + 1) 0) : TabInv a b t i b.length :=
  ⟨h.len, h.rows, fun r c hr hc hcase => h.val r c hr hc (by omega)⟩
theorem TabInv.all {α : Type} [DecidableEq α] {a b : List α} {t : List (List Int)} {j : Nat} (h : TabInv a b t 0 j) {r c : Nat} (hr : r ≤ a.length) (hc : c ≤ b.length) : (t.getD r []).getD c 0 = (lcs (a.drop r) (b.drop c) : Int) := h.val r c hr hc (.inl (by omega))
end Go.Proofs.Ytjngmhngedecdaa.P
end
section
set_option linter.unusedVariables false
set_option linter.unusedSimpArgs false
namespace Go.Proofs.Ytjngmhngedecdaa.P
open Go.RowKit Go.Proofs.YtjngmhngedecdaaW.PrintWords Go.Proofs.YtjngmhngedecdaaW.PrintLast
theorem rdl_nat (t : List (List Int)) (i : Nat) : rd_L13 t (i : Int) = t.getD i [] := by
  unfold rd_L13
  rw [Int.toNat_natCast]
theorem rd_getD (t : List Int) (i : Nat) : rd t (i : Int) = t.getD i 0 := by
  unfold rd
  rw [Int.toNat_natCast]
theorem max_tells (x y : Int) : spec_l1Max.f x y = some (max x y) := by
  unfold spec_l1Max.f
  split
  · rw [Int.max_def, if_neg (by omega)]
  · rw [Int.max_def, if_pos (by omega)]
theorem mx_max (x y : Int) : mx x y = max x y := by
  unfold mx
  split
  · rw [Int.max_def, if_pos (by omega)]
  · rw [Int.max_def]
    split <;> omega
theorem stab2 (a b : List ByteArray) (ha : a.length ≤ 1000000) (hb : b.length ≤ 1000000) (i : Nat) (hi : i < a.length) (K : List (List Int) → Prop)
    (hK : ∀ t, TabInv a b t (i + 1) 0 → ∃ t', K t' ∧ Ev (fun k => spec_l2Table.l1 k a b t (wrap64 ((i : Int) - 1))) t') : ∀ (j : Nat) (t : List (List Int)), j ≤ b.length → TabInv a b t (i + 1) j →
    ∃ t', K t' ∧ Ev (fun k => spec_l2Table.l2 k a b t (i : Int) ((j : Int) - 1)) t' := by
  intro j
  induction j with
  | zero =>
    intro t hj ht
    obtain ⟨t', h1, h2⟩ := hK t ht
    exact ⟨t', h1, Ev.step (fun k => by rw [spec_l2Table.l2]) (Ev_neg (by omega) h2)⟩
  | succ j ih =>
    intro t hj ht
    have hl := ht.len
    have hri := ht.rows i (by omega)
    have hri1 := ht.rows (i + 1) (by omega)
    have e1 := ht.val (i + 1) j (by omega) (by omega) (.inl (by omega))
    have e2 := ht.val i (j + 1) (by omega) (by omega) (by omega)
    have e3 := ht.val (i + 1) (j + 1) (by omega) (by omega) (.inl (by omega))
    have hat := lcs_at (a := a) (b := b) hi (show j < b.length by omega)
    have hb1 := lcs_le (a.drop i) (b.drop j)
    have hb3 := lcs_le (a.drop (i + 1)) (b.drop (j + 1))
    rw [List.length_drop] at hb1 hb3
    obtain ⟨t', h1, h2⟩ := ih (t.set i ((t.getD i []).set j ((lcs (a.drop i) (b.drop j) : Nat) : Int))) (by omega) (ht.put hi (by omega) rfl)
    refine ⟨t', h1, Ev.step (fun k => by rw [spec_l2Table.l2]) ?_⟩
    rw [wsucc' (i := i) (by omega), rdl_nat, rdl_nat, show ((((j + 1 : Nat) : Int)) - 1) = (j : Int) by omega, wsucc' (i := j) (by omega), rd_getD, rd_getD, rd_getD, rd_nat _ hi, rd_nat _ (show j < b.length by omega), e1, e2, e3, Int.toNat_natCast, Int.toNat_natCast]
    refine Ev_pos (by omega) (Ev_pos (by omega) (Ev_pos (by omega) (Ev_pos (by omega) (Ev_pos (by omega) (Ev_pos (by omega) (Ev_pos (by omega) (Ev_pos (by omega) (Ev_pos (by omega) (Ev_const (max_tells _ _) (Ev_pos (by omega) (Ev_pos (by omega) ?_)))))))))))
    refine Ev_if (fun h => ?_) (fun h => ?_)
    · have hx := data_eq.1 h
      have h3 := lcs_at3 (a := a) (b := b) hi (show j < b.length by omega) hx
      rw [wid (by omega) (by omega)]
      refine Ev_pos (by omega) (Ev_const (max_tells _ _) (Ev_pos (by omega) ?_))
      rw [show max (max ((lcs (a.drop (i + 1)) (b.drop j) : Nat) : Int) ((lcs (a.drop i) (b.drop (j + 1)) : Nat) : Int)) (1 + ((lcs (a.drop (i + 1)) (b.drop (j + 1)) : Nat) : Int)) = ((lcs (a.drop i) (b.drop j) : Nat) : Int) by omega, wid (by omega) (by omega)]
      exact h2
    · have hx : ¬ a[i] = b[j] := fun e => h (data_eq.2 e)
      rw [if_neg hx] at hat
      refine Ev_pos (by omega) ?_
      rw [show max ((lcs (a.drop (i + 1)) (b.drop j) : Nat) : Int) ((lcs (a.drop i) (b.drop (j + 1)) : Nat) : Int) = ((lcs (a.drop i) (b.drop j) : Nat) : Int) by omega, wid (by omega) (by omega)]
      exact h2
theorem stab1 (a b : List ByteArray) (ha : a.length ≤ 1000000) (hb : b.length ≤ 1000000) : ∀ (i : Nat) (t : List (List Int)), i ≤ a.length → TabInv a b t i b.length → ∃ t', TabInv a b t' 0 b.length ∧ Ev (fun k => spec_l2Table.l1 k a b t ((i : Int) - 1)) t' := by
  intro i
  induction i with
  | zero =>
    intro t hi ht
    exact ⟨t, ht, Ev.step (fun k => by rw [spec_l2Table.l1]) (Ev_neg (by omega) (Ev.now _))⟩
  | succ i ih =>
    intro t hi ht
    obtain ⟨t', h1, h2⟩ := stab2 a b ha hb i (by omega) (fun t' => TabInv a b t' 0 b.length) (fun t ht => by
      obtain ⟨t', h1, h2⟩ := ih t (by omega) ht.next
      exact ⟨t', h1, by rw [wid (by omega) (by omega)]; exact h2⟩) b.length t (Nat.le_refl _) ht
    refine ⟨t', h1, Ev.step (fun k => by rw [spec_l2Table.l1]) (Ev_pos (by omega) ?_)⟩
    rw [wid (x := (b.length : Int) - 1) (by omega) (by omega), show (((i + 1 : Nat) : Int) - 1) = (i : Int) by omega]
    exact h2
theorem stab0 (a b : List ByteArray) (ha : a.length ≤ 1000000) (hb : b.length ≤ 1000000) (t' : List (List Int)) (h : Ev (fun k => spec_l2Table.l1 k a b (List.replicate (a.length + 1) (List.replicate (b.length + 1) 0)) ((a.length : Int) - 1)) t') :
    ∀ (d i : Nat), a.length + 1 - i = d → i ≤ a.length + 1 → Ev (fun k => spec_l2Table.l0 k a b (List.replicate i (List.replicate (b.length + 1) 0)) (i : Int)) t' := by
  intro d
  induction d with
  | zero =>
    intro i hd hi
    have : i = a.length + 1 := by omega
    subst this
    refine Ev.step (fun k => by rw [spec_l2Table.l0]) (Ev_neg (by omega) ?_)
    rw [wid (by omega) (by omega)]
    exact h
  | succ d ih =>
    intro i hd hi
    refine Ev.step (fun k => by rw [spec_l2Table.l0]) (Ev_pos (by omega) ?_)
    rw [wsucc' (i := b.length) (by omega), wsucc' (i := i) (by omega), Int.toNat_natCast]
    refine Ev_pos (by omega) (Ev_pos (by omega) (Ev_pos (by rw [List.length_replicate]; omega) ?_))
    rw [← List.replicate_succ']
    exact ih (i + 1) (by omega) (by omega)
theorem stab_tells (a b : List ByteArray) (ha : a.length ≤ 1000000) (hb : b.length ≤ 1000000) : ∃ t, TabInv a b t 0 b.length ∧ Ev (fun k => spec_l2Table.f k a b) t := by
  obtain ⟨t, h1, h2⟩ := stab1 a b ha hb a.length _ (Nat.le_refl _) (TabInv.start a b)
  refine ⟨t, h1, ?_⟩
  unfold spec_l2Table.f
  exact stab0 a b ha hb t h2 _ 0 rfl (by omega)
theorem itab2 (a b : List ByteArray) (ha : a.length ≤ 1000000) (hb : b.length ≤ 1000000) (i : Nat) (hi : i < a.length) (K : List (List Int) → Prop)
    (hK : ∀ t, TabInv a b t (i + 1) 0 → ∃ t', K t' ∧ Ev (fun k => impl_commons.l1 k a b t (wrap64 ((i : Int) - 1))) t') : ∀ (j : Nat) (t : List (List Int)), j ≤ b.length → TabInv a b t (i + 1) j →
    ∃ t', K t' ∧ Ev (fun k => impl_commons.l2 k a b t (i : Int) ((j : Int) - 1)) t' := by
  intro j
  induction j with
  | zero =>
    intro t hj ht
    obtain ⟨t', h1, h2⟩ := hK t ht
    exact ⟨t', h1, Ev.step (fun k => by rw [impl_commons.l2]) (Ev_neg (by omega) h2)⟩
  | succ j ih =>
    intro t hj ht
    have hl := ht.len
    have hri := ht.rows i (by omega)
    have hri1 := ht.rows (i + 1) (by omega)
    have e1 := ht.val (i + 1) j (by omega) (by omega) (.inl (by omega))
    have e2 := ht.val i (j + 1) (by omega) (by omega) (by omega)
    have e3 := ht.val (i + 1) (j + 1) (by omega) (by omega) (.inl (by omega))
    have hat := lcs_at (a := a) (b := b) hi (show j < b.length by omega)
    have hb1 := lcs_le (a.drop i) (b.drop j)
    have hb3 := lcs_le (a.drop (i + 1)) (b.drop (j + 1))
    rw [List.length_drop] at hb1 hb3
    obtain ⟨t', h1, h2⟩ := ih (t.set i ((t.getD i []).set j ((lcs (a.drop i) (b.drop j) : Nat) : Int))) (by omega) (ht.put hi (by omega) rfl)
    refine ⟨t', h1, Ev.step (fun k => by rw [impl_commons.l2]) ?_⟩
    rw [wsucc' (i := i) (by omega), rdl_nat, rdl_nat, show ((((j + 1 : Nat) : Int)) - 1) = (j : Int) by omega, wsucc' (i := j) (by omega), rd_getD, rd_getD, e1, e2, Int.toNat_natCast, Int.toNat_natCast, mx_max]
    refine Ev_pos (by omega) (Ev_pos (by omega) (Ev_pos (by omega) (Ev_pos (by omega) (Ev_pos (by omega) (Ev_pos (by omega) (Ev_pos (by omega) (Ev_pos (by omega) (Ev_pos (by omega) (Ev_pos (by omega) ?_)))))))))
    refine Ev_const rfl ?_
    rw [rd_nat _ hi, rd_nat _ (show j < b.length by omega), rdl_nat, rdl_nat, getD_set (by omega), getD_set (by omega), if_neg (by omega), if_pos rfl, rd_getD, e3]
    refine Ev_pos (by omega) (Ev_pos (by omega) ?_)
    refine Ev_if (fun h => ?_) (fun h => ?_)
    · have hx := data_eq.1 h
      rw [if_pos hx] at hat
      refine Ev_pos (by omega) (Ev_pos (by rw [List.length_set]; omega) ?_)
      rw [wid (by omega) (by omega), wid (by omega) (by omega), List.set_set, List.set_set, show ((lcs (a.drop (i + 1)) (b.drop (j + 1)) : Nat) : Int) + 1 = ((lcs (a.drop i) (b.drop j) : Nat) : Int) by omega]
      exact h2
    · have hx : ¬ a[i] = b[j] := fun e => h (data_eq.2 e)
      rw [if_neg hx] at hat
      rw [show max ((lcs (a.drop (i + 1)) (b.drop j) : Nat) : Int) ((lcs (a.drop i) (b.drop (j + 1)) : Nat) : Int) = ((lcs (a.drop i) (b.drop j) : Nat) : Int) by omega, wid (by omega) (by omega)]
      exact h2
theorem itab1 (a b : List ByteArray) (ha : a.length ≤ 1000000) (hb : b.length ≤ 1000000) : ∀ (i : Nat) (t : List (List Int)), i ≤ a.length → TabInv a b t i b.length → ∃ t', TabInv a b t' 0 b.length ∧ Ev (fun k => impl_commons.l1 k a b t ((i : Int) - 1)) t' := by
  intro i
  induction i with
  | zero =>
    intro t hi ht
    exact ⟨t, ht, Ev.step (fun k => by rw [impl_commons.l1]) (Ev_neg (by omega) (Ev.now _))⟩
  | succ i ih =>
    intro t hi ht
    obtain ⟨t', h1, h2⟩ := itab2 a b ha hb i (by omega) (fun t' => TabInv a b t' 0 b.length) (fun t ht => by
      obtain ⟨t', h1, h2⟩ := ih t (by omega) ht.next
      exact ⟨t', h1, by rw [wid (by omega) (by omega)]; exact h2⟩) b.length t (Nat.le_refl _) ht
    refine ⟨t', h1, Ev.step (fun k => by rw [impl_commons.l1]) (Ev_pos (by omega) ?_)⟩
    rw [wid (x := (b.length : Int) - 1) (by omega) (by omega), show (((i + 1 : Nat) : Int) - 1) = (i : Int) by omega]
    exact h2
theorem set_rep {β : Type} (z y : β) (i d : Nat) : (List.replicate i z ++ List.replicate (d + 1) y).set i z = List.replicate (i + 1) z ++ List.replicate d y := by
  rw [List.set_append_right _ _ (by simp), List.length_replicate, Nat.sub_self, List.replicate_succ (n := d), List.set_cons_zero, List.replicate_succ', List.append_assoc]
  rfl
theorem itab0 (a b : List ByteArray) (ha : a.length ≤ 1000000) (hb : b.length ≤ 1000000) (t' : List (List Int)) (h : Ev (fun k => impl_commons.l1 k a b (List.replicate (a.length + 1) (List.replicate (b.length + 1) 0)) ((a.length : Int) - 1)) t') :
    ∀ (d i : Nat), a.length + 1 - i = d → i ≤ a.length + 1 → Ev (fun k => impl_commons.l0 k a b (List.replicate i (List.replicate (b.length + 1) 0) ++ List.replicate d []) ((a.length + 1 : Nat) : Int) (i : Int)) t' := by
  intro d
  induction d with
  | zero =>
    intro i hd hi
    have : i = a.length + 1 := by omega
    subst this
    refine Ev.step (fun k => by rw [impl_commons.l0]) (Ev_neg (by omega) ?_)
    rw [wid (by omega) (by omega), List.replicate_zero, List.append_nil]
    exact h
  | succ d ih =>
    intro i hd hi
    refine Ev.step (fun k => by rw [impl_commons.l0]) (Ev_pos (by omega) ?_)
    rw [wsucc' (i := b.length) (by omega), wsucc' (i := i) (by omega), Int.toNat_natCast, Int.toNat_natCast]
    refine Ev_pos (by omega) (Ev_pos (by omega) (Ev_pos (by omega) (Ev_pos (by simp; omega) ?_)))
    rw [set_rep]
    exact ih (i + 1) (by omega) (by omega)
theorem itab_tells (a b : List ByteArray) (ha : a.length ≤ 1000000) (hb : b.length ≤ 1000000) : ∃ t, TabInv a b t 0 b.length ∧ Ev (fun k => impl_commons.f k a b) t := by
  obtain ⟨t, h1, h2⟩ := itab1 a b ha hb a.length _ (Nat.le_refl _) (TabInv.start a b)
  refine ⟨t, h1, ?_⟩
  unfold impl_commons.f
  rw [wsucc' (i := a.length) (by omega), Int.toNat_natCast]
  refine Ev_pos (by omega) (Ev_pos (by omega) (Ev_const rfl ?_))
  rw [List.length_replicate]
  have h := itab0 a b ha hb t h2 _ 0 rfl (by omega)
  rw [List.replicate_zero, List.nil_append, Nat.sub_zero] at h
  exact h
end Go.Proofs.Ytjngmhngedecdaa.P
end
section
set_option linter.unusedVariables false
set_option linter.unusedSimpArgs false
namespace Go.Proofs.Ytjngmhngedecdaa.P
open Go.RowKit Go.Proofs.YtjngmhngedecdaaW.PrintWords Go.Proofs.YtjngmhngedecdaaW.PrintLast
def mt : List ByteArray → List ByteArray → Nat → Nat → List Int × List Int
  | [], _, _, _ => ([], [])
  | _ :: _, [], _, _ => ([], [])
  | x :: a, y :: b, i, j => if x = y then ((i : Int) :: (mt a b (i + 1) (j + 1)).1, (j : Int) :: (mt a b (i + 1) (j + 1)).2) else if lcs (x :: a) b ≤ lcs a (y :: b) then mt a (y :: b) (i + 1) j else mt (x :: a) b i (j + 1)
termination_by a b => a.length + b.length
theorem mt_nil (b : List ByteArray) (i j : Nat) : mt [] b i j = ([], []) := by rw [mt]
theorem mt_nil' (a : List ByteArray) (i j : Nat) : mt a [] i j = ([], []) := by cases a <;> rw [mt]
theorem mt_eq {a b : List ByteArray} {i j : Nat} (hi : i < a.length) (hj : j < b.length) (h : a[i] = b[j]) (p q : Nat) :
    mt (a.drop i) (b.drop j) p q = ((p : Int) :: (mt (a.drop (i + 1)) (b.drop (j + 1)) (p + 1) (q + 1)).1, (q : Int) :: (mt (a.drop (i + 1)) (b.drop (j + 1)) (p + 1) (q + 1)).2) := by
  rw [drop_at hi, drop_at hj, mt, if_pos h]
theorem mt_a {a b : List ByteArray} {i j : Nat} (hi : i < a.length) (hj : j < b.length) (h : ¬ a[i] = b[j]) (h2 : lcs (a.drop i) (b.drop (j + 1)) ≤ lcs (a.drop (i + 1)) (b.drop j)) (p q : Nat) :
    mt (a.drop i) (b.drop j) p q = mt (a.drop (i + 1)) (b.drop j) (p + 1) q := by
  rw [drop_at hi, drop_at hj] at *
  rw [mt, if_neg h, if_pos h2]
theorem mt_b {a b : List ByteArray} {i j : Nat} (hi : i < a.length) (hj : j < b.length) (h : ¬ a[i] = b[j]) (h2 : ¬ lcs (a.drop i) (b.drop (j + 1)) ≤ lcs (a.drop (i + 1)) (b.drop j)) (p q : Nat) :
    mt (a.drop i) (b.drop j) p q = mt (a.drop i) (b.drop (j + 1)) p (q + 1) := by
  rw [drop_at hi, drop_at hj] at *
  rw [mt, if_neg h, if_neg h2]
def Inc (A B : Int) : List Int → List Int → Int → Int → Prop
  | [], [], i, j => i ≤ A ∧ j ≤ B
  | u :: us, v :: vs, i, j => i ≤ u ∧ j ≤ v ∧ Inc A B us vs (u + 1) (v + 1)
  | [], _ :: _, _, _ => False
  | _ :: _, [], _, _ => False
theorem mt_inc : ∀ (n : Nat) (a b : List ByteArray) (i j : Nat) (i' j' : Int), a.length + b.length = n → i' ≤ i → j' ≤ j → Inc ((i + a.length : Nat) : Int) ((j + b.length : Nat) : Int) (mt a b i j).1 (mt a b i j).2 i' j' := by
  intro n
  induction n using Nat.strongRecOn with
  | _ n ih =>
    intro a b i j i' j' hn hi hj
    cases a with
    | nil =>
      rw [mt_nil]
      exact ⟨by simp only [List.length_nil]; omega, by omega⟩
    | cons x a =>
      cases b with
      | nil =>
        rw [mt_nil']
        exact ⟨by omega, by simp only [List.length_nil]; omega⟩
      | cons y b =>
        simp only [List.length_cons] at hn ⊢
        rw [mt]
        split
        · have := ih _ (by omega) a b (i + 1) (j + 1) ((i : Int) + 1) ((j : Int) + 1) rfl (by omega) (by omega)
          rw [show i + (a.length + 1) = i + 1 + a.length by omega, show j + (b.length + 1) = j + 1 + b.length by omega]
          exact ⟨hi, hj, this⟩
        · split
          · have := ih _ (by simp only [List.length_cons]; omega) a (y :: b) (i + 1) j i' j' rfl (by omega) (by omega)
            rw [show i + (a.length + 1) = i + 1 + a.length by omega]
            exact this
          · have := ih _ (by simp only [List.length_cons]; omega) (x :: a) b i (j + 1) i' j' rfl (by omega) (by omega)
            rw [show j + (b.length + 1) = j + 1 + b.length by omega]
            exact this
theorem mt_len : ∀ (n : Nat) (a b : List ByteArray) (i j : Nat), a.length + b.length = n → (mt a b i j).1.length = lcs a b ∧ (mt a b i j).2.length = lcs a b := by
  intro n
  induction n using Nat.strongRecOn with
  | _ n ih =>
    intro a b i j hn
    cases a with
    | nil => rw [mt_nil, lcs_nil]; exact ⟨rfl, rfl⟩
    | cons x a =>
      cases b with
      | nil => rw [mt_nil', lcs_nil']; exact ⟨rfl, rfl⟩
      | cons y b =>
        simp only [List.length_cons] at hn
        rw [mt, lcs_cons]
        split
        · have := ih _ (by omega) a b (i + 1) (j + 1) rfl
          exact ⟨by rw [List.length_cons, this.1], by rw [List.length_cons, this.2]⟩
        · split
          · rename_i h1 h2
            have := ih _ (by simp only [List.length_cons]; omega) a (y :: b) (i + 1) j rfl
            rw [Nat.max_eq_left h2]
            exact this
          · rename_i h1 h2
            have := ih _ (by simp only [List.length_cons]; omega) (x :: a) b i (j + 1) rfl
            rw [Nat.max_eq_right (by omega)]
            exact this
theorem spec_l2Match_loop (a b : List ByteArray) (ha : a.length ≤ 1000000) (hb : b.length ≤ 1000000) (t : List (List Int)) (ht : TabInv a b t 0 b.length) : ∀ (n i j : Nat) (x y : List Int), (a.length - i) + (b.length - j) = n → i ≤ a.length → j ≤ b.length → x.length ≤ i → y.length ≤ j →
    Ev (fun k => spec_l2Match.l0 k a b t x y (i : Int) (j : Int)) (x ++ (mt (a.drop i) (b.drop j) i j).1, y ++ (mt (a.drop i) (b.drop j) i j).2) := by
  intro n
  induction n using Nat.strongRecOn with
  | _ n ih =>
    intro i j x y hn hi hj hx hy
    by_cases h : i < a.length ∧ j < b.length
    · obtain ⟨h1, h2⟩ := h
      have hl := ht.len
      have r0 := ht.rows i (by omega)
      have r1 := ht.rows (i + 1) (by omega)
      have v1 := ht.all (r := i + 1) (c := j) (by omega) (by omega)
      have v2 := ht.all (r := i) (c := j + 1) (by omega) (by omega)
      refine Ev.step (fun k => by rw [spec_l2Match.l0]) (Ev_pos (by omega) ?_)
      rw [show (decide ((j : Int) < (b.length : Int))) = true from decide_eq_true (by omega)]
      refine Ev.step (fun k => by rw [spec_l2Match.j1]) (Ev_pos rfl (Ev_pos (by omega) (Ev_pos (by omega) (Ev_pos (by omega) (Ev_pos (by omega) ?_)))))
      rw [rd_nat _ h1, rd_nat _ h2, wsucc' (i := i) (by omega), wsucc' (i := j) (by omega), rdl_nat, rdl_nat, rd_getD, rd_getD, v1, v2]
      refine Ev_if (fun h => ?_) (fun h => ?_)
      · rw [mt_eq h1 h2 (data_eq.1 h)]
        refine Ev_pos (by omega) (Ev_pos (by omega) ?_)
        have e := ih _ (by omega) (i + 1) (j + 1) (x ++ [(i : Int)]) (y ++ [(j : Int)]) rfl (by omega) (by omega) (by simp; omega) (by simp; omega)
        rw [List.append_assoc, List.append_assoc] at e
        exact e
      · have hne : ¬ a[i] = b[j] := fun e => h (data_eq.2 e)
        refine Ev_pos (by omega) (Ev_pos (by omega) (Ev_pos (by omega) (Ev_pos (by omega) (Ev_pos (by omega) (Ev_pos (by omega) ?_)))))
        refine Ev_if (fun h3 => ?_) (fun h3 => ?_)
        · rw [mt_a h1 h2 hne (by omega)]
          exact ih _ (by omega) (i + 1) j x y rfl (by omega) (by omega) (by omega) (by omega)
        · rw [mt_b h1 h2 hne (by omega)]
          exact ih _ (by omega) i (j + 1) x y rfl (by omega) (by omega) (by omega) (by omega)
    · have hm : mt (a.drop i) (b.drop j) i j = ([], []) := by
        by_cases h1 : i < a.length
        · rw [List.drop_eq_nil_of_le (show b.length ≤ j by omega), mt_nil']
        · rw [List.drop_eq_nil_of_le (show a.length ≤ i by omega), mt_nil]
      rw [hm, List.append_nil, List.append_nil]
      have e : Ev (fun k => spec_l2Match.j1 k a b t x y (i : Int) (j : Int) false) (x, y) := Ev.step (fun k => by rw [spec_l2Match.j1]) (Ev_neg (by simp) (Ev.now _))
      refine Ev.step (fun k => by rw [spec_l2Match.l0]) (Ev_if (fun h1 => ?_) (fun h1 => e))
      rw [show (decide ((j : Int) < (b.length : Int))) = false from decide_eq_false (by omega)]
      exact e
theorem spec_l2Match_tells (a b : List ByteArray) (ha : a.length ≤ 1000000) (hb : b.length ≤ 1000000) : Ev (fun k => spec_l2Match.f k a b) (mt a b 0 0) := by
  obtain ⟨t, h1, h2⟩ := stab_tells a b ha hb
  unfold spec_l2Match.f
  refine Ev_call h2 ?_
  have e := spec_l2Match_loop a b ha hb t h1 _ 0 0 [] [] rfl (by omega) (by omega) (by simp) (by simp)
  rw [List.drop_zero, List.drop_zero, List.nil_append, List.nil_append] at e
  exact e
theorem impl_match_loop (a b : List ByteArray) (ha : a.length ≤ 1000000) (hb : b.length ≤ 1000000) (t : List (List Int)) (ht : TabInv a b t 0 b.length) : ∀ (n i j : Nat) (x y : List Int), (a.length - i) + (b.length - j) = n → i ≤ a.length → j ≤ b.length → x.length ≤ i → y.length ≤ j →
    Ev (fun k => impl_match.l0 k a b t x y (i : Int) (j : Int)) (x ++ (mt (a.drop i) (b.drop j) i j).1, y ++ (mt (a.drop i) (b.drop j) i j).2) := by
  intro n
  induction n using Nat.strongRecOn with
  | _ n ih =>
    intro i j x y hn hi hj hx hy
    by_cases h : i < a.length ∧ j < b.length
    · obtain ⟨h1, h2⟩ := h
      have hl := ht.len
      have r0 := ht.rows i (by omega)
      have r1 := ht.rows (i + 1) (by omega)
      have v1 := ht.all (r := i + 1) (c := j) (by omega) (by omega)
      have v2 := ht.all (r := i) (c := j + 1) (by omega) (by omega)
      refine Ev.step (fun k => by rw [impl_match.l0]) (Ev_pos (by omega) ?_)
      rw [show (decide ((j : Int) < (b.length : Int))) = true from decide_eq_true (by omega)]
      refine Ev.step (fun k => by rw [impl_match.j1]) (Ev_pos rfl (Ev_pos (by omega) (Ev_pos (by omega) (Ev_pos (by omega) (Ev_pos (by omega) ?_)))))
      rw [rd_nat _ h1, rd_nat _ h2, wsucc' (i := i) (by omega), wsucc' (i := j) (by omega), rdl_nat, rdl_nat, rd_getD, rd_getD, v1, v2]
      refine Ev_if (fun h => ?_) (fun h => ?_)
      · rw [mt_eq h1 h2 (data_eq.1 h)]
        refine Ev_pos (by omega) (Ev_pos (by omega) ?_)
        have e := ih _ (by omega) (i + 1) (j + 1) (x ++ [(i : Int)]) (y ++ [(j : Int)]) rfl (by omega) (by omega) (by simp; omega) (by simp; omega)
        rw [List.append_assoc, List.append_assoc] at e
        exact e
      · have hne : ¬ a[i] = b[j] := fun e => h (data_eq.2 e)
        refine Ev_pos (by omega) (Ev_pos (by omega) (Ev_pos (by omega) (Ev_pos (by omega) (Ev_pos (by omega) (Ev_pos (by omega) ?_)))))
        refine Ev_if (fun h3 => ?_) (fun h3 => ?_)
        · rw [mt_a h1 h2 hne (by omega)]
          exact ih _ (by omega) (i + 1) j x y rfl (by omega) (by omega) (by omega) (by omega)
        · rw [mt_b h1 h2 hne (by omega)]
          exact ih _ (by omega) i (j + 1) x y rfl (by omega) (by omega) (by omega) (by omega)
    · have hm : mt (a.drop i) (b.drop j) i j = ([], []) := by
        by_cases h1 : i < a.length
        · rw [List.drop_eq_nil_of_le (show b.length ≤ j by omega), mt_nil']
        · rw [List.drop_eq_nil_of_le (show a.length ≤ i by omega), mt_nil]
      rw [hm, List.append_nil, List.append_nil]
      have e : Ev (fun k => impl_match.j1 k a b t x y (i : Int) (j : Int) false) (x, y) := Ev.step (fun k => by rw [impl_match.j1]) (Ev_neg (by simp) (Ev.now _))
      refine Ev.step (fun k => by rw [impl_match.l0]) (Ev_if (fun h1 => ?_) (fun h1 => e))
      rw [show (decide ((j : Int) < (b.length : Int))) = false from decide_eq_false (by omega)]
      exact e
theorem impl_match_tells (a b : List ByteArray) (ha : a.length ≤ 1000000) (hb : b.length ≤ 1000000) : Ev (fun k => impl_match.f k a b) (mt a b 0 0) := by
  obtain ⟨t, h1, h2⟩ := itab_tells a b ha hb
  unfold impl_match.f
  refine Ev_call h2 ?_
  have e := impl_match_loop a b ha hb t h1 _ 0 0 [] [] rfl (by omega) (by omega) (by simp) (by simp)
  rw [List.drop_zero, List.drop_zero, List.nil_append, List.nil_append] at e
  exact e
end Go.Proofs.Ytjngmhngedecdaa.P
end
section
set_option linter.unusedVariables false
set_option linter.unusedSimpArgs false
namespace Go.Proofs.Ytjngmhngedecdaa.P
open Go.RowKit Go.Proofs.YtjngmhngedecdaaW.PrintWords Go.Proofs.YtjngmhngedecdaaW.PrintLast
def pg (p : List Int) (k : Nat) : Int := p.getD k (-1)
theorem pg_at {p : List Int} {k : Nat} (h : k < p.length) : pg p k = p[k] := by
  unfold pg
  rw [List.getD_eq_getElem?_getD, List.getElem?_eq_getElem h]
  rfl
theorem rd_pg {p : List Int} {k : Nat} (h : k < p.length) : rd p (k : Int) = pg p k := by rw [rdi_nat h, pg_at h]
theorem rd_ext1 {p : List Int} {y : Int} {k : Nat} (h : k < p.length) : rd (p ++ [y]) (k : Int) = pg p k := by
  rw [rdi_nat (by simp; omega), pg_at h, List.getElem_append_left h]
theorem rd_ext2 {p : List Int} {y : Int} {n : Nat} (h : p.length = n) : rd (p ++ [y]) (n : Int) = y := by
  subst h
  rw [rdi_nat (by simp)]
  simp
def pset : List Int → List Int → List Int → List Int
  | o, [], _ => o
  | o, _ :: _, [] => o
  | o, u :: us, v :: vs => pset (o.set u.toNat v) us vs
structure PI (p : List Int) (n m : Nat) : Prop where
  len : p.length = n
  rng : ∀ k, k < n → -1 ≤ pg p k ∧ pg p k < (m : Int)
  inc : ∀ k k', k < k' → k' < n → 0 ≤ pg p k → 0 ≤ pg p k' → pg p k < pg p k'
theorem inc_le {A B : Int} : ∀ (us vs : List Int) (i j : Int), Inc A B us vs i j → i ≤ A ∧ j ≤ B ∧ us.length = vs.length ∧ ∀ u ∈ us, i ≤ u ∧ u < A := by
  intro us
  induction us with
  | nil =>
    intro vs i j h
    cases vs with
    | nil => exact ⟨h.1, h.2, rfl, fun u hu => absurd hu (by simp)⟩
    | cons v vs => exact h.elim
  | cons u us ih =>
    intro vs i j h
    cases vs with
    | nil => exact h.elim
    | cons v vs =>
      obtain ⟨h1, h2, h3⟩ := h
      obtain ⟨a, b, c, d⟩ := ih vs _ _ h3
      refine ⟨by omega, by omega, by simp [c], fun x hx => ?_⟩
      rcases List.mem_cons.1 hx with rfl | hx
      · omega
      · have := d x hx
        omega
theorem pset_PI {n m : Nat} : ∀ (us vs : List Int) (o : List Int) (i j : Int), Inc n m us vs i j → 0 ≤ i → 0 ≤ j → o.length = n → (∀ k, k < n → -1 ≤ pg o k ∧ pg o k < j ∧ (i ≤ (k : Int) → pg o k = -1)) →
    (∀ k k', k < k' → k' < n → 0 ≤ pg o k → 0 ≤ pg o k' → pg o k < pg o k') → PI (pset o us vs) n m := by
  intro us
  induction us with
  | nil =>
    intro vs o i j h hi hj hl hr hc
    have := (inc_le _ _ _ _ h).2.1
    rw [pset]
    exact ⟨hl, fun k hk => ⟨(hr k hk).1, by have := (hr k hk).2.1; omega⟩, hc⟩
  | cons u us ih =>
    intro vs o i j h hi hj hl hr hc
    cases vs with
    | nil => exact h.elim
    | cons v vs =>
      obtain ⟨h1, h2, h3⟩ := h
      have hle := inc_le _ _ _ _ h3
      have hu : u.toNat < o.length := by omega
      have hg : ∀ k, pg (o.set u.toNat v) k = if k = u.toNat then v else pg o k := fun k => getD_set hu
      rw [pset]
      refine ih vs (o.set u.toNat v) (u + 1) (v + 1) h3 (by omega) (by omega) (by rw [List.length_set]; exact hl) (fun k hk => ?_) (fun k k' hkk hk' h4 h5 => ?_)
      · rw [hg]
        have := hr k hk
        split
        · refine ⟨by omega, by omega, fun _ => by omega⟩
        · exact ⟨this.1, by omega, fun _ => this.2.2 (by omega)⟩
      · rw [hg] at h4 h5 ⊢
        rw [hg]
        by_cases e1 : k = u.toNat
        · have e2 : ¬ k' = u.toNat := by omega
          rw [if_neg e2] at h5
          have := (hr k' hk').2.2 (by omega)
          omega
        · rw [if_neg e1] at h4 ⊢
          by_cases e2 : k' = u.toNat
          · rw [if_pos e2]
            have := (hr k (by omega)).2.1
            omega
          · rw [if_neg e2] at h5 ⊢
            exact hc k k' hkk hk' h4 h5
def PT (a b : List ByteArray) : List Int := pset (List.replicate a.length (-1)) (mt a b 0 0).1 (mt a b 0 0).2
theorem mt_all (a b : List ByteArray) : Inc (a.length : Int) (b.length : Int) (mt a b 0 0).1 (mt a b 0 0).2 0 0 := by
  have := mt_inc _ a b 0 0 0 0 rfl (by omega) (by omega)
  rw [Nat.zero_add, Nat.zero_add] at this
  exact this
theorem pg_rep (n k : Nat) : pg (List.replicate n (-1)) k = -1 := by
  unfold pg
  rw [List.getD_eq_getElem?_getD, List.getElem?_replicate]
  split <;> rfl
theorem PT_PI (a b : List ByteArray) : PI (PT a b) a.length b.length := by
  refine pset_PI _ _ _ 0 0 (mt_all a b) (by omega) (by omega) (by simp) (fun k hk => ?_) (fun k k' _ _ h _ => ?_)
  · rw [pg_rep]
    exact ⟨by omega, by omega, fun _ => rfl⟩
  · rw [pg_rep] at h
    exact absurd h (by decide)
theorem mt_few (a b : List ByteArray) : (mt a b 0 0).1.length ≤ a.length ∧ (mt a b 0 0).1.length = (mt a b 0 0).2.length := by
  have h := mt_len _ a b 0 0 rfl
  have := lcs_le a b
  omega
theorem spart1 {n : Nat} (p q : List Int) (hl : p.length = q.length) (hp : ∀ u ∈ p, 0 ≤ u ∧ u < (n : Int)) (hn : p.length ≤ 1000000) : ∀ (d i : Nat) (o : List Int), p.length - i = d → i ≤ p.length → o.length = n →
    Ev (fun k => spec_l4Partner.l1 k o p q (i : Int)) (pset o (p.drop i) (q.drop i)) := by
  intro d
  induction d with
  | zero =>
    intro i o hd hi ho
    refine Ev.step (fun k => by rw [spec_l4Partner.l1]) (Ev_neg (by omega) (Ev_val ?_))
    rw [List.drop_eq_nil_of_le (show p.length ≤ i by omega), pset]
  | succ d ih =>
    intro i o hd hi ho
    have h1 : i < p.length := by omega
    have h2 : i < q.length := by omega
    have hu := hp p[i] (List.getElem_mem h1)
    refine Ev.step (fun k => by rw [spec_l4Partner.l1]) (Ev_pos (by omega) (Ev_pos (by omega) (Ev_pos (by omega) ?_)))
    rw [rdi_nat h1, rdi_nat h2, wsucc h1 (by omega), drop_at h1, drop_at h2, pset]
    exact Ev_pos (by omega) (Ev_pos (by omega) (ih (i + 1) _ (by omega) (by omega) (by rw [List.length_set]; exact ho)))
theorem ipart1 {n : Nat} (p q : List Int) (hl : p.length = q.length) (hp : ∀ u ∈ p, 0 ≤ u ∧ u < (n : Int)) (hn : p.length ≤ 1000000) : ∀ (d i : Nat) (o : List Int), p.length - i = d → i ≤ p.length → o.length = n →
    Ev (fun k => impl_places.l1 k o q p (p.length : Int) (i : Int)) (pset o (p.drop i) (q.drop i)) := by
  intro d
  induction d with
  | zero =>
    intro i o hd hi ho
    refine Ev.step (fun k => by rw [impl_places.l1]) (Ev_neg (by omega) (Ev_val ?_))
    rw [List.drop_eq_nil_of_le (show p.length ≤ i by omega), pset]
  | succ d ih =>
    intro i o hd hi ho
    have h1 : i < p.length := by omega
    have h2 : i < q.length := by omega
    have hu := hp p[i] (List.getElem_mem h1)
    refine Ev.step (fun k => by rw [impl_places.l1]) (Ev_pos (by omega) (Ev_pos (by omega) (Ev_pos (by omega) (Ev_pos (by omega) ?_))))
    rw [rdi_nat h1, rdi_nat h2, wsucc h1 (by omega), drop_at h1, drop_at h2, pset]
    exact Ev_pos (by omega) (Ev_pos (by omega) (ih (i + 1) _ (by omega) (by omega) (by rw [List.length_set]; exact ho)))
theorem spart0 (a b : List ByteArray) (ha : a.length ≤ 1000000) {r : List Int} (h : Ev (fun k => (spec_l2Match.f k a b).bind fun bt => (spec_l4Partner.l1 k (List.replicate a.length (-1)) bt.1 bt.2 0)) r) :
    ∀ (d i : Nat), i + d = a.length → Ev (fun k => spec_l4Partner.l0 k a b (List.replicate i (-1) ++ List.replicate d 0) (i : Int)) r := by
  intro d
  induction d with
  | zero =>
    intro i hi
    refine Ev.step (fun k => by rw [spec_l4Partner.l0]) (Ev_neg (by simp) ?_)
    rw [show i = a.length by omega, List.replicate_zero, List.append_nil]
    exact h
  | succ d ih =>
    intro i hi
    refine Ev.step (fun k => by rw [spec_l4Partner.l0]) (Ev_pos (by simp; omega) (Ev_pos (by omega) ?_))
    rw [Int.toNat_natCast, set_rep, wsucc' (by omega)]
    exact ih (i + 1) (by omega)
theorem ipart0 (a b : List ByteArray) (ha : a.length ≤ 1000000) {r : List Int} (h : Ev (fun k => (impl_match.f k a b).bind fun bt => (impl_places.l1 k (List.replicate a.length (-1)) bt.2 bt.1 (bt.1.length : Int) 0)) r) :
    ∀ (d i : Nat), i + d = a.length → Ev (fun k => impl_places.l0 k a b (List.replicate i (-1)) (a.length : Int) (i : Int)) r := by
  intro d
  induction d with
  | zero =>
    intro i hi
    refine Ev.step (fun k => by rw [impl_places.l0]) (Ev_neg (by omega) ?_)
    rw [show i = a.length by omega]
    exact h
  | succ d ih =>
    intro i hi
    refine Ev.step (fun k => by rw [impl_places.l0]) (Ev_pos (by omega) (Ev_pos (by simp; omega) ?_))
    rw [← List.replicate_succ', wsucc' (by omega)]
    exact ih (i + 1) (by omega)
theorem spt_tells (a b : List ByteArray) (ha : a.length ≤ 1000000) (hb : b.length ≤ 1000000) : Ev (fun k => spec_l4Partner.f k a b) (PT a b) := by
  have hm := mt_few a b
  have hi := inc_le _ _ _ _ (mt_all a b)
  unfold spec_l4Partner.f
  refine Ev_pos (by omega) (Ev_pos (by omega) ?_)
  have := spart0 a b ha (Ev_call (spec_l2Match_tells a b ha hb) (spart1 (n := a.length) _ _ hm.2 hi.2.2.2 (by omega) _ 0 (List.replicate a.length (-1)) rfl (by omega) (by simp))) a.length 0 (by omega)
  rw [List.drop_zero, List.drop_zero] at this
  rw [Int.toNat_natCast]
  exact this
theorem ipt_tells (a b : List ByteArray) (ha : a.length ≤ 1000000) (hb : b.length ≤ 1000000) : Ev (fun k => impl_places.f k a b) (PT a b) := by
  have hm := mt_few a b
  have hi := inc_le _ _ _ _ (mt_all a b)
  unfold impl_places.f
  have := ipart0 a b ha (Ev_call (impl_match_tells a b ha hb) (ipart1 (n := a.length) _ _ hm.2 hi.2.2.2 (by omega) _ 0 (List.replicate a.length (-1)) rfl (by omega) (by simp))) a.length 0 (by omega)
  rw [List.drop_zero, List.drop_zero] at this
  exact this
def seg (l : List ByteArray) (x y : Nat) : List ByteArray := (l.take y).drop x
theorem seg_len {l : List ByteArray} {x y : Nat} (h : y ≤ l.length) : (seg l x y).length = y - x := by
  unfold seg
  rw [List.length_drop, List.length_take]
  omega
theorem seg_same (l : List ByteArray) (x : Nat) : seg l x x = [] := by
  unfold seg
  rw [List.drop_eq_nil_of_le (by rw [List.length_take]; omega)]
def pt1 (b o t : List ByteArray) : List CK := if b.length + o.length + t.length = 0 then [] else [mkc b o t]
theorem pt1_nil : pt1 [] [] [] = [] := rfl
theorem pt1_len (b o t : List ByteArray) : (pt1 b o t).length ≤ 1 := by
  unfold pt1
  split <;> simp
def nx (p q : List Int) : Nat → Nat → Nat
  | 0, k => k
  | d + 1, k => if 0 ≤ pg p k ∧ 0 ≤ pg q k then k else nx p q d (k + 1)
def rn (p q : List Int) (k0 u v : Nat) : Nat → Nat → Nat
  | 0, k => k
  | d + 1, k => if pg p k = ((u + (k - k0) : Nat) : Int) ∧ pg q k = ((v + (k - k0) : Nat) : Int) then rn p q k0 u v d (k + 1) else k
theorem nx_spec (p q : List Int) : ∀ (d k : Nat), k ≤ nx p q d k ∧ nx p q d k ≤ k + d ∧ (nx p q d k < k + d → 0 ≤ pg p (nx p q d k) ∧ 0 ≤ pg q (nx p q d k)) ∧ ∀ x, k ≤ x → x < nx p q d k → ¬ (0 ≤ pg p x ∧ 0 ≤ pg q x) := by
  intro d
  induction d with
  | zero => intro k; exact ⟨Nat.le_refl _, Nat.le_refl _, fun h => absurd h (by simp [nx]), fun x h1 h2 => absurd h2 (by simp [nx]; omega)⟩
  | succ d ih =>
    intro k
    rw [nx]
    split
    · rename_i h
      exact ⟨Nat.le_refl _, by omega, fun _ => h, fun x h1 h2 => by omega⟩
    · rename_i h
      obtain ⟨h1, h2, h3, h4⟩ := ih (k + 1)
      refine ⟨by omega, by omega, fun h5 => h3 (by omega), fun x h5 h6 => ?_⟩
      by_cases e : x = k
      · rw [e]; exact h
      · exact h4 x (by omega) h6
theorem rn_spec (p q : List Int) (k0 u v : Nat) : ∀ (d k : Nat), k ≤ rn p q k0 u v d k ∧ rn p q k0 u v d k ≤ k + d ∧ (∀ x, k ≤ x → x < rn p q k0 u v d k → pg p x = ((u + (x - k0) : Nat) : Int) ∧ pg q x = ((v + (x - k0) : Nat) : Int)) ∧
    (rn p q k0 u v d k < k + d → ¬ (pg p (rn p q k0 u v d k) = ((u + (rn p q k0 u v d k - k0) : Nat) : Int) ∧ pg q (rn p q k0 u v d k) = ((v + (rn p q k0 u v d k - k0) : Nat) : Int))) := by
  intro d
  induction d with
  | zero => intro k; exact ⟨Nat.le_refl _, Nat.le_refl _, fun x h1 h2 => absurd h2 (by simp [rn]; omega), fun h => absurd h (by simp [rn])⟩
  | succ d ih =>
    intro k
    rw [rn]
    split
    · rename_i h
      obtain ⟨h1, h2, h3, h4⟩ := ih (k + 1)
      refine ⟨by omega, by omega, fun x h5 h6 => ?_, fun h5 => h4 (by omega)⟩
      by_cases e : x = k
      · rw [e]; exact h
      · exact h3 x (by omega) h6
    · rename_i h
      exact ⟨Nat.le_refl _, by omega, fun x h1 h2 => by omega, fun _ => h⟩
def chk (b o t : List ByteArray) (p q : List Int) : Nat → Nat → Nat → Nat → List CK
  | 0, _, _, _ => []
  | d + 1, a, i, j =>
    if nx p q (b.length - a) a = b.length then pt1 (b.drop a) (o.drop i) (t.drop j) else
    let K := nx p q (b.length - a) a
    let U := (pg p K).toNat
    let V := (pg q K).toNat
    let X := rn p q K U V (b.length - K) K
    pt1 (seg b a K) (seg o i U) (seg t j V) ++ (pt1 (seg b K X) (seg o U (U + (X - K))) (seg t V (V + (X - K))) ++ chk b o t p q d X (U + (X - K)) (V + (X - K)))
theorem chk_last {b o t : List ByteArray} {p q : List Int} {d a i j : Nat} (h : nx p q (b.length - a) a = b.length) : chk b o t p q (d + 1) a i j = pt1 (b.drop a) (o.drop i) (t.drop j) := by
  rw [chk, if_pos h]
theorem chk_step {b o t : List ByteArray} {p q : List Int} {d a i j K U V X : Nat} (hK : nx p q (b.length - a) a = K) (hn : K ≠ b.length) (hU : pg p K = (U : Int)) (hV : pg q K = (V : Int)) (hX : rn p q K U V (b.length - K) K = X) :
    chk b o t p q (d + 1) a i j = pt1 (seg b a K) (seg o i U) (seg t j V) ++ (pt1 (seg b K X) (seg o U (U + (X - K))) (seg t V (V + (X - K))) ++ chk b o t p q d X (U + (X - K)) (V + (X - K))) := by
  have hU' : (pg p K).toNat = U := by omega
  have hV' : (pg q K).toNat = V := by omega
  rw [chk, hK, if_neg hn]
  simp only [hU', hV', hX]
def Lo (p : List Int) (n m a i : Nat) : Prop := i ≤ m ∧ ∀ k, a ≤ k → k < n → 0 ≤ pg p k → (i : Int) ≤ pg p k
structure St (p q : List Int) (n mo mt_ a i j K U V X : Nat) : Prop where
  aK : a ≤ K
  Kn : K < n
  hU : pg p K = (U : Int)
  hV : pg q K = (V : Int)
  iU : i ≤ U
  jV : j ≤ V
  KX : K < X
  Xn : X ≤ n
  Um : U + (X - K) ≤ mo
  Vm : V + (X - K) ≤ mt_
  on : ∀ x, K ≤ x → x < X → pg p x = ((U + (x - K) : Nat) : Int) ∧ pg q x = ((V + (x - K) : Nat) : Int)
  off : X < n → ¬ (pg p X = ((U + (X - K) : Nat) : Int) ∧ pg q X = ((V + (X - K) : Nat) : Int))
  skip : ∀ x, a ≤ x → x < K → ¬ (0 ≤ pg p x ∧ 0 ≤ pg q x)
  lo1 : Lo p n mo X (U + (X - K))
  lo2 : Lo q n mt_ X (V + (X - K))
theorem lo_next {p : List Int} {n m K U X : Nat} (hp : PI p n m) (hKX : K < X) (hX : X ≤ n) (hon : ∀ x, K ≤ x → x < X → pg p x = ((U + (x - K) : Nat) : Int)) : Lo p n m X (U + (X - K)) := by
  have h1 := hon (X - 1) (by omega) (by omega)
  have h2 := hp.rng (X - 1) (by omega)
  refine ⟨by omega, fun k hk hn h0 => ?_⟩
  have := hp.inc (X - 1) k (by omega) hn (by omega) h0
  omega
theorem st_of {p q : List Int} {n mo mt_ a i j : Nat} (hp : PI p n mo) (hq : PI q n mt_) (ha : a ≤ n) (l1 : Lo p n mo a i) (l2 : Lo q n mt_ a j) (hK : nx p q (n - a) a ≠ n) :
    ∃ K U V X, nx p q (n - a) a = K ∧ rn p q K U V (n - K) K = X ∧ St p q n mo mt_ a i j K U V X := by
  obtain ⟨h1, h2, h3, h4⟩ := nx_spec p q (n - a) a
  obtain ⟨K, hKe⟩ : ∃ K, nx p q (n - a) a = K := ⟨_, rfl⟩
  rw [hKe] at h1 h2 h3 h4 hK
  have hb := h3 (by omega)
  obtain ⟨U, hU⟩ : ∃ U : Nat, pg p K = (U : Int) := ⟨(pg p K).toNat, by omega⟩
  obtain ⟨V, hV⟩ : ∃ V : Nat, pg q K = (V : Int) := ⟨(pg q K).toNat, by omega⟩
  obtain ⟨X, hX⟩ : ∃ X, rn p q K U V (n - K) K = X := ⟨_, rfl⟩
  obtain ⟨g1, g2, g3, g4⟩ := rn_spec p q K U V (n - K) K
  rw [hX] at g1 g2 g3 g4
  have hKX : K < X := by
    rcases Nat.lt_or_ge K X with h | h
    · exact h
    · have e : X = K := by omega
      exfalso
      refine g4 (by omega) ?_
      rw [e, Nat.sub_self, Nat.add_zero, Nat.add_zero]
      exact ⟨hU, hV⟩
  have hUi := l1.2 K h1 (by omega) hb.1
  have hVj := l2.2 K h1 (by omega) hb.2
  have n1 := lo_next hp hKX (by omega) (fun x a b => (g3 x a b).1)
  have n2 := lo_next hq hKX (by omega) (fun x a b => (g3 x a b).2)
  exact ⟨K, U, V, X, hKe, hX, ⟨h1, by omega, hU, hV, by omega, by omega, hKX, by omega, n1.1, n2.1, g3, fun h => g4 (by omega), h4, n1, n2⟩⟩
theorem chk_fuel {b o t : List ByteArray} {p q : List Int} (hp : PI p b.length o.length) (hq : PI q b.length t.length) : ∀ (d d' a i j : Nat), a ≤ b.length → b.length - a < d → b.length - a < d' → Lo p b.length o.length a i → Lo q b.length t.length a j → chk b o t p q d a i j = chk b o t p q d' a i j := by
  intro d
  induction d with
  | zero => intro d' a i j ha h; omega
  | succ d ih =>
    intro d' a i j ha h h' l1 l2
    cases d' with
    | zero => omega
    | succ d' =>
      by_cases hl : nx p q (b.length - a) a = b.length
      · rw [chk_last hl, chk_last hl]
      · obtain ⟨K, U, V, X, hK, hX, s⟩ := st_of hp hq ha l1 l2 hl
        rw [chk_step hK (by have := s.Kn; omega) s.hU s.hV hX, chk_step hK (by have := s.Kn; omega) s.hU s.hV hX]
        rw [ih d' X _ _ s.Xn (by have := s.KX; have := s.aK; have := s.Kn; omega) (by have := s.KX; have := s.aK; have := s.Kn; omega) s.lo1 s.lo2]
def CHK (b o t : List ByteArray) : List CK := chk b o t (PT b o) (PT b t) (b.length + 1) 0 0 0
theorem lo_start (p : List Int) (n m : Nat) : Lo p n m 0 0 := ⟨Nat.zero_le _, fun k _ _ h => h⟩
theorem chk_start {b o t : List ByteArray} {p q : List Int} (hp : PI p b.length o.length) (hq : PI q b.length t.length) {X : Nat} (hX : rn p q 0 0 0 b.length 0 = X) :
    X ≤ b.length ∧ X ≤ o.length ∧ X ≤ t.length ∧ Lo p b.length o.length X X ∧ Lo q b.length t.length X X ∧ pt1 (seg b 0 X) (seg o 0 X) (seg t 0 X) ++ chk b o t p q (b.length + 1) X X X = chk b o t p q (b.length + 1) 0 0 0 := by
  obtain ⟨g1, g2, g3, g4⟩ := rn_spec p q 0 0 0 b.length 0
  rw [hX] at g1 g2 g3 g4
  rcases Nat.eq_zero_or_pos X with h0 | h0
  · subst h0
    refine ⟨Nat.zero_le _, Nat.zero_le _, Nat.zero_le _, lo_start _ _ _, lo_start _ _ _, ?_⟩
    rw [seg_same, seg_same, seg_same, pt1_nil, List.nil_append]
  · have e0 := g3 0 (by omega) h0
    have n1 := lo_next (K := 0) (U := 0) hp h0 (by omega) (fun x a b => (g3 x a b).1)
    have n2 := lo_next (K := 0) (U := 0) hq h0 (by omega) (fun x a b => (g3 x a b).2)
    rw [Nat.sub_zero, Nat.zero_add] at n1 n2
    refine ⟨by omega, n1.1, n2.1, n1, n2, ?_⟩
    have hK : nx p q (b.length - 0) 0 = 0 := by
      obtain ⟨m, hm⟩ : ∃ m, b.length = m + 1 := ⟨b.length - 1, by omega⟩
      rw [Nat.sub_zero, hm, nx, if_pos (by omega)]
    rw [chk_step (a := 0) (i := 0) (j := 0) (d := b.length) hK (by omega) (U := 0) (V := 0) e0.1 e0.2 (X := X) (by rw [Nat.sub_zero]; exact hX)]
    rw [seg_same, seg_same, seg_same, pt1_nil, List.nil_append, Nat.sub_zero, Nat.zero_add]
    rw [chk_fuel hp hq (b.length + 1) b.length X X X (by omega) (by omega) (by omega) n1 n2]
theorem add_tells (out : List CK) {b o t : List ByteArray} (hb : b.length ≤ 1048576) (ho : o.length ≤ 1048576) (ht : t.length ≤ 1048576) (hl : out.length ≤ 1759218604440) : impl_chunksOf_1.f out (kindK b o t) b o t = some (out ++ pt1 b o t) := by
  unfold impl_chunksOf_1.f pt1
  rw [wid (x := (b.length : Int) + (o.length : Int)) (by omega) (by omega), wid (by omega) (by omega)]
  by_cases h : b.length + o.length + t.length = 0
  · rw [if_neg (by omega), if_pos h, List.append_nil]
  · rw [if_pos (by omega), if_neg h, if_pos (by omega)]
    rfl
section
variable {b o t : List ByteArray} {p q : List Int}
theorem iscan (hp : p.length = b.length) (hq : q.length = b.length) (hb : b.length ≤ 1000000) {y z : Int} {acc : List CK} {a i j : Int} {K : Nat} (hK : K ≤ b.length) {r : List CK} (h : Ev (fun k => impl_chunksOf.l0 k b o t (p ++ [y]) (q ++ [z]) acc a i j (K : Int)) r) :
    ∀ (d x : Nat), K - x = d → x ≤ K → (∀ z, x ≤ z → z < K → ¬ (0 ≤ pg p z ∧ 0 ≤ pg q z)) → Ev (fun k => impl_chunksOf.l0 k b o t (p ++ [y]) (q ++ [z]) acc a i j (x : Int)) r := by
  intro d
  induction d with
  | zero =>
    intro x hd hx _
    rw [show x = K by omega]
    exact h
  | succ d ih =>
    intro x hd hx hs
    have nx_ := ih (x + 1) (by omega) (by omega) (fun z h1 h2 => hs z (by omega) h2)
    have l1 : (p ++ [y]).length = b.length + 1 := by simp [hp]
    have l2 : (q ++ [z]).length = b.length + 1 := by simp [hq]
    have hj : Ev (fun k => impl_chunksOf.j1 k b o t (p ++ [y]) (q ++ [z]) acc a i j (x : Int) true) r := by
      refine Ev.step (fun k => by rw [impl_chunksOf.j1]) (Ev_pos rfl ?_)
      rw [wsucc' (by omega)]
      exact nx_
    refine Ev.step (fun k => by rw [impl_chunksOf.l0]) (Ev_pos (by omega) (Ev_pos (by omega) (Ev_pos (by omega) ?_)))
    rw [rd_ext1 (by omega), rd_ext1 (by omega)]
    refine Ev_if (fun _ => hj) (fun h2 => Ev_pos (by omega) ?_)
    rw [decide_eq_true (show pg q x < 0 by have := hs x (by omega) (by omega); omega)]
    exact hj
theorem irun (hp : p.length = b.length) (hq : q.length = b.length) (hb : b.length ≤ 1000000) {y z : Int} {acc : List CK} {K U V X : Nat} (hU1 : U ≤ 2000000) (hV1 : V ≤ 2000000) (hKX : K ≤ X) (hX : X ≤ b.length)
    (on : ∀ x, K ≤ x → x < X → pg p x = ((U + (x - K) : Nat) : Int) ∧ pg q x = ((V + (x - K) : Nat) : Int)) (off : X < b.length → ¬ (pg p X = ((U + (X - K) : Nat) : Int) ∧ pg q X = ((V + (X - K) : Nat) : Int)))
    {r : List CK} (h : Ev (fun k => impl_chunksOf.j3 k b o t (p ++ [y]) (q ++ [z]) acc (K : Int) (U : Int) (V : Int) (X : Int)) r) :
    ∀ (d x : Nat), X - x = d → K ≤ x → x ≤ X → Ev (fun k => impl_chunksOf.l1 k b o t (p ++ [y]) (q ++ [z]) acc (K : Int) (U : Int) (V : Int) (x : Int)) r := by
  have l1 : (p ++ [y]).length = b.length + 1 := by simp [hp]
  have l2 : (q ++ [z]).length = b.length + 1 := by simp [hq]
  intro d
  induction d with
  | zero =>
    intro x hd hk hx
    obtain rfl : x = X := by omega
    refine Ev.step (fun k => by rw [impl_chunksOf.l1]) (Ev_if (fun h1 => ?_) (fun _ => h))
    rw [rd_ext1 (by omega), rd_ext1 (by omega), wid (x := (U : Int) + (x : Int)) (by omega) (by omega), wid (x := (V : Int) + (x : Int)) (by omega) (by omega), wid (by omega) (by omega), wid (by omega) (by omega)]
    refine Ev_pos (by omega) (Ev_pos (by omega) (Ev_if (fun h2 => Ev_pos (by omega) (Ev_neg (fun h3 => off (by omega) ?_) h)) (fun _ => h)))
    exact ⟨by omega, by omega⟩
  | succ d ih =>
    intro x hd hk hx
    have e := on x hk (by omega)
    refine Ev.step (fun k => by rw [impl_chunksOf.l1]) (Ev_pos (by omega) (Ev_pos (by omega) (Ev_pos (by omega) ?_)))
    rw [rd_ext1 (by omega), rd_ext1 (by omega), wid (x := (U : Int) + (x : Int)) (by omega) (by omega), wid (x := (V : Int) + (x : Int)) (by omega) (by omega), wid (by omega) (by omega), wid (x := (V : Int) + (x : Int) - (K : Int)) (by omega) (by omega), wsucc' (by omega)]
    exact Ev_pos (by omega) (Ev_pos (by omega) (Ev_pos (by omega) (ih (x + 1) (by omega) (by omega) (by omega))))
theorem ich_last (lp : p.length = b.length) (lq : q.length = b.length) (hb : b.length ≤ 1000000) (ho : o.length ≤ 1000000) (ht : t.length ≤ 1000000) {acc : List CK} {a i j : Nat} (ha : a ≤ b.length) (hi : i ≤ o.length) (hj : j ≤ t.length) (hacc : acc.length ≤ 4000000) :
    Ev (fun k => impl_chunksOf.l0 k b o t (p ++ [(o.length : Int)]) (q ++ [(t.length : Int)]) acc (a : Int) (i : Int) (j : Int) (b.length : Int)) (acc ++ pt1 (b.drop a) (o.drop i) (t.drop j)) := by
  have l1 : (p ++ [(o.length : Int)]).length = b.length + 1 := by simp [lp]
  have l2 : (q ++ [(t.length : Int)]).length = b.length + 1 := by simp [lq]
  refine Ev.step (fun k => by rw [impl_chunksOf.l0]) (Ev_pos (by omega) (Ev_pos (by omega) (Ev_pos (by omega) ?_)))
  rw [rd_ext2 lp, rd_ext2 lq]
  refine Ev_neg (by omega) (Ev_pos (by omega) ?_)
  rw [decide_eq_false (show ¬ (t.length : Int) < 0 by omega)]
  refine Ev.step (fun k => by rw [impl_chunksOf.j1]) (Ev_neg (by simp) ?_)
  rw [rd_ext2 lp, rd_ext2 lq]
  refine Ev_pos (by omega) (Ev_pos (by omega) (Ev_pos (by omega) (Ev_pos (by omega) (Ev_pos (by omega) (Ev_pos (by omega) (Ev_pos (by omega) (Ev_pos (by omega) (Ev_pos (by omega) (Ev_pos (by omega) (Ev_pos (by omega) (Ev_pos (by omega) ?_)))))))))))
  simp only [Int.toNat_natCast]
  rw [List.take_length, List.take_length, List.take_length]
  have z1 : (b.drop a).length ≤ 1048576 := by rw [List.length_drop]; omega
  have z2 : (o.drop i).length ≤ 1048576 := by rw [List.length_drop]; omega
  have z3 : (t.drop j).length ≤ 1048576 := by rw [List.length_drop]; omega
  refine Ev_call (chunkOf_tells z1 z2 z3) (Ev_const (add_tells acc z1 z2 z3 (by omega)) ?_)
  have hlen := pt1_len (b.drop a) (o.drop i) (t.drop j)
  have hlen2 : (acc ++ pt1 (b.drop a) (o.drop i) (t.drop j)).length ≤ 4000001 := by rw [List.length_append]; omega
  clear hlen z1 z2 z3 hacc
  refine Ev.step (fun k => by rw [impl_chunksOf.l1]) (Ev_neg (by omega) ?_)
  refine Ev.step (fun k => by rw [impl_chunksOf.j3]) ?_
  have w0 : wrap64 ((b.length : Int) - (b.length : Int)) = 0 := by rw [wid (by omega) (by omega)]; omega
  rw [w0, wid (x := (o.length : Int) + 0) (by omega) (by omega), wid (x := (t.length : Int) + 0) (by omega) (by omega)]
  refine Ev_pos (by omega) (Ev_pos (by omega) (Ev_pos (by omega) (Ev_pos (by omega) (Ev_pos (by omega) (Ev_pos (by omega) (Ev_pos (by omega) (Ev_pos (by omega) (Ev_pos (by omega) ?_))))))))
  simp only [Int.add_zero, Int.toNat_natCast]
  have s1 : (b.take b.length).drop b.length = [] := by simp
  have s2 : (o.take o.length).drop o.length = [] := by simp
  have s3 : (t.take t.length).drop t.length = [] := by simp
  rw [s1, s2, s3]
  refine Ev_call (chunkOf_tells (by simp) (by simp) (by simp)) (Ev_const (add_tells _ (by simp) (by simp) (by simp) (by omega)) (Ev_pos (by first | trivial | rfl) (Ev_val ?_)))
  rw [pt1_nil, List.append_nil]
theorem ich_one (lp : p.length = b.length) (lq : q.length = b.length) (hb : b.length ≤ 1000000) (ho : o.length ≤ 1000000) (ht : t.length ≤ 1000000) {acc : List CK} {a i j K U V M : Nat} (aK : a ≤ K) (M0 : 0 < M) (Xn : K + M ≤ b.length) (iU : i ≤ U) (Um : U + M ≤ o.length) (jV : j ≤ V) (Vm : V + M ≤ t.length) (hacc : acc.length ≤ 4000000)
    (hU : pg p K = (U : Int)) (hV : pg q K = (V : Int)) (on : ∀ x, K ≤ x → x < K + M → pg p x = ((U + (x - K) : Nat) : Int) ∧ pg q x = ((V + (x - K) : Nat) : Int))
    (off : K + M < b.length → ¬ (pg p (K + M) = ((U + (K + M - K) : Nat) : Int) ∧ pg q (K + M) = ((V + (K + M - K) : Nat) : Int))) {r : List CK}
    (h : Ev (fun k => impl_chunksOf.l0 k b o t (p ++ [(o.length : Int)]) (q ++ [(t.length : Int)]) (acc ++ pt1 (seg b a K) (seg o i U) (seg t j V) ++ pt1 (seg b K (K + M)) (seg o U (U + M)) (seg t V (V + M))) ((K + M : Nat) : Int) ((U + M : Nat) : Int) ((V + M : Nat) : Int) ((K + M : Nat) : Int)) r) :
    Ev (fun k => impl_chunksOf.l0 k b o t (p ++ [(o.length : Int)]) (q ++ [(t.length : Int)]) acc (a : Int) (i : Int) (j : Int) (K : Int)) r := by
  have l1 : (p ++ [(o.length : Int)]).length = b.length + 1 := by simp [lp]
  have l2 : (q ++ [(t.length : Int)]).length = b.length + 1 := by simp [lq]
  refine Ev.step (fun k => by rw [impl_chunksOf.l0]) (Ev_pos (by omega) (Ev_pos (by omega) (Ev_pos (by omega) ?_)))
  rw [rd_ext1 (by omega), rd_ext1 (by omega), hU, hV]
  refine Ev_neg (by omega) (Ev_pos (by omega) ?_)
  rw [decide_eq_false (show ¬ (V : Int) < 0 by omega)]
  refine Ev.step (fun k => by rw [impl_chunksOf.j1]) (Ev_neg (by simp) ?_)
  rw [rd_ext1 (by omega), rd_ext1 (by omega), hU, hV]
  refine Ev_pos (by omega) (Ev_pos (by omega) (Ev_pos (by omega) (Ev_pos (by omega) (Ev_pos (by omega) (Ev_pos (by omega) (Ev_pos (by omega) (Ev_pos (by omega) (Ev_pos (by omega) (Ev_pos (by omega) (Ev_pos (by omega) (Ev_pos (by omega) ?_)))))))))))
  simp only [Int.toNat_natCast]
  have z1 : (seg b a K).length ≤ 1048576 := by rw [seg_len (by omega)]; omega
  have z2 : (seg o i U).length ≤ 1048576 := by rw [seg_len (by omega)]; omega
  have z3 : (seg t j V).length ≤ 1048576 := by rw [seg_len (by omega)]; omega
  refine Ev_call (chunkOf_tells z1 z2 z3) (Ev_const (add_tells acc z1 z2 z3 (by omega)) ?_)
  have hlen := pt1_len (seg b a K) (seg o i U) (seg t j V)
  have hlen2 : (acc ++ pt1 (seg b a K) (seg o i U) (seg t j V)).length ≤ 4000001 := by rw [List.length_append]; omega
  clear hlen z1 z2 z3 hacc hU hV
  refine irun lp lq hb (by omega) (by omega) (by omega) Xn on off ?_ _ K rfl (by omega) (by omega)
  clear on off
  refine Ev.step (fun k => by rw [impl_chunksOf.j3]) ?_
  have w0 : wrap64 (((K + M : Nat) : Int) - (K : Int)) = (M : Int) := by rw [wid (by omega) (by omega)]; omega
  have w1 : wrap64 ((U : Int) + (M : Int)) = ((U + M : Nat) : Int) := by rw [wid (by omega) (by omega)]; omega
  have w2 : wrap64 ((V : Int) + (M : Int)) = ((V + M : Nat) : Int) := by rw [wid (by omega) (by omega)]; omega
  rw [w0, w1, w2]
  clear w0 w1 w2
  refine Ev_pos (by omega) (Ev_pos (by omega) (Ev_pos (by omega) (Ev_pos (by omega) (Ev_pos (by omega) (Ev_pos (by omega) (Ev_pos (by omega) (Ev_pos (by omega) (Ev_pos (by omega) ?_))))))))
  simp only [Int.toNat_natCast]
  have y1 : (seg b K (K + M)).length ≤ 1048576 := by rw [seg_len (by omega)]; omega
  have y2 : (seg o U (U + M)).length ≤ 1048576 := by rw [seg_len (by omega)]; omega
  have y3 : (seg t V (V + M)).length ≤ 1048576 := by rw [seg_len (by omega)]; omega
  exact Ev_call (chunkOf_tells y1 y2 y3) (Ev_const (add_tells (acc ++ pt1 (seg b a K) (seg o i U) (seg t j V)) y1 y2 y3 (by omega)) (Ev_neg (by omega) h))
theorem ich_loop (hp : PI p b.length o.length) (hq : PI q b.length t.length) (hb : b.length ≤ 1000000) (ho : o.length ≤ 1000000) (ht : t.length ≤ 1000000) : ∀ (d a i j : Nat) (acc : List CK), a ≤ b.length → b.length < d + a → Lo p b.length o.length a i → Lo q b.length t.length a j → acc.length ≤ 2 * a →
    Ev (fun k => impl_chunksOf.l0 k b o t (p ++ [(o.length : Int)]) (q ++ [(t.length : Int)]) acc (a : Int) (i : Int) (j : Int) (a : Int)) (acc ++ chk b o t p q d a i j) := by
  intro d
  induction d with
  | zero => intro a i j acc ha h; omega
  | succ d ih =>
    intro a i j acc ha h lo1 lo2 hacc
    by_cases hl : nx p q (b.length - a) a = b.length
    · have hs := nx_spec p q (b.length - a) a
      rw [hl] at hs
      rw [chk_last hl]
      exact iscan hp.len hq.len hb (Nat.le_refl _) (ich_last hp.len hq.len hb ho ht ha lo1.1 lo2.1 (by omega)) _ a rfl ha hs.2.2.2
    · obtain ⟨K, U, V, X, hK, hX, s⟩ := st_of hp hq ha lo1 lo2 hl
      obtain ⟨aK, Kn, hU, hV, iU, jV, KX, Xn, Um, Vm, on, off, skip, n1, n2⟩ := s
      obtain ⟨M, rfl⟩ : ∃ M, X = K + M := ⟨X - K, by omega⟩
      have eM : K + M - K = M := by omega
      rw [chk_step hK (by omega) hU hV hX]
      refine iscan hp.len hq.len hb (by omega) ?_ _ a rfl aK skip
      rw [eM] at Um Vm n1 n2 ⊢
      refine ich_one hp.len hq.len hb ho ht aK (by omega) Xn iU Um jV Vm (by omega) hU hV on off ?_
      have k1 := pt1_len (seg b a K) (seg o i U) (seg t j V)
      have k2 := pt1_len (seg b K (K + M)) (seg o U (U + M)) (seg t V (V + M))
      have e := ih (K + M) (U + M) (V + M) (acc ++ pt1 (seg b a K) (seg o i U) (seg t j V) ++ pt1 (seg b K (K + M)) (seg o U (U + M)) (seg t V (V + M))) Xn (by omega) n1 n2 (by rw [List.length_append, List.length_append]; omega)
      refine Ev_eq e ?_
      simp only [List.append_assoc]
theorem ichk_tells (hb : b.length ≤ 1000000) (ho : o.length ≤ 1000000) (ht : t.length ≤ 1000000) : Ev (fun k => impl_chunksOf.f k b o t) (CHK b o t) := by
  have h1 := (PT_PI b o).len
  have h2 := (PT_PI b t).len
  unfold impl_chunksOf.f
  refine Ev_call (ipt_tells b o hb ho) (Ev_call (ipt_tells b t hb ht) (Ev_pos (by omega) (Ev_pos (by omega) ?_)))
  have := ich_loop (PT_PI b o) (PT_PI b t) hb ho ht (b.length + 1) 0 0 0 [] (by omega) (by omega) (lo_start _ _ _) (lo_start _ _ _) (by simp)
  exact this
end
end Go.Proofs.Ytjngmhngedecdaa.P
end
section
set_option linter.unusedVariables false
set_option linter.unusedSimpArgs false
namespace Go.Proofs.Ytjngmhngedecdaa.P
open Go.RowKit Go.Proofs.YtjngmhngedecdaaW.PrintWords Go.Proofs.YtjngmhngedecdaaW.PrintLast
theorem seg_drop (l : List ByteArray) {x y : Nat} (h : x ≤ y) (hy : y ≤ l.length) : seg l x y ++ l.drop y = l.drop x := by
  unfold seg
  have e : l.drop x = (l.take y ++ l.drop y).drop x := by rw [List.take_append_drop]
  rw [e, List.drop_append_of_le_length (by rw [List.length_take]; omega)]
theorem sides_app (n : Int) (x y : List CK) : sides n (x ++ y) = sides n x ++ sides n y := by
  unfold sides
  rw [List.map_append, List.flatten_append]
theorem sides_pt1 (b o t : List ByteArray) : sides 0 (pt1 b o t) = b ∧ sides 1 (pt1 b o t) = o ∧ sides 2 (pt1 b o t) = t := by
  unfold pt1
  split
  · rename_i h
    have h1 : b = [] := List.eq_nil_of_length_eq_zero (by omega)
    have h2 : o = [] := List.eq_nil_of_length_eq_zero (by omega)
    have h3 : t = [] := List.eq_nil_of_length_eq_zero (by omega)
    subst h1 h2 h3
    exact ⟨rfl, rfl, rfl⟩
  · refine ⟨?_, ?_, ?_⟩ <;> simp [sides, sideK, mkc]
section
variable {b o t : List ByteArray} {p q : List Int}
theorem chk_sides (hp : PI p b.length o.length) (hq : PI q b.length t.length) : ∀ (d a i j : Nat), a ≤ b.length → b.length < d + a → Lo p b.length o.length a i → Lo q b.length t.length a j →
    sides 0 (chk b o t p q d a i j) = b.drop a ∧ sides 1 (chk b o t p q d a i j) = o.drop i ∧ sides 2 (chk b o t p q d a i j) = t.drop j := by
  intro d
  induction d with
  | zero => intro a i j ha h; omega
  | succ d ih =>
    intro a i j ha h lo1 lo2
    by_cases hl : nx p q (b.length - a) a = b.length
    · rw [chk_last hl]
      exact sides_pt1 _ _ _
    · obtain ⟨K, U, V, X, hK, hX, s⟩ := st_of hp hq ha lo1 lo2 hl
      obtain ⟨aK, Kn, hU, hV, iU, jV, KX, Xn, Um, Vm, on, off, skip, n1, n2⟩ := s
      clear on off skip
      obtain ⟨M, rfl⟩ : ∃ M, X = K + M := ⟨X - K, by omega⟩
      have eM : K + M - K = M := by omega
      rw [chk_step hK (by omega) hU hV hX]
      clear hK hX hU hV hl
      rw [eM] at Um Vm n1 n2 ⊢
      obtain ⟨e0, e1, e2⟩ := ih (K + M) (U + M) (V + M) Xn (by omega) n1 n2
      obtain ⟨f0, f1, f2⟩ := sides_pt1 (seg b a K) (seg o i U) (seg t j V)
      obtain ⟨g0, g1, g2⟩ := sides_pt1 (seg b K (K + M)) (seg o U (U + M)) (seg t V (V + M))
      refine ⟨?_, ?_, ?_⟩
      · rw [sides_app, sides_app, e0, f0, g0, seg_drop b (by omega) Xn, seg_drop b aK (by omega)]
      · rw [sides_app, sides_app, e1, f1, g1, seg_drop o (by omega) Um, seg_drop o iU (by omega)]
      · rw [sides_app, sides_app, e2, f2, g2, seg_drop t (by omega) Vm, seg_drop t jV (by omega)]
theorem chk_len (hp : PI p b.length o.length) (hq : PI q b.length t.length) : ∀ (d a i j : Nat), a ≤ b.length → b.length < d + a → Lo p b.length o.length a i → Lo q b.length t.length a j → (chk b o t p q d a i j).length + 2 * a ≤ 2 * b.length + 1 := by
  intro d
  induction d with
  | zero => intro a i j ha h; omega
  | succ d ih =>
    intro a i j ha h lo1 lo2
    by_cases hl : nx p q (b.length - a) a = b.length
    · rw [chk_last hl]
      have := pt1_len (b.drop a) (o.drop i) (t.drop j)
      omega
    · obtain ⟨K, U, V, X, hK, hX, s⟩ := st_of hp hq ha lo1 lo2 hl
      obtain ⟨aK, Kn, hU, hV, iU, jV, KX, Xn, Um, Vm, on, off, skip, n1, n2⟩ := s
      clear on off skip
      rw [chk_step hK (by omega) hU hV hX, List.length_append, List.length_append]
      clear hK hX hU hV hl
      have h1 := pt1_len (seg b a K) (seg o i U) (seg t j V)
      have h2 := pt1_len (seg b K X) (seg o U (U + (X - K))) (seg t V (V + (X - K)))
      have h3 := ih X (U + (X - K)) (V + (X - K)) Xn (by omega) n1 n2
      omega
end
theorem CHK_sides (b o t : List ByteArray) : sides 0 (CHK b o t) = b ∧ sides 1 (CHK b o t) = o ∧ sides 2 (CHK b o t) = t := by
  have := chk_sides (PT_PI b o) (PT_PI b t) (b.length + 1) 0 0 0 (by omega) (by omega) (lo_start _ _ _) (lo_start _ _ _)
  rw [List.drop_zero, List.drop_zero, List.drop_zero] at this
  exact this
theorem CHK_len (b o t : List ByteArray) : (CHK b o t).length ≤ 2 * b.length + 1 := by
  have := chk_len (PT_PI b o) (PT_PI b t) (b.length + 1) 0 0 0 (by omega) (by omega) (lo_start _ _ _) (lo_start _ _ _)
  exact this
theorem kw_sides : ∀ l : List CK, kw l = lw (sides 0 l) + lw (sides 1 l) + lw (sides 2 l) := by
  intro l
  induction l with
  | nil => simp [kw, sides, lw, total]
  | cons c l ih =>
    rw [sides_cons, sides_cons, sides_cons, lw_append, lw_append, lw_append, kw, ih]
    have e0 : sideK 0 c = c.f1 := rfl
    have e1 : sideK 1 c = c.f2 := rfl
    have e2 : sideK 2 c = c.f3 := rfl
    rw [e0, e1, e2]
    omega
theorem mem_sides {l : List CK} {c : CK} (hc : c ∈ l) (n : Int) {a : ByteArray} (ha : a ∈ sideK n c) : a ∈ sides n l := by
  unfold sides
  exact List.mem_flatten.2 ⟨_, List.mem_map.2 ⟨c, hc, rfl⟩, ha⟩
theorem CHK_small {b o t : List ByteArray} (hb : Small b) (ho : Small o) (ht : Small t) (hw : lw b + lw o + lw t ≤ 1048576) (hn : b.length ≤ 1000) : SmallK (CHK b o t) := by
  obtain ⟨s0, s1, s2⟩ := CHK_sides b o t
  refine ⟨fun c hc => ⟨fun a ha => ?_, fun a ha => ?_, fun a ha => ?_⟩, ?_, ?_⟩
  · exact hb.1 a (by rw [← s0]; exact mem_sides hc 0 ha)
  · exact ho.1 a (by rw [← s1]; exact mem_sides hc 1 ha)
  · exact ht.1 a (by rw [← s2]; exact mem_sides hc 2 ha)
  · have := CHK_len b o t
    omega
  · rw [kw_sides, s0, s1, s2]
    exact hw
theorem LF_lw {x : List ByteArray} (h : LF x = 0) : lw x ≤ 2100 := by
  have := LF_zero h
  unfold lw
  omega
def COF (b o t : List ByteArray) : Int × List CK := if LF b = 0 then (if LF2 o t = 0 then (0, CHK b o t) else (LF2 o t, [])) else (LF b, [])
end Go.Proofs.Ytjngmhngedecdaa.P
end
section
set_option linter.unusedVariables false
set_option linter.unusedSimpArgs false
namespace Go.Proofs.Ytjngmhngedecdaa.P
open Go.RowKit Go.Proofs.YtjngmhngedecdaaW.PrintWords Go.Proofs.YtjngmhngedecdaaW.PrintLast
section
variable {b o t : List ByteArray} {p q : List Int}
theorem sput_tells (acc : List CK) {b o t : List ByteArray} (hb : b.length ≤ 1048576) (ho : o.length ≤ 1048576) (ht : t.length ≤ 1048576) (hl : acc.length ≤ 1759218604440) : Ev (fun k => spec_l4Put.f k acc b o t) (acc ++ pt1 b o t) := by
  refine Ev_eq (put_tells acc hb ho ht hl) ?_
  unfold pt1
  split
  · rw [List.append_nil]
  · rfl
theorem sscan (lp : p.length = b.length) (lq : q.length = b.length) (hb : b.length ≤ 1000000) {acc : List CK} {a i j : Int} {K : Nat} (hK : K ≤ b.length) {r : List CK} (h : Ev (fun k => spec_l4Chunks.j4 k b o t p q acc a i j (b.length : Int) (K : Int)) r) (hb2 : K < b.length → 0 ≤ pg p K ∧ 0 ≤ pg q K) :
    ∀ (d x : Nat), K - x = d → x ≤ K → (∀ z, x ≤ z → z < K → ¬ (0 ≤ pg p z ∧ 0 ≤ pg q z)) → Ev (fun k => spec_l4Chunks.l2 k b o t p q acc a i j (b.length : Int) (x : Int)) r := by
  intro d
  induction d with
  | zero =>
    intro x hd hx _
    obtain rfl : x = K := by omega
    refine Ev.step (fun k => by rw [spec_l4Chunks.l2]) (Ev_if (fun h1 => ?_) (fun _ => h))
    have := hb2 (by omega)
    refine Ev_pos (by omega) (Ev_pos (by omega) ?_)
    rw [rd_pg (by omega), rd_pg (by omega)]
    exact Ev_neg (by omega) (Ev_pos (by omega) (Ev_neg (by omega) h))
  | succ d ih =>
    intro x hd hx hs
    have nx_ := ih (x + 1) (by omega) (by omega) (fun z h1 h2 => hs z (by omega) h2)
    have := hs x (by omega) (by omega)
    refine Ev.step (fun k => by rw [spec_l4Chunks.l2]) (Ev_pos (by omega) (Ev_pos (by omega) (Ev_pos (by omega) ?_)))
    rw [rd_pg (by omega), rd_pg (by omega), wsucc' (by omega)]
    exact Ev_if (fun _ => nx_) (fun _ => Ev_pos (by omega) (Ev_pos (by omega) nx_))
theorem wone {x : Nat} (h : x ≤ 1000000) : wrap64 ((x : Int) + 1) = ((x + 1 : Nat) : Int) := wsucc' (by omega)
theorem wadd {x y : Nat} (h : x ≤ 2000000) (h2 : y ≤ 1000000) : wrap64 ((x : Int) + (y : Int)) = ((x + y : Nat) : Int) := by rw [wid (by omega) (by omega)]; omega
set_option maxHeartbeats 1000000 in
theorem srun (lp : p.length = b.length) (lq : q.length = b.length) (hb : b.length ≤ 1000000) {acc : List CK} {K U V M : Nat} (hU1 : U ≤ 2000000) (hV1 : V ≤ 2000000) (hX : K + M ≤ b.length)
    (on : ∀ x, K ≤ x → x < K + M → pg p x = ((U + (x - K) : Nat) : Int) ∧ pg q x = ((V + (x - K) : Nat) : Int)) (off : K + M < b.length → ¬ (pg p (K + M) = ((U + (K + M - K) : Nat) : Int) ∧ pg q (K + M) = ((V + (K + M - K) : Nat) : Int)))
    {r : List CK} (h : Ev (fun k => spec_l4Chunks.j2 k b o t p q acc (K : Int) (U : Int) (V : Int) (b.length : Int) (M : Int)) r) :
    ∀ (d x : Nat), M - x = d → x ≤ M → Ev (fun k => spec_l4Chunks.l1 k b o t p q acc (K : Int) (U : Int) (V : Int) (b.length : Int) (x : Int)) r := by
  have hK2 : K ≤ 2000000 := by clear on off; omega
  have hM2 : M ≤ 1000000 := by clear on off; omega
  have OFF := Aside0.mk off
  have ON := Aside0.mk on
  clear off on
  intro d
  induction d with
  | zero =>
    intro x hd hx
    have hx3 : x ≤ 1000000 := Nat.le_trans hx hM2
    have hxM : x = M := by omega
    subst hxM
    have w0 : wrap64 ((K : Int) + (x : Int)) = ((K + x : Nat) : Int) := wadd hK2 hx3
    have w1 : wrap64 ((U : Int) + (x : Int)) = ((U + x : Nat) : Int) := wadd hU1 hx3
    have w2 : wrap64 ((V : Int) + (x : Int)) = ((V + x : Nat) : Int) := wadd hV1 hx3
    refine Ev.step (fun k => by rw [spec_l4Chunks.l1]) ?_
    rw [w0, w1, w2]
    refine Ev_if (fun h1 => ?_) (fun _ => h)
    have ho := OFF.out (by omega)
    have e0 : K + x - K = x := by clear ho; omega
    rw [e0] at ho
    rw [rd_pg (by clear ho; omega), rd_pg (by clear ho; omega)]
    exact Ev_pos (by clear ho; omega) (Ev_pos (by clear ho; omega) (Ev_if (fun h2 => Ev_pos (by clear ho; omega) (Ev_neg (fun h3 => ho ⟨h2, h3⟩) h)) (fun _ => h)))
  | succ d ih =>
    intro x hd hx
    have hx3 : x ≤ 1000000 := Nat.le_trans hx hM2
    have nx_ := ih (x + 1) (by omega) (by omega)
    have hKp : K + x < p.length := by omega
    have hKq : K + x < q.length := by omega
    have hn : ((K + x : Nat) : Int) < (b.length : Int) := by omega
    have h0 : (0 : Int) ≤ ((K + x : Nat) : Int) := by omega
    have hp_ : ((K + x : Nat) : Int) < (p.length : Int) := by omega
    have hq_ : ((K + x : Nat) : Int) < (q.length : Int) := by omega
    have e0 : K + x - K = x := by omega
    have e := ON.out (K + x) (by omega) (by omega)
    rw [e0] at e
    refine Ev.step (fun k => by rw [spec_l4Chunks.l1]) ?_
    rw [wadd hK2 hx3, wadd hU1 hx3, wadd hV1 hx3, rd_pg hKp, rd_pg hKq, wone hx3]
    exact Ev_pos hn (Ev_pos h0 (Ev_pos hp_ (Ev_pos e.1 (Ev_pos hq_ (Ev_pos e.2 nx_)))))
theorem sput (hb : b.length ≤ 1000000) (ho : o.length ≤ 1000000) (ht : t.length ≤ 1000000) {acc : List CK} {K U V M : Nat} (Xn : K + M ≤ b.length) (Um : U + M ≤ o.length) (Vm : V + M ≤ t.length) (hacc : acc.length ≤ 5000000) {r : List CK}
    (h : Ev (fun k => spec_l4Chunks.l2 k b o t p q (acc ++ pt1 (seg b K (K + M)) (seg o U (U + M)) (seg t V (V + M))) ((K + M : Nat) : Int) ((U + M : Nat) : Int) ((V + M : Nat) : Int) (b.length : Int) ((K + M : Nat) : Int)) r) :
    Ev (fun k => spec_l4Chunks.j2 k b o t p q acc (K : Int) (U : Int) (V : Int) (b.length : Int) (M : Int)) r := by
  have w0 : wrap64 ((K : Int) + (M : Int)) = ((K + M : Nat) : Int) := by rw [wid (by omega) (by omega)]; omega
  have w1 : wrap64 ((U : Int) + (M : Int)) = ((U + M : Nat) : Int) := by rw [wid (by omega) (by omega)]; omega
  have w2 : wrap64 ((V : Int) + (M : Int)) = ((V + M : Nat) : Int) := by rw [wid (by omega) (by omega)]; omega
  refine Ev.step (fun k => by rw [spec_l4Chunks.j2]) ?_
  rw [w0, w1, w2]
  clear w0 w1 w2
  refine Ev_pos (by omega) (Ev_pos (by omega) (Ev_pos (by omega) (Ev_pos (by omega) (Ev_pos (by omega) (Ev_pos (by omega) (Ev_pos (by omega) (Ev_pos (by omega) (Ev_pos (by omega) ?_))))))))
  simp only [Int.toNat_natCast]
  have y1 : (seg b K (K + M)).length ≤ 1048576 := by rw [seg_len (by omega)]; omega
  have y2 : (seg o U (U + M)).length ≤ 1048576 := by rw [seg_len (by omega)]; omega
  have y3 : (seg t V (V + M)).length ≤ 1048576 := by rw [seg_len (by omega)]; omega
  exact Ev_call (sput_tells acc y1 y2 y3 (by omega)) h
theorem slast (lp : p.length = b.length) (lq : q.length = b.length) (hb : b.length ≤ 1000000) (ho : o.length ≤ 1000000) (ht : t.length ≤ 1000000) {acc : List CK} {a i j : Nat} (ha : a ≤ b.length) (hi : i ≤ o.length) (hj : j ≤ t.length) (hacc : acc.length ≤ 4000000) :
    Ev (fun k => spec_l4Chunks.j4 k b o t p q acc (a : Int) (i : Int) (j : Int) (b.length : Int) (b.length : Int)) (acc ++ pt1 (b.drop a) (o.drop i) (t.drop j)) := by
  refine Ev.step (fun k => by rw [spec_l4Chunks.j4]) (Ev_pos rfl (Ev_pos (by omega) (Ev_pos (by omega) (Ev_pos (by omega) (Ev_pos (by omega) (Ev_pos (by omega) (Ev_pos (by omega) ?_)))))))
  simp only [Int.toNat_natCast]
  have z1 : (b.drop a).length ≤ 1048576 := by rw [List.length_drop]; omega
  have z2 : (o.drop i).length ≤ 1048576 := by rw [List.length_drop]; omega
  have z3 : (t.drop j).length ≤ 1048576 := by rw [List.length_drop]; omega
  exact Ev_call (sput_tells acc z1 z2 z3 (by omega)) (Ev.now _)
theorem sgap (lp : p.length = b.length) (lq : q.length = b.length) (hb : b.length ≤ 1000000) (ho : o.length ≤ 1000000) (ht : t.length ≤ 1000000) {acc : List CK} {a i j K U V : Nat} (aK : a ≤ K) (Kn : K < b.length) (iU : i ≤ U) (Um : U ≤ o.length) (jV : j ≤ V) (Vm : V ≤ t.length) (hacc : acc.length ≤ 4000000)
    (hU : pg p K = (U : Int)) (hV : pg q K = (V : Int)) {r : List CK}
    (h : Ev (fun k => spec_l4Chunks.l1 k b o t p q (acc ++ pt1 (seg b a K) (seg o i U) (seg t j V)) (K : Int) (U : Int) (V : Int) (b.length : Int) 0) r) :
    Ev (fun k => spec_l4Chunks.j4 k b o t p q acc (a : Int) (i : Int) (j : Int) (b.length : Int) (K : Int)) r := by
  refine Ev.step (fun k => by rw [spec_l4Chunks.j4]) (Ev_neg (by omega) ?_)
  rw [rd_pg (by omega), rd_pg (by omega), hU, hV]
  clear hU hV
  refine Ev_pos (by omega) (Ev_pos (by omega) (Ev_pos (by omega) (Ev_pos (by omega) (Ev_pos (by omega) (Ev_pos (by omega) (Ev_pos (by omega) (Ev_pos (by omega) (Ev_pos (by omega) (Ev_pos (by omega) (Ev_pos (by omega) (Ev_pos (by omega) ?_)))))))))))
  simp only [Int.toNat_natCast]
  have z1 : (seg b a K).length ≤ 1048576 := by rw [seg_len (by omega)]; omega
  have z2 : (seg o i U).length ≤ 1048576 := by rw [seg_len (by omega)]; omega
  have z3 : (seg t j V).length ≤ 1048576 := by rw [seg_len (by omega)]; omega
  refine Ev_call (sput_tells acc z1 z2 z3 (by omega)) (Ev.step (fun k => by rw [spec_l4Chunks.l0]) ?_)
  exact h
theorem sch_loop_ (hp : PI p b.length o.length) (hq : PI q b.length t.length) (hb : b.length ≤ 1000000) (ho : o.length ≤ 1000000) (ht : t.length ≤ 1000000) : ∀ (d a i j : Nat) (acc : List CK), a ≤ b.length → b.length < d + a → Lo p b.length o.length a i → Lo q b.length t.length a j → acc.length ≤ 2 * a + 1 →
    Ev (fun k => spec_l4Chunks.l2 k b o t p q acc (a : Int) (i : Int) (j : Int) (b.length : Int) (a : Int)) (acc ++ chk b o t p q d a i j) := by
  intro d
  induction d with
  | zero => intro a i j acc ha h; omega
  | succ d ih =>
    intro a i j acc ha h lo1 lo2 hacc
    by_cases hl : nx p q (b.length - a) a = b.length
    · have hs := nx_spec p q (b.length - a) a
      rw [hl] at hs
      rw [chk_last hl]
      exact sscan hp.len hq.len hb (Nat.le_refl _) (slast hp.len hq.len hb ho ht ha lo1.1 lo2.1 (by omega)) (fun h => absurd h (Nat.lt_irrefl _)) _ a rfl ha hs.2.2.2
    · obtain ⟨K, U, V, X, hK, hX, s⟩ := st_of hp hq ha lo1 lo2 hl
      obtain ⟨aK, Kn, hU, hV, iU, jV, KX, Xn, Um, Vm, on, off, skip, n1, n2⟩ := s
      obtain ⟨M, rfl⟩ : ∃ M, X = K + M := ⟨X - K, by omega⟩
      have eM : K + M - K = M := by omega
      rw [chk_step hK (by omega) hU hV hX]
      refine sscan hp.len hq.len hb (by omega) ?_ (fun _ => ⟨by omega, by omega⟩) _ a rfl aK skip
      rw [eM] at Um Vm n1 n2 ⊢
      have k1 := pt1_len (seg b a K) (seg o i U) (seg t j V)
      have k2 := pt1_len (seg b K (K + M)) (seg o U (U + M)) (seg t V (V + M))
      refine sgap hp.len hq.len hb ho ht aK (by omega) iU (by omega) jV (by omega) (by omega) hU hV ?_
      have e := ih (K + M) (U + M) (V + M) (acc ++ pt1 (seg b a K) (seg o i U) (seg t j V) ++ pt1 (seg b K (K + M)) (seg o U (U + M)) (seg t V (V + M))) Xn (by omega) n1 n2 (by rw [List.length_append, List.length_append]; omega)
      refine srun hp.len hq.len hb (by omega) (by omega) Xn on off (sput hb ho ht Xn Um Vm (by rw [List.length_append]; omega) (Ev_eq e ?_)) _ 0 rfl (by omega)
      simp only [List.append_assoc]
theorem schk_tells (hb : b.length ≤ 1000000) (ho : o.length ≤ 1000000) (ht : t.length ≤ 1000000) : Ev (fun k => spec_l4Chunks.f k b o t) (CHK b o t) := by
  have hp := PT_PI b o
  have hq := PT_PI b t
  obtain ⟨X, hX⟩ : ∃ X, rn (PT b o) (PT b t) 0 0 0 b.length 0 = X := ⟨_, rfl⟩
  obtain ⟨x1, x2, x3, n1, n2, he⟩ := chk_start hp hq hX
  have hs := rn_spec (PT b o) (PT b t) 0 0 0 b.length 0
  rw [hX] at hs
  unfold spec_l4Chunks.f CHK
  rw [← he]
  refine Ev_call (spt_tells b o hb ho) (Ev_call (spt_tells b t hb ht) (Ev.step (fun k => by rw [spec_l4Chunks.l0]) ?_))
  have k1 := pt1_len (seg b 0 X) (seg o 0 X) (seg t 0 X)
  have e := sch_loop_ hp hq hb ho ht (b.length + 1) X X X (pt1 (seg b 0 X) (seg o 0 X) (seg t 0 X)) x1 (by omega) n1 n2 (by omega)
  have h0 : 0 + X = X := Nat.zero_add X
  refine srun (K := 0) (U := 0) (V := 0) (M := X) hp.len hq.len hb (by omega) (by omega) (by omega) (fun x h1 h2 => hs.2.2.1 x h1 (by omega)) (fun h => ?_) (sput (K := 0) (U := 0) (V := 0) hb ho ht (by omega) (by omega) (by omega) (by simp) ?_) _ 0 rfl (by omega)
  · have := hs.2.2.2 (by omega)
    rw [h0]
    exact this
  · rw [h0, List.nil_append]
    exact e
end
end Go.Proofs.Ytjngmhngedecdaa.P
end
section
set_option linter.unusedVariables false
set_option linter.unusedSimpArgs false
namespace Go.Proofs.Ytjngmhngedecdaa.P
open Go.RowKit Go.Proofs.YtjngmhngedecdaaW.PrintWords Go.Proofs.YtjngmhngedecdaaW.PrintLast
theorem COF_small {b o t : List ByteArray} (hb : Small b) (ho : Small o) (ht : Small t) : SmallK (COF b o t).2 := by
  have nil : SmallK ([] : List CK) := ⟨fun c hc => absurd hc (by simp), by simp, by simp [kw]⟩
  unfold COF
  split
  · rename_i h
    split
    · rename_i h2
      have h3 := LF2_zero h2
      have w1 := LF_lw h
      have w2 := LF_lw h3.1
      have w3 := LF_lw h3.2
      have n := (LF_zero h).1
      exact CHK_small hb ho ht (by omega) (by omega)
    · exact nil
  · exact nil
theorem sco_tells3 {b o t : List ByteArray} (hb : Small b) (ho : Small o) (ht : Small t) : Ev (fun k => spec_ChunksOf.f k b o t) (COF b o t) := by
  unfold spec_ChunksOf.f COF
  refine Ev_call hb.slf (Ev_if (fun h => ?_) (fun h => Ev_val ?_))
  · rw [if_pos h]
    refine Ev_call (asked_tells ho ht) (Ev_if (fun h2 => ?_) (fun h2 => Ev_val ?_))
    · rw [if_pos h2]
      have h3 := LF2_zero h2
      have n1 := (LF_zero h).1
      have n2 := (LF_zero h3.1).1
      have n3 := (LF_zero h3.2).1
      exact Ev_call (schk_tells (by omega) (by omega) (by omega)) (Ev.now _)
    · rw [if_neg h2]
  · rw [if_neg h]
theorem ico_tells3 {b o t : List ByteArray} (hb : Small b) (ho : Small o) (ht : Small t) : Ev (fun k => impl_ChunksOf.f k b o t) (COF b o t) := by
  unfold impl_ChunksOf.f COF
  refine Ev_call hb.ilf (Ev_call ho.ilf (Ev_call ht.ilf (Ev_call (first_tells _ (by simp)) ?_)))
  have e : firstOf [LF b, LF o, LF t] = if LF b = 0 then LF2 o t else LF b := by
    simp only [firstOf, LF2]
    by_cases h1 : LF b = 0 <;> by_cases h2 : LF o = 0 <;> by_cases h3 : LF t = 0 <;> simp [h1, h2, h3]
  rw [e]
  by_cases h : LF b = 0
  · rw [if_pos h, if_pos h]
    refine Ev_if (fun h2 => ?_) (fun h2 => Ev_val ?_)
    · rw [if_pos h2]
      have h3 := LF2_zero h2
      have n1 := (LF_zero h).1
      have n2 := (LF_zero h3.1).1
      have n3 := (LF_zero h3.2).1
      exact Ev_call (ichk_tells (by omega) (by omega) (by omega)) (Ev.now _)
    · rw [if_neg h2]
  · rw [if_neg h, if_neg h]
    exact Ev_neg h (Ev_val rfl)
end Go.Proofs.Ytjngmhngedecdaa.P
end
section
set_option linter.unusedVariables false
namespace Go.Proofs.Ytjngmhngedecdaa.P.VFnExactChunksOf
open Go.RowKit Go.Proofs.YtjngmhngedecdaaW.PrintWords Go.Proofs.YtjngmhngedecdaaW.PrintLast
theorem proof : UFnExactChunksOf.Pure := by
  intro b o t gb go gt
  apply Ev.rounds
  unfold laws_FnExactChunksOf.f
  refine guard_lines b gb 1048576 (by omega) (by omega) (fun r h0 h1 hb => guard_lines o go r (by omega) (by omega) (fun r2 h2 h3 ho => guard_lines t gt r2 (by omega) (by omega) (fun r3 h4 h5 ht => ?_)))
  obtain ⟨c, x, hw⟩ : ∃ c x, COF b o t = (c, x) := ⟨_, _, rfl⟩
  have hx : SmallK x := by
    have e : x = (COF b o t).2 := by rw [hw]
    rw [e]
    exact COF_small hb ho ht
  have s1 := sco_tells3 hb ho ht
  have s2 := ico_tells3 hb ho ht
  rw [hw] at s1 s2
  have n1 := hb.2.1
  have n2 := ho.2.1
  have n3 := ht.2.1
  have e : Ev (fun k => laws_eqChunksResult.f k c x c x) true := by
    unfold laws_eqChunksResult.f
    exact Ev_pos rfl (Ev_call (eqks_tells hx) (Ev_pos rfl (Ev.now _)))
  refine Ev_call hb.to (Ev_call ho.to (Ev_call ht.to (Ev_call s1 (Ev_call hb.to (Ev_call ho.to (Ev_call ht.to (Ev_call s2 (Ev_call e (Ev_pos rfl ?_)))))))))
  refine Ev_call hb.to (Ev_call hb.eq (Ev_pos rfl (Ev_call ho.to (Ev_call ho.eq (Ev_pos rfl (Ev_call ht.to (Ev_call ht.eq (Ev_pos rfl ?_))))))))
  refine Ev_call (mark_tells b 1 (by omega) (by omega)) (Ev_call (mark_tells o (1 + b.length) (by omega) (by omega)) (Ev_call (mark_tells t (1 + b.length + o.length) (by omega) (by omega)) (Ev_neg (by omega) (Ev_call e ?_))))
  refine Ev.step (fun k => by rw [laws_FnExactChunksOf.j0]) (Ev_neg (by simp) ?_)
  refine Ev_call (a := (((ksz 1 x : Nat) : Int), mkk 1 x)) (by unfold laws_markChunksResult.f; exact Ev_call (markks_tells hx) (Ev.now _)) ?_
  have hh : Ev (fun k => laws_heldChunksResult.f k c (mkk 1 x) 1) ((ksz 1 x : Nat) : Int) := by
    unfold laws_heldChunksResult.f
    exact Ev_call (heldks_tells hx.2.1 hx.2.2) (Ev_neg (by omega) (Ev.now _))
  refine Ev_call hh (Ev_neg (by omega) (Ev_pos rfl ?_))
  exact Ev_call hb.to (Ev_call ho.to (Ev_call ht.to (Ev_call s2 (Ev_call e (Ev_pos rfl (Ev_call hh (Ev_neg (by omega) (Ev_pos rfl (Ev.now _)))))))))
end Go.Proofs.Ytjngmhngedecdaa.P.VFnExactChunksOf
end
