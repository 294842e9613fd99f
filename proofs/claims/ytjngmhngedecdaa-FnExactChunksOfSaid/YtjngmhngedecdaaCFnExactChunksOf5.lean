/- Part 5 of the proof of FnExactChunksOf: words, the Go functions' contracts, what they compute, and the law on plain values. Words that the kit's print.sh wrote for this seat are among it, as far as they are used. -/
import Derived.Test.YtjngmhngedecdaaCFnExactChunksOf1
import Derived.Test.YtjngmhngedecdaaCFnExactChunksOf2
import Derived.Test.YtjngmhngedecdaaCFnExactChunksOf3
import Derived.Test.YtjngmhngedecdaaCFnExactChunksOf4
section
namespace Go.Proofs.Ytjngmhngedecdaa.P
open Go.RowKit Go.Proofs.YtjngmhngedecdaaW.PrintWords Go.Proofs.YtjngmhngedecdaaW.PrintLast Go.Proofs.YtjngmhngedecdaaW.PrintMore
attribute [local go_sem] max2_int min2_int max_two min_two max_three min_three max_four min_four
set_option linter.unusedVariables false
set_option linter.unusedSimpArgs false
mutual
def impl_chunksOf.l0 : Nat → List ByteArray → List ByteArray → List ByteArray → List Int → List Int → List (S58) → Int → Int → Int → Int → Option ((List (S58)))
  | 0, _, _, _, _, _, _, _, _, _, _ => none
  | k + 1, x0, x1, x2, x7, x8, x9, x11, x12, x13, x14 => if x14 ≤ (x0.length : Int) then (if 0 ≤ x14 then (if x14 < (x7.length : Int) then (if (rd x7 x14) < 0 then (impl_chunksOf.j1 k x0 x1 x2 x7 x8 x9 x11 x12 x13 x14 true) else (if x14 < (x8.length : Int) then (impl_chunksOf.j1 k x0 x1 x2 x7 x8 x9 x11 x12 x13 x14 (decide ((rd x8 x14) < 0))) else (none))) else (none)) else (none)) else (some x9)
def impl_chunksOf.j1 : Nat → List ByteArray → List ByteArray → List ByteArray → List Int → List Int → List (S58) → Int → Int → Int → Int → Bool → Option ((List (S58)))
  | 0, _, _, _, _, _, _, _, _, _, _, _ => none
  | k + 1, x0, x1, x2, x7, x8, x9, x11, x12, x13, x14, x49 => if x49 = true then (impl_chunksOf.l0 k x0 x1 x2 x7 x8 x9 x11 x12 x13 (wrap64 (x14 + 1))) else (if 0 ≤ x11 then (if x11 ≤ x14 then (if x14 ≤ (x0.length : Int) then (if 0 ≤ x14 then (if x14 < (x7.length : Int) then (if 0 ≤ x12 then (if x12 ≤ (rd x7 x14) then (if (rd x7 x14) ≤ (x1.length : Int) then (if x14 < (x8.length : Int) then (if 0 ≤ x13 then (if x13 ≤ (rd x8 x14) then (if (rd x8 x14) ≤ (x2.length : Int) then ((impl_chunkOf.f k ((x0.take (x14 : Int).toNat).drop (x11 : Int).toNat) ((x1.take ((rd x7 x14) : Int).toNat).drop (x12 : Int).toNat) ((x2.take ((rd x8 x14) : Int).toNat).drop (x13 : Int).toNat)).bind fun bt1223 => ((impl_chunksOf_1.f x9 bt1223.1 bt1223.2.1 bt1223.2.2.1 bt1223.2.2.2).bind fun t1233 => (impl_chunksOf.l1 k x0 x1 x2 x7 x8 t1233 x14 (rd x7 x14) (rd x8 x14) x14))) else (none)) else (none)) else (none)) else (none)) else (none)) else (none)) else (none)) else (none)) else (none)) else (none)) else (none)) else (none))
def impl_chunksOf.j3 : Nat → List ByteArray → List ByteArray → List ByteArray → List Int → List Int → List (S58) → Int → Int → Int → Int → Option ((List (S58)))
  | 0, _, _, _, _, _, _, _, _, _, _ => none
  | k + 1, x0, x1, x2, x7, x8, x9, x11, x12, x13, x14 => if 0 ≤ x11 then (if x11 ≤ x14 then (if x14 ≤ (x0.length : Int) then (if 0 ≤ x12 then (if x12 ≤ (wrap64 (x12 + (wrap64 (x14 - x11)))) then (if (wrap64 (x12 + (wrap64 (x14 - x11)))) ≤ (x1.length : Int) then (if 0 ≤ x13 then (if x13 ≤ (wrap64 (x13 + (wrap64 (x14 - x11)))) then (if (wrap64 (x13 + (wrap64 (x14 - x11)))) ≤ (x2.length : Int) then ((impl_chunkOf.f k ((x0.take (x14 : Int).toNat).drop (x11 : Int).toNat) ((x1.take ((wrap64 (x12 + (wrap64 (x14 - x11)))) : Int).toNat).drop (x12 : Int).toNat) ((x2.take ((wrap64 (x13 + (wrap64 (x14 - x11)))) : Int).toNat).drop (x13 : Int).toNat)).bind fun bt1243 => ((impl_chunksOf_1.f x9 bt1243.1 bt1243.2.1 bt1243.2.2.1 bt1243.2.2.2).bind fun t1253 => (if (wrap64 (x14 - x11)) = 0 then (some t1253) else (impl_chunksOf.l0 k x0 x1 x2 x7 x8 t1253 x14 (wrap64 (x12 + (wrap64 (x14 - x11)))) (wrap64 (x13 + (wrap64 (x14 - x11)))) x14)))) else (none)) else (none)) else (none)) else (none)) else (none)) else (none)) else (none)) else (none)) else (none)
def impl_chunksOf.l1 : Nat → List ByteArray → List ByteArray → List ByteArray → List Int → List Int → List (S58) → Int → Int → Int → Int → Option ((List (S58)))
  | 0, _, _, _, _, _, _, _, _, _, _ => none
  | k + 1, x0, x1, x2, x7, x8, x9, x11, x12, x13, x14 => if x14 < (x0.length : Int) then (if 0 ≤ x14 then (if x14 < (x7.length : Int) then (if (rd x7 x14) = (wrap64 ((wrap64 (x12 + x14)) - x11)) then (if x14 < (x8.length : Int) then (if (rd x8 x14) = (wrap64 ((wrap64 (x13 + x14)) - x11)) then (impl_chunksOf.l1 k x0 x1 x2 x7 x8 x9 x11 x12 x13 (wrap64 (x14 + 1))) else (impl_chunksOf.j3 k x0 x1 x2 x7 x8 x9 x11 x12 x13 x14)) else (none)) else (impl_chunksOf.j3 k x0 x1 x2 x7 x8 x9 x11 x12 x13 x14)) else (none)) else (none)) else (impl_chunksOf.j3 k x0 x1 x2 x7 x8 x9 x11 x12 x13 x14)
end
def impl_chunksOf.f (k : Nat) (l0 : List ByteArray) (l1 : List ByteArray) (l2 : List ByteArray) : Option ((List (S58))) := (impl_places.f k l0 l1).bind fun t1201 => ((impl_places.f k l0 l2).bind fun t1204 => (if t1201.length < 17592186044416 then (if t1204.length < 17592186044416 then (impl_chunksOf.l0 k l0 l1 l2 (t1201 ++ [(l1.length : Int)]) (t1204 ++ [(l2.length : Int)]) (([] : List (S58))) 0 0 0 0) else (none)) else (none)))
theorem impl_chunksOf.mono_l : ∀ k, (∀ y0 y1 y2 y3 y4 y5 y6 y7 y8 y9, LeO (impl_chunksOf.l0 k y0 y1 y2 y3 y4 y5 y6 y7 y8 y9) (impl_chunksOf.l0 (k + 1) y0 y1 y2 y3 y4 y5 y6 y7 y8 y9)) ∧ (∀ y0 y1 y2 y3 y4 y5 y6 y7 y8 y9 y10, LeO (impl_chunksOf.j1 k y0 y1 y2 y3 y4 y5 y6 y7 y8 y9 y10) (impl_chunksOf.j1 (k + 1) y0 y1 y2 y3 y4 y5 y6 y7 y8 y9 y10)) ∧ (∀ y0 y1 y2 y3 y4 y5 y6 y7 y8 y9, LeO (impl_chunksOf.j3 k y0 y1 y2 y3 y4 y5 y6 y7 y8 y9) (impl_chunksOf.j3 (k + 1) y0 y1 y2 y3 y4 y5 y6 y7 y8 y9)) ∧ (∀ y0 y1 y2 y3 y4 y5 y6 y7 y8 y9, LeO (impl_chunksOf.l1 k y0 y1 y2 y3 y4 y5 y6 y7 y8 y9) (impl_chunksOf.l1 (k + 1) y0 y1 y2 y3 y4 y5 y6 y7 y8 y9))
  | 0 => ⟨fun _ _ _ _ _ _ _ _ _ _ r h => by simp [impl_chunksOf.l0] at h, fun _ _ _ _ _ _ _ _ _ _ _ r h => by simp [impl_chunksOf.j1] at h, fun _ _ _ _ _ _ _ _ _ _ r h => by simp [impl_chunksOf.j3] at h, fun _ _ _ _ _ _ _ _ _ _ r h => by simp [impl_chunksOf.l1] at h⟩
  | k + 1 => by
    obtain ⟨ih0, ih1, ih2, ih3⟩ := impl_chunksOf.mono_l k
    refine ⟨?_, ?_, ?_, ?_⟩
    · intro y0 y1 y2 y3 y4 y5 y6 y7 y8 y9
      unfold impl_chunksOf.l0
      repeat' first
      | (with_reducible exact ih0 _ _ _ _ _ _ _ _ _ _)
      | (with_reducible exact ih1 _ _ _ _ _ _ _ _ _ _ _)
      | (with_reducible exact ih2 _ _ _ _ _ _ _ _ _ _)
      | (with_reducible exact ih3 _ _ _ _ _ _ _ _ _ _)
      | (with_reducible exact impl_chunkOf.mono _ _ _ _)
      | (with_reducible exact impl_places.mono _ _ _)
      | (with_reducible exact LeO.refl _)
      | (with_reducible exact LeO.none _)
      | (with_reducible refine LeO.ite ?_ ?_)
      | (with_reducible refine LeO.bind ?_ (fun _ => ?_))
      | exact ih0 _ _ _ _ _ _ _ _ _ _
      | exact ih1 _ _ _ _ _ _ _ _ _ _ _
      | exact ih2 _ _ _ _ _ _ _ _ _ _
      | exact ih3 _ _ _ _ _ _ _ _ _ _
      | exact impl_chunkOf.mono _ _ _ _
      | exact impl_places.mono _ _ _
      | exact LeO.none _
      | refine LeO.ite ?_ ?_
      | refine LeO.bind ?_ (fun _ => ?_)
    · intro y0 y1 y2 y3 y4 y5 y6 y7 y8 y9 y10
      unfold impl_chunksOf.j1
      repeat' first
      | (with_reducible exact ih0 _ _ _ _ _ _ _ _ _ _)
      | (with_reducible exact ih1 _ _ _ _ _ _ _ _ _ _ _)
      | (with_reducible exact ih2 _ _ _ _ _ _ _ _ _ _)
      | (with_reducible exact ih3 _ _ _ _ _ _ _ _ _ _)
      | (with_reducible exact impl_chunkOf.mono _ _ _ _)
      | (with_reducible exact impl_places.mono _ _ _)
      | (with_reducible exact LeO.refl _)
      | (with_reducible exact LeO.none _)
      | (with_reducible refine LeO.ite ?_ ?_)
      | (with_reducible refine LeO.bind ?_ (fun _ => ?_))
      | exact ih0 _ _ _ _ _ _ _ _ _ _
      | exact ih1 _ _ _ _ _ _ _ _ _ _ _
      | exact ih2 _ _ _ _ _ _ _ _ _ _
      | exact ih3 _ _ _ _ _ _ _ _ _ _
      | exact impl_chunkOf.mono _ _ _ _
      | exact impl_places.mono _ _ _
      | exact LeO.none _
      | refine LeO.ite ?_ ?_
      | refine LeO.bind ?_ (fun _ => ?_)
    · intro y0 y1 y2 y3 y4 y5 y6 y7 y8 y9
      unfold impl_chunksOf.j3
      repeat' first
      | (with_reducible exact ih0 _ _ _ _ _ _ _ _ _ _)
      | (with_reducible exact ih1 _ _ _ _ _ _ _ _ _ _ _)
      | (with_reducible exact ih2 _ _ _ _ _ _ _ _ _ _)
      | (with_reducible exact ih3 _ _ _ _ _ _ _ _ _ _)
      | (with_reducible exact impl_chunkOf.mono _ _ _ _)
      | (with_reducible exact impl_places.mono _ _ _)
      | (with_reducible exact LeO.refl _)
      | (with_reducible exact LeO.none _)
      | (with_reducible refine LeO.ite ?_ ?_)
      | (with_reducible refine LeO.bind ?_ (fun _ => ?_))
      | exact ih0 _ _ _ _ _ _ _ _ _ _
      | exact ih1 _ _ _ _ _ _ _ _ _ _ _
      | exact ih2 _ _ _ _ _ _ _ _ _ _
      | exact ih3 _ _ _ _ _ _ _ _ _ _
      | exact impl_chunkOf.mono _ _ _ _
      | exact impl_places.mono _ _ _
      | exact LeO.none _
      | refine LeO.ite ?_ ?_
      | refine LeO.bind ?_ (fun _ => ?_)
    · intro y0 y1 y2 y3 y4 y5 y6 y7 y8 y9
      unfold impl_chunksOf.l1
      repeat' first
      | (with_reducible exact ih0 _ _ _ _ _ _ _ _ _ _)
      | (with_reducible exact ih1 _ _ _ _ _ _ _ _ _ _ _)
      | (with_reducible exact ih2 _ _ _ _ _ _ _ _ _ _)
      | (with_reducible exact ih3 _ _ _ _ _ _ _ _ _ _)
      | (with_reducible exact impl_chunkOf.mono _ _ _ _)
      | (with_reducible exact impl_places.mono _ _ _)
      | (with_reducible exact LeO.refl _)
      | (with_reducible exact LeO.none _)
      | (with_reducible refine LeO.ite ?_ ?_)
      | (with_reducible refine LeO.bind ?_ (fun _ => ?_))
      | exact ih0 _ _ _ _ _ _ _ _ _ _
      | exact ih1 _ _ _ _ _ _ _ _ _ _ _
      | exact ih2 _ _ _ _ _ _ _ _ _ _
      | exact ih3 _ _ _ _ _ _ _ _ _ _
      | exact impl_chunkOf.mono _ _ _ _
      | exact impl_places.mono _ _ _
      | exact LeO.none _
      | refine LeO.ite ?_ ?_
      | refine LeO.bind ?_ (fun _ => ?_)
theorem impl_chunksOf.mono : ∀ a0 a1 a2 k, LeO (impl_chunksOf.f k a0 a1 a2) (impl_chunksOf.f (k + 1) a0 a1 a2) := by
 intro a0 a1 a2 k;obtain ⟨ih0, ih1, ih2, ih3⟩ := impl_chunksOf.mono_l k;unfold impl_chunksOf.f
 repeat' first
     | (with_reducible exact ih0 _ _ _ _ _ _ _ _ _ _)
     | (with_reducible exact ih1 _ _ _ _ _ _ _ _ _ _ _)
     | (with_reducible exact ih2 _ _ _ _ _ _ _ _ _ _)
     | (with_reducible exact ih3 _ _ _ _ _ _ _ _ _ _)
     | (with_reducible exact impl_chunkOf.mono _ _ _ _)
     | (with_reducible exact impl_places.mono _ _ _)
     | (with_reducible exact LeO.refl _)
     | (with_reducible exact LeO.none _)
     | (with_reducible refine LeO.ite ?_ ?_)
     | (with_reducible refine LeO.bind ?_ (fun _ => ?_))
     | exact ih0 _ _ _ _ _ _ _ _ _ _
     | exact ih1 _ _ _ _ _ _ _ _ _ _ _
     | exact ih2 _ _ _ _ _ _ _ _ _ _
     | exact ih3 _ _ _ _ _ _ _ _ _ _
     | exact impl_chunkOf.mono _ _ _ _
     | exact impl_places.mono _ _ _
     | exact LeO.none _
     | refine LeO.ite ?_ ?_
     | refine LeO.bind ?_ (fun _ => ?_)
def impl_chunksOf.T10 : Bool × List (List Nat × List Nat) := (true, [([], []), ([], []), ([], []), ([], []), ([1, 2, 3], [1, 2, 3]), ([], []), ([], []), ([], []), ([], []), ([7, 8], [7, 8]), ([9], [9]), ([5, 6, 10], [5, 6, 10]), ([], []), ([], []), ([], []), ([], []), ([14, 15], [14, 15]), ([16], [16]), ([12, 13, 17], [12, 13, 17]), ([4, 11, 18], [4, 11, 18]), ([0, 19, 19], [0, 19])])
def impl_chunksOf.B10 : List Nat := [0, 0, 0, 0, 14, 0, 0, 0, 0, 384, 896, 2016, 0, 0, 0, 0, 49152, 114688, 258048, 524286, 1048575]
theorem impl_chunksOf.tab10 : rtab .any (opsOf Try.f100 10) = impl_chunksOf.T10 := by kernel_rfl
theorem impl_chunksOf.bits10 : waitsOk impl_chunksOf.T10.2 impl_chunksOf.B10 = true := by kernel_rfl
def impl_chunksOf.T11 : Bool × List (List Nat × List Nat) := (true, [([], []), ([], []), ([], []), ([1, 2], [1, 2]), ([3], [3]), ([], []), ([], []), ([5, 6], [5, 6]), ([7], [7]), ([0, 0], [0]), ([4, 9, 0, 1, 2, 3, 4, 9], [4]), ([8, 10, 0, 1, 2, 3, 4, 5, 6, 7, 8, 9, 10], [8])])
def impl_chunksOf.B11 : List Nat := [0, 0, 0, 6, 14, 0, 0, 96, 224, 1, 543, 2047]
theorem impl_chunksOf.tab11 : rtab .any (opsOf Try.f100 11) = impl_chunksOf.T11 := by kernel_rfl
theorem impl_chunksOf.bits11 : waitsOk impl_chunksOf.T11.2 impl_chunksOf.B11 = true := by kernel_rfl
def impl_chunksOf.T15 : Bool × List (List Nat × List Nat) := (true, [([], []), ([], []), ([], []), ([], []), ([1, 2, 3], [1, 2, 3]), ([], []), ([], []), ([], []), ([], []), ([7, 8], [7, 8]), ([5, 6, 9], [5, 6, 9]), ([], []), ([], []), ([], []), ([], []), ([13, 14], [13, 14]), ([11, 12, 15], [11, 12, 15]), ([4, 10, 16], [4, 10, 16]), ([0, 17, 17], [0, 17])])
def impl_chunksOf.B15 : List Nat := [0, 0, 0, 0, 14, 0, 0, 0, 0, 384, 992, 0, 0, 0, 0, 24576, 63488, 131070, 262143]
theorem impl_chunksOf.tab15 : rtab .any (opsOf Try.f100 15) = impl_chunksOf.T15 := by kernel_rfl
theorem impl_chunksOf.bits15 : waitsOk impl_chunksOf.T15.2 impl_chunksOf.B15 = true := by kernel_rfl
set_option maxHeartbeats 8000000 in
set_option maxRecDepth 100000 in
theorem impl_chunksOf.calls (k : Nat) (A0 : Option Addr) (c0 : Nat) (l0 : List ByteArray) (A1 : Option Addr) (c1 : Nat) (l1 : List ByteArray) (A2 : Option Addr) (c2 : Nat) (l2 : List ByteArray) (r : List (S58)) (w : World) (hr0 : Kd.C Kd.string w A0 l0.length l0) (hc0 : l0.length ≤ c0) (hr1 : Kd.C Kd.string w A1 l1.length l1) (hc1 : l1.length ≤ c1) (hr2 : Kd.C Kd.string w A2 l2.length l2) (hc2 : l2.length ≤ c2) (h : impl_chunksOf.f k l0 l1 l2 = some r) :
    Calls Try.prog 100 #[.slice A0 l0.length c0, .slice A1 l1.length c1, .slice A2 l2.length c2] w fun e w' => ∃ v0_ : Value, e = .returned (v0_) ∧ Kd.S k58 58 w' w.heap.size (fun _ => True) v0_ r ∧ Below w.heap.size w w' := by
 have HR0 := Aside0.mk hr0;have HC0 := Aside0.mk hc0;clear hr0 hc0;have HR1 := Aside0.mk hr1;have HC1 := Aside0.mk hc1;clear hr1 hc1;have HR2 := Aside0.mk hr2;have HC2 := Aside0.mk hc2;clear hr2 hc2;have HB := Aside0.mk (Below.refl w.heap.size w);have H : ((impl_places.f k l0 l1).bind fun t1201 => ((impl_places.f k l0 l2).bind fun t1204 => (if t1201.length < 17592186044416 then (if t1204.length < 17592186044416 then (impl_chunksOf.l0 k l0 l1 l2 (t1201 ++ [(l1.length : Int)]) (t1204 ++ [(l2.length : Int)]) (([] : List (S58))) 0 0 0 0) else (none)) else (none)))) = some r := h;clear h;replace H := Option.bind_eq_some_iff.mp H;obtain ⟨t1201, A40, H⟩ := H;replace H : ((impl_places.f k l0 l2).bind fun t1204 => (if t1201.length < 17592186044416 then (if t1204.length < 17592186044416 then (impl_chunksOf.l0 k l0 l1 l2 (t1201 ++ [(l1.length : Int)]) (t1204 ++ [(l2.length : Int)]) (([] : List (S58))) 0 0 0 0) else (none)) else (none))) = some r := H;have A4 := Aside0.mk A40;clear A40;replace H := Option.bind_eq_some_iff.mp H;obtain ⟨t1204, A50, H⟩ := H;replace H : (if t1201.length < 17592186044416 then (if t1204.length < 17592186044416 then (impl_chunksOf.l0 k l0 l1 l2 (t1201 ++ [(l1.length : Int)]) (t1204 ++ [(l2.length : Int)]) (([] : List (S58))) 0 0 0 0) else (none)) else (none)) = some r := H;have A5 := Aside0.mk A50;clear A50;by_cases c6 : t1201.length < 17592186044416
 ·rw [if_pos c6] at H;have LMc6 := Aside0.mk c6;clear c6;obtain ⟨y1207, hy1207⟩ : ∃ y_ : List Int, y_ = (t1201 ++ [(l1.length : Int)]) := ⟨_, rfl⟩;(replace H : (if t1204.length < 17592186044416 then (impl_chunksOf.l0 k l0 l1 l2 y1207 (t1204 ++ [(l2.length : Int)]) (([] : List (S58))) 0 0 0 0) else (none)) = some r := by first | (rw [hy1207];with_reducible exact H) | (have H2_ := (Option.bind_some _ _).symm.trans H;rw [hy1207];with_reducible exact H2_) | (have H2_ := (Option.bind_some _ _).symm.trans H;with_reducible exact H2_) | with_reducible exact H | (rw [hy1207];exact H) | exact H);have Ny1207 := Aside0.mk hy1207;clear hy1207;by_cases c7 : t1204.length < 17592186044416
  ·rw [if_pos c7] at H;have LMc7 := Aside0.mk c7;clear c7;obtain ⟨y1210, hy1210⟩ : ∃ y_ : List Int, y_ = (t1204 ++ [(l2.length : Int)]) := ⟨_, rfl⟩;(replace H : (impl_chunksOf.l0 k l0 l1 l2 y1207 y1210 (([] : List (S58))) 0 0 0 0) = some r := by first | (rw [hy1210];with_reducible exact H) | (have H2_ := (Option.bind_some _ _).symm.trans H;rw [hy1210];with_reducible exact H2_) | (have H2_ := (Option.bind_some _ _).symm.trans H;with_reducible exact H2_) | with_reducible exact H | (rw [hy1210];exact H) | exact H);have Ny1210 := Aside0.mk hy1210;clear hy1210;obtain ⟨y1213, hy1213⟩ : ∃ y_ : List (S58), y_ = (([] : List (S58))) := ⟨_, rfl⟩;(replace H : (impl_chunksOf.l0 k l0 l1 l2 y1207 y1210 y1213 0 0 0 0) = some r := by first | (rw [hy1213];with_reducible exact H) | (have H2_ := (Option.bind_some _ _).symm.trans H;rw [hy1213];with_reducible exact H2_) | (have H2_ := (Option.bind_some _ _).symm.trans H;with_reducible exact H2_) | with_reducible exact H | (rw [hy1213];exact H) | exact H);have Ny1213 := Aside0.mk hy1213;clear hy1213;have H' := Aside0.mk H;clear H;go_enter Try.func100, Try.ntmps100;go_wp2_with (first | ((with_reducible refine gate_callee (f := 129) rfl ?_);refine goesL_ (some 18) rfl rfl Try.func129 (by kernel_rfl) rfl #[.slice A0 l0.length c0, .slice A1 l1.length c1] rfl lf_ ?_;(with_reducible refine (impl_places.calls k _ _ l0 _ _ l1 t1201 _ ?side1 ?side2 ?side3 ?side4 A4.out).mono ?_);(case side1 => exact rc_ HR0.out);(case side2 => exact HC0.out);(case side3 => exact rc_ HR1.out);(case side4 => exact HC1.out);rintro e w8 ⟨v1202, rfl, ho0, hb⟩;refine ⟨_, rfl, ?_⟩;have n0_ := Aside0.mk (Kd.R_lower ho0 (below_size (bw_ HB.out)));have n1_ := Aside0.mk (below_step (bw_ HB.out) hb);clear HB;have HO1203 := n0_;have HB := n1_;clear n0_ n1_;(try clear hb);(try clear hb2);(try clear hk);(try clear hi);(try clear ho0)) | ((with_reducible refine gate_callee (f := 129) rfl ?_);refine goesL_ (some 21) rfl rfl Try.func129 (by kernel_rfl) rfl #[.slice A0 l0.length c0, .slice A2 l2.length c2] rfl lf_ ?_;(with_reducible refine (impl_places.calls k _ _ l0 _ _ l2 t1204 _ ?side1 ?side2 ?side3 ?side4 A5.out).mono ?_);(case side1 => exact rc_ (Kd.C_below HR0.out HB.out));(case side2 => exact HC0.out);(case side3 => exact rc_ (Kd.C_below HR2.out HB.out));(case side4 => exact HC2.out);rintro e w9 ⟨v1205, rfl, ho0, hb⟩;refine ⟨_, rfl, ?_⟩;have n0_ := Aside0.mk (Kd.R_elder' (rr_ HO1203.out) (Kd.R_base ho0) hb);have n1_ := Aside0.mk (Kd.R_lower (Kd.R_new' ho0 (Kd.R_lt (rr_ HO1203.out))) (below_size (bw_ HB.out)));have n2_ := Aside0.mk (below_step (bw_ HB.out) hb);clear HO1203;clear HB;have HO1203 := n0_;have HO1206 := n1_;have HB := n2_;clear n0_ n1_ n2_;(try clear hb);(try clear hb2);(try clear hk);(try clear hi);(try clear ho0)) | ((with_reducible refine gate_builtin (b := .append) (xs := #[.tmp 22, .tmp 25]) rfl ?_);at_builtin;refine Kd.R_append (Kd.int .i64) (w0 := w) w.heap.size rfl (.tmp 22) (.tmp 25) 130 2 (.int .i64 0) 8 rfl Try.underlying130 info2 rfl (by decide) (by omega) v1202 t1201 (l1.length : Int) [.int .i64 (l1.length : Int)] (fun k_ => some k_ ≠ (v1205 : Value).ownBlock) (fun _ => False) rfl rfl ?aP (fun _ hk => hk.elim) ?aF ?aO ?aB ?aS ?aL ?_;(case aP => exact rfl);(case aB => exact (bw_ HB.out));(case aF => exact (fun k_ hk => Kd.fresh' (Kd.R_lt (rr_ HO1206.out)) k_ hk));(case aO => exact (by (with_reducible repeat (first | apply Kd.R_alloc | apply Kd.R_drewN | apply Kd.R_drew));exact Kd.R_mono HO1203.out (fun _ hk => hk.2)));(case aS => exact (below_size (bw_ HB.out)));(case aL => have := LMc6.out;omega);intro v1208 w10 ho hb hg hat;rw [← Ny1207.out] at ho;have n0_ := Aside0.mk (Kd.R_after (ok := (fun _ => True)) (rr_ HO1206.out) hg hat);have n1_ := Aside0.mk (hb);have n2_ := Aside0.mk (ho);clear HO1206;clear HB;clear HO1203;have HO1206 := n0_;have HB := n1_;have HO1209 := n2_;clear n0_ n1_ n2_;clear ho hb hg hat) | ((with_reducible refine gate_builtin (b := .append) (xs := #[.tmp 27, .tmp 30]) rfl ?_);at_builtin;refine Kd.R_append (Kd.int .i64) (w0 := w) w.heap.size rfl (.tmp 27) (.tmp 30) 130 2 (.int .i64 0) 8 rfl Try.underlying130 info2 rfl (by decide) (by omega) v1205 t1204 (l2.length : Int) [.int .i64 (l2.length : Int)] (fun k_ => some k_ ≠ (v1208 : Value).ownBlock) (fun _ => False) rfl rfl ?aP (fun _ hk => hk.elim) ?aF ?aO ?aB ?aS ?aL ?_;(case aP => exact rfl);(case aB => exact (bw_ HB.out));(case aF => exact (fun k_ hk => Kd.fresh' (Kd.R_lt (rr_ HO1209.out)) k_ hk));(case aO => exact (by (with_reducible repeat (first | apply Kd.R_alloc | apply Kd.R_drewN | apply Kd.R_drew));exact Kd.R_mono HO1206.out (fun _ hk => hk.2)));(case aS => exact (below_size (bw_ HB.out)));(case aL => have := LMc7.out;omega);intro v1211 w11 ho hb hg hat;rw [← Ny1210.out] at ho;have n0_ := Aside0.mk (Kd.R_after (ok := (fun _ => True)) (by (with_reducible repeat (first | apply Kd.R_alloc | apply Kd.R_drewN | apply Kd.R_drew));exact Kd.R_mono HO1209.out (fun _ hk => ⟨trivial, hk⟩)) hg hat);have n1_ := Aside0.mk (hb);have n2_ := Aside0.mk (ho);clear HO1209;clear HB;clear HO1206;have HO1209 := n0_;have HB := n1_;have HO1212 := n2_;clear n0_ n1_ n2_;clear ho hb hg hat) | ((with_reducible refine gate_dst (N := 32) rfl ?_);refine Kd.S_lit k58 _ 58 ?hg (N := 32) ?hd (xs := ([] : List (S58))) (inner := []) (ok := fun _ => True) (okp := fun _ => True) ?hr ?hp (fun _ hk => hk) trivial (Below.refl _ _) (Nat.le_refl _) (by simp) ?_;(case hd => rfl);(case hg => rfl);(case hr => first | (go_simp;done) | (go_simp;rfl));(case hp => exact (Reps.none _ _));intro v1214 w12 ho13 hb hg_ hnew_;clear hg_ hnew_;(first | rw [← Ny1213.out] at ho13 | (simp only [Int.reduceToNat] at ho13;rw [← Ny1213.out] at ho13));have n0_ := Aside0.mk (Kd.R_below (rr_ HO1209.out) hb);have n1_ := Aside0.mk (Kd.R_below (rr_ HO1212.out) hb);have n2_ := Aside0.mk (Kd.S_lower ho13 (below_size (bw_ HB.out)));have n3_ := Aside0.mk (below_step (bw_ HB.out) hb);clear HO1209;clear HO1212;clear HB;have HO1209 := n0_;have HO1212 := n1_;have HO1215 := n2_;have HB := n3_;clear n0_ n1_ n2_ n3_;clear hb ho13;obtain ⟨AqB, cqB, eqB⟩ := Kd.S_slice HO1215.out;subst eqB) | ((with_reducible refine gate_dst (N := 9) rfl ?_);refine box_event ?hg (N := 9) ?hd (cs := #[.slice none 0 0]) (t := 47) ?hr ?_;(case hd => rfl);(case hg => rfl);(case hr => first | (go_simp;done) | (go_simp;rfl));intro gbB hgB wB hbox hb;have BKB := Aside0.mk hbox;have GEB := Aside0.mk ((by rw [hgB];exact (below_size (bw_ HB.out)) : w.heap.size ≤ gbB));have n0_ := Aside0.mk (Kd.R_below HO1209.out hb);have n1_ := Aside0.mk (Kd.R_below HO1212.out hb);have n2_ := Aside0.mk (Kd.S_below HO1215.out hb);have n3_ := Aside0.mk (below_step (bw_ HB.out) hb);clear HO1209;clear HO1212;clear HO1215;clear HB;have HO1209 := n0_;have HO1212 := n1_;have HO1215 := n2_;have HB := n3_;clear n0_ n1_ n2_ n3_;clear hb hbox hgB;have hczB : wB.cell? ⟨gbB, 0, none⟩ = some (.slice none 0 0) := (blk_cell BKB.out 0).trans rfl;have hfzB := blk_frozen BKB.out 0));go_loopg [11, 12, 13, 14] k (fun kq v11 v12 v13 v14 w' => ∃ (x9_1 : List (S58)) (x11_1 : Int) (x12_1 : Int) (x13_1 : Int) (x14_1 : Int), v11 = .int .i64 x11_1 ∧ v12 = .int .i64 x12_1 ∧ v13 = .int .i64 x13_1 ∧ v14 = .int .i64 x14_1 ∧ Aside0 (impl_chunksOf.l0 kq l0 l1 l2 y1207 y1210 x9_1 x11_1 x12_1 x13_1 x14_1 = some r) ∧ Aside0 (kq ≤ k) ∧ Aside0 (Kd.R (Kd.int .i64) 2 w' w.heap.size (fun k_ => some k_ ≠ (v1211 : Value).ownBlock) v1208 y1207) ∧ Aside0 (Kd.R (Kd.int .i64) 2 w' w.heap.size (fun k_ => some k_ ≠ (v1208 : Value).ownBlock) v1211 y1210) ∧ Aside0 (Bx gbB w' w.heap.size (fun _ => True) x9_1) ∧ Aside0 (Below w.heap.size w w'));(case atStart => exact ⟨(y1213), (0), (0), (0), (0), ls_, ls_, ls_, ls_, H', ⟨Nat.le_refl _⟩, ⟨Kd.R_set (Kd.R_mono HO1209.out (fun _ hk => hk.2)) BKB.out (by decide) 0 _⟩, ⟨Kd.R_set (HO1212.out) BKB.out (by decide) 0 _⟩, ⟨⟨GEB.out, _, blk_put (cs := #[.slice none 0 0]) BKB.out 0 _ rfl, Kd.S_set HO1215.out BKB.out (by decide) 0 _⟩⟩, ⟨by repeat (first | (with_reducible first | exact HB.out | refine below_set ?_ GEB.out | apply below_alloc | apply pw_below_drewN | apply below_drew1) | exact HB.out)⟩⟩)
   case round =>
     clear H'
     try clear c1
     try clear c2
     try clear p2
     try clear c6
     try clear c7
     try clear c10
     try clear c12
     obtain ⟨x9_1, x11_1, x12_1, x13_1, x14_1, rfl, rfl, rfl, rfl, HA, HK1, HO_7, HO_8, HO_9, HB⟩ := hrel
     cases gk with
     | zero => exact absurd HA.out (by simp [impl_chunksOf.l0])
     | succ k1 =>
       have H := HA.out
       clear HA
       simp only [impl_chunksOf.l0] at H
       by_cases c14 : x14_1 ≤ (l0.length : Int)
       · rw [if_pos c14] at H
         have c14b0 : decide (x14_1 ≤ (l0.length : Int)) = true := decide_eq_true c14
         clear c14
         have HC15 := Aside0.mk H
         clear H
         go_upto_region 8 with (fail)
         go_cut [49] (fun v49 wc => ∃ (kq : Nat) (x49_14 : Bool), v49 = .bool x49_14 ∧ Aside0 (impl_chunksOf.j1 kq l0 l1 l2 y1207 y1210 x9_1 x11_1 x12_1 x13_1 x14_1 x49_14 = some r) ∧ Aside0 (kq ≤ k1) ∧ Aside0 (Kd.R (Kd.int .i64) 2 wc w.heap.size (fun k_ => some k_ ≠ (v1211 : Value).ownBlock) v1208 y1207) ∧ Aside0 (Kd.R (Kd.int .i64) 2 wc w.heap.size (fun k_ => some k_ ≠ (v1208 : Value).ownBlock) v1211 y1210) ∧ Aside0 (Bx gbB wc w.heap.size (fun _ => True) x9_1) ∧ Aside0 (Below w.heap.size w wc))
         case first =>
           have H := HC15.out
           clear HC15
           by_cases c16 : 0 ≤ x14_1
           · rw [if_pos c16] at H
             have c16b0 : decide (0 ≤ x14_1) = true := decide_eq_true c16
             clear c16
             (first | rw [c16b0] | (simp only [i64_w, i32_w];rw [c16b0]) | skip)
             by_cases c17 : x14_1 < (y1207.length : Int)
             · rw [if_pos c17] at H
               have c17b0 : decide (x14_1 < (y1207.length : Int)) = true := decide_eq_true c17
               clear c17
               by_cases c18 : (rd y1207 x14_1) < 0
               · rw [if_pos c18] at H
                 have c18b0 : decide ((rd y1207 x14_1) < 0) = true := decide_eq_true c18
                 clear c18
                 have H' := Aside0.mk H
                 clear H
                 obtain ⟨Ao19, co19, eo19⟩ := Kd.R_slice HO_7.out
                 subst eo19
                 have p1216 : 0 ≤ (x14_1 : Int) := od_
                 have q1216 : x14_1 < (y1207.length : Int) := od_
                 obtain ⟨ad1216, e1216, hx1216_0⟩ := Kd.at_int (Kd.R_reads' HO_7.out).2.2 x14_1 p1216 q1216
                 cases e1216
                 replace p1216 := eq_true p1216
                 replace q1216 := eq_true q1216
                 go_wp2
                 go_meet
                 case rel => exact ⟨_, (true), ls_, H', ⟨by have := HK1.out;first | omega | exact Nat.le_refl _⟩, ⟨rr_ HO_7.out⟩, ⟨rr_ HO_8.out⟩, ⟨by (with_reducible repeat (first | apply Bx_alloc | apply Bx_drewN | apply Bx_drew));exact HO_9.out⟩, ⟨bw_ HB.out⟩⟩
               · rw [if_neg c18] at H
                 have c18b0 : decide ((rd y1207 x14_1) < 0) = false := decide_eq_false c18
                 clear c18
                 by_cases c20 : x14_1 < (y1210.length : Int)
                 · rw [if_pos c20] at H
                   have c20b0 : decide (x14_1 < (y1210.length : Int)) = true := decide_eq_true c20
                   clear c20
                   have H' := Aside0.mk H
                   clear H
                   obtain ⟨Ao21, co21, eo21⟩ := Kd.R_slice HO_7.out
                   subst eo21
                   have p1216 : 0 ≤ (x14_1 : Int) := od_
                   have q1216 : x14_1 < (y1207.length : Int) := od_
                   obtain ⟨ad1216, e1216, hx1216_0⟩ := Kd.at_int (Kd.R_reads' HO_7.out).2.2 x14_1 p1216 q1216
                   cases e1216
                   replace p1216 := eq_true p1216
                   replace q1216 := eq_true q1216
                   obtain ⟨Ao22, co22, eo22⟩ := Kd.R_slice HO_8.out
                   subst eo22
                   have p1217 : 0 ≤ (x14_1 : Int) := od_
                   have q1217 : x14_1 < (y1210.length : Int) := od_
                   obtain ⟨ad1217, e1217, hx1217_0⟩ := Kd.at_int (Kd.R_reads' HO_8.out).2.2 x14_1 p1217 q1217
                   cases e1217
                   replace p1217 := eq_true p1217
                   replace q1217 := eq_true q1217
                   go_wp2
                   go_meet
                   case rel => exact ⟨_, (decide ((rd y1210 x14_1) < 0)), ls_, H', ⟨by have := HK1.out;first | omega | exact Nat.le_refl _⟩, ⟨rr_ HO_7.out⟩, ⟨rr_ HO_8.out⟩, ⟨by (with_reducible repeat (first | apply Bx_alloc | apply Bx_drewN | apply Bx_drew));exact HO_9.out⟩, ⟨bw_ HB.out⟩⟩
                 · rw [if_neg c20] at H
                   exact absurd H (by simp)
             · rw [if_neg c17] at H
               exact absurd H (by simp)
           · rw [if_neg c16] at H
             exact absurd H (by simp)
         case rest =>
           clear HC15
           try clear c1
           try clear p1
           try clear q1
           try clear hx1
           try clear c2
           try clear p2
           try clear c6
           try clear c7
           try clear c10
           try clear c12
           try clear p12
           try clear q12
           try clear hx12
           try clear c14
           try clear c14b0
           try clear c16
           try clear c16b0
           try clear c17
           try clear c17b0
           try clear c18
           try clear c18b0
           try clear c20
           try clear c20b0
           try clear hx1216_0
           try clear hx1217_0
           try clear p1216
           try clear p1217
           try clear p2
           try clear q1216
           try clear q1217
           obtain ⟨kq, x49_14, rfl, HA, HJ14, HO_7, HO_8, HO_9, HB⟩ := hcut
           cases kq with
           | zero => exact absurd HA.out (by simp [impl_chunksOf.j1])
           | succ kj14 =>
             have H := HA.out
             clear HA
             simp only [impl_chunksOf.j1] at H
             by_cases c23 : x49_14 = true
             · subst c23
               have H1 : (impl_chunksOf.l0 kj14 l0 l1 l2 y1207 y1210 x9_1 x11_1 x12_1 x13_1 (wrap64 (x14_1 + 1))) = some r := by rw [if_pos rfl] at H;exact H
               clear H
               have H := H1
               clear H1
               have H' := Aside0.mk H
               clear H
               go_wp2
               go_roundg kj14
               case measure => have := HK1.out;have := HJ14.out;omega
               case rel => exact ⟨(x9_1), (x11_1), (x12_1), (x13_1), (wrap64 (x14_1 + 1)), ls_, ls_, ls_, ls_, H', ⟨by have := HK1.out;have := HJ14.out;omega⟩, ⟨rr_ HO_7.out⟩, ⟨rr_ HO_8.out⟩, ⟨by (with_reducible repeat (first | apply Bx_alloc | apply Bx_drewN | apply Bx_drew));exact HO_9.out⟩, ⟨bw_ HB.out⟩⟩
             · replace c23 := Bool.eq_false_iff.mpr c23
               subst c23
               have H1 : (if 0 ≤ x11_1 then (if x11_1 ≤ x14_1 then (if x14_1 ≤ (l0.length : Int) then (if 0 ≤ x14_1 then (if x14_1 < (y1207.length : Int) then (if 0 ≤ x12_1 then (if x12_1 ≤ (rd y1207 x14_1) then (if (rd y1207 x14_1) ≤ (l1.length : Int) then (if x14_1 < (y1210.length : Int) then (if 0 ≤ x13_1 then (if x13_1 ≤ (rd y1210 x14_1) then (if (rd y1210 x14_1) ≤ (l2.length : Int) then ((impl_chunkOf.f kj14 ((l0.take (x14_1 : Int).toNat).drop (x11_1 : Int).toNat) ((l1.take ((rd y1207 x14_1) : Int).toNat).drop (x12_1 : Int).toNat) ((l2.take ((rd y1210 x14_1) : Int).toNat).drop (x13_1 : Int).toNat)).bind fun bt1223 => ((impl_chunksOf_1.f x9_1 bt1223.1 bt1223.2.1 bt1223.2.2.1 bt1223.2.2.2).bind fun t1233 => (impl_chunksOf.l1 kj14 l0 l1 l2 y1207 y1210 t1233 x14_1 (rd y1207 x14_1) (rd y1210 x14_1) x14_1))) else (none)) else (none)) else (none)) else (none)) else (none)) else (none)) else (none)) else (none)) else (none)) else (none)) else (none)) else (none)) = some r := by rw [if_neg (show ¬ (false = true) by decide)] at H;exact H
               clear H
               have H := H1
               clear H1
               by_cases c24 : 0 ≤ x11_1
               · rw [if_pos c24] at H
                 have c24b0 := eq_true c24
                 have c24b1 : decide (0 ≤ x11_1) = true := decide_eq_true c24
                 clear c24
                 by_cases c25 : x11_1 ≤ x14_1
                 · rw [if_pos c25] at H
                   have c25b0 := eq_true c25
                   have c25b1 : decide (x11_1 ≤ x14_1) = true := decide_eq_true c25
                   clear c25
                   by_cases c26 : x14_1 ≤ (l0.length : Int)
                   · rw [if_pos c26] at H
                     have c26b0 := eq_true c26
                     have c26b1 : decide (x14_1 ≤ (l0.length : Int)) = true := decide_eq_true c26
                     clear c26
                     by_cases c27 : 0 ≤ x14_1
                     · rw [if_pos c27] at H
                       have c27b0 : decide (0 ≤ x14_1) = true := decide_eq_true c27
                       clear c27
                       by_cases c28 : x14_1 < (y1207.length : Int)
                       · rw [if_pos c28] at H
                         have c28b0 : decide (x14_1 < (y1207.length : Int)) = true := decide_eq_true c28
                         clear c28
                         by_cases c29 : 0 ≤ x12_1
                         · rw [if_pos c29] at H
                           have c29b0 := eq_true c29
                           have c29b1 : decide (0 ≤ x12_1) = true := decide_eq_true c29
                           clear c29
                           by_cases c30 : x12_1 ≤ (rd y1207 x14_1)
                           · rw [if_pos c30] at H
                             have c30b0 := eq_true c30
                             have c30b1 : decide (x12_1 ≤ (rd y1207 x14_1)) = true := decide_eq_true c30
                             clear c30
                             by_cases c31 : (rd y1207 x14_1) ≤ (l1.length : Int)
                             · rw [if_pos c31] at H
                               have c31b0 := eq_true c31
                               have c31b1 : decide ((rd y1207 x14_1) ≤ (l1.length : Int)) = true := decide_eq_true c31
                               clear c31
                               by_cases c32 : x14_1 < (y1210.length : Int)
                               · rw [if_pos c32] at H
                                 have c32b0 : decide (x14_1 < (y1210.length : Int)) = true := decide_eq_true c32
                                 clear c32
                                 by_cases c33 : 0 ≤ x13_1
                                 · rw [if_pos c33] at H
                                   have c33b0 := eq_true c33
                                   have c33b1 : decide (0 ≤ x13_1) = true := decide_eq_true c33
                                   clear c33
                                   by_cases c34 : x13_1 ≤ (rd y1210 x14_1)
                                   · rw [if_pos c34] at H
                                     have c34b0 := eq_true c34
                                     have c34b1 : decide (x13_1 ≤ (rd y1210 x14_1)) = true := decide_eq_true c34
                                     clear c34
                                     by_cases c35 : (rd y1210 x14_1) ≤ (l2.length : Int)
                                     · rw [if_pos c35] at H
                                       have c35b0 := eq_true c35
                                       have c35b1 : decide ((rd y1210 x14_1) ≤ (l2.length : Int)) = true := decide_eq_true c35
                                       clear c35
                                       replace H := Option.bind_eq_some_iff.mp H
                                       obtain ⟨⟨t1223, t1224, t1227, t1230⟩, A360, H⟩ := H
                                       replace H : ((impl_chunksOf_1.f x9_1 t1223 t1224 t1227 t1230).bind fun t1233 => (impl_chunksOf.l1 kj14 l0 l1 l2 y1207 y1210 t1233 x14_1 (rd y1207 x14_1) (rd y1210 x14_1) x14_1)) = some r := H
                                       have A36 := Aside0.mk A360
                                       clear A360
                                       replace H := Option.bind_eq_some_iff.mp H
                                       obtain ⟨t1233, A370, H⟩ := H
                                       replace H : (impl_chunksOf.l1 kj14 l0 l1 l2 y1207 y1210 t1233 x14_1 (rd y1207 x14_1) (rd y1210 x14_1) x14_1) = some r := H
                                       have A37 := Aside0.mk A370
                                       clear A370
                                       have HC38 := Aside0.mk H
                                       clear H
                                       try go_wp2
                                       have n0_ := Aside0.mk (Kd.R_drew HO_7.out)
                                       have n1_ := Aside0.mk (Kd.R_drew HO_8.out)
                                       have n2_ := Aside0.mk (Bx_drew HO_9.out)
                                       have n3_ := Aside0.mk (below_drew1 HB.out)
                                       clear HO_7
                                       clear HO_8
                                       clear HO_9
                                       clear HB
                                       have HO_7 := n0_
                                       have HO_8 := n1_
                                       have HO_9 := n2_
                                       have HB := n3_
                                       clear n0_ n1_ n2_ n3_
                                       obtain ⟨i040, hi040, _, hsz40, _⟩ := info_parts info9
                                       obtain ⟨A40, hcut40, hA40, hC40⟩ := print_mid_of (P := Try.prog) Value.string (⟨#[]⟩ : ByteArray) 34 9 .i64 .i64 Try.underlying34 hi040 hsz40 A0 c0 l0 x11_1 x14_1 od_ (by first | omega | exact od_) od_ HC0.out
                                       have HR1218 := Aside0.mk (Kd.C_of_reads (h1 := fun _ => rfl) (hA40 _ (Kd.reads_of_C HR0.out)))
                                       have HC1218 := Aside0.mk hC40
                                       clear hA40 hC40 hi040 hsz40
                                       obtain ⟨Ao41, co41, eo41⟩ := Kd.R_slice HO_7.out
                                       (first | subst eo41 | (injection eo41 with f1_ f2_ f3_;have f4_ := f1_.symm;have f5_ := f3_.symm;clear f1_ f2_ f3_;subst f4_;subst f5_))
                                       have p1219 : 0 ≤ (x14_1 : Int) := od_
                                       have q1219 : x14_1 < (y1207.length : Int) := od_
                                       obtain ⟨ad1219, e1219, hx1219_0⟩ := Kd.at_int (Kd.R_reads' HO_7.out).2.2 x14_1 p1219 q1219
                                       cases e1219
                                       replace p1219 := eq_true p1219
                                       replace q1219 := eq_true q1219
                                       obtain ⟨i042, hi042, _, hsz42, _⟩ := info_parts info9
                                       obtain ⟨A42, hcut42, hA42, hC42⟩ := print_mid_of (P := Try.prog) Value.string (⟨#[]⟩ : ByteArray) 34 9 .i64 .i64 Try.underlying34 hi042 hsz42 A1 c1 l1 x12_1 (rd y1207 x14_1) od_ (by first | omega | exact od_) od_ HC1.out
                                       have HR1220 := Aside0.mk (Kd.C_of_reads (h1 := fun _ => rfl) (hA42 _ (Kd.reads_of_C HR1.out)))
                                       have HC1220 := Aside0.mk hC42
                                       clear hA42 hC42 hi042 hsz42
                                       obtain ⟨Ao43, co43, eo43⟩ := Kd.R_slice HO_8.out
                                       (first | subst eo43 | (injection eo43 with f1_ f2_ f3_;have f4_ := f1_.symm;have f5_ := f3_.symm;clear f1_ f2_ f3_;subst f4_;subst f5_))
                                       have p1221 : 0 ≤ (x14_1 : Int) := od_
                                       have q1221 : x14_1 < (y1210.length : Int) := od_
                                       obtain ⟨ad1221, e1221, hx1221_0⟩ := Kd.at_int (Kd.R_reads' HO_8.out).2.2 x14_1 p1221 q1221
                                       cases e1221
                                       replace p1221 := eq_true p1221
                                       replace q1221 := eq_true q1221
                                       obtain ⟨i044, hi044, _, hsz44, _⟩ := info_parts info9
                                       obtain ⟨A44, hcut44, hA44, hC44⟩ := print_mid_of (P := Try.prog) Value.string (⟨#[]⟩ : ByteArray) 34 9 .i64 .i64 Try.underlying34 hi044 hsz44 A2 c2 l2 x13_1 (rd y1210 x14_1) od_ (by first | omega | exact od_) od_ HC2.out
                                       have HR1222 := Aside0.mk (Kd.C_of_reads (h1 := fun _ => rfl) (hA44 _ (Kd.reads_of_C HR2.out)))
                                       have HC1222 := Aside0.mk hC44
                                       clear hA44 hC44 hi044 hsz44
                                       refine start_ (n := 21) (S := fun w' => w'.cell? (ad1219.add (x14_1).toNat) = some (.int .i64 (rd y1207 x14_1)) ∧ w'.cell? (ad1221.add (x14_1).toNat) = some (.int .i64 (rd y1210 x14_1))) (ds := []) (mb_ 21 0) (by kernel_rfl) rfl rfl ⟨hx1219_0, hx1221_0⟩ (fun hHeld => ?_);refine with_tabW impl_chunksOf.tab10 impl_chunksOf.bits10 (fun HT_ HW_ => ?_)
                                       generalize wc.drew = w39 at HO_7 HO_8 HO_9 HB HR1218 HR1220 HR1222 hx1219_0 hx1221_0 hHeld ⊢
                                       refine pure_ (i := 0) (N := some 52) (v := ?_) (a' := ?_) (mb_ 21 1) rfl rfl (any_of HT_.out (by kernel_rfl)) (fun _ _ _ h => h) (Or.inl ⟨by rfl, ?_⟩) ?_ ?_
                                       rotate_left
                                       · intro w'
                                         go_simp
                                         with_reducible rfl
                                       rotate_left
                                       · simp only [Act.put, s0_, s1_, s2_, i64_w, i32_w]
                                         rfl
                                       refine pure_ (i := 1) (N := some 53) (v := ?_) (a' := ?_) (mb_ 21 3) rfl rfl (any_of HT_.out (by kernel_rfl)) (fun _ _ _ h => h) (Or.inl ⟨by rfl, ?_⟩) ?_ ?_
                                       rotate_left
                                       · intro w'
                                         go_simp
                                         with_reducible rfl
                                       rotate_left
                                       · simp only [Act.put, s0_, s1_, s2_, i64_w, i32_w]
                                         rfl
                                       refine pure_ (i := 2) (N := some 54) (v := ?_) (a' := ?_) (mb_ 21 7) rfl rfl (any_of HT_.out (by kernel_rfl)) (fun _ _ _ h => h) (Or.inl ⟨by rfl, ?_⟩) ?_ ?_
                                       rotate_left
                                       · intro w'
                                         go_simp
                                         with_reducible rfl
                                       rotate_left
                                       · simp only [Act.put, s0_, s1_, s2_, i64_w, i32_w]
                                         rfl
                                       refine pure_ (i := 3) (N := some 55) (v := ?_) (a' := ?_) (mb_ 21 15) rfl rfl (any_of HT_.out (by kernel_rfl)) (fun _ _ _ h => h) (Or.inl ⟨by rfl, ?_⟩) ?_ ?_
                                       rotate_left
                                       · intro w'
                                         go_simp
                                         with_reducible rfl
                                       rotate_left
                                       · simp only [Act.put, s0_, s1_, s2_, i64_w, i32_w]
                                         rfl
                                       refine pure_ (i := 4) (N := some 56) (v := ?_) (a' := ?_) (mb_ 21 31) rfl rfl (any_of HT_.out (by kernel_rfl)) (fun _ _ _ h => h) (Or.inl ⟨by rfl, ?_⟩) ?_ ?_
                                       rotate_left
                                       · intro w'
                                         go_simp
                                         with_reducible rfl
                                       rotate_left
                                       · simp only [Act.put, s0_, s1_, s2_, i64_w, i32_w]
                                         rfl
                                       refine pure_ (i := 5) (N := some 57) (v := ?_) (a' := ?_) (mb_ 21 63) rfl rfl (any_of HT_.out (by kernel_rfl)) (fun _ _ _ h => h) (Or.inl ⟨by rfl, ?_⟩) ?_ ?_
                                       rotate_left
                                       · intro w'
                                         go_simp
                                         with_reducible rfl
                                       rotate_left
                                       · simp only [Act.put, s0_, s1_, s2_, i64_w, i32_w]
                                         rfl
                                       refine pure_ (i := 6) (N := some 58) (v := ?_) (a' := ?_) (mb_ 21 127) rfl rfl (any_of HT_.out (by kernel_rfl)) (fun _ _ _ h => h) (Or.inl ⟨by rfl, ?_⟩) ?_ ?_
                                       rotate_left
                                       · intro w'
                                         go_simp
                                         with_reducible rfl
                                       rotate_left
                                       · simp only [Act.put, s0_, s1_, s2_, i64_w, i32_w]
                                         rfl
                                       refine pure_ (i := 7) (N := some 59) (v := ?_) (a' := ?_) (mb_ 21 255) rfl rfl (any_of HT_.out (by kernel_rfl)) (fun _ _ _ h => h) (Or.inl ⟨by rfl, ?_⟩) ?_ ?_
                                       rotate_left
                                       · intro w'
                                         go_simp
                                         with_reducible rfl
                                       rotate_left
                                       · simp only [Act.put, s0_, s1_, s2_, i64_w, i32_w]
                                         rfl
                                       refine pure_ (i := 8) (N := some 60) (v := ?_) (a' := ?_) (mb_ 21 511) rfl rfl (any_of HT_.out (by kernel_rfl)) (fun _ _ _ h => h) (Or.inl ⟨by rfl, ?_⟩) ?_ ?_
                                       rotate_left
                                       · intro w'
                                         go_simp
                                         with_reducible rfl
                                       rotate_left
                                       · simp only [Act.put, s0_, s1_, s2_, i64_w, i32_w]
                                         rfl
                                       refine pure_ (i := 9) (N := some 61) (v := ?_) (a' := ?_) (mb_ 21 1023) rfl rfl (any_of HT_.out (by kernel_rfl)) (fun _ _ _ h => h) (Or.inl ⟨by rfl, ?_⟩) ?_ ?_
                                       rotate_left
                                       · intro w'
                                         go_simp
                                         with_reducible rfl
                                       rotate_left
                                       · simp only [Act.put, s0_, s1_, s2_, i64_w, i32_w]
                                         rfl
                                       refine pure_ (i := 12) (N := some 64) (v := ?_) (a' := ?_) (mb_ 21 5119) rfl rfl (any_of HT_.out (by kernel_rfl)) (fun _ _ _ h => h) (Or.inl ⟨by rfl, ?_⟩) ?_ ?_
                                       rotate_left
                                       · intro w'
                                         go_simp
                                         with_reducible rfl
                                       rotate_left
                                       · simp only [Act.put, s0_, s1_, s2_, i64_w, i32_w]
                                         rfl
                                       refine pure_ (i := 13) (N := some 65) (v := ?_) (a' := ?_) (mb_ 21 13311) rfl rfl (any_of HT_.out (by kernel_rfl)) (fun _ _ _ h => h) (Or.inl ⟨by rfl, ?_⟩) ?_ ?_
                                       rotate_left
                                       · intro w'
                                         go_simp
                                         with_reducible rfl
                                       rotate_left
                                       · simp only [Act.put, s0_, s1_, s2_, i64_w, i32_w]
                                         rfl
                                       refine pure_ (i := 14) (N := some 66) (v := ?_) (a' := ?_) (mb_ 21 29695) rfl rfl (any_of HT_.out (by kernel_rfl)) (fun _ _ _ h => h) (Or.inl ⟨by rfl, ?_⟩) ?_ ?_
                                       rotate_left
                                       · intro w'
                                         go_simp
                                         with_reducible rfl
                                       rotate_left
                                       · simp only [Act.put, s0_, s1_, s2_, i64_w, i32_w]
                                         rfl
                                       refine pure_ (i := 15) (N := some 67) (v := ?_) (a' := ?_) (mb_ 21 62463) rfl rfl (any_of HT_.out (by kernel_rfl)) (fun _ _ _ h => h) (Or.inl ⟨by rfl, ?_⟩) ?_ ?_
                                       rotate_left
                                       · intro w'
                                         go_simp
                                         with_reducible rfl
                                       rotate_left
                                       · simp only [Act.put, s0_, s1_, s2_, i64_w, i32_w]
                                         rfl
                                       refine pure_ (i := 16) (N := some 68) (v := ?_) (a' := ?_) (mb_ 21 127999) rfl rfl (any_of HT_.out (by kernel_rfl)) (fun _ _ _ h => h) (Or.inl ⟨by rfl, ?_⟩) ?_ ?_
                                       rotate_left
                                       · intro w'
                                         go_simp
                                         with_reducible rfl
                                       rotate_left
                                       · simp only [Act.put, s0_, s1_, s2_, i64_w, i32_w]
                                         rfl
                                       refine take_ (i := 10) (N := some 62) (v := ?_) (a' := ?_) (mb_ 21 129023) rfl rfl (take_ofW HT_.out HW_.out (by kernel_rfl)) (fun _ _ _ h => h) (Or.inl ⟨by rfl, ?_⟩) hHeld ?_ ?_
                                       rotate_left
                                       · rintro w' ⟨s0, s1⟩
                                         go_simp
                                         with_reducible rfl
                                       rotate_left
                                       · simp only [Act.put, s0_, s1_, s2_, i64_w, i32_w]
                                         rfl
                                       refine pure_ (i := 11) (N := some 63) (v := ?_) (a' := ?_) (mb_ 21 131071) rfl rfl (any_of HT_.out (by kernel_rfl)) (fun _ _ _ h => h) (Or.inl ⟨by rfl, ?_⟩) ?_ ?_
                                       rotate_left
                                       · intro w'
                                         go_simp
                                         with_reducible rfl
                                       rotate_left
                                       · simp only [Act.put, s0_, s1_, s2_, i64_w, i32_w]
                                         rfl
                                       refine take_ (i := 17) (N := some 69) (v := ?_) (a' := ?_) (mb_ 21 262143) rfl rfl (take_ofW HT_.out HW_.out (by kernel_rfl)) (fun _ _ _ h => h) (Or.inl ⟨by rfl, ?_⟩) hHeld ?_ ?_
                                       rotate_left
                                       · rintro w' ⟨s0, s1⟩
                                         go_simp
                                         with_reducible rfl
                                       rotate_left
                                       · simp only [Act.put, s0_, s1_, s2_, i64_w, i32_w]
                                         rfl
                                       refine pure_ (i := 18) (N := some 70) (v := ?_) (a' := ?_) (mb_ 21 524287) rfl rfl (any_of HT_.out (by kernel_rfl)) (fun _ _ _ h => h) (Or.inl ⟨by rfl, ?_⟩) ?_ ?_
                                       rotate_left
                                       · intro w'
                                         go_simp
                                         with_reducible rfl
                                       rotate_left
                                       · simp only [Act.put, s0_, s1_, s2_, i64_w, i32_w]
                                         rfl
                                       refine one_ (i := 19) (N := some 71) (mb_ 21 1048575) rfl rfl (one_of HT_.out (by kernel_rfl)) (by decide) (fun K hK => ?_)
                                       refine goes_ Try.func127 (by kernel_rfl) rfl #[.slice A40 ((l0.take (x14_1 : Int).toNat).drop (x11_1 : Int).toNat).length (c0 - x11_1.toNat), .slice A42 ((l1.take ((rd y1207 x14_1) : Int).toNat).drop (x12_1 : Int).toNat).length (c1 - x12_1.toNat), .slice A44 ((l2.take ((rd y1210 x14_1) : Int).toNat).drop (x13_1 : Int).toNat).length (c2 - x13_1.toNat)] (by rfl) rfl rfl (by (try simp only [List.map_toArray, List.map_cons, List.map_nil]);first | done | ((try rw [show ((l0.take (x14_1 : Int).toNat).drop (x11_1 : Int).toNat).length = (x14_1.toNat - x11_1.toNat) from (by rw [List.length_drop, List.length_take];have h_ : (x14_1 : Int) ≤ (l0.length : Int) := od_;omega)]);(try rw [show ((l1.take ((rd y1207 x14_1) : Int).toNat).drop (x12_1 : Int).toNat).length = ((rd y1207 x14_1).toNat - x12_1.toNat) from (by rw [List.length_drop, List.length_take];have h_ : ((rd y1207 x14_1) : Int) ≤ (l1.length : Int) := od_;omega)]);(try rw [show ((l2.take ((rd y1210 x14_1) : Int).toNat).drop (x13_1 : Int).toNat).length = ((rd y1210 x14_1).toNat - x13_1.toNat) from (by rw [List.length_drop, List.length_take];have h_ : ((rd y1210 x14_1) : Int) ≤ (l2.length : Int) := od_;omega)]);rfl) | (rw [show ((l0.take (x14_1 : Int).toNat).drop (x11_1 : Int).toNat).length = (x14_1.toNat - x11_1.toNat) from (by rw [List.length_drop, List.length_take];have h_ : (x14_1 : Int) ≤ (l0.length : Int) := od_;omega)] <;> rfl) | (rw [show ((l1.take ((rd y1207 x14_1) : Int).toNat).drop (x12_1 : Int).toNat).length = ((rd y1207 x14_1).toNat - x12_1.toNat) from (by rw [List.length_drop, List.length_take];have h_ : ((rd y1207 x14_1) : Int) ≤ (l1.length : Int) := od_;omega)] <;> rfl) | (rw [show ((l2.take ((rd y1210 x14_1) : Int).toNat).drop (x13_1 : Int).toNat).length = ((rd y1210 x14_1).toNat - x13_1.toNat) from (by rw [List.length_drop, List.length_take];have h_ : ((rd y1210 x14_1) : Int) ≤ (l2.length : Int) := od_;omega)] <;> rfl) | rfl | (simp only [List.length_drop, List.length_take];rfl)) ?_
                                       with_reducible refine (impl_chunkOf.calls kj14 _ _ ((l0.take (x14_1 : Int).toNat).drop (x11_1 : Int).toNat) _ _ ((l1.take ((rd y1207 x14_1) : Int).toNat).drop (x12_1 : Int).toNat) _ _ ((l2.take ((rd y1210 x14_1) : Int).toNat).drop (x13_1 : Int).toNat) t1223 t1224 t1227 t1230 _ ?side1 ?side2 ?side3 ?side4 ?side5 ?side6 A36.out).mono ?_
                                       (case side1 => exact rc_ (Kd.C_below HR1218.out HB.out))
                                       (case side2 => exact HC1218.out)
                                       (case side3 => exact rc_ (Kd.C_below HR1220.out HB.out))
                                       (case side4 => exact HC1220.out)
                                       (case side5 => exact rc_ (Kd.C_below HR1222.out HB.out))
                                       (case side6 => exact HC1222.out)
                                       rintro e w45 ⟨v1225, v1228, v1231, rfl, ho0, ho1, ho2, hb⟩
                                       have HS0_ := (hb.cell (World.block_lt_of_cell? _ _ (hHeld.1))).trans (hHeld.1)
                                       have HS1_ := (hb.cell (World.block_lt_of_cell? _ _ (hHeld.2))).trans (hHeld.2)
                                       refine ⟨_, rfl, ?_⟩
                                       have n0_ := Aside0.mk (Kd.R_below (rr_ HO_7.out) hb)
                                       have n1_ := Aside0.mk (Kd.R_below (rr_ HO_8.out) hb)
                                       have n2_ := Aside0.mk (Bx_mono (Bx_told (Bx_told (Bx_told (Bx_old (by (with_reducible repeat (first | apply Bx_alloc | apply Bx_drewN | apply Bx_drew));exact HO_9.out) hb) (Kd.R_base ho0)) (Kd.R_base ho1)) (Kd.R_base ho2)) (fun _ h_ => h_.1))
                                       have n3_ := Aside0.mk (Kd.R_lower ho0 (below_size (bw_ HB.out)))
                                       have n4_ := Aside0.mk (Kd.R_lower ho1 (below_size (bw_ HB.out)))
                                       have n5_ := Aside0.mk (Kd.R_lower ho2 (below_size (bw_ HB.out)))
                                       have n6_ := Aside0.mk (below_step (bw_ HB.out) hb)
                                       clear HO_7
                                       clear HO_8
                                       clear HO_9
                                       clear HB
                                       have HO_7 := n0_
                                       have HO_8 := n1_
                                       have HO_9 := n2_
                                       have HO1226 := n3_
                                       have HO1229 := n4_
                                       have HO1232 := n5_
                                       have HB := n6_
                                       clear n0_ n1_ n2_ n3_ n4_ n5_ n6_
                                       (try clear hb)
                                       (try clear hb2)
                                       (try clear hk)
                                       (try clear hi)
                                       (try clear ho0)
                                       (try clear ho1)
                                       (try clear ho2)
                                       obtain ⟨Ao47, co47, eo47⟩ := Kd.R_slice HO1226.out
                                       (first | subst eo47 | (injection eo47 with f1_ f2_ f3_;have f4_ := f1_.symm;have f5_ := f3_.symm;clear f1_ f2_ f3_;subst f4_;subst f5_))
                                       obtain ⟨Ao48, co48, eo48⟩ := Kd.R_slice HO1229.out
                                       (first | subst eo48 | (injection eo48 with f1_ f2_ f3_;have f4_ := f1_.symm;have f5_ := f3_.symm;clear f1_ f2_ f3_;subst f4_;subst f5_))
                                       obtain ⟨Ao49, co49, eo49⟩ := Kd.R_slice HO1232.out
                                       (first | subst eo49 | (injection eo49 with f1_ f2_ f3_;have f4_ := f1_.symm;have f5_ := f3_.symm;clear f1_ f2_ f3_;subst f4_;subst f5_))
                                       refine hK.out _ _ ⟨HS0_, HS1_⟩ (fun hHeld => ?_)
                                       clear hK K
                                       refine norm_ (a' := ?_) ?_ ?_
                                       rotate_left
                                       · show Act.put _ (some 71) _ = _
                                         simp only [Act.put, s0_, s1_, s2_, i64_w, i32_w]
                                         rfl
                                       refine one_ (i := 20) (N := some 72) (mb_ 21 2097151) rfl rfl (one_of HT_.out (by kernel_rfl)) (by decide) (fun K hK => ?_)
                                       refine goesV_ (T := .tmp 52) #[.pointer (some ⟨gbB, 0, none⟩)] Try.func130 (by kernel_rfl) rfl #[.agg #[.int .i64 t1223, .slice Ao47 t1224.length co47, .slice Ao48 t1227.length co48, .slice Ao49 t1230.length co49]] (by rfl) rfl rfl rfl lf_ #[.agg #[.int .i64 t1223, .slice Ao47 t1224.length co47, .slice Ao48 t1227.length co48, .slice Ao49 t1230.length co49], .pointer (some ⟨gbB, 0, none⟩)] rfl ?_
                                       with_reducible refine (impl_chunksOf_1.calls gbB x9_1 t1223 _ _ t1224 _ _ t1227 _ _ t1230 t1233 w _ ?side1 ?side2 ?side3 ?side4 ?side5 A37.out).mono ?_
                                       (case side1 => exact bw_ HB.out)
                                       (case side2 => exact Bx_mono HO_9.out (fun k_ hk => ⟨hk.1.1.2, hk.1.2, hk.2⟩))
                                       (case side3 => exact HO1226.out)
                                       (case side4 => exact HO1229.out)
                                       (case side5 => exact HO1232.out)
                                       rintro e w50 ⟨rfl, ho0, hb, hkp⟩
                                       have HS0_ := cell_kept (hHeld.1) hkp (int_addS HO_7.out _)
                                       have HS1_ := cell_kept (hHeld.2) hkp (int_addS HO_8.out _)
                                       refine ⟨_, rfl, ?_⟩
                                       have n0_ := Aside0.mk (kept_add (ok' := fun k_ => some k_ ≠ (.slice (some ad1221) y1210.length co43 : Value).ownBlock) HO_7.out hkp (fun _ h_ => h_))
                                       have n1_ := Aside0.mk (kept_add (ok' := fun k_ => some k_ ≠ (.slice (some ad1219) y1207.length co41 : Value).ownBlock) HO_8.out hkp (fun _ h_ => h_))
                                       have n2_ := Aside0.mk (Kd.R_nil Kd.string 9 w50 w.heap.size (fun _ => True))
                                       have n3_ := Aside0.mk (Kd.R_nil Kd.string 9 w50 w.heap.size (fun _ => True))
                                       have n4_ := Aside0.mk (Kd.R_nil Kd.string 9 w50 w.heap.size (fun _ => True))
                                       have n5_ := Aside0.mk ho0
                                       have n6_ := Aside0.mk (hb)
                                       clear HO_7
                                       clear HO_8
                                       clear HO1226
                                       clear HO1229
                                       clear HO1232
                                       clear HB
                                       clear HO_9
                                       have HO_7 := n0_
                                       have HO_8 := n1_
                                       have HO1226 := n2_
                                       have HO1229 := n3_
                                       have HO1232 := n4_
                                       have HO1235 := n5_
                                       have HB := n6_
                                       clear n0_ n1_ n2_ n3_ n4_ n5_ n6_
                                       (try clear hb)
                                       (try clear hkp)
                                       (try clear ho0)
                                       refine hK.out _ _ ⟨HS0_, HS1_⟩ (fun hHeld => ?_)
                                       clear hK K
                                       refine norm_ (a' := ?_) ?_ ?_
                                       rotate_left
                                       · show Act.put _ (some 72) _ = _
                                         simp only [Act.put, s0_, s1_, s2_, i64_w, i32_w]
                                         rfl
                                       refine done_ (done_of HT_.out (by kernel_rfl)) ?_
                                       try go_wp2
                                       have n0_ := Aside0.mk (Kd.R_drew HO_7.out)
                                       have n1_ := Aside0.mk (Kd.R_drew HO_8.out)
                                       have n2_ := Aside0.mk (Kd.R_drew HO1226.out)
                                       have n3_ := Aside0.mk (Kd.R_drew HO1229.out)
                                       have n4_ := Aside0.mk (Kd.R_drew HO1232.out)
                                       have n5_ := Aside0.mk (Bx_drew HO1235.out)
                                       have n6_ := Aside0.mk (below_drew1 HB.out)
                                       clear HO_7
                                       clear HO_8
                                       clear HO1226
                                       clear HO1229
                                       clear HO1232
                                       clear HO1235
                                       clear HB
                                       have HO_7 := n0_
                                       have HO_8 := n1_
                                       have HO1226 := n2_
                                       have HO1229 := n3_
                                       have HO1232 := n4_
                                       have HO1235 := n5_
                                       have HB := n6_
                                       clear n0_ n1_ n2_ n3_ n4_ n5_ n6_
                                       have p1236 : 0 ≤ (x14_1 : Int) := od_
                                       have q1236 : x14_1 < (y1207.length : Int) := od_
                                       obtain ⟨ad1236, e1236, hx1236_0⟩ := Kd.at_int (Kd.R_reads' HO_7.out).2.2 x14_1 p1236 q1236
                                       obtain rfl : ad1219 = ad1236 := (by injection e1236)
                                       replace p1236 := eq_true p1236
                                       replace q1236 := eq_true q1236
                                       have p1237 : 0 ≤ (x14_1 : Int) := od_
                                       have q1237 : x14_1 < (y1210.length : Int) := od_
                                       obtain ⟨ad1237, e1237, hx1237_0⟩ := Kd.at_int (Kd.R_reads' HO_8.out).2.2 x14_1 p1237 q1237
                                       obtain rfl : ad1221 = ad1237 := (by injection e1237)
                                       replace p1237 := eq_true p1237
                                       replace q1237 := eq_true q1237
                                       refine start_ (n := 12) (S := fun w' => w'.cell? (ad1219.add (x14_1).toNat) = some (.int .i64 (rd y1207 x14_1)) ∧ w'.cell? (ad1221.add (x14_1).toNat) = some (.int .i64 (rd y1210 x14_1))) (ds := []) (mb_ 12 0) (by kernel_rfl) rfl rfl ⟨hx1236_0, hx1237_0⟩ (fun hHeld => ?_);refine with_tabW impl_chunksOf.tab11 impl_chunksOf.bits11 (fun HT_ HW_ => ?_)
                                       generalize w50.drew = w51 at HO_7 HO_8 HO1226 HO1229 HO1232 HO1235 HB hx1236_0 hx1237_0 hHeld ⊢
                                       refine pure_ (i := 0) (N := some 73) (v := ?_) (a' := ?_) (mb_ 12 1) rfl rfl (any_of HT_.out (by kernel_rfl)) (fun _ _ _ h => h) (Or.inl ⟨by rfl, ?_⟩) ?_ ?_
                                       rotate_left
                                       · intro w'
                                         go_simp
                                         with_reducible rfl
                                       rotate_left
                                       · simp only [Act.put, s0_, s1_, s2_, i64_w, i32_w]
                                         rfl
                                       refine pure_ (i := 1) (N := some 74) (v := ?_) (a' := ?_) (mb_ 12 3) rfl rfl (any_of HT_.out (by kernel_rfl)) (fun _ _ _ h => h) (Or.inl ⟨by rfl, ?_⟩) ?_ ?_
                                       rotate_left
                                       · intro w'
                                         go_simp
                                         with_reducible rfl
                                       rotate_left
                                       · simp only [Act.put, s0_, s1_, s2_, i64_w, i32_w]
                                         rfl
                                       refine pure_ (i := 2) (N := some 75) (v := ?_) (a' := ?_) (mb_ 12 7) rfl rfl (any_of HT_.out (by kernel_rfl)) (fun _ _ _ h => h) (Or.inl ⟨by rfl, ?_⟩) ?_ ?_
                                       rotate_left
                                       · intro w'
                                         go_simp
                                         with_reducible rfl
                                       rotate_left
                                       · simp only [Act.put, s0_, s1_, s2_, i64_w, i32_w]
                                         rfl
                                       refine pure_ (i := 3) (N := some 76) (v := ?_) (a' := ?_) (mb_ 12 15) rfl rfl (any_of HT_.out (by kernel_rfl)) (fun _ _ _ h => h) (Or.inl ⟨by rfl, ?_⟩) ?_ ?_
                                       rotate_left
                                       · intro w'
                                         go_simp
                                         with_reducible rfl
                                       rotate_left
                                       · simp only [Act.put, s0_, s1_, s2_, i64_w, i32_w]
                                         rfl
                                       refine pure_ (i := 5) (N := some 78) (v := ?_) (a' := ?_) (mb_ 12 47) rfl rfl (any_of HT_.out (by kernel_rfl)) (fun _ _ _ h => h) (Or.inl ⟨by rfl, ?_⟩) ?_ ?_
                                       rotate_left
                                       · intro w'
                                         go_simp
                                         with_reducible rfl
                                       rotate_left
                                       · simp only [Act.put, s0_, s1_, s2_, i64_w, i32_w]
                                         rfl
                                       refine pure_ (i := 6) (N := some 79) (v := ?_) (a' := ?_) (mb_ 12 111) rfl rfl (any_of HT_.out (by kernel_rfl)) (fun _ _ _ h => h) (Or.inl ⟨by rfl, ?_⟩) ?_ ?_
                                       rotate_left
                                       · intro w'
                                         go_simp
                                         with_reducible rfl
                                       rotate_left
                                       · simp only [Act.put, s0_, s1_, s2_, i64_w, i32_w]
                                         rfl
                                       refine pure_ (i := 7) (N := some 80) (v := ?_) (a' := ?_) (mb_ 12 239) rfl rfl (any_of HT_.out (by kernel_rfl)) (fun _ _ _ h => h) (Or.inl ⟨by rfl, ?_⟩) ?_ ?_
                                       rotate_left
                                       · intro w'
                                         go_simp
                                         with_reducible rfl
                                       rotate_left
                                       · simp only [Act.put, s0_, s1_, s2_, i64_w, i32_w]
                                         rfl
                                       refine pure_ (i := 9) (N := some 11) (v := ?_) (a' := ?_) (mb_ 12 751) rfl rfl (any_of HT_.out (by kernel_rfl)) (fun _ _ _ h => h) (Or.inl ⟨by rfl, ?_⟩) ?_ ?_
                                       rotate_left
                                       · intro w'
                                         go_simp
                                         with_reducible rfl
                                       rotate_left
                                       · simp only [Act.put, s0_, s1_, s2_, i64_w, i32_w]
                                         rfl
                                       refine take_ (i := 4) (N := some 77) (v := ?_) (a' := ?_) (mb_ 12 767) rfl rfl (take_ofW HT_.out HW_.out (by kernel_rfl)) (fun _ _ _ h => h) (Or.inl ⟨by rfl, ?_⟩) hHeld ?_ ?_
                                       rotate_left
                                       · rintro w' ⟨s0, s1⟩
                                         go_simp
                                         with_reducible rfl
                                       rotate_left
                                       · simp only [Act.put, s0_, s1_, s2_, i64_w, i32_w]
                                         rfl
                                       refine pure_ (i := 10) (N := some 12) (v := ?_) (a' := ?_) (mb_ 12 1791) rfl rfl (any_of HT_.out (by kernel_rfl)) (fun _ _ _ h => h) (Or.inl ⟨by rfl, ?_⟩) ?_ ?_
                                       rotate_left
                                       · intro w'
                                         go_simp
                                         with_reducible rfl
                                       rotate_left
                                       · simp only [Act.put, s0_, s1_, s2_, i64_w, i32_w]
                                         rfl
                                       refine take_ (i := 8) (N := some 81) (v := ?_) (a' := ?_) (mb_ 12 2047) rfl rfl (take_ofW HT_.out HW_.out (by kernel_rfl)) (fun _ _ _ h => h) (Or.inl ⟨by rfl, ?_⟩) hHeld ?_ ?_
                                       rotate_left
                                       · rintro w' ⟨s0, s1⟩
                                         go_simp
                                         with_reducible rfl
                                       rotate_left
                                       · simp only [Act.put, s0_, s1_, s2_, i64_w, i32_w]
                                         rfl
                                       refine pure_ (i := 11) (N := some 13) (v := ?_) (a' := ?_) (mb_ 12 4095) rfl rfl (any_of HT_.out (by kernel_rfl)) (fun _ _ _ h => h) (Or.inl ⟨by rfl, ?_⟩) ?_ ?_
                                       rotate_left
                                       · intro w'
                                         go_simp
                                         with_reducible rfl
                                       rotate_left
                                       · simp only [Act.put, s0_, s1_, s2_, i64_w, i32_w]
                                         rfl
                                       refine done_ (done_of HT_.out (by kernel_rfl)) ?_
                                       go_upto_block 2 with (fail)
                                       go_cut [14] (fun v14 wc => ∃ (kq : Nat) (x14_37 : Int), v14 = .int .i64 x14_37 ∧ Aside0 (impl_chunksOf.j3 kq l0 l1 l2 y1207 y1210 t1233 x14_1 (rd y1207 x14_1) (rd y1210 x14_1) x14_37 = some r) ∧ Aside0 (kq ≤ kj14) ∧ Aside0 (Kd.R (Kd.int .i64) 2 wc w.heap.size (fun k_ => some k_ ≠ ((.slice (some ad1221) y1210.length co43) : Value).ownBlock) (.slice (some ad1219) y1207.length co41) y1207) ∧ Aside0 (Kd.R (Kd.int .i64) 2 wc w.heap.size (fun k_ => some k_ ≠ ((.slice (some ad1219) y1207.length co41) : Value).ownBlock) (.slice (some ad1221) y1210.length co43) y1210) ∧ Aside0 (Bx gbB wc w.heap.size (fun _ => True) t1233) ∧ Aside0 (Below w.heap.size w wc))
                                       case first =>
                                         have H := HC38.out
                                         clear HC38
                                         have H' := Aside0.mk H
                                         clear H
                                         go_wp2
                                         go_loopg [14] kj14 (fun kq v14 w' => ∃ (x14_3 : Int), v14 = .int .i64 x14_3 ∧ Aside0 (impl_chunksOf.l1 kq l0 l1 l2 y1207 y1210 t1233 x14_1 (rd y1207 x14_1) (rd y1210 x14_1) x14_3 = some r) ∧ Aside0 (kq ≤ kj14) ∧ Aside0 (Kd.R (Kd.int .i64) 2 w' w.heap.size (fun k_ => some k_ ≠ ((.slice (some ad1221) y1210.length co43) : Value).ownBlock) (.slice (some ad1219) y1207.length co41) y1207) ∧ Aside0 (Kd.R (Kd.int .i64) 2 w' w.heap.size (fun k_ => some k_ ≠ ((.slice (some ad1219) y1207.length co41) : Value).ownBlock) (.slice (some ad1221) y1210.length co43) y1210) ∧ Aside0 (Bx gbB w' w.heap.size (fun _ => True) t1233) ∧ Aside0 (Below w.heap.size w w'))
                                         case atStart => exact ⟨(x14_1), ls_, H', ⟨Nat.le_refl _⟩, ⟨rr_ HO_7.out⟩, ⟨rr_ HO_8.out⟩, ⟨by (with_reducible repeat (first | apply Bx_alloc | apply Bx_drewN | apply Bx_drew));exact Bx_mono HO1235.out (fun _ hk => trivial)⟩, ⟨bw_ HB.out⟩⟩
                                         case round =>
                                           clear H'
                                           try clear c1
                                           try clear p1
                                           try clear q1
                                           try clear hx1
                                           try clear c2
                                           try clear p2
                                           try clear c3
                                           try clear c6
                                           try clear p6
                                           try clear c7
                                           try clear c10
                                           try clear c12
                                           try clear p12
                                           try clear q12
                                           try clear hx12
                                           try clear c13
                                           try clear c14
                                           try clear c14b0
                                           try clear c16
                                           try clear c16b0
                                           try clear c17
                                           try clear c17b0
                                           try clear c18
                                           try clear c18b0
                                           try clear c20
                                           try clear c20b0
                                           try clear c23
                                           try clear c24
                                           try clear c24b0
                                           try clear c24b1
                                           try clear c25
                                           try clear c25b0
                                           try clear c25b1
                                           try clear c26
                                           try clear c26b0
                                           try clear c26b1
                                           try clear c27
                                           try clear c27b0
                                           try clear c28
                                           try clear c28b0
                                           try clear c29
                                           try clear c29b0
                                           try clear c29b1
                                           try clear c30
                                           try clear c30b0
                                           try clear c30b1
                                           try clear c31
                                           try clear c31b0
                                           try clear c31b1
                                           try clear c32
                                           try clear c32b0
                                           try clear c33
                                           try clear c33b0
                                           try clear c33b1
                                           try clear c34
                                           try clear c34b0
                                           try clear c34b1
                                           try clear c35
                                           try clear c35b0
                                           try clear c35b1
                                           try clear hx1216_0
                                           try clear hx1217_0
                                           try clear hx1219_0
                                           try clear hx1221_0
                                           try clear hx1236_0
                                           try clear hx1237_0
                                           try clear p1
                                           try clear p12
                                           try clear p1216
                                           try clear p1217
                                           try clear p1219
                                           try clear p1221
                                           try clear p1236
                                           try clear p1237
                                           try clear p2
                                           try clear q1
                                           try clear q12
                                           try clear q1216
                                           try clear q1217
                                           try clear q1219
                                           try clear q1221
                                           try clear q1236
                                           try clear q1237
                                           obtain ⟨x14_3, rfl, HA, HK3, HO_7, HO_8, HO_9, HB⟩ := hrel
                                           cases gk with
                                           | zero => exact absurd HA.out (by simp [impl_chunksOf.l1])
                                           | succ k3 =>
                                             have H := HA.out
                                             clear HA
                                             simp only [impl_chunksOf.l1] at H
                                             by_cases c52 : x14_3 < (l0.length : Int)
                                             · rw [if_pos c52] at H
                                               have c52b0 : decide (x14_3 < (l0.length : Int)) = true := decide_eq_true c52
                                               clear c52
                                               (first | rw [c52b0] | (simp only [i64_w, i32_w];rw [c52b0]) | skip)
                                               by_cases c53 : 0 ≤ x14_3
                                               · rw [if_pos c53] at H
                                                 have c53b0 : decide (0 ≤ x14_3) = true := decide_eq_true c53
                                                 clear c53
                                                 by_cases c54 : x14_3 < (y1207.length : Int)
                                                 · rw [if_pos c54] at H
                                                   have c54b0 : decide (x14_3 < (y1207.length : Int)) = true := decide_eq_true c54
                                                   clear c54
                                                   by_cases c55 : (rd y1207 x14_3) = (wrap64 ((wrap64 ((rd y1207 x14_1) + x14_3)) - x14_1))
                                                   · rw [if_pos c55] at H
                                                     have c55b0 : ((rd y1207 x14_3) == (wrap64 ((wrap64 ((rd y1207 x14_1) + x14_3)) - x14_1))) = true := beq_iff_eq.mpr c55
                                                     have c55b1 : ((rd y1207 x14_3) != (wrap64 ((wrap64 ((rd y1207 x14_1) + x14_3)) - x14_1))) = false := bne_eq_false_iff_eq.mpr c55
                                                     clear c55
                                                     by_cases c56 : x14_3 < (y1210.length : Int)
                                                     · rw [if_pos c56] at H
                                                       have c56b0 : decide (x14_3 < (y1210.length : Int)) = true := decide_eq_true c56
                                                       clear c56
                                                       by_cases c57 : (rd y1210 x14_3) = (wrap64 ((wrap64 ((rd y1210 x14_1) + x14_3)) - x14_1))
                                                       · rw [if_pos c57] at H
                                                         have c57b0 : ((rd y1210 x14_3) == (wrap64 ((wrap64 ((rd y1210 x14_1) + x14_3)) - x14_1))) = true := beq_iff_eq.mpr c57
                                                         have c57b1 : ((rd y1210 x14_3) != (wrap64 ((wrap64 ((rd y1210 x14_1) + x14_3)) - x14_1))) = false := bne_eq_false_iff_eq.mpr c57
                                                         clear c57
                                                         have H' := Aside0.mk H
                                                         clear H
                                                         have p1238 : 0 ≤ (x14_3 : Int) := od_
                                                         have q1238 : x14_3 < (y1207.length : Int) := od_
                                                         obtain ⟨ad1238, e1238, hx1238_0⟩ := Kd.at_int (Kd.R_reads' HO_7.out).2.2 x14_3 p1238 q1238
                                                         obtain rfl : ad1219 = ad1238 := (by injection e1238)
                                                         replace p1238 := eq_true p1238
                                                         replace q1238 := eq_true q1238
                                                         have p1239 : 0 ≤ (x14_3 : Int) := od_
                                                         have q1239 : x14_3 < (y1210.length : Int) := od_
                                                         obtain ⟨ad1239, e1239, hx1239_0⟩ := Kd.at_int (Kd.R_reads' HO_8.out).2.2 x14_3 p1239 q1239
                                                         obtain rfl : ad1221 = ad1239 := (by injection e1239)
                                                         replace p1239 := eq_true p1239
                                                         replace q1239 := eq_true q1239
                                                         go_wp2
                                                         go_roundg k3
                                                         case measure => have := HK1.out;have := HJ14.out;have := HK3.out;omega
                                                         case rel => exact ⟨(wrap64 (x14_3 + 1)), ls_, H', ⟨by have := HK1.out;have := HJ14.out;have := HK3.out;omega⟩, ⟨rr_ HO_7.out⟩, ⟨rr_ HO_8.out⟩, ⟨by (with_reducible repeat (first | apply Bx_alloc | apply Bx_drewN | apply Bx_drew));exact HO_9.out⟩, ⟨bw_ HB.out⟩⟩
                                                       · rw [if_neg c57] at H
                                                         have c57b0 : ((rd y1210 x14_3) == (wrap64 ((wrap64 ((rd y1210 x14_1) + x14_3)) - x14_1))) = false := beq_eq_false_iff_ne.mpr c57
                                                         have c57b1 : ((rd y1210 x14_3) != (wrap64 ((wrap64 ((rd y1210 x14_1) + x14_3)) - x14_1))) = true := bne_iff_ne.mpr c57
                                                         have H' := Aside0.mk H
                                                         clear H
                                                         have p1238 : 0 ≤ (x14_3 : Int) := od_
                                                         have q1238 : x14_3 < (y1207.length : Int) := od_
                                                         obtain ⟨ad1238, e1238, hx1238_0⟩ := Kd.at_int (Kd.R_reads' HO_7.out).2.2 x14_3 p1238 q1238
                                                         obtain rfl : ad1219 = ad1238 := (by injection e1238)
                                                         replace p1238 := eq_true p1238
                                                         replace q1238 := eq_true q1238
                                                         have p1239 : 0 ≤ (x14_3 : Int) := od_
                                                         have q1239 : x14_3 < (y1210.length : Int) := od_
                                                         obtain ⟨ad1239, e1239, hx1239_0⟩ := Kd.at_int (Kd.R_reads' HO_8.out).2.2 x14_3 p1239 q1239
                                                         obtain rfl : ad1221 = ad1239 := (by injection e1239)
                                                         replace p1239 := eq_true p1239
                                                         replace q1239 := eq_true q1239
                                                         go_wp2
                                                         go_meet
                                                         case rel => exact ⟨_, (x14_3), ls_, H', ⟨by have := HK1.out;have := HJ14.out;have := HK3.out;first | omega | exact Nat.le_refl _⟩, ⟨rr_ HO_7.out⟩, ⟨rr_ HO_8.out⟩, ⟨by (with_reducible repeat (first | apply Bx_alloc | apply Bx_drewN | apply Bx_drew));exact HO_9.out⟩, ⟨bw_ HB.out⟩⟩
                                                     · rw [if_neg c56] at H
                                                       exact absurd H (by simp)
                                                   · rw [if_neg c55] at H
                                                     have c55b0 : ((rd y1207 x14_3) == (wrap64 ((wrap64 ((rd y1207 x14_1) + x14_3)) - x14_1))) = false := beq_eq_false_iff_ne.mpr c55
                                                     have c55b1 : ((rd y1207 x14_3) != (wrap64 ((wrap64 ((rd y1207 x14_1) + x14_3)) - x14_1))) = true := bne_iff_ne.mpr c55
                                                     have H' := Aside0.mk H
                                                     clear H
                                                     have p1238 : 0 ≤ (x14_3 : Int) := od_
                                                     have q1238 : x14_3 < (y1207.length : Int) := od_
                                                     obtain ⟨ad1238, e1238, hx1238_0⟩ := Kd.at_int (Kd.R_reads' HO_7.out).2.2 x14_3 p1238 q1238
                                                     obtain rfl : ad1219 = ad1238 := (by injection e1238)
                                                     replace p1238 := eq_true p1238
                                                     replace q1238 := eq_true q1238
                                                     go_wp2
                                                     go_meet
                                                     case rel => exact ⟨_, (x14_3), ls_, H', ⟨by have := HK1.out;have := HJ14.out;have := HK3.out;first | omega | exact Nat.le_refl _⟩, ⟨rr_ HO_7.out⟩, ⟨rr_ HO_8.out⟩, ⟨by (with_reducible repeat (first | apply Bx_alloc | apply Bx_drewN | apply Bx_drew));exact HO_9.out⟩, ⟨bw_ HB.out⟩⟩
                                                 · rw [if_neg c54] at H
                                                   exact absurd H (by simp)
                                               · rw [if_neg c53] at H
                                                 exact absurd H (by simp)
                                             · rw [if_neg c52] at H
                                               have c52b0 : decide (x14_3 < (l0.length : Int)) = false := decide_eq_false c52
                                               clear c52
                                               (first | rw [c52b0] | (simp only [i64_w, i32_w];rw [c52b0]) | skip)
                                               have H' := Aside0.mk H
                                               clear H
                                               go_wp2
                                               go_meet
                                               case rel => exact ⟨_, (x14_3), ls_, H', ⟨by have := HK1.out;have := HJ14.out;have := HK3.out;first | omega | exact Nat.le_refl _⟩, ⟨rr_ HO_7.out⟩, ⟨rr_ HO_8.out⟩, ⟨by (with_reducible repeat (first | apply Bx_alloc | apply Bx_drewN | apply Bx_drew));exact HO_9.out⟩, ⟨bw_ HB.out⟩⟩
                                       case rest =>
                                         clear HC38
                                         try clear c1
                                         try clear p1
                                         try clear q1
                                         try clear hx1
                                         try clear c2
                                         try clear p2
                                         try clear c3
                                         try clear c5
                                         try clear c6
                                         try clear p6
                                         try clear c7
                                         try clear c10
                                         try clear c12
                                         try clear p12
                                         try clear q12
                                         try clear hx12
                                         try clear c13
                                         try clear c14
                                         try clear c14b0
                                         try clear c16
                                         try clear c16b0
                                         try clear c17
                                         try clear c17b0
                                         try clear c18
                                         try clear c18b0
                                         try clear c20
                                         try clear c20b0
                                         try clear c23
                                         try clear c24
                                         try clear c24b0
                                         try clear c24b1
                                         try clear c25
                                         try clear c25b0
                                         try clear c25b1
                                         try clear c26
                                         try clear c26b0
                                         try clear c26b1
                                         try clear c27
                                         try clear c27b0
                                         try clear c28
                                         try clear c28b0
                                         try clear c29
                                         try clear c29b0
                                         try clear c29b1
                                         try clear c30
                                         try clear c30b0
                                         try clear c30b1
                                         try clear c31
                                         try clear c31b0
                                         try clear c31b1
                                         try clear c32
                                         try clear c32b0
                                         try clear c33
                                         try clear c33b0
                                         try clear c33b1
                                         try clear c34
                                         try clear c34b0
                                         try clear c34b1
                                         try clear c35
                                         try clear c35b0
                                         try clear c35b1
                                         try clear c52
                                         try clear c52b0
                                         try clear c53
                                         try clear c53b0
                                         try clear c54
                                         try clear c54b0
                                         try clear c55
                                         try clear c55b0
                                         try clear c55b1
                                         try clear c56
                                         try clear c56b0
                                         try clear c57
                                         try clear c57b0
                                         try clear c57b1
                                         try clear hx1216_0
                                         try clear hx1217_0
                                         try clear hx1219_0
                                         try clear hx1221_0
                                         try clear hx1236_0
                                         try clear hx1237_0
                                         try clear hx1238_0
                                         try clear hx1239_0
                                         try clear p1
                                         try clear p12
                                         try clear p1216
                                         try clear p1217
                                         try clear p1219
                                         try clear p1221
                                         try clear p1236
                                         try clear p1237
                                         try clear p1238
                                         try clear p1239
                                         try clear p2
                                         try clear p6
                                         try clear q1
                                         try clear q12
                                         try clear q1216
                                         try clear q1217
                                         try clear q1219
                                         try clear q1221
                                         try clear q1236
                                         try clear q1237
                                         try clear q1238
                                         try clear q1239
                                         obtain ⟨kq, x14_37, rfl, HA, HJ37, HO_7, HO_8, HO_9, HB⟩ := hcut
                                         cases kq with
                                         | zero => exact absurd HA.out (by simp [impl_chunksOf.j3])
                                         | succ kj37 =>
                                           have H := HA.out
                                           clear HA
                                           simp only [impl_chunksOf.j3] at H
                                           by_cases c58 : 0 ≤ x14_1
                                           · rw [if_pos c58] at H
                                             have c58b0 := eq_true c58
                                             have c58b1 : decide (0 ≤ x14_1) = true := decide_eq_true c58
                                             clear c58
                                             by_cases c59 : x14_1 ≤ x14_37
                                             · rw [if_pos c59] at H
                                               have c59b0 := eq_true c59
                                               have c59b1 : decide (x14_1 ≤ x14_37) = true := decide_eq_true c59
                                               clear c59
                                               by_cases c60 : x14_37 ≤ (l0.length : Int)
                                               · rw [if_pos c60] at H
                                                 have c60b0 := eq_true c60
                                                 have c60b1 : decide (x14_37 ≤ (l0.length : Int)) = true := decide_eq_true c60
                                                 clear c60
                                                 by_cases c61 : 0 ≤ (rd y1207 x14_1)
                                                 · rw [if_pos c61] at H
                                                   have c61b0 := eq_true c61
                                                   have c61b1 : decide (0 ≤ (rd y1207 x14_1)) = true := decide_eq_true c61
                                                   clear c61
                                                   by_cases c62 : (rd y1207 x14_1) ≤ (wrap64 ((rd y1207 x14_1) + (wrap64 (x14_37 - x14_1))))
                                                   · rw [if_pos c62] at H
                                                     have c62b0 := eq_true c62
                                                     have c62b1 : decide ((rd y1207 x14_1) ≤ (wrap64 ((rd y1207 x14_1) + (wrap64 (x14_37 - x14_1))))) = true := decide_eq_true c62
                                                     by_cases c63 : (wrap64 ((rd y1207 x14_1) + (wrap64 (x14_37 - x14_1)))) ≤ (l1.length : Int)
                                                     · rw [if_pos c63] at H
                                                       have c63b0 := eq_true c63
                                                       have c63b1 : decide ((wrap64 ((rd y1207 x14_1) + (wrap64 (x14_37 - x14_1)))) ≤ (l1.length : Int)) = true := decide_eq_true c63
                                                       by_cases c64 : 0 ≤ (rd y1210 x14_1)
                                                       · rw [if_pos c64] at H
                                                         have c64b0 := eq_true c64
                                                         have c64b1 : decide (0 ≤ (rd y1210 x14_1)) = true := decide_eq_true c64
                                                         clear c64
                                                         by_cases c65 : (rd y1210 x14_1) ≤ (wrap64 ((rd y1210 x14_1) + (wrap64 (x14_37 - x14_1))))
                                                         · rw [if_pos c65] at H
                                                           have c65b0 := eq_true c65
                                                           have c65b1 : decide ((rd y1210 x14_1) ≤ (wrap64 ((rd y1210 x14_1) + (wrap64 (x14_37 - x14_1))))) = true := decide_eq_true c65
                                                           by_cases c66 : (wrap64 ((rd y1210 x14_1) + (wrap64 (x14_37 - x14_1)))) ≤ (l2.length : Int)
                                                           · rw [if_pos c66] at H
                                                             have c66b0 := eq_true c66
                                                             have c66b1 : decide ((wrap64 ((rd y1210 x14_1) + (wrap64 (x14_37 - x14_1)))) ≤ (l2.length : Int)) = true := decide_eq_true c66
                                                             replace H := Option.bind_eq_some_iff.mp H
                                                             obtain ⟨⟨t1243, t1244, t1247, t1250⟩, A670, H⟩ := H
                                                             replace H : ((impl_chunksOf_1.f t1233 t1243 t1244 t1247 t1250).bind fun t1253 => (if (wrap64 (x14_37 - x14_1)) = 0 then (some t1253) else (impl_chunksOf.l0 kj37 l0 l1 l2 y1207 y1210 t1253 x14_37 (wrap64 ((rd y1207 x14_1) + (wrap64 (x14_37 - x14_1)))) (wrap64 ((rd y1210 x14_1) + (wrap64 (x14_37 - x14_1)))) x14_37))) = some r := H
                                                             have A67 := Aside0.mk A670
                                                             clear A670
                                                             replace H := Option.bind_eq_some_iff.mp H
                                                             obtain ⟨t1253, A680, H⟩ := H
                                                             replace H : (if (wrap64 (x14_37 - x14_1)) = 0 then (some t1253) else (impl_chunksOf.l0 kj37 l0 l1 l2 y1207 y1210 t1253 x14_37 (wrap64 ((rd y1207 x14_1) + (wrap64 (x14_37 - x14_1)))) (wrap64 ((rd y1210 x14_1) + (wrap64 (x14_37 - x14_1)))) x14_37)) = some r := H
                                                             have A68 := Aside0.mk A680
                                                             clear A680
                                                             by_cases c69 : (wrap64 (x14_37 - x14_1)) = 0
                                                             · rw [if_pos c69] at H
                                                               have c69b0 : ((wrap64 (x14_37 - x14_1)) == 0) = true := beq_iff_eq.mpr c69
                                                               have c69b1 : ((wrap64 (x14_37 - x14_1)) != 0) = false := bne_eq_false_iff_eq.mpr c69
                                                               clear c69
                                                               obtain rfl := Option.some.inj H
                                                               try go_wp2
                                                               have n0_ := Aside0.mk (Kd.R_drew HO_7.out)
                                                               have n1_ := Aside0.mk (Kd.R_drew HO_8.out)
                                                               have n2_ := Aside0.mk (Bx_drew HO_9.out)
                                                               have n3_ := Aside0.mk (below_drew1 HB.out)
                                                               clear HO_7
                                                               clear HO_8
                                                               clear HO_9
                                                               clear HB
                                                               have HO_7 := n0_
                                                               have HO_8 := n1_
                                                               have HO_9 := n2_
                                                               have HB := n3_
                                                               clear n0_ n1_ n2_ n3_
                                                               obtain ⟨i071, hi071, _, hsz71, _⟩ := info_parts info9
                                                               obtain ⟨A71, hcut71, hA71, hC71⟩ := print_mid_of (P := Try.prog) Value.string (⟨#[]⟩ : ByteArray) 34 9 .i64 .i64 Try.underlying34 hi071 hsz71 A0 c0 l0 x14_1 x14_37 od_ (by first | omega | exact od_) od_ HC0.out
                                                               have HR1240 := Aside0.mk (Kd.C_of_reads (h1 := fun _ => rfl) (hA71 _ (Kd.reads_of_C HR0.out)))
                                                               have HC1240 := Aside0.mk hC71
                                                               clear hA71 hC71 hi071 hsz71
                                                               obtain ⟨i072, hi072, _, hsz72, _⟩ := info_parts info9
                                                               obtain ⟨A72, hcut72, hA72, hC72⟩ := print_mid_of (P := Try.prog) Value.string (⟨#[]⟩ : ByteArray) 34 9 .i64 .i64 Try.underlying34 hi072 hsz72 A1 c1 l1 (rd y1207 x14_1) (wrap64 ((rd y1207 x14_1) + (wrap64 (x14_37 - x14_1)))) od_ (by first | omega | exact od_) od_ HC1.out
                                                               have HR1241 := Aside0.mk (Kd.C_of_reads (h1 := fun _ => rfl) (hA72 _ (Kd.reads_of_C HR1.out)))
                                                               have HC1241 := Aside0.mk hC72
                                                               clear hA72 hC72 hi072 hsz72
                                                               obtain ⟨i073, hi073, _, hsz73, _⟩ := info_parts info9
                                                               obtain ⟨A73, hcut73, hA73, hC73⟩ := print_mid_of (P := Try.prog) Value.string (⟨#[]⟩ : ByteArray) 34 9 .i64 .i64 Try.underlying34 hi073 hsz73 A2 c2 l2 (rd y1210 x14_1) (wrap64 ((rd y1210 x14_1) + (wrap64 (x14_37 - x14_1)))) od_ (by first | omega | exact od_) od_ HC2.out
                                                               have HR1242 := Aside0.mk (Kd.C_of_reads (h1 := fun _ => rfl) (hA73 _ (Kd.reads_of_C HR2.out)))
                                                               have HC1242 := Aside0.mk hC73
                                                               clear hA73 hC73 hi073 hsz73
                                                               refine start_ (n := 19) (S := fun w' => True) (ds := []) (mb_ 19 0) (by kernel_rfl) rfl rfl trivial (fun hHeld => ?_);refine with_tabW impl_chunksOf.tab15 impl_chunksOf.bits15 (fun HT_ HW_ => ?_)
                                                               generalize wc.drew = w70 at HO_7 HO_8 HO_9 HB HR1240 HR1241 HR1242 hHeld ⊢
                                                               refine pure_ (i := 0) (N := some 115) (v := ?_) (a' := ?_) (mb_ 19 1) rfl rfl (any_of HT_.out (by kernel_rfl)) (fun _ _ _ h => h) (Or.inl ⟨by rfl, ?_⟩) ?_ ?_
                                                               rotate_left
                                                               · intro w'
                                                                 go_simp
                                                                 with_reducible rfl
                                                               rotate_left
                                                               · simp only [Act.put, s0_, s1_, s2_, i64_w, i32_w]
                                                                 rfl
                                                               refine pure_ (i := 1) (N := some 116) (v := ?_) (a' := ?_) (mb_ 19 3) rfl rfl (any_of HT_.out (by kernel_rfl)) (fun _ _ _ h => h) (Or.inl ⟨by rfl, ?_⟩) ?_ ?_
                                                               rotate_left
                                                               · intro w'
                                                                 go_simp
                                                                 with_reducible rfl
                                                               rotate_left
                                                               · simp only [Act.put, s0_, s1_, s2_, i64_w, i32_w]
                                                                 rfl
                                                               refine pure_ (i := 2) (N := some 117) (v := ?_) (a' := ?_) (mb_ 19 7) rfl rfl (any_of HT_.out (by kernel_rfl)) (fun _ _ _ h => h) (Or.inl ⟨by rfl, ?_⟩) ?_ ?_
                                                               rotate_left
                                                               · intro w'
                                                                 go_simp
                                                                 with_reducible rfl
                                                               rotate_left
                                                               · simp only [Act.put, s0_, s1_, s2_, i64_w, i32_w]
                                                                 rfl
                                                               refine pure_ (i := 3) (N := some 118) (v := ?_) (a' := ?_) (mb_ 19 15) rfl rfl (any_of HT_.out (by kernel_rfl)) (fun _ _ _ h => h) (Or.inl ⟨by rfl, ?_⟩) ?_ ?_
                                                               rotate_left
                                                               · intro w'
                                                                 go_simp
                                                                 with_reducible rfl
                                                               rotate_left
                                                               · simp only [Act.put, s0_, s1_, s2_, i64_w, i32_w]
                                                                 rfl
                                                               refine pure_ (i := 4) (N := some 119) (v := ?_) (a' := ?_) (mb_ 19 31) rfl rfl (any_of HT_.out (by kernel_rfl)) (fun _ _ _ h => h) (Or.inl ⟨by rfl, ?_⟩) ?_ ?_
                                                               rotate_left
                                                               · intro w'
                                                                 go_simp
                                                                 with_reducible rfl
                                                               rotate_left
                                                               · simp only [Act.put, s0_, s1_, s2_, i64_w, i32_w]
                                                                 rfl
                                                               refine pure_ (i := 5) (N := some 120) (v := ?_) (a' := ?_) (mb_ 19 63) rfl rfl (any_of HT_.out (by kernel_rfl)) (fun _ _ _ h => h) (Or.inl ⟨by rfl, ?_⟩) ?_ ?_
                                                               rotate_left
                                                               · intro w'
                                                                 go_simp
                                                                 with_reducible rfl
                                                               rotate_left
                                                               · simp only [Act.put, s0_, s1_, s2_, i64_w, i32_w]
                                                                 rfl
                                                               refine pure_ (i := 6) (N := some 121) (v := ?_) (a' := ?_) (mb_ 19 127) rfl rfl (any_of HT_.out (by kernel_rfl)) (fun _ _ _ h => h) (Or.inl ⟨by rfl, ?_⟩) ?_ ?_
                                                               rotate_left
                                                               · intro w'
                                                                 go_simp
                                                                 with_reducible rfl
                                                               rotate_left
                                                               · simp only [Act.put, s0_, s1_, s2_, i64_w, i32_w]
                                                                 rfl
                                                               refine pure_ (i := 7) (N := some 122) (v := ?_) (a' := ?_) (mb_ 19 255) rfl rfl (any_of HT_.out (by kernel_rfl)) (fun _ _ _ h => h) (Or.inl ⟨by rfl, ?_⟩) ?_ ?_
                                                               rotate_left
                                                               · intro w'
                                                                 go_simp
                                                                 with_reducible rfl
                                                               rotate_left
                                                               · simp only [Act.put, s0_, s1_, s2_, i64_w, i32_w]
                                                                 rfl
                                                               refine pure_ (i := 8) (N := some 123) (v := ?_) (a' := ?_) (mb_ 19 511) rfl rfl (any_of HT_.out (by kernel_rfl)) (fun _ _ _ h => h) (Or.inl ⟨by rfl, ?_⟩) ?_ ?_
                                                               rotate_left
                                                               · intro w'
                                                                 go_simp
                                                                 with_reducible rfl
                                                               rotate_left
                                                               · simp only [Act.put, s0_, s1_, s2_, i64_w, i32_w]
                                                                 rfl
                                                               refine pure_ (i := 9) (N := some 124) (v := ?_) (a' := ?_) (mb_ 19 1023) rfl rfl (any_of HT_.out (by kernel_rfl)) (fun _ _ _ h => h) (Or.inl ⟨by rfl, ?_⟩) ?_ ?_
                                                               rotate_left
                                                               · intro w'
                                                                 go_simp
                                                                 with_reducible rfl
                                                               rotate_left
                                                               · simp only [Act.put, s0_, s1_, s2_, i64_w, i32_w]
                                                                 rfl
                                                               refine pure_ (i := 10) (N := some 125) (v := ?_) (a' := ?_) (mb_ 19 2047) rfl rfl (any_of HT_.out (by kernel_rfl)) (fun _ _ _ h => h) (Or.inl ⟨by rfl, ?_⟩) ?_ ?_
                                                               rotate_left
                                                               · intro w'
                                                                 go_simp
                                                                 with_reducible rfl
                                                               rotate_left
                                                               · simp only [Act.put, s0_, s1_, s2_, i64_w, i32_w]
                                                                 rfl
                                                               refine pure_ (i := 11) (N := some 126) (v := ?_) (a' := ?_) (mb_ 19 4095) rfl rfl (any_of HT_.out (by kernel_rfl)) (fun _ _ _ h => h) (Or.inl ⟨by rfl, ?_⟩) ?_ ?_
                                                               rotate_left
                                                               · intro w'
                                                                 go_simp
                                                                 with_reducible rfl
                                                               rotate_left
                                                               · simp only [Act.put, s0_, s1_, s2_, i64_w, i32_w]
                                                                 rfl
                                                               refine pure_ (i := 12) (N := some 127) (v := ?_) (a' := ?_) (mb_ 19 8191) rfl rfl (any_of HT_.out (by kernel_rfl)) (fun _ _ _ h => h) (Or.inl ⟨by rfl, ?_⟩) ?_ ?_
                                                               rotate_left
                                                               · intro w'
                                                                 go_simp
                                                                 with_reducible rfl
                                                               rotate_left
                                                               · simp only [Act.put, s0_, s1_, s2_, i64_w, i32_w]
                                                                 rfl
                                                               refine pure_ (i := 13) (N := some 128) (v := ?_) (a' := ?_) (mb_ 19 16383) rfl rfl (any_of HT_.out (by kernel_rfl)) (fun _ _ _ h => h) (Or.inl ⟨by rfl, ?_⟩) ?_ ?_
                                                               rotate_left
                                                               · intro w'
                                                                 go_simp
                                                                 with_reducible rfl
                                                               rotate_left
                                                               · simp only [Act.put, s0_, s1_, s2_, i64_w, i32_w]
                                                                 rfl
                                                               refine pure_ (i := 14) (N := some 129) (v := ?_) (a' := ?_) (mb_ 19 32767) rfl rfl (any_of HT_.out (by kernel_rfl)) (fun _ _ _ h => h) (Or.inl ⟨by rfl, ?_⟩) ?_ ?_
                                                               rotate_left
                                                               · intro w'
                                                                 go_simp
                                                                 with_reducible rfl
                                                               rotate_left
                                                               · simp only [Act.put, s0_, s1_, s2_, i64_w, i32_w]
                                                                 rfl
                                                               refine pure_ (i := 15) (N := some 130) (v := ?_) (a' := ?_) (mb_ 19 65535) rfl rfl (any_of HT_.out (by kernel_rfl)) (fun _ _ _ h => h) (Or.inl ⟨by rfl, ?_⟩) ?_ ?_
                                                               rotate_left
                                                               · intro w'
                                                                 go_simp
                                                                 with_reducible rfl
                                                               rotate_left
                                                               · simp only [Act.put, s0_, s1_, s2_, i64_w, i32_w]
                                                                 rfl
                                                               refine pure_ (i := 16) (N := some 131) (v := ?_) (a' := ?_) (mb_ 19 131071) rfl rfl (any_of HT_.out (by kernel_rfl)) (fun _ _ _ h => h) (Or.inl ⟨by rfl, ?_⟩) ?_ ?_
                                                               rotate_left
                                                               · intro w'
                                                                 go_simp
                                                                 with_reducible rfl
                                                               rotate_left
                                                               · simp only [Act.put, s0_, s1_, s2_, i64_w, i32_w]
                                                                 rfl
                                                               refine one_ (i := 17) (N := some 132) (mb_ 19 262143) rfl rfl (one_of HT_.out (by kernel_rfl)) (by decide) (fun K hK => ?_)
                                                               refine goes_ Try.func127 (by kernel_rfl) rfl #[.slice A71 ((l0.take (x14_37 : Int).toNat).drop (x14_1 : Int).toNat).length (c0 - x14_1.toNat), .slice A72 ((l1.take ((wrap64 ((rd y1207 x14_1) + (wrap64 (x14_37 - x14_1)))) : Int).toNat).drop ((rd y1207 x14_1) : Int).toNat).length (c1 - (rd y1207 x14_1).toNat), .slice A73 ((l2.take ((wrap64 ((rd y1210 x14_1) + (wrap64 (x14_37 - x14_1)))) : Int).toNat).drop ((rd y1210 x14_1) : Int).toNat).length (c2 - (rd y1210 x14_1).toNat)] (by rfl) rfl rfl (by (try simp only [List.map_toArray, List.map_cons, List.map_nil]);first | done | ((try rw [show ((l0.take (x14_37 : Int).toNat).drop (x14_1 : Int).toNat).length = (x14_37.toNat - x14_1.toNat) from (by rw [List.length_drop, List.length_take];have h_ : (x14_37 : Int) ≤ (l0.length : Int) := od_;omega)]);(try rw [show ((l1.take ((wrap64 ((rd y1207 x14_1) + (wrap64 (x14_37 - x14_1)))) : Int).toNat).drop ((rd y1207 x14_1) : Int).toNat).length = ((wrap64 ((rd y1207 x14_1) + (wrap64 (x14_37 - x14_1)))).toNat - (rd y1207 x14_1).toNat) from (by rw [List.length_drop, List.length_take];have h_ : ((wrap64 ((rd y1207 x14_1) + (wrap64 (x14_37 - x14_1)))) : Int) ≤ (l1.length : Int) := od_;omega)]);(try rw [show ((l2.take ((wrap64 ((rd y1210 x14_1) + (wrap64 (x14_37 - x14_1)))) : Int).toNat).drop ((rd y1210 x14_1) : Int).toNat).length = ((wrap64 ((rd y1210 x14_1) + (wrap64 (x14_37 - x14_1)))).toNat - (rd y1210 x14_1).toNat) from (by rw [List.length_drop, List.length_take];have h_ : ((wrap64 ((rd y1210 x14_1) + (wrap64 (x14_37 - x14_1)))) : Int) ≤ (l2.length : Int) := od_;omega)]);rfl) | (rw [show ((l0.take (x14_37 : Int).toNat).drop (x14_1 : Int).toNat).length = (x14_37.toNat - x14_1.toNat) from (by rw [List.length_drop, List.length_take];have h_ : (x14_37 : Int) ≤ (l0.length : Int) := od_;omega)] <;> rfl) | (rw [show ((l1.take ((wrap64 ((rd y1207 x14_1) + (wrap64 (x14_37 - x14_1)))) : Int).toNat).drop ((rd y1207 x14_1) : Int).toNat).length = ((wrap64 ((rd y1207 x14_1) + (wrap64 (x14_37 - x14_1)))).toNat - (rd y1207 x14_1).toNat) from (by rw [List.length_drop, List.length_take];have h_ : ((wrap64 ((rd y1207 x14_1) + (wrap64 (x14_37 - x14_1)))) : Int) ≤ (l1.length : Int) := od_;omega)] <;> rfl) | (rw [show ((l2.take ((wrap64 ((rd y1210 x14_1) + (wrap64 (x14_37 - x14_1)))) : Int).toNat).drop ((rd y1210 x14_1) : Int).toNat).length = ((wrap64 ((rd y1210 x14_1) + (wrap64 (x14_37 - x14_1)))).toNat - (rd y1210 x14_1).toNat) from (by rw [List.length_drop, List.length_take];have h_ : ((wrap64 ((rd y1210 x14_1) + (wrap64 (x14_37 - x14_1)))) : Int) ≤ (l2.length : Int) := od_;omega)] <;> rfl) | rfl | (simp only [List.length_drop, List.length_take];rfl)) ?_
                                                               with_reducible refine (impl_chunkOf.calls kj37 _ _ ((l0.take (x14_37 : Int).toNat).drop (x14_1 : Int).toNat) _ _ ((l1.take ((wrap64 ((rd y1207 x14_1) + (wrap64 (x14_37 - x14_1)))) : Int).toNat).drop ((rd y1207 x14_1) : Int).toNat) _ _ ((l2.take ((wrap64 ((rd y1210 x14_1) + (wrap64 (x14_37 - x14_1)))) : Int).toNat).drop ((rd y1210 x14_1) : Int).toNat) t1243 t1244 t1247 t1250 _ ?side1 ?side2 ?side3 ?side4 ?side5 ?side6 A67.out).mono ?_
                                                               (case side1 => exact rc_ (Kd.C_below HR1240.out HB.out))
                                                               (case side2 => exact HC1240.out)
                                                               (case side3 => exact rc_ (Kd.C_below HR1241.out HB.out))
                                                               (case side4 => exact HC1241.out)
                                                               (case side5 => exact rc_ (Kd.C_below HR1242.out HB.out))
                                                               (case side6 => exact HC1242.out)
                                                               rintro e w74 ⟨v1245, v1248, v1251, rfl, ho0, ho1, ho2, hb⟩
                                                               refine ⟨_, rfl, ?_⟩
                                                               have n0_ := Aside0.mk (Kd.R_below (rr_ HO_7.out) hb)
                                                               have n1_ := Aside0.mk (Kd.R_below (rr_ HO_8.out) hb)
                                                               have n2_ := Aside0.mk (Bx_mono (Bx_told (Bx_told (Bx_told (Bx_old (by (with_reducible repeat (first | apply Bx_alloc | apply Bx_drewN | apply Bx_drew));exact HO_9.out) hb) (Kd.R_base ho0)) (Kd.R_base ho1)) (Kd.R_base ho2)) (fun _ h_ => h_.1))
                                                               have n3_ := Aside0.mk (Kd.R_lower ho0 (below_size (bw_ HB.out)))
                                                               have n4_ := Aside0.mk (Kd.R_lower ho1 (below_size (bw_ HB.out)))
                                                               have n5_ := Aside0.mk (Kd.R_lower ho2 (below_size (bw_ HB.out)))
                                                               have n6_ := Aside0.mk (below_step (bw_ HB.out) hb)
                                                               clear HO_7
                                                               clear HO_8
                                                               clear HO_9
                                                               clear HB
                                                               have HO_7 := n0_
                                                               have HO_8 := n1_
                                                               have HO_9 := n2_
                                                               have HO1246 := n3_
                                                               have HO1249 := n4_
                                                               have HO1252 := n5_
                                                               have HB := n6_
                                                               clear n0_ n1_ n2_ n3_ n4_ n5_ n6_
                                                               (try clear hb)
                                                               (try clear hb2)
                                                               (try clear hk)
                                                               (try clear hi)
                                                               (try clear ho0)
                                                               (try clear ho1)
                                                               (try clear ho2)
                                                               obtain ⟨Ao76, co76, eo76⟩ := Kd.R_slice HO1246.out
                                                               (first | subst eo76 | (injection eo76 with f1_ f2_ f3_;have f4_ := f1_.symm;have f5_ := f3_.symm;clear f1_ f2_ f3_;subst f4_;subst f5_))
                                                               obtain ⟨Ao77, co77, eo77⟩ := Kd.R_slice HO1249.out
                                                               (first | subst eo77 | (injection eo77 with f1_ f2_ f3_;have f4_ := f1_.symm;have f5_ := f3_.symm;clear f1_ f2_ f3_;subst f4_;subst f5_))
                                                               obtain ⟨Ao78, co78, eo78⟩ := Kd.R_slice HO1252.out
                                                               (first | subst eo78 | (injection eo78 with f1_ f2_ f3_;have f4_ := f1_.symm;have f5_ := f3_.symm;clear f1_ f2_ f3_;subst f4_;subst f5_))
                                                               refine hK.out _ _ trivial (fun hHeld => ?_)
                                                               clear hK K
                                                               refine norm_ (a' := ?_) ?_ ?_
                                                               rotate_left
                                                               · show Act.put _ (some 132) _ = _
                                                                 simp only [Act.put, s0_, s1_, s2_, i64_w, i32_w]
                                                                 rfl
                                                               refine one_ (i := 18) (N := some 133) (mb_ 19 524287) rfl rfl (one_of HT_.out (by kernel_rfl)) (by decide) (fun K hK => ?_)
                                                               refine goesV_ (T := .tmp 115) #[.pointer (some ⟨gbB, 0, none⟩)] Try.func130 (by kernel_rfl) rfl #[.agg #[.int .i64 t1243, .slice Ao76 t1244.length co76, .slice Ao77 t1247.length co77, .slice Ao78 t1250.length co78]] (by rfl) rfl rfl rfl lf_ #[.agg #[.int .i64 t1243, .slice Ao76 t1244.length co76, .slice Ao77 t1247.length co77, .slice Ao78 t1250.length co78], .pointer (some ⟨gbB, 0, none⟩)] rfl ?_
                                                               with_reducible refine (impl_chunksOf_1.calls gbB t1233 t1243 _ _ t1244 _ _ t1247 _ _ t1250 t1253 w _ ?side1 ?side2 ?side3 ?side4 ?side5 A68.out).mono ?_
                                                               (case side1 => exact bw_ HB.out)
                                                               (case side2 => exact Bx_mono HO_9.out (fun k_ hk => ⟨hk.1.1.2, hk.1.2, hk.2⟩))
                                                               (case side3 => exact HO1246.out)
                                                               (case side4 => exact HO1249.out)
                                                               (case side5 => exact HO1252.out)
                                                               rintro e w79 ⟨rfl, ho0, hb, hkp⟩
                                                               refine ⟨_, rfl, ?_⟩
                                                               have n0_ := Aside0.mk (kept_add (ok' := fun k_ => some k_ ≠ (.slice (some ad1221) y1210.length co43 : Value).ownBlock) HO_7.out hkp (fun _ h_ => h_))
                                                               have n1_ := Aside0.mk (kept_add (ok' := fun k_ => some k_ ≠ (.slice (some ad1219) y1207.length co41 : Value).ownBlock) HO_8.out hkp (fun _ h_ => h_))
                                                               have n2_ := Aside0.mk (Kd.R_nil Kd.string 9 w79 w.heap.size (fun _ => True))
                                                               have n3_ := Aside0.mk (Kd.R_nil Kd.string 9 w79 w.heap.size (fun _ => True))
                                                               have n4_ := Aside0.mk (Kd.R_nil Kd.string 9 w79 w.heap.size (fun _ => True))
                                                               have n5_ := Aside0.mk ho0
                                                               have n6_ := Aside0.mk (hb)
                                                               clear HO_7
                                                               clear HO_8
                                                               clear HO1246
                                                               clear HO1249
                                                               clear HO1252
                                                               clear HB
                                                               clear HO_9
                                                               have HO_7 := n0_
                                                               have HO_8 := n1_
                                                               have HO1246 := n2_
                                                               have HO1249 := n3_
                                                               have HO1252 := n4_
                                                               have HO1255 := n5_
                                                               have HB := n6_
                                                               clear n0_ n1_ n2_ n3_ n4_ n5_ n6_
                                                               (try clear hb)
                                                               (try clear hkp)
                                                               (try clear ho0)
                                                               refine hK.out _ _ trivial (fun hHeld => ?_)
                                                               clear hK K
                                                               refine norm_ (a' := ?_) ?_ ?_
                                                               rotate_left
                                                               · show Act.put _ (some 133) _ = _
                                                                 simp only [Act.put, s0_, s1_, s2_, i64_w, i32_w]
                                                                 rfl
                                                               refine done_ (done_of HT_.out (by kernel_rfl)) ?_
                                                               obtain ⟨_, vqE, hbE, hSE⟩ := HO1255.out
                                                               obtain ⟨AqE, cqE, eqE⟩ := Kd.S_slice hSE
                                                               subst eqE
                                                               have hcE := (blk_cell hbE 0).trans (rfl : _ = some (Value.slice AqE _ cqE))
                                                               have HSE := Aside0.mk hSE
                                                               clear hbE hSE
                                                               try go_wp2
                                                               go_ret
                                                               exact ⟨_, by first | rfl | (simp [errW_none, errW_some] <;> rfl) | (simp [*, errW_none, errW_some] <;> rfl), by (with_reducible repeat (first | apply Kd.S_alloc | apply Kd.S_drewN | apply Kd.S_drew));exact Kd.S_mono HSE.out (fun _ hk => trivial), bw_ HB.out⟩
                                                             · rw [if_neg c69] at H
                                                               have c69b0 : ((wrap64 (x14_37 - x14_1)) == 0) = false := beq_eq_false_iff_ne.mpr c69
                                                               have c69b1 : ((wrap64 (x14_37 - x14_1)) != 0) = true := bne_iff_ne.mpr c69
                                                               have H' := Aside0.mk H
                                                               clear H
                                                               try go_wp2
                                                               have n0_ := Aside0.mk (Kd.R_drew HO_7.out)
                                                               have n1_ := Aside0.mk (Kd.R_drew HO_8.out)
                                                               have n2_ := Aside0.mk (Bx_drew HO_9.out)
                                                               have n3_ := Aside0.mk (below_drew1 HB.out)
                                                               clear HO_7
                                                               clear HO_8
                                                               clear HO_9
                                                               clear HB
                                                               have HO_7 := n0_
                                                               have HO_8 := n1_
                                                               have HO_9 := n2_
                                                               have HB := n3_
                                                               clear n0_ n1_ n2_ n3_
                                                               obtain ⟨i081, hi081, _, hsz81, _⟩ := info_parts info9
                                                               obtain ⟨A81, hcut81, hA81, hC81⟩ := print_mid_of (P := Try.prog) Value.string (⟨#[]⟩ : ByteArray) 34 9 .i64 .i64 Try.underlying34 hi081 hsz81 A0 c0 l0 x14_1 x14_37 od_ (by first | omega | exact od_) od_ HC0.out
                                                               have HR1240 := Aside0.mk (Kd.C_of_reads (h1 := fun _ => rfl) (hA81 _ (Kd.reads_of_C HR0.out)))
                                                               have HC1240 := Aside0.mk hC81
                                                               clear hA81 hC81 hi081 hsz81
                                                               obtain ⟨i082, hi082, _, hsz82, _⟩ := info_parts info9
                                                               obtain ⟨A82, hcut82, hA82, hC82⟩ := print_mid_of (P := Try.prog) Value.string (⟨#[]⟩ : ByteArray) 34 9 .i64 .i64 Try.underlying34 hi082 hsz82 A1 c1 l1 (rd y1207 x14_1) (wrap64 ((rd y1207 x14_1) + (wrap64 (x14_37 - x14_1)))) od_ (by first | omega | exact od_) od_ HC1.out
                                                               have HR1241 := Aside0.mk (Kd.C_of_reads (h1 := fun _ => rfl) (hA82 _ (Kd.reads_of_C HR1.out)))
                                                               have HC1241 := Aside0.mk hC82
                                                               clear hA82 hC82 hi082 hsz82
                                                               obtain ⟨i083, hi083, _, hsz83, _⟩ := info_parts info9
                                                               obtain ⟨A83, hcut83, hA83, hC83⟩ := print_mid_of (P := Try.prog) Value.string (⟨#[]⟩ : ByteArray) 34 9 .i64 .i64 Try.underlying34 hi083 hsz83 A2 c2 l2 (rd y1210 x14_1) (wrap64 ((rd y1210 x14_1) + (wrap64 (x14_37 - x14_1)))) od_ (by first | omega | exact od_) od_ HC2.out
                                                               have HR1242 := Aside0.mk (Kd.C_of_reads (h1 := fun _ => rfl) (hA83 _ (Kd.reads_of_C HR2.out)))
                                                               have HC1242 := Aside0.mk hC83
                                                               clear hA83 hC83 hi083 hsz83
                                                               refine start_ (n := 19) (S := fun w' => True) (ds := []) (mb_ 19 0) (by kernel_rfl) rfl rfl trivial (fun hHeld => ?_);refine with_tabW impl_chunksOf.tab15 impl_chunksOf.bits15 (fun HT_ HW_ => ?_)
                                                               generalize wc.drew = w80 at HO_7 HO_8 HO_9 HB HR1240 HR1241 HR1242 hHeld ⊢
                                                               refine pure_ (i := 0) (N := some 115) (v := ?_) (a' := ?_) (mb_ 19 1) rfl rfl (any_of HT_.out (by kernel_rfl)) (fun _ _ _ h => h) (Or.inl ⟨by rfl, ?_⟩) ?_ ?_
                                                               rotate_left
                                                               · intro w'
                                                                 go_simp
                                                                 with_reducible rfl
                                                               rotate_left
                                                               · simp only [Act.put, s0_, s1_, s2_, i64_w, i32_w]
                                                                 rfl
                                                               refine pure_ (i := 1) (N := some 116) (v := ?_) (a' := ?_) (mb_ 19 3) rfl rfl (any_of HT_.out (by kernel_rfl)) (fun _ _ _ h => h) (Or.inl ⟨by rfl, ?_⟩) ?_ ?_
                                                               rotate_left
                                                               · intro w'
                                                                 go_simp
                                                                 with_reducible rfl
                                                               rotate_left
                                                               · simp only [Act.put, s0_, s1_, s2_, i64_w, i32_w]
                                                                 rfl
                                                               refine pure_ (i := 2) (N := some 117) (v := ?_) (a' := ?_) (mb_ 19 7) rfl rfl (any_of HT_.out (by kernel_rfl)) (fun _ _ _ h => h) (Or.inl ⟨by rfl, ?_⟩) ?_ ?_
                                                               rotate_left
                                                               · intro w'
                                                                 go_simp
                                                                 with_reducible rfl
                                                               rotate_left
                                                               · simp only [Act.put, s0_, s1_, s2_, i64_w, i32_w]
                                                                 rfl
                                                               refine pure_ (i := 3) (N := some 118) (v := ?_) (a' := ?_) (mb_ 19 15) rfl rfl (any_of HT_.out (by kernel_rfl)) (fun _ _ _ h => h) (Or.inl ⟨by rfl, ?_⟩) ?_ ?_
                                                               rotate_left
                                                               · intro w'
                                                                 go_simp
                                                                 with_reducible rfl
                                                               rotate_left
                                                               · simp only [Act.put, s0_, s1_, s2_, i64_w, i32_w]
                                                                 rfl
                                                               refine pure_ (i := 4) (N := some 119) (v := ?_) (a' := ?_) (mb_ 19 31) rfl rfl (any_of HT_.out (by kernel_rfl)) (fun _ _ _ h => h) (Or.inl ⟨by rfl, ?_⟩) ?_ ?_
                                                               rotate_left
                                                               · intro w'
                                                                 go_simp
                                                                 with_reducible rfl
                                                               rotate_left
                                                               · simp only [Act.put, s0_, s1_, s2_, i64_w, i32_w]
                                                                 rfl
                                                               refine pure_ (i := 5) (N := some 120) (v := ?_) (a' := ?_) (mb_ 19 63) rfl rfl (any_of HT_.out (by kernel_rfl)) (fun _ _ _ h => h) (Or.inl ⟨by rfl, ?_⟩) ?_ ?_
                                                               rotate_left
                                                               · intro w'
                                                                 go_simp
                                                                 with_reducible rfl
                                                               rotate_left
                                                               · simp only [Act.put, s0_, s1_, s2_, i64_w, i32_w]
                                                                 rfl
                                                               refine pure_ (i := 6) (N := some 121) (v := ?_) (a' := ?_) (mb_ 19 127) rfl rfl (any_of HT_.out (by kernel_rfl)) (fun _ _ _ h => h) (Or.inl ⟨by rfl, ?_⟩) ?_ ?_
                                                               rotate_left
                                                               · intro w'
                                                                 go_simp
                                                                 with_reducible rfl
                                                               rotate_left
                                                               · simp only [Act.put, s0_, s1_, s2_, i64_w, i32_w]
                                                                 rfl
                                                               refine pure_ (i := 7) (N := some 122) (v := ?_) (a' := ?_) (mb_ 19 255) rfl rfl (any_of HT_.out (by kernel_rfl)) (fun _ _ _ h => h) (Or.inl ⟨by rfl, ?_⟩) ?_ ?_
                                                               rotate_left
                                                               · intro w'
                                                                 go_simp
                                                                 with_reducible rfl
                                                               rotate_left
                                                               · simp only [Act.put, s0_, s1_, s2_, i64_w, i32_w]
                                                                 rfl
                                                               refine pure_ (i := 8) (N := some 123) (v := ?_) (a' := ?_) (mb_ 19 511) rfl rfl (any_of HT_.out (by kernel_rfl)) (fun _ _ _ h => h) (Or.inl ⟨by rfl, ?_⟩) ?_ ?_
                                                               rotate_left
                                                               · intro w'
                                                                 go_simp
                                                                 with_reducible rfl
                                                               rotate_left
                                                               · simp only [Act.put, s0_, s1_, s2_, i64_w, i32_w]
                                                                 rfl
                                                               refine pure_ (i := 9) (N := some 124) (v := ?_) (a' := ?_) (mb_ 19 1023) rfl rfl (any_of HT_.out (by kernel_rfl)) (fun _ _ _ h => h) (Or.inl ⟨by rfl, ?_⟩) ?_ ?_
                                                               rotate_left
                                                               · intro w'
                                                                 go_simp
                                                                 with_reducible rfl
                                                               rotate_left
                                                               · simp only [Act.put, s0_, s1_, s2_, i64_w, i32_w]
                                                                 rfl
                                                               refine pure_ (i := 10) (N := some 125) (v := ?_) (a' := ?_) (mb_ 19 2047) rfl rfl (any_of HT_.out (by kernel_rfl)) (fun _ _ _ h => h) (Or.inl ⟨by rfl, ?_⟩) ?_ ?_
                                                               rotate_left
                                                               · intro w'
                                                                 go_simp
                                                                 with_reducible rfl
                                                               rotate_left
                                                               · simp only [Act.put, s0_, s1_, s2_, i64_w, i32_w]
                                                                 rfl
                                                               refine pure_ (i := 11) (N := some 126) (v := ?_) (a' := ?_) (mb_ 19 4095) rfl rfl (any_of HT_.out (by kernel_rfl)) (fun _ _ _ h => h) (Or.inl ⟨by rfl, ?_⟩) ?_ ?_
                                                               rotate_left
                                                               · intro w'
                                                                 go_simp
                                                                 with_reducible rfl
                                                               rotate_left
                                                               · simp only [Act.put, s0_, s1_, s2_, i64_w, i32_w]
                                                                 rfl
                                                               refine pure_ (i := 12) (N := some 127) (v := ?_) (a' := ?_) (mb_ 19 8191) rfl rfl (any_of HT_.out (by kernel_rfl)) (fun _ _ _ h => h) (Or.inl ⟨by rfl, ?_⟩) ?_ ?_
                                                               rotate_left
                                                               · intro w'
                                                                 go_simp
                                                                 with_reducible rfl
                                                               rotate_left
                                                               · simp only [Act.put, s0_, s1_, s2_, i64_w, i32_w]
                                                                 rfl
                                                               refine pure_ (i := 13) (N := some 128) (v := ?_) (a' := ?_) (mb_ 19 16383) rfl rfl (any_of HT_.out (by kernel_rfl)) (fun _ _ _ h => h) (Or.inl ⟨by rfl, ?_⟩) ?_ ?_
                                                               rotate_left
                                                               · intro w'
                                                                 go_simp
                                                                 with_reducible rfl
                                                               rotate_left
                                                               · simp only [Act.put, s0_, s1_, s2_, i64_w, i32_w]
                                                                 rfl
                                                               refine pure_ (i := 14) (N := some 129) (v := ?_) (a' := ?_) (mb_ 19 32767) rfl rfl (any_of HT_.out (by kernel_rfl)) (fun _ _ _ h => h) (Or.inl ⟨by rfl, ?_⟩) ?_ ?_
                                                               rotate_left
                                                               · intro w'
                                                                 go_simp
                                                                 with_reducible rfl
                                                               rotate_left
                                                               · simp only [Act.put, s0_, s1_, s2_, i64_w, i32_w]
                                                                 rfl
                                                               refine pure_ (i := 15) (N := some 130) (v := ?_) (a' := ?_) (mb_ 19 65535) rfl rfl (any_of HT_.out (by kernel_rfl)) (fun _ _ _ h => h) (Or.inl ⟨by rfl, ?_⟩) ?_ ?_
                                                               rotate_left
                                                               · intro w'
                                                                 go_simp
                                                                 with_reducible rfl
                                                               rotate_left
                                                               · simp only [Act.put, s0_, s1_, s2_, i64_w, i32_w]
                                                                 rfl
                                                               refine pure_ (i := 16) (N := some 131) (v := ?_) (a' := ?_) (mb_ 19 131071) rfl rfl (any_of HT_.out (by kernel_rfl)) (fun _ _ _ h => h) (Or.inl ⟨by rfl, ?_⟩) ?_ ?_
                                                               rotate_left
                                                               · intro w'
                                                                 go_simp
                                                                 with_reducible rfl
                                                               rotate_left
                                                               · simp only [Act.put, s0_, s1_, s2_, i64_w, i32_w]
                                                                 rfl
                                                               refine one_ (i := 17) (N := some 132) (mb_ 19 262143) rfl rfl (one_of HT_.out (by kernel_rfl)) (by decide) (fun K hK => ?_)
                                                               refine goes_ Try.func127 (by kernel_rfl) rfl #[.slice A81 ((l0.take (x14_37 : Int).toNat).drop (x14_1 : Int).toNat).length (c0 - x14_1.toNat), .slice A82 ((l1.take ((wrap64 ((rd y1207 x14_1) + (wrap64 (x14_37 - x14_1)))) : Int).toNat).drop ((rd y1207 x14_1) : Int).toNat).length (c1 - (rd y1207 x14_1).toNat), .slice A83 ((l2.take ((wrap64 ((rd y1210 x14_1) + (wrap64 (x14_37 - x14_1)))) : Int).toNat).drop ((rd y1210 x14_1) : Int).toNat).length (c2 - (rd y1210 x14_1).toNat)] (by rfl) rfl rfl (by (try simp only [List.map_toArray, List.map_cons, List.map_nil]);first | done | ((try rw [show ((l0.take (x14_37 : Int).toNat).drop (x14_1 : Int).toNat).length = (x14_37.toNat - x14_1.toNat) from (by rw [List.length_drop, List.length_take];have h_ : (x14_37 : Int) ≤ (l0.length : Int) := od_;omega)]);(try rw [show ((l1.take ((wrap64 ((rd y1207 x14_1) + (wrap64 (x14_37 - x14_1)))) : Int).toNat).drop ((rd y1207 x14_1) : Int).toNat).length = ((wrap64 ((rd y1207 x14_1) + (wrap64 (x14_37 - x14_1)))).toNat - (rd y1207 x14_1).toNat) from (by rw [List.length_drop, List.length_take];have h_ : ((wrap64 ((rd y1207 x14_1) + (wrap64 (x14_37 - x14_1)))) : Int) ≤ (l1.length : Int) := od_;omega)]);(try rw [show ((l2.take ((wrap64 ((rd y1210 x14_1) + (wrap64 (x14_37 - x14_1)))) : Int).toNat).drop ((rd y1210 x14_1) : Int).toNat).length = ((wrap64 ((rd y1210 x14_1) + (wrap64 (x14_37 - x14_1)))).toNat - (rd y1210 x14_1).toNat) from (by rw [List.length_drop, List.length_take];have h_ : ((wrap64 ((rd y1210 x14_1) + (wrap64 (x14_37 - x14_1)))) : Int) ≤ (l2.length : Int) := od_;omega)]);rfl) | (rw [show ((l0.take (x14_37 : Int).toNat).drop (x14_1 : Int).toNat).length = (x14_37.toNat - x14_1.toNat) from (by rw [List.length_drop, List.length_take];have h_ : (x14_37 : Int) ≤ (l0.length : Int) := od_;omega)] <;> rfl) | (rw [show ((l1.take ((wrap64 ((rd y1207 x14_1) + (wrap64 (x14_37 - x14_1)))) : Int).toNat).drop ((rd y1207 x14_1) : Int).toNat).length = ((wrap64 ((rd y1207 x14_1) + (wrap64 (x14_37 - x14_1)))).toNat - (rd y1207 x14_1).toNat) from (by rw [List.length_drop, List.length_take];have h_ : ((wrap64 ((rd y1207 x14_1) + (wrap64 (x14_37 - x14_1)))) : Int) ≤ (l1.length : Int) := od_;omega)] <;> rfl) | (rw [show ((l2.take ((wrap64 ((rd y1210 x14_1) + (wrap64 (x14_37 - x14_1)))) : Int).toNat).drop ((rd y1210 x14_1) : Int).toNat).length = ((wrap64 ((rd y1210 x14_1) + (wrap64 (x14_37 - x14_1)))).toNat - (rd y1210 x14_1).toNat) from (by rw [List.length_drop, List.length_take];have h_ : ((wrap64 ((rd y1210 x14_1) + (wrap64 (x14_37 - x14_1)))) : Int) ≤ (l2.length : Int) := od_;omega)] <;> rfl) | rfl | (simp only [List.length_drop, List.length_take];rfl)) ?_
                                                               with_reducible refine (impl_chunkOf.calls kj37 _ _ ((l0.take (x14_37 : Int).toNat).drop (x14_1 : Int).toNat) _ _ ((l1.take ((wrap64 ((rd y1207 x14_1) + (wrap64 (x14_37 - x14_1)))) : Int).toNat).drop ((rd y1207 x14_1) : Int).toNat) _ _ ((l2.take ((wrap64 ((rd y1210 x14_1) + (wrap64 (x14_37 - x14_1)))) : Int).toNat).drop ((rd y1210 x14_1) : Int).toNat) t1243 t1244 t1247 t1250 _ ?side1 ?side2 ?side3 ?side4 ?side5 ?side6 A67.out).mono ?_
                                                               (case side1 => exact rc_ (Kd.C_below HR1240.out HB.out))
                                                               (case side2 => exact HC1240.out)
                                                               (case side3 => exact rc_ (Kd.C_below HR1241.out HB.out))
                                                               (case side4 => exact HC1241.out)
                                                               (case side5 => exact rc_ (Kd.C_below HR1242.out HB.out))
                                                               (case side6 => exact HC1242.out)
                                                               rintro e w84 ⟨v1245, v1248, v1251, rfl, ho0, ho1, ho2, hb⟩
                                                               refine ⟨_, rfl, ?_⟩
                                                               have n0_ := Aside0.mk (Kd.R_below (rr_ HO_7.out) hb)
                                                               have n1_ := Aside0.mk (Kd.R_below (rr_ HO_8.out) hb)
                                                               have n2_ := Aside0.mk (Bx_mono (Bx_told (Bx_told (Bx_told (Bx_old (by (with_reducible repeat (first | apply Bx_alloc | apply Bx_drewN | apply Bx_drew));exact HO_9.out) hb) (Kd.R_base ho0)) (Kd.R_base ho1)) (Kd.R_base ho2)) (fun _ h_ => h_.1))
                                                               have n3_ := Aside0.mk (Kd.R_lower ho0 (below_size (bw_ HB.out)))
                                                               have n4_ := Aside0.mk (Kd.R_lower ho1 (below_size (bw_ HB.out)))
                                                               have n5_ := Aside0.mk (Kd.R_lower ho2 (below_size (bw_ HB.out)))
                                                               have n6_ := Aside0.mk (below_step (bw_ HB.out) hb)
                                                               clear HO_7
                                                               clear HO_8
                                                               clear HO_9
                                                               clear HB
                                                               have HO_7 := n0_
                                                               have HO_8 := n1_
                                                               have HO_9 := n2_
                                                               have HO1246 := n3_
                                                               have HO1249 := n4_
                                                               have HO1252 := n5_
                                                               have HB := n6_
                                                               clear n0_ n1_ n2_ n3_ n4_ n5_ n6_
                                                               (try clear hb)
                                                               (try clear hb2)
                                                               (try clear hk)
                                                               (try clear hi)
                                                               (try clear ho0)
                                                               (try clear ho1)
                                                               (try clear ho2)
                                                               obtain ⟨Ao86, co86, eo86⟩ := Kd.R_slice HO1246.out
                                                               (first | subst eo86 | (injection eo86 with f1_ f2_ f3_;have f4_ := f1_.symm;have f5_ := f3_.symm;clear f1_ f2_ f3_;subst f4_;subst f5_))
                                                               obtain ⟨Ao87, co87, eo87⟩ := Kd.R_slice HO1249.out
                                                               (first | subst eo87 | (injection eo87 with f1_ f2_ f3_;have f4_ := f1_.symm;have f5_ := f3_.symm;clear f1_ f2_ f3_;subst f4_;subst f5_))
                                                               obtain ⟨Ao88, co88, eo88⟩ := Kd.R_slice HO1252.out
                                                               (first | subst eo88 | (injection eo88 with f1_ f2_ f3_;have f4_ := f1_.symm;have f5_ := f3_.symm;clear f1_ f2_ f3_;subst f4_;subst f5_))
                                                               refine hK.out _ _ trivial (fun hHeld => ?_)
                                                               clear hK K
                                                               refine norm_ (a' := ?_) ?_ ?_
                                                               rotate_left
                                                               · show Act.put _ (some 132) _ = _
                                                                 simp only [Act.put, s0_, s1_, s2_, i64_w, i32_w]
                                                                 rfl
                                                               refine one_ (i := 18) (N := some 133) (mb_ 19 524287) rfl rfl (one_of HT_.out (by kernel_rfl)) (by decide) (fun K hK => ?_)
                                                               refine goesV_ (T := .tmp 115) #[.pointer (some ⟨gbB, 0, none⟩)] Try.func130 (by kernel_rfl) rfl #[.agg #[.int .i64 t1243, .slice Ao86 t1244.length co86, .slice Ao87 t1247.length co87, .slice Ao88 t1250.length co88]] (by rfl) rfl rfl rfl lf_ #[.agg #[.int .i64 t1243, .slice Ao86 t1244.length co86, .slice Ao87 t1247.length co87, .slice Ao88 t1250.length co88], .pointer (some ⟨gbB, 0, none⟩)] rfl ?_
                                                               with_reducible refine (impl_chunksOf_1.calls gbB t1233 t1243 _ _ t1244 _ _ t1247 _ _ t1250 t1253 w _ ?side1 ?side2 ?side3 ?side4 ?side5 A68.out).mono ?_
                                                               (case side1 => exact bw_ HB.out)
                                                               (case side2 => exact Bx_mono HO_9.out (fun k_ hk => ⟨hk.1.1.2, hk.1.2, hk.2⟩))
                                                               (case side3 => exact HO1246.out)
                                                               (case side4 => exact HO1249.out)
                                                               (case side5 => exact HO1252.out)
                                                               rintro e w89 ⟨rfl, ho0, hb, hkp⟩
                                                               refine ⟨_, rfl, ?_⟩
                                                               have n0_ := Aside0.mk (kept_add (ok' := fun k_ => some k_ ≠ (.slice (some ad1221) y1210.length co43 : Value).ownBlock) HO_7.out hkp (fun _ h_ => h_))
                                                               have n1_ := Aside0.mk (kept_add (ok' := fun k_ => some k_ ≠ (.slice (some ad1219) y1207.length co41 : Value).ownBlock) HO_8.out hkp (fun _ h_ => h_))
                                                               have n2_ := Aside0.mk (Kd.R_nil Kd.string 9 w89 w.heap.size (fun _ => True))
                                                               have n3_ := Aside0.mk (Kd.R_nil Kd.string 9 w89 w.heap.size (fun _ => True))
                                                               have n4_ := Aside0.mk (Kd.R_nil Kd.string 9 w89 w.heap.size (fun _ => True))
                                                               have n5_ := Aside0.mk ho0
                                                               have n6_ := Aside0.mk (hb)
                                                               clear HO_7
                                                               clear HO_8
                                                               clear HO1246
                                                               clear HO1249
                                                               clear HO1252
                                                               clear HB
                                                               clear HO_9
                                                               have HO_7 := n0_
                                                               have HO_8 := n1_
                                                               have HO1246 := n2_
                                                               have HO1249 := n3_
                                                               have HO1252 := n4_
                                                               have HO1255 := n5_
                                                               have HB := n6_
                                                               clear n0_ n1_ n2_ n3_ n4_ n5_ n6_
                                                               (try clear hb)
                                                               (try clear hkp)
                                                               (try clear ho0)
                                                               refine hK.out _ _ trivial (fun hHeld => ?_)
                                                               clear hK K
                                                               refine norm_ (a' := ?_) ?_ ?_
                                                               rotate_left
                                                               · show Act.put _ (some 133) _ = _
                                                                 simp only [Act.put, s0_, s1_, s2_, i64_w, i32_w]
                                                                 rfl
                                                               refine done_ (done_of HT_.out (by kernel_rfl)) ?_
                                                               try go_wp2
                                                               go_roundg kj37
                                                               case measure => have := HK1.out;have := HJ14.out;have := HJ37.out;omega
                                                               case rel => exact ⟨(t1253), (x14_37), (wrap64 ((rd y1207 x14_1) + (wrap64 (x14_37 - x14_1)))), (wrap64 ((rd y1210 x14_1) + (wrap64 (x14_37 - x14_1)))), (x14_37), ls_, ls_, ls_, ls_, H', ⟨by have := HK1.out;have := HJ14.out;have := HJ37.out;omega⟩, ⟨rr_ HO_7.out⟩, ⟨rr_ HO_8.out⟩, ⟨by (with_reducible repeat (first | apply Bx_alloc | apply Bx_drewN | apply Bx_drew));exact Bx_mono HO1255.out (fun _ hk => trivial)⟩, ⟨bw_ HB.out⟩⟩
                                                           · rw [if_neg c66] at H
                                                             exact absurd H (by simp)
                                                         · rw [if_neg c65] at H
                                                           exact absurd H (by simp)
                                                       · rw [if_neg c64] at H
                                                         exact absurd H (by simp)
                                                     · rw [if_neg c63] at H
                                                       exact absurd H (by simp)
                                                   · rw [if_neg c62] at H
                                                     exact absurd H (by simp)
                                                 · rw [if_neg c61] at H
                                                   exact absurd H (by simp)
                                               · rw [if_neg c60] at H
                                                 exact absurd H (by simp)
                                             · rw [if_neg c59] at H
                                               exact absurd H (by simp)
                                           · rw [if_neg c58] at H
                                             exact absurd H (by simp)
                                     · rw [if_neg c35] at H
                                       exact absurd H (by simp)
                                   · rw [if_neg c34] at H
                                     exact absurd H (by simp)
                                 · rw [if_neg c33] at H
                                   exact absurd H (by simp)
                               · rw [if_neg c32] at H
                                 exact absurd H (by simp)
                             · rw [if_neg c31] at H
                               exact absurd H (by simp)
                           · rw [if_neg c30] at H
                             exact absurd H (by simp)
                         · rw [if_neg c29] at H
                           exact absurd H (by simp)
                       · rw [if_neg c28] at H
                         exact absurd H (by simp)
                     · rw [if_neg c27] at H
                       exact absurd H (by simp)
                   · rw [if_neg c26] at H
                     exact absurd H (by simp)
                 · rw [if_neg c25] at H
                   exact absurd H (by simp)
               · rw [if_neg c24] at H
                 exact absurd H (by simp)
       · rw [if_neg c14] at H
         have c14b0 : decide (x14_1 ≤ (l0.length : Int)) = false := decide_eq_false c14
         clear c14
         obtain rfl := Option.some.inj H
         obtain ⟨_, vqE, hbE, hSE⟩ := HO_9.out
         obtain ⟨AqE, cqE, eqE⟩ := Kd.S_slice hSE
         subst eqE
         have hcE := (blk_cell hbE 0).trans (rfl : _ = some (Value.slice AqE _ cqE))
         have HSE := Aside0.mk hSE
         clear hbE hSE
         go_wp2
         go_ret
         exact ⟨_, by first | rfl | (simp [errW_none, errW_some] <;> rfl) | (simp [*, errW_none, errW_some] <;> rfl), rs_ HSE.out, bw_ HB.out⟩
  ·rw [if_neg c7] at H;exact absurd H (by simp)
 ·rw [if_neg c6] at H;exact absurd H (by simp)
end Go.Proofs.Ytjngmhngedecdaa.P
end
section
namespace Go.Proofs.Ytjngmhngedecdaa.P
open Go.RowKit Go.Proofs.YtjngmhngedecdaaW.PrintWords Go.Proofs.YtjngmhngedecdaaW.PrintLast Go.Proofs.YtjngmhngedecdaaW.PrintMore
attribute [local go_sem] max2_int min2_int max_two min_two max_three min_three max_four min_four
set_option linter.unusedVariables false
set_option linter.unusedSimpArgs false
def impl_ChunksOf.f (k : Nat) (l0 : List ByteArray) (l1 : List ByteArray) (l2 : List ByteArray) : Option (Int × (List (S58))) := (impl_LinesFault.f k l0).bind fun t1209 => ((impl_LinesFault.f k l1).bind fun t1210 => ((impl_LinesFault.f k l2).bind fun t1211 => ((impl_firstCode.f k (([t1209, t1210, t1211] : List Int))).bind fun t1215 => (if t1215 = 0 then ((impl_chunksOf.f k l0 l1 l2).bind fun t1216 => (some (0, t1216))) else (some (t1215, ([] : List (S58))))))))
set_option maxHeartbeats 8000000 in
set_option maxRecDepth 100000 in
theorem impl_ChunksOf.calls (k : Nat) (A0 : Option Addr) (c0 : Nat) (l0 : List ByteArray) (A1 : Option Addr) (c1 : Nat) (l1 : List ByteArray) (A2 : Option Addr) (c2 : Nat) (l2 : List ByteArray) (r1 : Int) (r2 : List (S58)) (w : World) (hr0 : Kd.C Kd.string w A0 l0.length l0) (hc0 : l0.length ≤ c0) (hr1 : Kd.C Kd.string w A1 l1.length l1) (hc1 : l1.length ≤ c1) (hr2 : Kd.C Kd.string w A2 l2.length l2) (hc2 : l2.length ≤ c2) (h : impl_ChunksOf.f k l0 l1 l2 = some (r1, r2)) :
  Calls Try.prog 55 #[.slice A0 l0.length c0, .slice A1 l1.length c1, .slice A2 l2.length c2] w fun e w' => ∃ v1_ : Value, e = .returned (.agg #[.int .i64 r1, v1_]) ∧ Kd.S k58 58 w' w.heap.size (fun _ => True) v1_ r2 ∧ Below w.heap.size w w' := by
 have hu71 := Try.underlying71;have HR0 := Aside0.mk hr0;have HC0 := Aside0.mk hc0;clear hr0 hc0;have HR1 := Aside0.mk hr1;have HC1 := Aside0.mk hc1;clear hr1 hc1;have HR2 := Aside0.mk hr2;have HC2 := Aside0.mk hc2;clear hr2 hc2;have HB := Aside0.mk (Below.refl w.heap.size w);have H : ((impl_LinesFault.f k l0).bind fun t1209 => ((impl_LinesFault.f k l1).bind fun t1210 => ((impl_LinesFault.f k l2).bind fun t1211 => ((impl_firstCode.f k (([t1209, t1210, t1211] : List Int))).bind fun t1215 => (if t1215 = 0 then ((impl_chunksOf.f k l0 l1 l2).bind fun t1216 => (some (0, t1216))) else (some (t1215, ([] : List (S58))))))))) = some (r1, r2) := h;clear h;replace H := Option.bind_eq_some_iff.mp H;obtain ⟨t1209, A40, H⟩ := H;replace H : ((impl_LinesFault.f k l1).bind fun t1210 => ((impl_LinesFault.f k l2).bind fun t1211 => ((impl_firstCode.f k (([t1209, t1210, t1211] : List Int))).bind fun t1215 => (if t1215 = 0 then ((impl_chunksOf.f k l0 l1 l2).bind fun t1216 => (some (0, t1216))) else (some (t1215, ([] : List (S58)))))))) = some (r1, r2) := H;have A4 := Aside0.mk A40;clear A40;replace H := Option.bind_eq_some_iff.mp H;obtain ⟨t1210, A50, H⟩ := H;replace H : ((impl_LinesFault.f k l2).bind fun t1211 => ((impl_firstCode.f k (([t1209, t1210, t1211] : List Int))).bind fun t1215 => (if t1215 = 0 then ((impl_chunksOf.f k l0 l1 l2).bind fun t1216 => (some (0, t1216))) else (some (t1215, ([] : List (S58))))))) = some (r1, r2) := H;have A5 := Aside0.mk A50;clear A50;replace H := Option.bind_eq_some_iff.mp H;obtain ⟨t1211, A60, H⟩ := H;replace H : ((impl_firstCode.f k (([t1209, t1210, t1211] : List Int))).bind fun t1215 => (if t1215 = 0 then ((impl_chunksOf.f k l0 l1 l2).bind fun t1216 => (some (0, t1216))) else (some (t1215, ([] : List (S58)))))) = some (r1, r2) := H;have A6 := Aside0.mk A60;clear A60;obtain ⟨y1212, hy1212⟩ : ∃ y_ : List Int, y_ = (([t1209, t1210, t1211] : List Int)) := ⟨_, rfl⟩;(replace H : ((impl_firstCode.f k y1212).bind fun t1215 => (if t1215 = 0 then ((impl_chunksOf.f k l0 l1 l2).bind fun t1216 => (some (0, t1216))) else (some (t1215, ([] : List (S58)))))) = some (r1, r2) := by first | (rw [hy1212];with_reducible exact H) | (have H2_ := (Option.bind_some _ _).symm.trans H;rw [hy1212];with_reducible exact H2_) | (have H2_ := (Option.bind_some _ _).symm.trans H;with_reducible exact H2_) | with_reducible exact H | (rw [hy1212];exact H) | exact H);have Ny1212 := Aside0.mk hy1212;clear hy1212;replace H := Option.bind_eq_some_iff.mp H;obtain ⟨t1215, A70, H⟩ := H;replace H : (if t1215 = 0 then ((impl_chunksOf.f k l0 l1 l2).bind fun t1216 => (some (0, t1216))) else (some (t1215, ([] : List (S58))))) = some (r1, r2) := H;have A7 := Aside0.mk A70;clear A70;by_cases c8 : t1215 = 0;(·rw [if_pos c8] at H;have c8b0 : (t1215 == 0) = true := beq_iff_eq.mpr c8;have c8b1 : (t1215 != 0) = false := bne_eq_false_iff_eq.mpr c8;clear c8;replace H := Option.bind_eq_some_iff.mp H;obtain ⟨t1216, A90, H⟩ := H;replace H : (some (0, t1216)) = some (r1, r2) := H;have A9 := Aside0.mk A90;clear A90;simp only [Option.some.injEq, Prod.mk.injEq] at H;obtain ⟨rfl, rfl⟩ := H;go_enter Try.func55, Try.ntmps55;go_wp2_with (first | ((with_reducible refine gate_dst (N := 6) rfl ?_);refine box_event ?hg (N := 6) ?hd (cs := #[.int .i64 0, .slice none 0 0]) (t := 71) ?hr ?_;(case hd => rfl);(case hg => rfl);(case hr => first | (go_simp;done) | (go_simp;rfl));intro gb1208 hg w10 hbox hb;have n0_ := Aside0.mk (below_step (bw_ HB.out) hb);have n1_ := Aside0.mk (hbox);have n2_ := Aside0.mk ((by rw [hg];exact (below_size (bw_ HB.out)) : w.heap.size ≤ gb1208));have n3_ := Aside0.mk ((by rw [hg];exact (below_size (bw_ HB.out)) : w.heap.size ≤ gb1208));clear HB;have HB := n0_;have BK1208 := n1_;have GW1208 := n2_;have GE1208 := n3_;clear n0_ n1_ n2_ n3_;clear hb hbox hg) | ((with_reducible refine gate_callee (f := 45) rfl ?_);refine goesL_ (some 9) rfl rfl Try.func45 (by kernel_rfl) rfl #[.slice A0 l0.length c0] rfl lf_ ?_;(with_reducible refine (impl_LinesFault.calls k _ _ l0 t1209 _ ?side1 ?side2 A4.out).mono ?_);(case side1 => exact rc_ (Kd.C_below HR0.out HB.out));(case side2 => exact HC0.out);rintro e w11 ⟨rfl, hb⟩;refine ⟨_, rfl, ?_⟩;have n0_ := Aside0.mk (blk_below (g := gb1208) (o := .cells #[.int .i64 0, .slice none 0 0] 71 (0, 0)) (rb_ BK1208.out) hb);have n1_ := Aside0.mk (below_step (bw1_ HB.out GE1208.out) hb);clear BK1208;clear HB;have BK1208 := n0_;have HB := n1_;clear n0_ n1_;(try clear hb);(try clear hb2);(try clear hk);(try clear hi)) | ((with_reducible refine gate_callee (f := 45) rfl ?_);refine goesL_ (some 11) rfl rfl Try.func45 (by kernel_rfl) rfl #[.slice A1 l1.length c1] rfl lf_ ?_;(with_reducible refine (impl_LinesFault.calls k _ _ l1 t1210 _ ?side1 ?side2 A5.out).mono ?_);(case side1 => exact rc_ (Kd.C_below HR1.out HB.out));(case side2 => exact HC1.out);rintro e w12 ⟨rfl, hb⟩;refine ⟨_, rfl, ?_⟩;have n0_ := Aside0.mk (blk_below (g := gb1208) (o := .cells #[.int .i64 0, .slice none 0 0] 71 (0, 0)) (rb_ BK1208.out) hb);have n1_ := Aside0.mk (below_step (bw1_ HB.out GE1208.out) hb);clear BK1208;clear HB;have BK1208 := n0_;have HB := n1_;clear n0_ n1_;(try clear hb);(try clear hb2);(try clear hk);(try clear hi)) | ((with_reducible refine gate_callee (f := 45) rfl ?_);refine goesL_ (some 13) rfl rfl Try.func45 (by kernel_rfl) rfl #[.slice A2 l2.length c2] rfl lf_ ?_;(with_reducible refine (impl_LinesFault.calls k _ _ l2 t1211 _ ?side1 ?side2 A6.out).mono ?_);(case side1 => exact rc_ (Kd.C_below HR2.out HB.out));(case side2 => exact HC2.out);rintro e w13 ⟨rfl, hb⟩;refine ⟨_, rfl, ?_⟩;have n0_ := Aside0.mk (blk_below (g := gb1208) (o := .cells #[.int .i64 0, .slice none 0 0] 71 (0, 0)) (rb_ BK1208.out) hb);have n1_ := Aside0.mk (below_step (bw1_ HB.out GE1208.out) hb);clear BK1208;clear HB;have BK1208 := n0_;have HB := n1_;clear n0_ n1_;(try clear hb);(try clear hb2);(try clear hk);(try clear hi)) | ((with_reducible refine gate_dst (N := 14) rfl ?_);refine Kd.R_lit (Kd.int .i64) _ 2 ?hg (N := 14) ?hd (xs := ([t1209, t1210, t1211] : List Int)) (inner := [.int .i64 t1209, .int .i64 t1210, .int .i64 t1211]) (ok := fun _ => True) (okp := fun _ => True) ?hr ?hp (fun _ hk => hk) trivial (Below.refl _ _) (Nat.le_refl _) (by simp) ?_;(case hd => rfl);(case hg => rfl);(case hr => first | (go_simp;done) | (go_simp;rfl));(case hp => exact (Reps.one (show Kd.M (Kd.int .i64) _ _ _ t1209 [.int .i64 t1209] from rfl) (Reps.one (show Kd.M (Kd.int .i64) _ _ _ t1210 [.int .i64 t1210] from rfl) (Reps.one (show Kd.M (Kd.int .i64) _ _ _ t1211 [.int .i64 t1211] from rfl) (Reps.none _ _)))));intro v1213 w14 ho15 hb hg_ hnew_;clear hg_ hnew_;(first | rw [← Ny1212.out] at ho15 | (simp only [Int.reduceToNat] at ho15;rw [← Ny1212.out] at ho15));have n0_ := Aside0.mk (Kd.R_lower ho15 (below_size (bw1_ HB.out GE1208.out)));have n1_ := Aside0.mk (blk_below (g := gb1208) (o := .cells #[.int .i64 0, .slice none 0 0] 71 (0, 0)) (rb_ BK1208.out) hb);have n2_ := Aside0.mk (below_step (bw1_ HB.out GE1208.out) hb);clear BK1208;clear HB;have HO1214 := n0_;have BK1208 := n1_;have HB := n2_;clear n0_ n1_ n2_;clear hb ho15;obtain ⟨Ao16, co16, eo16⟩ := Kd.R_slice HO1214.out;subst eo16) | ((with_reducible refine gate_callee (f := 67) rfl ?_);refine goesL_ (some 15) rfl rfl Try.func67 (by kernel_rfl) rfl #[.slice Ao16 y1212.length co16] rfl lf_ ?_;(with_reducible refine (impl_firstCode.calls k _ _ y1212 t1215 _ ?side1 ?side2 A7.out).mono ?_);(case side1 => repeat (first | exact (Kd.R_reads' HO1214.out).2.2 | (with_reducible refine Kd.C_alloc ?_ _) | (with_reducible refine Kd.C_drewN ?_ _) | (with_reducible refine Kd.C_drew ?_)));(case side2 => exact (Kd.R_reads' HO1214.out).2.1);rintro e w' ⟨rfl, ⟨nd, rfl⟩⟩;refine ⟨_, rfl, ?_⟩;(try (rw [drewN_self w14];generalize hq_ : World.drewN w14 _ = w14;have n0_ : Aside0 (Kd.R (Kd.int .i64) 2 w14 w.heap.size (fun _ => True) (.slice Ao16 y1212.length co16) y1212) := ⟨by rw [← hq_];exact (rr_ HO1214.out)⟩;have n1_ : Aside0 (w14.heap[gb1208]? = some (.cells #[.int .i64 0, .slice none 0 0] 71 (0, 0))) := ⟨by rw [← hq_];exact (rb_ BK1208.out)⟩;have n2_ : Aside0 (Below w.heap.size w w14) := ⟨by rw [← hq_];exact (bw1_ HB.out GE1208.out)⟩;clear HO1214 BK1208 HB hq_;have HO1214 := n0_;have BK1208 := n1_;have HB := n2_;clear n0_ n1_ n2_))) | ((with_reducible refine gate_callee (f := 100) rfl ?_);refine goesL_ (some 23) rfl rfl Try.func100 (by kernel_rfl) rfl #[.slice A0 l0.length c0, .slice A1 l1.length c1, .slice A2 l2.length c2] rfl lf_ ?_;(with_reducible refine (impl_chunksOf.calls k _ _ l0 _ _ l1 _ _ l2 t1216 _ ?side1 ?side2 ?side3 ?side4 ?side5 ?side6 A9.out).mono ?_);(case side1 => exact rc_ (Kd.C_below HR0.out HB.out));(case side2 => exact HC0.out);(case side3 => exact rc_ (Kd.C_below HR1.out HB.out));(case side4 => exact HC1.out);(case side5 => exact rc_ (Kd.C_below HR2.out HB.out));(case side6 => exact HC2.out);rintro e w17 ⟨v1217, rfl, ho0, hb⟩;refine ⟨_, rfl, ?_⟩;have n0_ := Aside0.mk (Kd.R_below (rr_ HO1214.out) hb);have n1_ := Aside0.mk (Kd.S_lower ho0 (below_size (bw1_ HB.out GE1208.out)));have n2_ := Aside0.mk (blk_below (g := gb1208) (o := .cells #[.int .i64 0, .slice none 0 0] 71 (0, 0)) (rb_ BK1208.out) hb);have n3_ := Aside0.mk (below_step (bw1_ HB.out GE1208.out) hb);clear HO1214;clear BK1208;clear HB;have HO1214 := n0_;have HO1218 := n1_;have BK1208 := n2_;have HB := n3_;clear n0_ n1_ n2_ n3_;(try clear hb);(try clear hb2);(try clear hk);(try clear hi);(try clear ho0);obtain ⟨Ao18, co18, eo18⟩ := Kd.S_slice HO1218.out;subst eo18;have hcz19_0 : w17.cell? ⟨gb1208, 0, none⟩ = some (.int .i64 0) := (blk_cell BK1208.out 0).trans rfl;have hcz19_1 : w17.cell? ⟨gb1208, 1, none⟩ = some (.slice none 0 0) := (blk_cell BK1208.out 1).trans rfl;have hfz19_0 := blk_frozen BK1208.out 0;have hfz19_1 := blk_frozen BK1208.out 1));refine bodyPost_ret (results_cell_row rfl _ _ gb1208 71 #[.int .i64 0, .slice Ao18 t1216.length co18] (0, 0) _ rfl (by (with_reducible repeat (first | refine blk_drewN ?_ _ | refine blk_drew ?_ | refine blk_alloc ?_ _));refine blk_put (cs := #[.int .i64 0, .slice none 0 0]) ?_ 1 _ rfl;(with_reducible repeat (first | refine blk_drewN ?_ _ | refine blk_drew ?_ | refine blk_alloc ?_ _));refine blk_put (cs := #[.int .i64 0, .slice none 0 0]) ?_ 0 _ rfl;(with_reducible repeat (first | refine blk_drewN ?_ _ | refine blk_drew ?_ | refine blk_alloc ?_ _));exact BK1208.out) Try.underlying71 rfl (by kernel_rfl)) rfl ?_;exact ⟨_, by first | rfl | (simp [errW_none, errW_some] <;> rfl) | (simp [*, errW_none, errW_some] <;> rfl), by (with_reducible repeat (first | apply Kd.S_alloc | apply Kd.S_drewN | apply Kd.S_drew));exact Kd.S_mono (Kd.S_far (p := ⟨gb1208, 1, none⟩) (Kd.S_far (p := ⟨gb1208, 0, none⟩) (Kd.S_types HO1218.out BK1208.out (by decide)) (fun _ hk => hk.2) (.int .i64 0)) (fun _ hk => hk.2) (.slice Ao18 t1216.length co18)) (fun _ hk => trivial), bw1_ HB.out GE1208.out⟩);·rw [if_neg c8] at H;have c8b0 : (t1215 == 0) = false := beq_eq_false_iff_ne.mpr c8;have c8b1 : (t1215 != 0) = true := bne_iff_ne.mpr c8;simp only [Option.some.injEq, Prod.mk.injEq] at H;obtain ⟨rfl, rfl⟩ := H;go_enter Try.func55, Try.ntmps55;go_wp2_with (first | ((with_reducible refine gate_dst (N := 6) rfl ?_);refine box_event ?hg (N := 6) ?hd (cs := #[.int .i64 0, .slice none 0 0]) (t := 71) ?hr ?_;(case hd => rfl);(case hg => rfl);(case hr => first | (go_simp;done) | (go_simp;rfl));intro gb1208 hg w20 hbox hb;have n0_ := Aside0.mk (below_step (bw_ HB.out) hb);have n1_ := Aside0.mk (hbox);have n2_ := Aside0.mk ((by rw [hg];exact (below_size (bw_ HB.out)) : w.heap.size ≤ gb1208));have n3_ := Aside0.mk ((by rw [hg];exact (below_size (bw_ HB.out)) : w.heap.size ≤ gb1208));clear HB;have HB := n0_;have BK1208 := n1_;have GW1208 := n2_;have GE1208 := n3_;clear n0_ n1_ n2_ n3_;clear hb hbox hg) | ((with_reducible refine gate_callee (f := 45) rfl ?_);refine goesL_ (some 9) rfl rfl Try.func45 (by kernel_rfl) rfl #[.slice A0 l0.length c0] rfl lf_ ?_;(with_reducible refine (impl_LinesFault.calls k _ _ l0 t1209 _ ?side1 ?side2 A4.out).mono ?_);(case side1 => exact rc_ (Kd.C_below HR0.out HB.out));(case side2 => exact HC0.out);rintro e w21 ⟨rfl, hb⟩;refine ⟨_, rfl, ?_⟩;have n0_ := Aside0.mk (blk_below (g := gb1208) (o := .cells #[.int .i64 0, .slice none 0 0] 71 (0, 0)) (rb_ BK1208.out) hb);have n1_ := Aside0.mk (below_step (bw1_ HB.out GE1208.out) hb);clear BK1208;clear HB;have BK1208 := n0_;have HB := n1_;clear n0_ n1_;(try clear hb);(try clear hb2);(try clear hk);(try clear hi)) | ((with_reducible refine gate_callee (f := 45) rfl ?_);refine goesL_ (some 11) rfl rfl Try.func45 (by kernel_rfl) rfl #[.slice A1 l1.length c1] rfl lf_ ?_;(with_reducible refine (impl_LinesFault.calls k _ _ l1 t1210 _ ?side1 ?side2 A5.out).mono ?_);(case side1 => exact rc_ (Kd.C_below HR1.out HB.out));(case side2 => exact HC1.out);rintro e w22 ⟨rfl, hb⟩;refine ⟨_, rfl, ?_⟩;have n0_ := Aside0.mk (blk_below (g := gb1208) (o := .cells #[.int .i64 0, .slice none 0 0] 71 (0, 0)) (rb_ BK1208.out) hb);have n1_ := Aside0.mk (below_step (bw1_ HB.out GE1208.out) hb);clear BK1208;clear HB;have BK1208 := n0_;have HB := n1_;clear n0_ n1_;(try clear hb);(try clear hb2);(try clear hk);(try clear hi)) | ((with_reducible refine gate_callee (f := 45) rfl ?_);refine goesL_ (some 13) rfl rfl Try.func45 (by kernel_rfl) rfl #[.slice A2 l2.length c2] rfl lf_ ?_;(with_reducible refine (impl_LinesFault.calls k _ _ l2 t1211 _ ?side1 ?side2 A6.out).mono ?_);(case side1 => exact rc_ (Kd.C_below HR2.out HB.out));(case side2 => exact HC2.out);rintro e w23 ⟨rfl, hb⟩;refine ⟨_, rfl, ?_⟩;have n0_ := Aside0.mk (blk_below (g := gb1208) (o := .cells #[.int .i64 0, .slice none 0 0] 71 (0, 0)) (rb_ BK1208.out) hb);have n1_ := Aside0.mk (below_step (bw1_ HB.out GE1208.out) hb);clear BK1208;clear HB;have BK1208 := n0_;have HB := n1_;clear n0_ n1_;(try clear hb);(try clear hb2);(try clear hk);(try clear hi)) | ((with_reducible refine gate_dst (N := 14) rfl ?_);refine Kd.R_lit (Kd.int .i64) _ 2 ?hg (N := 14) ?hd (xs := ([t1209, t1210, t1211] : List Int)) (inner := [.int .i64 t1209, .int .i64 t1210, .int .i64 t1211]) (ok := fun _ => True) (okp := fun _ => True) ?hr ?hp (fun _ hk => hk) trivial (Below.refl _ _) (Nat.le_refl _) (by simp) ?_;(case hd => rfl);(case hg => rfl);(case hr => first | (go_simp;done) | (go_simp;rfl));(case hp => exact (Reps.one (show Kd.M (Kd.int .i64) _ _ _ t1209 [.int .i64 t1209] from rfl) (Reps.one (show Kd.M (Kd.int .i64) _ _ _ t1210 [.int .i64 t1210] from rfl) (Reps.one (show Kd.M (Kd.int .i64) _ _ _ t1211 [.int .i64 t1211] from rfl) (Reps.none _ _)))));intro v1213 w24 ho25 hb hg_ hnew_;clear hg_ hnew_;(first | rw [← Ny1212.out] at ho25 | (simp only [Int.reduceToNat] at ho25;rw [← Ny1212.out] at ho25));have n0_ := Aside0.mk (Kd.R_lower ho25 (below_size (bw1_ HB.out GE1208.out)));have n1_ := Aside0.mk (blk_below (g := gb1208) (o := .cells #[.int .i64 0, .slice none 0 0] 71 (0, 0)) (rb_ BK1208.out) hb);have n2_ := Aside0.mk (below_step (bw1_ HB.out GE1208.out) hb);clear BK1208;clear HB;have HO1214 := n0_;have BK1208 := n1_;have HB := n2_;clear n0_ n1_ n2_;clear hb ho25;obtain ⟨Ao26, co26, eo26⟩ := Kd.R_slice HO1214.out;subst eo26) | ((with_reducible refine gate_callee (f := 67) rfl ?_);refine goesL_ (some 15) rfl rfl Try.func67 (by kernel_rfl) rfl #[.slice Ao26 y1212.length co26] rfl lf_ ?_;(with_reducible refine (impl_firstCode.calls k _ _ y1212 t1215 _ ?side1 ?side2 A7.out).mono ?_);(case side1 => repeat (first | exact (Kd.R_reads' HO1214.out).2.2 | (with_reducible refine Kd.C_alloc ?_ _) | (with_reducible refine Kd.C_drewN ?_ _) | (with_reducible refine Kd.C_drew ?_)));(case side2 => exact (Kd.R_reads' HO1214.out).2.1);rintro e w' ⟨rfl, ⟨nd, rfl⟩⟩;refine ⟨_, rfl, ?_⟩;(try (rw [drewN_self w24];generalize hq_ : World.drewN w24 _ = w24;have n0_ : Aside0 (Kd.R (Kd.int .i64) 2 w24 w.heap.size (fun _ => True) (.slice Ao26 y1212.length co26) y1212) := ⟨by rw [← hq_];exact (rr_ HO1214.out)⟩;have n1_ : Aside0 (w24.heap[gb1208]? = some (.cells #[.int .i64 0, .slice none 0 0] 71 (0, 0))) := ⟨by rw [← hq_];exact (rb_ BK1208.out)⟩;have n2_ : Aside0 (Below w.heap.size w w24) := ⟨by rw [← hq_];exact (bw1_ HB.out GE1208.out)⟩;clear HO1214 BK1208 HB hq_;have HO1214 := n0_;have BK1208 := n1_;have HB := n2_;clear n0_ n1_ n2_));have hcz27_0 : w24.cell? ⟨gb1208, 0, none⟩ = some (.int .i64 0) := (blk_cell BK1208.out 0).trans rfl;have hcz27_1 : w24.cell? ⟨gb1208, 1, none⟩ = some (.slice none 0 0) := (blk_cell BK1208.out 1).trans rfl;have hfz27_0 := blk_frozen BK1208.out 0;have hfz27_1 := blk_frozen BK1208.out 1));refine bodyPost_ret (results_cell_row rfl _ _ gb1208 71 #[.int .i64 t1215, .slice none 0 0] (0, 0) _ rfl (by (with_reducible repeat (first | refine blk_drewN ?_ _ | refine blk_drew ?_ | refine blk_alloc ?_ _));refine blk_put (cs := #[.int .i64 t1215, .slice none 0 0]) ?_ 1 _ rfl;(with_reducible repeat (first | refine blk_drewN ?_ _ | refine blk_drew ?_ | refine blk_alloc ?_ _));refine blk_put (cs := #[.int .i64 0, .slice none 0 0]) ?_ 0 _ rfl;(with_reducible repeat (first | refine blk_drewN ?_ _ | refine blk_drew ?_ | refine blk_alloc ?_ _));exact BK1208.out) Try.underlying71 rfl (by kernel_rfl)) rfl ?_;exact ⟨_, by first | rfl | (simp [errW_none, errW_some] <;> rfl) | (simp [*, errW_none, errW_some] <;> rfl), by first | exact Kd.S_nil _ _ _ _ _ | exact Kd.N_nil _ _ _ _ _ | exact Kd.V_nil _ _ _ _ _ | exact Kd.Q_nil _ _ _ _ _ | exact Kd.R_nil _ _ _ _ _, bw1_ HB.out GE1208.out⟩
end Go.Proofs.Ytjngmhngedecdaa.P
end
section
namespace Go.Proofs.Ytjngmhngedecdaa.P
open Go.RowKit Go.Proofs.YtjngmhngedecdaaW.PrintWords Go.Proofs.YtjngmhngedecdaaW.PrintLast Go.Proofs.YtjngmhngedecdaaW.PrintMore
attribute [local go_sem] max2_int min2_int max_two min_two max_three min_three max_four min_four
set_option linter.unusedVariables false
set_option linter.unusedSimpArgs false
theorem mark_inner1 (k : Nat) (i : Int) (xs : List S58) (ok : Nat → Prop) (g n cap : Nat) (A : Option Addr) (c : Nat) (a1 r1 : Int) (r2 : List ByteArray) (w0 w : World) (hS : Kd.S k58 58 w w0.heap.size ok (.slice (some ⟨g, 0, none⟩) n cap) xs) (h0 : 0 ≤ i) (h1 : i < (n : Int))
    (hc : w.cell? ⟨g, i.toNat * 4 + 1, none⟩ = some (.slice A ((rd_T58 xs i).f1).length c)) (hB : Below w0.heap.size w0 w) (h : laws_markStringS.f k ((rd_T58 xs i).f1) a1 = some (r1, r2)) :
    Calls Try.prog 28 #[.slice A ((rd_T58 xs i).f1).length c, .int .i64 a1] w fun e w' => e = .returned (.int .i64 r1) ∧ Kd.S k58 58 w' w0.heap.size ok (.slice (some ⟨g, 0, none⟩) n cap) (xs.set i.toNat (⟨(rd_T58 xs i).f0, r2, (rd_T58 xs i).f2, (rd_T58 xs i).f3⟩ : S58)) ∧ Below w0.heap.size w0 w' ∧ Kept w w' ok := by
 obtain ⟨oki, cs, hcl, hM, hcc, hoki, hH⟩ := Kd.S_lend hS z58 i h0 h1;have hD := k58_openD hM;obtain ⟨ve1, ve2, ve3, rfl, ge1, ge2, ge3⟩ := k58_openM hM;replace hD := hD _ _ _ _ rfl;have hv := hcc 1 _ rfl;have he : ve1 = .slice A ((rd_T58 xs i).f1).length c := Option.some.inj (hv.symm.trans hc);subst he;refine (laws_markStringS.calls k (fun k_ => some k_ = (Value.slice A ((rd_T58 xs i).f1).length c).ownBlock) _ ((rd_T58 xs i).f1) a1 r1 r2 w0 w hB (Kd.R_tight rfl ge1) h).mono (fun e w' hend => ?_);obtain ⟨rfl, hy, hb, hkp⟩ := hend;refine ⟨rfl, ?_, hb, hkp.mono (fun k_ e_ => (hoki k_ (ge1.1 k_ e_.symm)).1)⟩;have hH2 := Kd.H_step (w1 := w') hH (fun k_ _ hn hlt => hkp.2 k_ hlt (fun e_ => hn (ge1.1 k_ e_.symm)));exact Kd.H_back hH2 (okp := oki) (x' := (⟨(rd_T58 xs i).f0, r2, (rd_T58 xs i).f2, (rd_T58 xs i).f3⟩ : S58)) (k58_mkM _ _ _ (⟨(rd_T58 xs i).f0, r2, (rd_T58 xs i).f2, (rd_T58 xs i).f3⟩ : S58) (Kd.R_reok rfl hy (fun k_ e_ => ge1.1 k_ e_)) (Kd.R_reok rfl (Kd.R_kept (Kd.R_tight rfl ge2) hkp (fun k_ e1_ e2_ => (hD.1 k_ e2_.symm).1 e1_.symm)) (fun k_ e_ => ge2.1 k_ e_)) (Kd.R_reok rfl (Kd.R_kept (Kd.R_tight rfl ge3) hkp (fun k_ e1_ e2_ => (hD.1 k_ e2_.symm).2 e1_.symm)) (fun k_ e_ => ge3.1 k_ e_)) (hD := hD)) (fun _ hk => hk)
theorem mark_inner2 (k : Nat) (i : Int) (xs : List S58) (ok : Nat → Prop) (g n cap : Nat) (A : Option Addr) (c : Nat) (a1 r1 : Int) (r2 : List ByteArray) (w0 w : World) (hS : Kd.S k58 58 w w0.heap.size ok (.slice (some ⟨g, 0, none⟩) n cap) xs) (h0 : 0 ≤ i) (h1 : i < (n : Int))
    (hc : w.cell? ⟨g, i.toNat * 4 + 2, none⟩ = some (.slice A ((rd_T58 xs i).f2).length c)) (hB : Below w0.heap.size w0 w) (h : laws_markStringS.f k ((rd_T58 xs i).f2) a1 = some (r1, r2)) :
    Calls Try.prog 28 #[.slice A ((rd_T58 xs i).f2).length c, .int .i64 a1] w fun e w' => e = .returned (.int .i64 r1) ∧ Kd.S k58 58 w' w0.heap.size ok (.slice (some ⟨g, 0, none⟩) n cap) (xs.set i.toNat (⟨(rd_T58 xs i).f0, (rd_T58 xs i).f1, r2, (rd_T58 xs i).f3⟩ : S58)) ∧ Below w0.heap.size w0 w' ∧ Kept w w' ok := by
 obtain ⟨oki, cs, hcl, hM, hcc, hoki, hH⟩ := Kd.S_lend hS z58 i h0 h1;have hD := k58_openD hM;obtain ⟨ve1, ve2, ve3, rfl, ge1, ge2, ge3⟩ := k58_openM hM;replace hD := hD _ _ _ _ rfl;have hv := hcc 2 _ rfl;have he : ve2 = .slice A ((rd_T58 xs i).f2).length c := Option.some.inj (hv.symm.trans hc);subst he;refine (laws_markStringS.calls k (fun k_ => some k_ = (Value.slice A ((rd_T58 xs i).f2).length c).ownBlock) _ ((rd_T58 xs i).f2) a1 r1 r2 w0 w hB (Kd.R_tight rfl ge2) h).mono (fun e w' hend => ?_);obtain ⟨rfl, hy, hb, hkp⟩ := hend;refine ⟨rfl, ?_, hb, hkp.mono (fun k_ e_ => (hoki k_ (ge2.1 k_ e_.symm)).1)⟩;have hH2 := Kd.H_step (w1 := w') hH (fun k_ _ hn hlt => hkp.2 k_ hlt (fun e_ => hn (ge2.1 k_ e_.symm)));exact Kd.H_back hH2 (okp := oki) (x' := (⟨(rd_T58 xs i).f0, (rd_T58 xs i).f1, r2, (rd_T58 xs i).f3⟩ : S58)) (k58_mkM _ _ _ (⟨(rd_T58 xs i).f0, (rd_T58 xs i).f1, r2, (rd_T58 xs i).f3⟩ : S58) (Kd.R_reok rfl (Kd.R_kept (Kd.R_tight rfl ge1) hkp (fun k_ e1_ e2_ => (hD.1 k_ e1_.symm).1 e2_.symm)) (fun k_ e_ => ge1.1 k_ e_)) (Kd.R_reok rfl hy (fun k_ e_ => ge2.1 k_ e_)) (Kd.R_reok rfl (Kd.R_kept (Kd.R_tight rfl ge3) hkp (fun k_ e1_ e2_ => hD.2 k_ e2_.symm e1_.symm)) (fun k_ e_ => ge3.1 k_ e_)) (hD := hD)) (fun _ hk => hk)
theorem mark_inner3 (k : Nat) (i : Int) (xs : List S58) (ok : Nat → Prop) (g n cap : Nat) (A : Option Addr) (c : Nat) (a1 r1 : Int) (r2 : List ByteArray) (w0 w : World) (hS : Kd.S k58 58 w w0.heap.size ok (.slice (some ⟨g, 0, none⟩) n cap) xs) (h0 : 0 ≤ i) (h1 : i < (n : Int))
    (hc : w.cell? ⟨g, i.toNat * 4 + 3, none⟩ = some (.slice A ((rd_T58 xs i).f3).length c)) (hB : Below w0.heap.size w0 w) (h : laws_markStringS.f k ((rd_T58 xs i).f3) a1 = some (r1, r2)) :
    Calls Try.prog 28 #[.slice A ((rd_T58 xs i).f3).length c, .int .i64 a1] w fun e w' => e = .returned (.int .i64 r1) ∧ Kd.S k58 58 w' w0.heap.size ok (.slice (some ⟨g, 0, none⟩) n cap) (xs.set i.toNat (⟨(rd_T58 xs i).f0, (rd_T58 xs i).f1, (rd_T58 xs i).f2, r2⟩ : S58)) ∧ Below w0.heap.size w0 w' ∧ Kept w w' ok := by
 obtain ⟨oki, cs, hcl, hM, hcc, hoki, hH⟩ := Kd.S_lend hS z58 i h0 h1;have hD := k58_openD hM;obtain ⟨ve1, ve2, ve3, rfl, ge1, ge2, ge3⟩ := k58_openM hM;replace hD := hD _ _ _ _ rfl;have hv := hcc 3 _ rfl;have he : ve3 = .slice A ((rd_T58 xs i).f3).length c := Option.some.inj (hv.symm.trans hc);subst he;refine (laws_markStringS.calls k (fun k_ => some k_ = (Value.slice A ((rd_T58 xs i).f3).length c).ownBlock) _ ((rd_T58 xs i).f3) a1 r1 r2 w0 w hB (Kd.R_tight rfl ge3) h).mono (fun e w' hend => ?_);obtain ⟨rfl, hy, hb, hkp⟩ := hend;refine ⟨rfl, ?_, hb, hkp.mono (fun k_ e_ => (hoki k_ (ge3.1 k_ e_.symm)).1)⟩;have hH2 := Kd.H_step (w1 := w') hH (fun k_ _ hn hlt => hkp.2 k_ hlt (fun e_ => hn (ge3.1 k_ e_.symm)));exact Kd.H_back hH2 (okp := oki) (x' := (⟨(rd_T58 xs i).f0, (rd_T58 xs i).f1, (rd_T58 xs i).f2, r2⟩ : S58)) (k58_mkM _ _ _ (⟨(rd_T58 xs i).f0, (rd_T58 xs i).f1, (rd_T58 xs i).f2, r2⟩ : S58) (Kd.R_reok rfl (Kd.R_kept (Kd.R_tight rfl ge1) hkp (fun k_ e1_ e2_ => (hD.1 k_ e1_.symm).2 e2_.symm)) (fun k_ e_ => ge1.1 k_ e_)) (Kd.R_reok rfl (Kd.R_kept (Kd.R_tight rfl ge2) hkp (fun k_ e1_ e2_ => hD.2 k_ e1_.symm e2_.symm)) (fun k_ e_ => ge2.1 k_ e_)) (Kd.R_reok rfl hy (fun k_ e_ => ge3.1 k_ e_)) (hD := hD)) (fun _ hk => hk)
def laws_markChunkS.l0 : Nat → List (S58) → Int → Int → Option (Int × (List (S58)))
  | 0, _, _, _ => none
  | k + 1, x0, x1, x5 => if x5 < (x0.length : Int) then (if 0 ≤ x5 then ((some (x0.set (x5 : Int).toNat (⟨x1, (rd_T58 x0 x5).f1, (rd_T58 x0 x5).f2, (rd_T58 x0 x5).f3⟩ : S58) : List (S58))).bind fun y520 => ((laws_markStringS.f k ((rd_T58 y520 x5).f1) (wrap64 (x1 + 1))).bind fun bt522 => ((some (y520.set (x5 : Int).toNat (⟨(rd_T58 y520 x5).f0, bt522.2, (rd_T58 y520 x5).f2, (rd_T58 y520 x5).f3⟩ : S58)) : Option (List (S58))).bind fun yy1 => ((laws_markStringS.f k ((rd_T58 yy1 x5).f2) bt522.1).bind fun bt524 => ((some (yy1.set (x5 : Int).toNat (⟨(rd_T58 yy1 x5).f0, (rd_T58 yy1 x5).f1, bt524.2, (rd_T58 yy1 x5).f3⟩ : S58)) : Option (List (S58))).bind fun yy2 => ((laws_markStringS.f k ((rd_T58 yy2 x5).f3) bt524.1).bind fun bt526 => ((some (yy2.set (x5 : Int).toNat (⟨(rd_T58 yy2 x5).f0, (rd_T58 yy2 x5).f1, (rd_T58 yy2 x5).f2, bt526.2⟩ : S58)) : Option (List (S58))).bind fun yy3 => (laws_markChunkS.l0 k yy3 bt526.1 (wrap64 (x5 + 1)))))))))) else (none)) else (some (x1, x0))
def laws_markChunkS.f (k : Nat) (l0 : List (S58)) (a1 : Int) : Option (Int × (List (S58))) := laws_markChunkS.l0 k l0 a1 0
theorem laws_markChunkS.mono_l : ∀ k, (∀ y0 y1 y2, LeO (laws_markChunkS.l0 k y0 y1 y2) (laws_markChunkS.l0 (k + 1) y0 y1 y2))
  | 0 => fun _ _ _ r h => by simp [laws_markChunkS.l0] at h
  | k + 1 => by
    have ih0 := laws_markChunkS.mono_l k
    · intro y0 y1 y2
      unfold laws_markChunkS.l0
      repeat' first
      | (with_reducible exact ih0 _ _ _)
      | (with_reducible exact laws_markStringS.mono _ _ _)
      | (with_reducible exact LeO.refl _)
      | (with_reducible exact LeO.none _)
      | (with_reducible refine LeO.ite ?_ ?_)
      | (with_reducible refine LeO.bind ?_ (fun _ => ?_))
      | exact ih0 _ _ _
      | exact laws_markStringS.mono _ _ _
      | exact LeO.none _
      | refine LeO.ite ?_ ?_
      | refine LeO.bind ?_ (fun _ => ?_)
theorem laws_markChunkS.mono : ∀ a0 a1 k, LeO (laws_markChunkS.f k a0 a1) (laws_markChunkS.f (k + 1) a0 a1) := by
 intro a0 a1 k;have ih0 := laws_markChunkS.mono_l k;unfold laws_markChunkS.f
 repeat' first
     | (with_reducible exact ih0 _ _ _)
     | (with_reducible exact laws_markStringS.mono _ _ _)
     | (with_reducible exact LeO.refl _)
     | (with_reducible exact LeO.none _)
     | (with_reducible refine LeO.ite ?_ ?_)
     | (with_reducible refine LeO.bind ?_ (fun _ => ?_))
     | exact ih0 _ _ _
     | exact laws_markStringS.mono _ _ _
     | exact LeO.none _
     | refine LeO.ite ?_ ?_
     | refine LeO.bind ?_ (fun _ => ?_)
set_option maxHeartbeats 8000000 in
set_option maxRecDepth 100000 in
theorem laws_markChunkS.calls (k : Nat) (P0_ : Nat → Prop) (u9000_ : Value) (l0 : List (S58)) (a1 : Int) (r1 : Int) (r2 : List (S58)) (w0 w : World) (hB : Below w0.heap.size w0 w) (ho0 : Kd.S k58 58 w w0.heap.size P0_ u9000_ l0) (h : laws_markChunkS.f k l0 a1 = some (r1, r2)) :
    Calls Try.prog 36 #[u9000_, .int .i64 a1] w fun e w' => e = .returned (.int .i64 r1) ∧ Kd.S k58 58 w' w0.heap.size (fun k_ => P0_ k_) u9000_ r2 ∧ Below w0.heap.size w0 w' ∧ Kept w w' (fun k_ => P0_ k_) := by
 have HO0 := Aside0.mk (show Kd.S k58 58 w w0.heap.size (fun k_ => P0_ k_) u9000_ l0 from Kd.S_mono ho0 (fun k_ hk => hk));have HK := Aside0.mk (Kept.refl w (fun k_ => P0_ k_));have HW0 := Aside0.mk hB.size;have HB := Aside0.mk hB;clear hB;have H : (laws_markChunkS.l0 k l0 a1 0) = some (r1, r2) := h;clear h;have H' := Aside0.mk H;clear H;go_enter Try.func36, Try.ntmps36;go_wp2;go_loopg [1, 5] k (fun kq v1 v5 w' => ∃ (x0_1 : List (S58)) (x1_1 : Int) (x5_1 : Int), v1 = .int .i64 x1_1 ∧ v5 = .int .i64 x5_1 ∧ Aside0 (laws_markChunkS.l0 kq x0_1 x1_1 x5_1 = some (r1, r2)) ∧ Aside0 (kq ≤ k) ∧ Aside0 (Kd.S k58 58 w' w0.heap.size (fun k_ => P0_ k_) u9000_ x0_1) ∧ Aside0 (Kept w w' (fun k_ => P0_ k_)) ∧ Aside0 (Below w0.heap.size w0 w'));(case atStart => exact ⟨(l0), (a1), (0), ls_, ls_, H', ⟨Nat.le_refl _⟩, ⟨rs_ HO0.out⟩, ⟨by repeat (first | (with_reducible first | exact HK.out | apply Kept.alloc | apply Kept.drewN | apply Kept.drew) | exact HK.out)⟩, ⟨bw_ HB.out⟩⟩)
 case round =>
   clear H'
   try clear p2
   obtain ⟨x0_1, x1_1, x5_1, rfl, rfl, HA, HK1, HO_0, HK, HB⟩ := hrel
   cases gk with
   | zero => exact absurd HA.out (by simp [laws_markChunkS.l0])
   | succ k1 =>
     have H := HA.out
     clear HA
     simp only [laws_markChunkS.l0] at H
     by_cases c3 : x5_1 < (x0_1.length : Int)
     · rw [if_pos c3] at H
       have c3b0 : decide (x5_1 < (x0_1.length : Int)) = true := decide_eq_true c3
       clear c3
       by_cases c4 : 0 ≤ x5_1
       · rw [if_pos c4] at H
         have c4b0 : decide (0 ≤ x5_1) = true := decide_eq_true c4
         clear c4
         obtain ⟨y520, hy520⟩ : ∃ y_ : List (S58), y_ = (x0_1.set (x5_1 : Int).toNat (⟨x1_1, (rd_T58 x0_1 x5_1).f1, (rd_T58 x0_1 x5_1).f2, (rd_T58 x0_1 x5_1).f3⟩ : S58)) := ⟨_, rfl⟩
         replace H : ((laws_markStringS.f k1 ((rd_T58 y520 x5_1).f1) (wrap64 (x1_1 + 1))).bind fun bt522 => ((some (y520.set (x5_1 : Int).toNat (⟨(rd_T58 y520 x5_1).f0, bt522.2, (rd_T58 y520 x5_1).f2, (rd_T58 y520 x5_1).f3⟩ : S58)) : Option (List (S58))).bind fun yy1 => ((laws_markStringS.f k1 ((rd_T58 yy1 x5_1).f2) bt522.1).bind fun bt524 => ((some (yy1.set (x5_1 : Int).toNat (⟨(rd_T58 yy1 x5_1).f0, (rd_T58 yy1 x5_1).f1, bt524.2, (rd_T58 yy1 x5_1).f3⟩ : S58)) : Option (List (S58))).bind fun yy2 => ((laws_markStringS.f k1 ((rd_T58 yy2 x5_1).f3) bt524.1).bind fun bt526 => ((some (yy2.set (x5_1 : Int).toNat (⟨(rd_T58 yy2 x5_1).f0, (rd_T58 yy2 x5_1).f1, (rd_T58 yy2 x5_1).f2, bt526.2⟩ : S58)) : Option (List (S58))).bind fun yy3 => (laws_markChunkS.l0 k1 yy3 bt526.1 (wrap64 (x5_1 + 1))))))))) = some (r1, r2) := by first | (rw [hy520];with_reducible exact H) | (have H2_ := (Option.bind_some _ _).symm.trans H;rw [hy520];with_reducible exact H2_) | (rw [hy520];exact H) | exact H
         have Ny520 := Aside0.mk hy520
         clear hy520
         replace H := Option.bind_eq_some_iff.mp H
         obtain ⟨⟨t522, lt522⟩, Az, H⟩ := H
         have A6 := Aside0.mk Az
         clear Az
         obtain ⟨yy1, hyy1⟩ : ∃ y_ : List (S58), y_ = (y520.set (x5_1 : Int).toNat (⟨(rd_T58 y520 x5_1).f0, lt522, (rd_T58 y520 x5_1).f2, (rd_T58 y520 x5_1).f3⟩ : S58)) := ⟨_, rfl⟩
         replace H := (Option.bind_some _ _).symm.trans H
         replace H : ((laws_markStringS.f k1 ((rd_T58 yy1 x5_1).f2) t522).bind fun bt524 => ((some (yy1.set (x5_1 : Int).toNat (⟨(rd_T58 yy1 x5_1).f0, (rd_T58 yy1 x5_1).f1, bt524.2, (rd_T58 yy1 x5_1).f3⟩ : S58)) : Option (List (S58))).bind fun yy2 => ((laws_markStringS.f k1 ((rd_T58 yy2 x5_1).f3) bt524.1).bind fun bt526 => ((some (yy2.set (x5_1 : Int).toNat (⟨(rd_T58 yy2 x5_1).f0, (rd_T58 yy2 x5_1).f1, (rd_T58 yy2 x5_1).f2, bt526.2⟩ : S58)) : Option (List (S58))).bind fun yy3 => (laws_markChunkS.l0 k1 yy3 bt526.1 (wrap64 (x5_1 + 1))))))) = some (r1, r2) := by rw [hyy1];first | with_reducible exact H | exact H
         have Nyy1 := Aside0.mk hyy1
         clear hyy1
         replace H := Option.bind_eq_some_iff.mp H
         obtain ⟨⟨t524, lt524⟩, Az, H⟩ := H
         have A7 := Aside0.mk Az
         clear Az
         obtain ⟨yy2, hyy2⟩ : ∃ y_ : List (S58), y_ = (yy1.set (x5_1 : Int).toNat (⟨(rd_T58 yy1 x5_1).f0, (rd_T58 yy1 x5_1).f1, lt524, (rd_T58 yy1 x5_1).f3⟩ : S58)) := ⟨_, rfl⟩
         replace H := (Option.bind_some _ _).symm.trans H
         replace H : ((laws_markStringS.f k1 ((rd_T58 yy2 x5_1).f3) t524).bind fun bt526 => ((some (yy2.set (x5_1 : Int).toNat (⟨(rd_T58 yy2 x5_1).f0, (rd_T58 yy2 x5_1).f1, (rd_T58 yy2 x5_1).f2, bt526.2⟩ : S58)) : Option (List (S58))).bind fun yy3 => (laws_markChunkS.l0 k1 yy3 bt526.1 (wrap64 (x5_1 + 1))))) = some (r1, r2) := by rw [hyy2];first | with_reducible exact H | exact H
         have Nyy2 := Aside0.mk hyy2
         clear hyy2
         replace H := Option.bind_eq_some_iff.mp H
         obtain ⟨⟨t526, lt526⟩, Az, H⟩ := H
         have A8 := Aside0.mk Az
         clear Az
         obtain ⟨yy3, hyy3⟩ : ∃ y_ : List (S58), y_ = (yy2.set (x5_1 : Int).toNat (⟨(rd_T58 yy2 x5_1).f0, (rd_T58 yy2 x5_1).f1, (rd_T58 yy2 x5_1).f2, lt526⟩ : S58)) := ⟨_, rfl⟩
         replace H := (Option.bind_some _ _).symm.trans H
         replace H : (laws_markChunkS.l0 k1 yy3 t526 (wrap64 (x5_1 + 1))) = some (r1, r2) := by rw [hyy3];first | with_reducible exact H | exact H
         have Nyy3 := Aside0.mk hyy3
         clear hyy3
         have H' := Aside0.mk H
         clear H
         obtain ⟨Ao9, co9, eo9⟩ := Kd.S_slice HO_0.out
         subst eo9
         have p5 : 0 ≤ (x5_1 : Int) := od_
         have q5 : (x5_1 : Int) < ((x0_1.length : Int) : Int) := od_
         obtain ⟨go5, co5, eo5, gb5, gl5, cl5, HG5⟩ := Kd.S_form HO_0.out (by omega)
         (first | cases eo5 | (injection eo5 with ea_ en_ ec_;(first | subst ea_ | (injection ea_ with ea_;subst ea_));subst ec_;clear en_))
         have GB5 := Aside0.mk gb5
         have GG5 := Aside0.mk HG5
         clear gb5 gl5 HG5
         have HMgo5 := Aside0.mk (show P0_ go5 from ((Kd.S_R HO_0.out).1 _ rfl))
         obtain ⟨_, ce5, hcl5, hM5, hcc5, hfr5, _, _⟩ := Kd.S_elem HO_0.out z58 (x5_1 : Int) p5 q5
         obtain ⟨ve5_1, ve5_2, ve5_3, rfl, ge5_1, ge5_2, ge5_3⟩ := k58_openM hM5
         have hx5_0 : wr.cell? ⟨go5, (x5_1 : Int).toNat * 4, none⟩ = some (.int .i64 ((rd_T58 x0_1 x5_1).f0)) := hcc5 0 _ rfl
         have hx5_1 : wr.cell? ⟨go5, (x5_1 : Int).toNat * 4 + 1, none⟩ = some (ve5_1) := hcc5 1 _ rfl
         have hx5_2 : wr.cell? ⟨go5, (x5_1 : Int).toNat * 4 + 2, none⟩ = some (ve5_2) := hcc5 2 _ rfl
         have hx5_3 : wr.cell? ⟨go5, (x5_1 : Int).toNat * 4 + 3, none⟩ = some (ve5_3) := hcc5 3 _ rfl
         have hf5_0 : wr.frozen? ⟨go5, (x5_1 : Int).toNat * 4, none⟩ = false := hfr5 0
         have hf5_1 : wr.frozen? ⟨go5, (x5_1 : Int).toNat * 4 + 1, none⟩ = false := hfr5 1
         have hf5_2 : wr.frozen? ⟨go5, (x5_1 : Int).toNat * 4 + 2, none⟩ = false := hfr5 2
         have hf5_3 : wr.frozen? ⟨go5, (x5_1 : Int).toNat * 4 + 3, none⟩ = false := hfr5 3
         ((try clear hM5);clear hcl5 hcc5 hfr5)
         replace p5 := eq_true p5
         replace q5 := eq_true q5
         have HX10 := Aside0.mk (show Kd.S k58 58 wr w0.heap.size (fun k_ => ((fun k_ => P0_ k_)) k_ ∧ ¬ ((fun _ => False)) k_) (.slice (some ⟨go5, 0, none⟩) x0_1.length co9) x0_1 from (by (with_reducible repeat (first | apply Kd.S_alloc | apply Kd.S_drewN | apply Kd.S_drew));exact Kd.S_mono HO_0.out (fun k_ hk => ⟨hk, fun e_ => e_⟩)))
         obtain ⟨oki10, ce10, hcl10, hM10, hcc10, hfr10, hoki10, hH10⟩ := Kd.S_elem HX10.out z58 (x5_1 : Int) od_ (by have h_ : (x5_1 : Int) < ((x0_1.length : Int) : Int) := od_;first | exact h_ | (have e_ := (Kd.S_reads' HO_0.out).1;omega) | simpa using h_)
         have hD_hM10 := k58_openD hM10
         obtain ⟨ve10_1, ve10_2, ve10_3, rfl, ge10_1, ge10_2, ge10_3⟩ := k58_openM hM10
         replace hD_hM10 := hD_hM10 _ _ _ _ rfl
         have HP10 := Kd.S_seg hH10 od_ (by have h_ : (x5_1 : Int) < ((x0_1.length : Int) : Int) := od_;first | exact h_ | (have e_ := (Kd.S_reads' HO_0.out).1;omega) | simpa using h_) (seg := [.int .i64 x1_1]) (j := 0) (show 1 ≤ 4 from by decide) (x' := (⟨x1_1, (rd_T58 x0_1 x5_1).f1, (rd_T58 x0_1 x5_1).f2, (rd_T58 x0_1 x5_1).f3⟩ : S58)) (k58_mkM _ _ _ (⟨x1_1, (rd_T58 x0_1 x5_1).f1, (rd_T58 x0_1 x5_1).f2, (rd_T58 x0_1 x5_1).f3⟩ : S58) (Kd.R_mono ge10_1 (fun _ h_ => Or.inl h_)) (Kd.R_mono ge10_2 (fun _ h_ => Or.inl h_)) (Kd.R_mono ge10_3 (fun _ h_ => Or.inl h_))) (fun _ hk => hk) (fun k_ hk_ => hk_.elim)
         have hx10_0 := hcc10 0 _ rfl
         (try simp only [show (k58).sz = 4 from rfl, Nat.mul_one, Nat.add_zero] at hx10_0)
         have hf10_0 := hfr10 0
         (try simp only [show (k58).sz = 4 from rfl, Nat.mul_one, Nat.add_zero] at hf10_0)
         ((try clear hM10);clear hcl10 hcc10 hfr10 hoki10 hH10)
         go_wp2_with (first | ((with_reducible refine gate_store (t := 2) (p := 16) rfl ?_);refine store_event (t := 2) (p := 16) (v := ?vo_w11) (w1 := (wr.setCell ⟨go5, (x5_1 : Int).toNat * 4, none⟩ (.int .i64 x1_1))) ?hg ?ho ?hn ?hr ?_;(case ho => rfl);(case hg => rfl);(case hn => rfl);(case hr => first | (go_simp;done) | (go_simp;rfl));intro w11 hw;have hg : wr.grownBy w11 (some go5) := (by rw [hw];exact HP10.2);have hp_ : Kd.S k58 58 w11 w0.heap.size (fun k_ => P0_ k_) (.slice (some ⟨go5, 0, none⟩) x0_1.length co9) y520 := (by rw [hw, Ny520.out];exact HP10.1);clear HP10;have n0_ := Aside0.mk (hp_);have n1_ := Aside0.mk ((by rw [hw];exact below_set (HB.out) GB5.out : Below w0.heap.size w0 w11));have n2_ := Aside0.mk (Kept.of_grown (S := (fun k_ => P0_ k_)) hg (by repeat (first | (with_reducible first | exact HK.out | apply Kept.alloc | apply Kept.drewN | apply Kept.drew) | exact HK.out)) (fun k_ e_ => .inl ((Kd.S_R HO_0.out).1 k_ e_)));clear HO_0;clear HB;clear HK;have HO_0 := n0_;have HB := n1_;have HK := n2_;clear n0_ n1_ n2_;clear hg hw hp_;have p521 : 0 ≤ (x5_1 : Int) := od_;have q521 : x5_1 < (y520.length : Int) := (by have h_ : (x5_1 : Int) < ((x0_1.length : Int) : Int) := od_;first | (have e_ := (Kd.S_reads' HO_0.out).1;omega) | simpa only [Ny520.out, List.length_set] using h_);have ql521 : ((x5_1 : Int) < ((x0_1.length : Int) : Int)) = True := eq_true od_;obtain ⟨ad521, A521_1, c521_1, A521_2, c521_2, A521_3, c521_3, e521, hx521_0, hx521_1, hx521_2, hx521_3, hl521_1, hi521_1, hl521_2, hi521_2, hl521_3, hi521_3⟩ := at_T58 (Kd.S_reads' HO_0.out).2.2 x5_1 p521 q521;obtain rfl : (⟨go5, 0, none⟩ : Addr) = ad521 := (by injection e521);obtain ⟨ce521, hce521, hMe521, hcc521⟩ := Kd.S_get HO_0.out z58 x5_1 p521 (by first | exact q521 | exact od_ | (have e_ := (Kd.S_reads' HO_0.out).1;omega));obtain ⟨ve521_1, ve521_2, ve521_3, rfl, ge521_1, ge521_2, ge521_3⟩ := k58_openM hMe521;have hv521_1 := hcc521 1 _ rfl;rw [add_field _ _ 1 (by omega)] at hv521_1;replace hv521_1 := Option.some.inj (hv521_1.symm.trans hx521_1);rw [hv521_1] at ge521_1;have HL521_1 := Aside0.mk (show Kd.R Kd.string 9 _ _ _ _ ((rd_T58 y520 x5_1).f1) from ge521_1);clear hv521_1 ge521_1;have hv521_2 := hcc521 2 _ rfl;rw [add_field _ _ 2 (by omega)] at hv521_2;replace hv521_2 := Option.some.inj (hv521_2.symm.trans hx521_2);rw [hv521_2] at ge521_2;have HL521_2 := Aside0.mk (show Kd.R Kd.string 9 _ _ _ _ ((rd_T58 y520 x5_1).f2) from ge521_2);clear hv521_2 ge521_2;have hv521_3 := hcc521 3 _ rfl;rw [add_field _ _ 3 (by omega)] at hv521_3;replace hv521_3 := Option.some.inj (hv521_3.symm.trans hx521_3);rw [hv521_3] at ge521_3;have HL521_3 := Aside0.mk (show Kd.R Kd.string 9 _ _ _ _ ((rd_T58 y520 x5_1).f3) from ge521_3);clear hv521_3 ge521_3;clear hcc521 hce521;(first | simp only [add_plain] at hx521_0 | simp only [add_at] at hx521_0 | simp only [Addr.add, Nat.zero_add] at hx521_0 | skip);(first | simp only [add_plain] at hx521_1 | simp only [add_at] at hx521_1 | simp only [Addr.add, Nat.zero_add] at hx521_1 | skip);(first | simp only [add_plain] at hx521_2 | simp only [add_at] at hx521_2 | simp only [Addr.add, Nat.zero_add] at hx521_2 | skip);(first | simp only [add_plain] at hx521_3 | simp only [add_at] at hx521_3 | simp only [Addr.add, Nat.zero_add] at hx521_3 | skip);have HR521_1 := Aside0.mk hi521_1;have HC521_1 := Aside0.mk hl521_1;clear hi521_1 hl521_1;have HR521_2 := Aside0.mk hi521_2;have HC521_2 := Aside0.mk hl521_2;clear hi521_2 hl521_2;have HR521_3 := Aside0.mk hi521_3;have HC521_3 := Aside0.mk hl521_3;clear hi521_3 hl521_3;replace p521 := eq_true p521;replace q521 := eq_true q521) | ((with_reducible refine gate_callee (f := 28) rfl ?_);refine goesL_ (some 25) rfl rfl Try.func28 (by kernel_rfl) rfl #[.slice A521_1 ((rd_T58 y520 x5_1).f1).length c521_1, .int .i64 (wrap64 (x1_1 + 1))] rfl lf_ ?_;(with_reducible refine (mark_inner1 k1 x5_1 y520 (fun k_ => P0_ k_) go5 x0_1.length co9 A521_1 c521_1 (wrap64 (x1_1 + 1)) t522 lt522 w0 _ ?side1 ?side2 ?side3 ?side4 ?side5 A6.out).mono ?_);(case side1 => exact (rs_ HO_0.out));(case side2 => exact od_);(case side3 => exact od_);(case side4 => exact hx521_1);(case side5 => exact bw_ HB.out);rintro e w12 ⟨rfl, hS_, hb, hkp⟩;refine ⟨_, rfl, ?_⟩;have n0_ := Aside0.mk (show Kd.S k58 58 w12 w0.heap.size (fun k_ => P0_ k_) (.slice (some ⟨go5, 0, none⟩) x0_1.length co9) yy1 from (by rw [Nyy1.out];exact hS_));have n3_ := Aside0.mk (Kept.then_ (S := (fun k_ => P0_ k_)) (by repeat (first | (with_reducible first | exact HK.out | apply Kept.alloc | apply Kept.drewN | apply Kept.drew) | exact HK.out)) hkp (fun k_ hs_ => .inl hs_));have n4_ := Aside0.mk hb;clear HO_0;clear HK;clear HB;clear HL521_1;clear HL521_2;clear HL521_3;clear HR521_1;clear HR521_2;clear HR521_3;have HO_0 := n0_;have HK := n3_;have HB := n4_;clear n0_ n3_ n4_;(try clear hb);(try clear hkp);(try clear hS_);have p523 : 0 ≤ (x5_1 : Int) := od_;have q523 : x5_1 < (yy1.length : Int) := (by have h_ : (x5_1 : Int) < ((x0_1.length : Int) : Int) := od_;first | (have e_ := (Kd.S_reads' HO_0.out).1;omega) | simpa only [Ny520.out, List.length_set] using h_);have ql523 : ((x5_1 : Int) < ((x0_1.length : Int) : Int)) = True := eq_true od_;obtain ⟨ad523, A523_1, c523_1, A523_2, c523_2, A523_3, c523_3, e523, hx523_0, hx523_1, hx523_2, hx523_3, hl523_1, hi523_1, hl523_2, hi523_2, hl523_3, hi523_3⟩ := at_T58 (Kd.S_reads' HO_0.out).2.2 x5_1 p523 q523;obtain rfl : (⟨go5, 0, none⟩ : Addr) = ad523 := (by injection e523);obtain ⟨ce523, hce523, hMe523, hcc523⟩ := Kd.S_get HO_0.out z58 x5_1 p523 (by first | exact q523 | exact od_ | (have e_ := (Kd.S_reads' HO_0.out).1;omega));obtain ⟨ve523_1, ve523_2, ve523_3, rfl, ge523_1, ge523_2, ge523_3⟩ := k58_openM hMe523;have hv523_1 := hcc523 1 _ rfl;rw [add_field _ _ 1 (by omega)] at hv523_1;replace hv523_1 := Option.some.inj (hv523_1.symm.trans hx523_1);rw [hv523_1] at ge523_1;have HL523_1 := Aside0.mk (show Kd.R Kd.string 9 _ _ _ _ ((rd_T58 yy1 x5_1).f1) from ge523_1);clear hv523_1 ge523_1;have hv523_2 := hcc523 2 _ rfl;rw [add_field _ _ 2 (by omega)] at hv523_2;replace hv523_2 := Option.some.inj (hv523_2.symm.trans hx523_2);rw [hv523_2] at ge523_2;have HL523_2 := Aside0.mk (show Kd.R Kd.string 9 _ _ _ _ ((rd_T58 yy1 x5_1).f2) from ge523_2);clear hv523_2 ge523_2;have hv523_3 := hcc523 3 _ rfl;rw [add_field _ _ 3 (by omega)] at hv523_3;replace hv523_3 := Option.some.inj (hv523_3.symm.trans hx523_3);rw [hv523_3] at ge523_3;have HL523_3 := Aside0.mk (show Kd.R Kd.string 9 _ _ _ _ ((rd_T58 yy1 x5_1).f3) from ge523_3);clear hv523_3 ge523_3;clear hcc523 hce523;(first | simp only [add_plain] at hx523_0 | simp only [add_at] at hx523_0 | simp only [Addr.add, Nat.zero_add] at hx523_0 | skip);(first | simp only [add_plain] at hx523_1 | simp only [add_at] at hx523_1 | simp only [Addr.add, Nat.zero_add] at hx523_1 | skip);(first | simp only [add_plain] at hx523_2 | simp only [add_at] at hx523_2 | simp only [Addr.add, Nat.zero_add] at hx523_2 | skip);(first | simp only [add_plain] at hx523_3 | simp only [add_at] at hx523_3 | simp only [Addr.add, Nat.zero_add] at hx523_3 | skip);have HR523_1 := Aside0.mk hi523_1;have HC523_1 := Aside0.mk hl523_1;clear hi523_1 hl523_1;have HR523_2 := Aside0.mk hi523_2;have HC523_2 := Aside0.mk hl523_2;clear hi523_2 hl523_2;have HR523_3 := Aside0.mk hi523_3;have HC523_3 := Aside0.mk hl523_3;clear hi523_3 hl523_3;replace p523 := eq_true p523;replace q523 := eq_true q523) | ((with_reducible refine gate_callee (f := 28) rfl ?_);refine goesL_ (some 32) rfl rfl Try.func28 (by kernel_rfl) rfl #[.slice A523_2 ((rd_T58 yy1 x5_1).f2).length c523_2, .int .i64 t522] rfl lf_ ?_;(with_reducible refine (mark_inner2 k1 x5_1 yy1 (fun k_ => P0_ k_) go5 x0_1.length co9 A523_2 c523_2 t522 t524 lt524 w0 _ ?side1 ?side2 ?side3 ?side4 ?side5 A7.out).mono ?_);(case side1 => exact (rs_ HO_0.out));(case side2 => exact od_);(case side3 => exact od_);(case side4 => exact hx523_2);(case side5 => exact bw_ HB.out);rintro e w13 ⟨rfl, hS_, hb, hkp⟩;refine ⟨_, rfl, ?_⟩;have n0_ := Aside0.mk (show Kd.S k58 58 w13 w0.heap.size (fun k_ => P0_ k_) (.slice (some ⟨go5, 0, none⟩) x0_1.length co9) yy2 from (by rw [Nyy2.out];exact hS_));have n3_ := Aside0.mk (Kept.then_ (S := (fun k_ => P0_ k_)) (by repeat (first | (with_reducible first | exact HK.out | apply Kept.alloc | apply Kept.drewN | apply Kept.drew) | exact HK.out)) hkp (fun k_ hs_ => .inl hs_));have n4_ := Aside0.mk hb;clear HO_0;clear HK;clear HB;clear HL523_1;clear HL523_2;clear HL523_3;clear HR523_1;clear HR523_2;clear HR523_3;have HO_0 := n0_;have HK := n3_;have HB := n4_;clear n0_ n3_ n4_;(try clear hb);(try clear hkp);(try clear hS_);have p525 : 0 ≤ (x5_1 : Int) := od_;have q525 : x5_1 < (yy2.length : Int) := (by have h_ : (x5_1 : Int) < ((x0_1.length : Int) : Int) := od_;first | (have e_ := (Kd.S_reads' HO_0.out).1;omega) | simpa only [Ny520.out, List.length_set] using h_);have ql525 : ((x5_1 : Int) < ((x0_1.length : Int) : Int)) = True := eq_true od_;obtain ⟨ad525, A525_1, c525_1, A525_2, c525_2, A525_3, c525_3, e525, hx525_0, hx525_1, hx525_2, hx525_3, hl525_1, hi525_1, hl525_2, hi525_2, hl525_3, hi525_3⟩ := at_T58 (Kd.S_reads' HO_0.out).2.2 x5_1 p525 q525;obtain rfl : (⟨go5, 0, none⟩ : Addr) = ad525 := (by injection e525);obtain ⟨ce525, hce525, hMe525, hcc525⟩ := Kd.S_get HO_0.out z58 x5_1 p525 (by first | exact q525 | exact od_ | (have e_ := (Kd.S_reads' HO_0.out).1;omega));obtain ⟨ve525_1, ve525_2, ve525_3, rfl, ge525_1, ge525_2, ge525_3⟩ := k58_openM hMe525;have hv525_1 := hcc525 1 _ rfl;rw [add_field _ _ 1 (by omega)] at hv525_1;replace hv525_1 := Option.some.inj (hv525_1.symm.trans hx525_1);rw [hv525_1] at ge525_1;have HL525_1 := Aside0.mk (show Kd.R Kd.string 9 _ _ _ _ ((rd_T58 yy2 x5_1).f1) from ge525_1);clear hv525_1 ge525_1;have hv525_2 := hcc525 2 _ rfl;rw [add_field _ _ 2 (by omega)] at hv525_2;replace hv525_2 := Option.some.inj (hv525_2.symm.trans hx525_2);rw [hv525_2] at ge525_2;have HL525_2 := Aside0.mk (show Kd.R Kd.string 9 _ _ _ _ ((rd_T58 yy2 x5_1).f2) from ge525_2);clear hv525_2 ge525_2;have hv525_3 := hcc525 3 _ rfl;rw [add_field _ _ 3 (by omega)] at hv525_3;replace hv525_3 := Option.some.inj (hv525_3.symm.trans hx525_3);rw [hv525_3] at ge525_3;have HL525_3 := Aside0.mk (show Kd.R Kd.string 9 _ _ _ _ ((rd_T58 yy2 x5_1).f3) from ge525_3);clear hv525_3 ge525_3;clear hcc525 hce525;(first | simp only [add_plain] at hx525_0 | simp only [add_at] at hx525_0 | simp only [Addr.add, Nat.zero_add] at hx525_0 | skip);(first | simp only [add_plain] at hx525_1 | simp only [add_at] at hx525_1 | simp only [Addr.add, Nat.zero_add] at hx525_1 | skip);(first | simp only [add_plain] at hx525_2 | simp only [add_at] at hx525_2 | simp only [Addr.add, Nat.zero_add] at hx525_2 | skip);(first | simp only [add_plain] at hx525_3 | simp only [add_at] at hx525_3 | simp only [Addr.add, Nat.zero_add] at hx525_3 | skip);have HR525_1 := Aside0.mk hi525_1;have HC525_1 := Aside0.mk hl525_1;clear hi525_1 hl525_1;have HR525_2 := Aside0.mk hi525_2;have HC525_2 := Aside0.mk hl525_2;clear hi525_2 hl525_2;have HR525_3 := Aside0.mk hi525_3;have HC525_3 := Aside0.mk hl525_3;clear hi525_3 hl525_3;replace p525 := eq_true p525;replace q525 := eq_true q525) | ((with_reducible refine gate_callee (f := 28) rfl ?_);refine goesL_ (some 39) rfl rfl Try.func28 (by kernel_rfl) rfl #[.slice A525_3 ((rd_T58 yy2 x5_1).f3).length c525_3, .int .i64 t524] rfl lf_ ?_;(with_reducible refine (mark_inner3 k1 x5_1 yy2 (fun k_ => P0_ k_) go5 x0_1.length co9 A525_3 c525_3 t524 t526 lt526 w0 _ ?side1 ?side2 ?side3 ?side4 ?side5 A8.out).mono ?_);(case side1 => exact (rs_ HO_0.out));(case side2 => exact od_);(case side3 => exact od_);(case side4 => exact hx525_3);(case side5 => exact bw_ HB.out);rintro e w14 ⟨rfl, hS_, hb, hkp⟩;refine ⟨_, rfl, ?_⟩;have n0_ := Aside0.mk (show Kd.S k58 58 w14 w0.heap.size (fun k_ => P0_ k_) (.slice (some ⟨go5, 0, none⟩) x0_1.length co9) yy3 from (by rw [Nyy3.out];exact hS_));have n3_ := Aside0.mk (Kept.then_ (S := (fun k_ => P0_ k_)) (by repeat (first | (with_reducible first | exact HK.out | apply Kept.alloc | apply Kept.drewN | apply Kept.drew) | exact HK.out)) hkp (fun k_ hs_ => .inl hs_));have n4_ := Aside0.mk hb;clear HO_0;clear HK;clear HB;clear HL525_1;clear HL525_2;clear HL525_3;clear HR525_1;clear HR525_2;clear HR525_3;have HO_0 := n0_;have HK := n3_;have HB := n4_;clear n0_ n3_ n4_;(try clear hb);(try clear hkp);(try clear hS_)))
         go_roundg k1
         case measure => have := HK1.out;omega
         case rel => exact ⟨(yy3), (t526), (wrap64 (x5_1 + 1)), ls_, ls_, H', ⟨by have := HK1.out;omega⟩, ⟨rs_ HO_0.out⟩, ⟨by repeat (first | (with_reducible first | exact HK.out | apply Kept.alloc | apply Kept.drewN | apply Kept.drew) | exact HK.out)⟩, ⟨bw_ HB.out⟩⟩
       · rw [if_neg c4] at H
         exact absurd H (by simp)
     · rw [if_neg c3] at H
       have c3b0 : decide (x5_1 < (x0_1.length : Int)) = false := decide_eq_false c3
       clear c3
       simp only [Option.some.injEq, Prod.mk.injEq] at H
       obtain ⟨rfl, rfl⟩ := H
       obtain ⟨Ao15, co15, eo15⟩ := Kd.S_slice HO_0.out
       subst eo15
       go_wp2
       go_ret
       exact ⟨by first | rfl | (simp [errW_none, errW_some] <;> rfl) | (simp [*, errW_none, errW_some] <;> rfl), rs_ HO_0.out, bw_ HB.out, by repeat (first | (with_reducible first | exact HK.out | apply Kept.alloc | apply Kept.drewN | apply Kept.drew) | exact HK.out)⟩
end Go.Proofs.Ytjngmhngedecdaa.P
end
section
namespace Go.Proofs.Ytjngmhngedecdaa.P
open Go.RowKit Go.Proofs.YtjngmhngedecdaaW.PrintWords Go.Proofs.YtjngmhngedecdaaW.PrintLast Go.Proofs.YtjngmhngedecdaaW.PrintMore
attribute [local go_sem] max2_int min2_int max_two min_two max_three min_three max_four min_four
set_option linter.unusedVariables false
set_option linter.unusedSimpArgs false
def laws_markChunksResult.f (k : Nat) (a0_0 : Int) (l0_2 : List (S58)) (a1 : Int) : Option (Int × (List (S58))) := (laws_markChunkS.f k l0_2 a1).bind fun bt312 => (some (bt312.1, bt312.2))
theorem laws_markChunksResult.mono : ∀ a0 a1 a2 k, LeO (laws_markChunksResult.f k a0 a1 a2) (laws_markChunksResult.f (k + 1) a0 a1 a2) := by
 intro a0 a1 a2 k;unfold laws_markChunksResult.f
 repeat' first
     | (with_reducible exact laws_markChunkS.mono _ _ _)
     | (with_reducible exact LeO.refl _)
     | (with_reducible exact LeO.none _)
     | (with_reducible refine LeO.ite ?_ ?_)
     | (with_reducible refine LeO.bind ?_ (fun _ => ?_))
     | exact laws_markChunkS.mono _ _ _
     | exact LeO.none _
     | refine LeO.ite ?_ ?_
     | refine LeO.bind ?_ (fun _ => ?_)
set_option maxHeartbeats 8000000 in
set_option maxRecDepth 100000 in
theorem laws_markChunksResult.calls (k : Nat) (a0_0 : Int) (P0_2_ : Nat → Prop) (u9000_ : Value) (l0_2 : List (S58)) (a1 : Int) (r1 : Int) (r2 : List (S58)) (w0 w : World) (hB : Below w0.heap.size w0 w) (ho0_2 : Kd.S k58 58 w w0.heap.size P0_2_ u9000_ l0_2) (h : laws_markChunksResult.f k a0_0 l0_2 a1 = some (r1, r2)) :
    Calls Try.prog 52 #[.agg #[.int .i64 a0_0, u9000_], .int .i64 a1] w fun e w' => e = .returned (.int .i64 r1) ∧ Kd.S k58 58 w' w0.heap.size (fun k_ => P0_2_ k_) u9000_ r2 ∧ Below w0.heap.size w0 w' ∧ Kept w w' (fun k_ => P0_2_ k_) := by
 have hu_ := Try.underlying71;have HO0_2 := Aside0.mk (show Kd.S k58 58 w w0.heap.size (fun k_ => P0_2_ k_ ∧ k_ < w.heap.size) u9000_ l0_2 from Kd.S_mono (Kd.S_bound ho0_2) (fun k_ hk => ⟨hk.1, hk.2.2.1⟩));have HK := Aside0.mk (Kept.refl w (fun k_ => P0_2_ k_));have HW0 := Aside0.mk hB.size;have HB := Aside0.mk hB;clear hB;have H : ((laws_markChunkS.f k l0_2 a1).bind fun bt312 => (some (bt312.1, bt312.2))) = some (r1, r2) := h;clear h;replace H := Option.bind_eq_some_iff.mp H;obtain ⟨⟨t312, t313⟩, A30, H⟩ := H;replace H : (some (t312, t313)) = some (r1, r2) := H;have A3 := Aside0.mk A30;clear A30;simp only [Option.some.injEq, Prod.mk.injEq] at H;obtain ⟨rfl, rfl⟩ := H;obtain ⟨Ao4, co4, eo4⟩ := Kd.S_slice HO0_2.out;subst eo4;go_enter Try.func52, Try.ntmps52;go_wp2_with (first | ((with_reducible refine gate_dst (N := 2) rfl ?_);refine box_event ?hg (N := 2) ?hd (cs := #[.int .i64 a0_0, .slice Ao4 l0_2.length co4]) (t := 71) ?hr ?_;(case hd => rfl);(case hg => rfl);(case hr => first | (go_simp;done) | (go_simp;rfl));intro gb311 hg w5 hbox hb;have n0_ := Aside0.mk (Kd.S_below (rs_ HO0_2.out) hb);have n1_ := Aside0.mk (Kept.below (S := (fun k_ => P0_2_ k_)) (by repeat (first | (with_reducible first | exact HK.out | apply Kept.alloc | apply Kept.drewN | apply Kept.drew) | exact HK.out)) hb);have n2_ := Aside0.mk (below_step (bw_ HB.out) hb);have n3_ := Aside0.mk (hbox);have n4_ := Aside0.mk ((by rw [hg];exact (by first | exact HK.out.1 | exact (show Kept w _ (fun k_ => P0_2_ k_) from by repeat (first | (with_reducible first | exact HK.out | apply Kept.alloc | apply Kept.drewN | apply Kept.drew) | exact HK.out)).1) : w.heap.size ≤ gb311));have n5_ := Aside0.mk ((by rw [hg];exact (below_size (bw_ HB.out)) : w0.heap.size ≤ gb311));clear HO0_2;clear HK;clear HB;have HO0_2 := n0_;have HK := n1_;have HB := n2_;have BK311 := n3_;have GW311 := n4_;have GE311 := n5_;clear n0_ n1_ n2_ n3_ n4_ n5_;clear hb hbox hg;have hcz6_0 : w5.cell? ⟨gb311, 0, none⟩ = some (.int .i64 a0_0) := (blk_cell BK311.out 0).trans rfl;have hcz6_1 : w5.cell? ⟨gb311, 1, none⟩ = some (.slice Ao4 l0_2.length co4) := (blk_cell BK311.out 1).trans rfl;have hfz6_0 := blk_frozen BK311.out 0;have hfz6_1 := blk_frozen BK311.out 1) | ((with_reducible refine gate_callee (f := 36) rfl ?_);refine goesL_ (some 8) rfl rfl Try.func36 (by kernel_rfl) rfl #[.slice Ao4 l0_2.length co4, .int .i64 a1] rfl lf_ ?_;(with_reducible refine (laws_markChunkS.calls k (fun k_ => P0_2_ k_ ∧ k_ < w.heap.size) (.slice Ao4 l0_2.length co4) l0_2 a1 t312 t313 w0 _ ?side1 ?side2 A3.out).mono ?_);(case side1 => exact bw1_ HB.out GE311.out);(case side2 => exact HO0_2.out);rintro e w7 ⟨rfl, hy0, hb, hkp⟩;refine ⟨_, rfl, ?_⟩;have n0_ := Aside0.mk (hy0);have n1_ := Aside0.mk (blk_kept (rb_ BK311.out) hkp (fun hs_ => absurd hs_.2 (Nat.not_lt.2 GW311.out)));have n2_ := Aside0.mk (Kept.then_ (S := (fun k_ => P0_2_ k_)) (by repeat (first | (with_reducible first | exact HK.out | apply Kept.alloc | apply Kept.drewN | apply Kept.drew | refine Kept.setCell ?_ (.inr GW311.out) _) | exact HK.out)) hkp (fun k_ hs_ => .inl hs_.1));have n3_ := Aside0.mk (hb);clear HO0_2;clear BK311;clear HK;clear HB;have HO0_2 := n0_;have BK311 := n1_;have HK := n2_;have HB := n3_;clear n0_ n1_ n2_ n3_;(try clear hb);(try clear hkp);(try clear hy0)));go_ret;exact ⟨by first | rfl | (simp [errW_none, errW_some] <;> rfl) | (simp [*, errW_none, errW_some] <;> rfl), by (with_reducible repeat (first | apply Kd.S_alloc | apply Kd.S_drewN | apply Kd.S_drew));exact Kd.S_mono HO0_2.out (fun _ hk => hk.1), bw1_ HB.out GE311.out, by repeat (first | (with_reducible first | exact HK.out | apply Kept.alloc | apply Kept.drewN | apply Kept.drew | refine Kept.setCell ?_ (.inr GW311.out) _) | exact HK.out)⟩
end Go.Proofs.Ytjngmhngedecdaa.P
end
