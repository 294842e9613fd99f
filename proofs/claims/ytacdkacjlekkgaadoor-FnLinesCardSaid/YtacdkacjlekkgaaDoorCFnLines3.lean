/- FnLines: the law of the program holds at every input: the Go function returns true, and its arguments read afterwards as before.
Conditions: none beyond the given statement's own (what can be read as data, of a size that memory bears). -/
import Derived.Lib.Strings
import Derived.Lib.Bytealg
import Derived.Lib.Split
import Derived.Lib.SplitLaws
import Derived.SliceStrings
import Derived.DataReads
import Derived.DataElems
import Derived.Test.YtacdkacjlekkgaaDoorCards
import Derived.Test.YtacdkacjlekkgaaDoorTie
import Derived.Lay
import Derived.LaidOnce
import Derived.SevenTiedAt
import Derived.Test.YtacdkacjlekkgaaDoorRows
import Derived.WalkKit
import Derived.ProofKit
import Derived.OpenShut
import Derived.ShutString
import Derived.ChangeOld
import Derived.Below
import Derived.SizedLaws
import Derived.Carry
import Derived.Test.YtacdkacjlekkgaaDoorCFnLines1
import Derived.Test.YtacdkacjlekkgaaDoorCFnLines2
section
namespace Go.Proofs.YtacdkacjlekkgaaDoor.P
open Go.RowKit Go.Proofs.YtacdkacjlekkgaaDoorW.PrintWords Go.Proofs.YtacdkacjlekkgaaDoorW.PrintLast Go.Proofs.YtacdkacjlekkgaaDoorW.PrintMore
attribute [local go_sem] max2_int min2_int max_two min_two max_three min_three max_four min_four
set_option linter.unusedVariables false
set_option linter.unusedSimpArgs false
mutual
def spec_LinesFault.l0 : Nat → List ByteArray → Int → Int → Option (Int)
 | 0, _, _, _ => none
 | k + 1, x0, x3, x4 => if x4 < (x0.length : Int) then (if 0 ≤ x4 then (spec_LinesFault.l0 k x0 (wrap64 (x3 + ((rdOf ByteArray.empty x0 x4).size : Int))) (wrap64 (x4 + 1))) else (none)) else (if (x0.length : Int) > 100 then (spec_LinesFault.j1 k x0 true) else (spec_LinesFault.j1 k x0 (decide (x3 > 2000))))
def spec_LinesFault.j1 : Nat → List ByteArray → Bool → Option (Int)
 | 0, _, _ => none
 | k + 1, x0, x26 => if x26 = true then (some 2) else (spec_LinesFault.l1 k x0 0)
def spec_LinesFault.l1 : Nat → List ByteArray → Int → Option (Int)
 | 0, _, _ => none
 | k + 1, x0, x5 => if x5 < (x0.length : Int) then (if 0 ≤ x5 then ((spec_l1Ended.f k (rdOf ByteArray.empty x0 x5)).bind fun t266 => (if (rdOf ByteArray.empty x0 x5).toList = ([] : List UInt8) then (some 1) else (if t266 < (wrap64 (((rdOf ByteArray.empty x0 x5).size : Int) - 1)) then (some 1) else (if t266 = ((rdOf ByteArray.empty x0 x5).size : Int) then (if x5 < (wrap64 ((x0.length : Int) - 1)) then (some 1) else (spec_LinesFault.l1 k x0 (wrap64 (x5 + 1)))) else (spec_LinesFault.l1 k x0 (wrap64 (x5 + 1))))))) else (none)) else (some 0)
end
def spec_LinesFault.f (k : Nat) (l0 : List ByteArray) : Option (Int) := spec_LinesFault.l0 k l0 0 0
set_option maxHeartbeats 8000000 in
set_option maxRecDepth 100000 in
theorem spec_LinesFault.calls (k : Nat) (A0 : Option Addr) (c0 : Nat) (l0 : List ByteArray) (r : Int) (w : World) (hr0 : Kd.C Kd.string w A0 l0.length l0) (hc0 : l0.length ≤ c0) (h : spec_LinesFault.f k l0 = some r) :
  Calls Tryd.prog 17 #[.slice A0 l0.length c0] w fun e w' => e = .returned (.int .i64 r) ∧ Drawn0 w w' := by
 have HR0 := Aside0.mk hr0
 have HC0 := Aside0.mk hc0
 clear hr0 hc0
 have H : (spec_LinesFault.l0 k l0 0 0) = some r := h
 clear h
 have H' := Aside0.mk H
 clear H
 go_enter Tryd.func17, Tryd.ntmps17
 go_wp2
 go_loopg [3, 4] k (fun kq v3 v4 w' => ∃ (x3_1 : Int) (x4_1 : Int), v3 = .int .i64 x3_1 ∧ v4 = .int .i64 x4_1 ∧ Aside0 (spec_LinesFault.l0 kq l0 x3_1 x4_1 = some r) ∧ Aside0 (kq ≤ k) ∧ Drawn0 w w')
 case atStart => exact ⟨(0), (0), (by first | rfl | (simp; done) | (simp [*]; done)), (by first | rfl | (simp; done) | (simp [*]; done)), H', ⟨Nat.le_refl _⟩, by repeat (first | exact Drawn0.refl _ | apply Drawn0.step)⟩
 case round =>
  clear H'
  try clear c1
  obtain ⟨x3_1, x4_1, rfl, rfl, HA, HK1, ⟨m1, rfl⟩⟩ := hrel
  cases gk with
  | zero => exact absurd HA.out (by simp [spec_LinesFault.l0])
  | succ k1 =>
   have H := HA.out
   clear HA
   simp only [spec_LinesFault.l0] at H
   by_cases c2 : x4_1 < (l0.length : Int)
   ·rw [if_pos c2] at H
    have c2b0 : decide (x4_1 < (l0.length : Int)) = true := decide_eq_true c2
    clear c2
    by_cases c3 : 0 ≤ x4_1
    ·rw [if_pos c3] at H
     have c3b0 : decide (0 ≤ x4_1) = true := decide_eq_true c3
     clear c3
     have H' := Aside0.mk H
     clear H
     have p264 : 0 ≤ (x4_1 : Int) := of_decide_eq_true (by first | (with_reducible assumption) | assumption)
     have q264 : x4_1 < (l0.length : Int) := of_decide_eq_true (by first | (with_reducible assumption) | assumption)
     obtain ⟨ad264, e264, hx264_0⟩ := Kd.at_string HR0.out x4_1 p264 q264
     cases e264
     replace p264 := eq_true p264
     replace q264 := eq_true q264
     go_wp2
     go_roundg k1
     case measure => have := HK1.out; omega
     case rel => exact ⟨(wrap64 (x3_1 + ((rdOf ByteArray.empty l0 x4_1).size : Int))), (wrap64 (x4_1 + 1)), (by first | rfl | (simp; done) | (simp [*]; done)), (by first | rfl | (simp; done) | (simp [*]; done)), H', ⟨by have := HK1.out; omega⟩, by repeat (first | exact Drawn0.refl _ | apply Drawn0.step)⟩
    ·rw [if_neg c3] at H
     exact absurd H (by simp)
   ·rw [if_neg c2] at H
    have c2b0 : decide (x4_1 < (l0.length : Int)) = false := decide_eq_false c2
    clear c2
    have HC4 := Aside0.mk H
    clear H
    go_upto_region 6 with (fail)
    go_cut [26] (fun v26 wc => ∃ (kq : Nat) (x26_3 : Bool), v26 = .bool x26_3 ∧ Aside0 (spec_LinesFault.j1 kq l0 x26_3 = some r) ∧ Aside0 (kq ≤ k1) ∧ Drawn0 w wc)
    case first =>
     have H := HC4.out
     clear HC4
     by_cases c5 : (l0.length : Int) > 100
     ·rw [if_pos c5] at H
      have c5b0 : decide (100 < (l0.length : Int)) = true := decide_eq_true c5
      have c5b1 : decide (100 < l0.length) = true := decide_eq_true (by omega)
      clear c5
      (first | rw [c5b0] | (simp only [i64_w, i32_w]; rw [c5b0]) | skip)
      have H' := Aside0.mk H
      clear H
      go_wp2
      go_meet
      case rel => exact ⟨_, (true), (by first | rfl | (simp; done) | (simp [*]; done)), H', ⟨by have := HK1.out; first | omega | exact Nat.le_refl _⟩, by repeat (first | exact Drawn0.refl _ | apply Drawn0.step)⟩
     ·rw [if_neg c5] at H
      have c5b0 : decide (100 < (l0.length : Int)) = false := decide_eq_false c5
      have c5b1 : decide (100 < l0.length) = false := decide_eq_false (by omega)
      clear c5
      (first | rw [c5b0] | (simp only [i64_w, i32_w]; rw [c5b0]) | skip)
      have H' := Aside0.mk H
      clear H
      go_wp2
      go_meet
      case rel => exact ⟨_, (decide (x3_1 > 2000)), (by first | rfl | (simp; done) | (simp [*]; done)), H', ⟨by have := HK1.out; first | omega | exact Nat.le_refl _⟩, by repeat (first | exact Drawn0.refl _ | apply Drawn0.step)⟩
    case rest =>
     clear HC4
     try clear c1
     try clear c2
     try clear c2b0
     try clear p2
     try clear q2
     try clear hx2
     try clear c3
     try clear c3b0
     try clear c5
     try clear c5b0
     try clear c5b1
     try clear hx264_0
     try clear p264
     try clear q264
     obtain ⟨kq, x26_3, rfl, HA, HJ3, ⟨mc3, rfl⟩⟩ := hcut
     cases kq with
     | zero => exact absurd HA.out (by simp [spec_LinesFault.j1])
     | succ kj3 =>
      have H := HA.out
      clear HA
      simp only [spec_LinesFault.j1] at H
      by_cases c6 : x26_3 = true
      ·subst c6
       have H1 : (some 2) = some r := by rw [if_pos rfl] at H; exact H
       clear H
       have H := H1
       clear H1
       obtain rfl := Option.some.inj H
       go_wp2
       go_ret
       exact ⟨by first | rfl | (simp; done) | (simp [*]; done), by repeat (first | exact Drawn0.refl _ | apply Drawn0.step)⟩
      ·replace c6 := Bool.eq_false_iff.mpr c6
       subst c6
       have H1 : (spec_LinesFault.l1 kj3 l0 0) = some r := by rw [if_neg (show ¬ (false = true) by decide)] at H; exact H
       clear H
       have H := H1
       clear H1
       have H' := Aside0.mk H
       clear H
       go_wp2
       go_loopg [5] kj3 (fun kq v5 w' => ∃ (x5_3 : Int), v5 = .int .i64 x5_3 ∧ Aside0 (spec_LinesFault.l1 kq l0 x5_3 = some r) ∧ Aside0 (kq ≤ kj3) ∧ Drawn0 w w')
       case atStart => exact ⟨(0), (by first | rfl | (simp; done) | (simp [*]; done)), H', ⟨Nat.le_refl _⟩, by repeat (first | exact Drawn0.refl _ | apply Drawn0.step)⟩
       case round =>
        clear H'
        try clear c1
        try clear c2
        try clear c2b0
        try clear p2
        try clear q2
        try clear hx2
        try clear c3
        try clear c3b0
        try clear c5
        try clear c5b0
        try clear c5b1
        try clear c6
        try clear p6
        try clear hx264_0
        try clear p2
        try clear p264
        try clear q2
        try clear q264
        obtain ⟨x5_3, rfl, HA, HK3, ⟨m3, rfl⟩⟩ := hrel
        cases gk with
        | zero => exact absurd HA.out (by simp [spec_LinesFault.l1])
        | succ k3 =>
         have H := HA.out
         clear HA
         simp only [spec_LinesFault.l1] at H
         by_cases c7 : x5_3 < (l0.length : Int)
         ·rw [if_pos c7] at H
          have c7b0 : decide (x5_3 < (l0.length : Int)) = true := decide_eq_true c7
          clear c7
          by_cases c8 : 0 ≤ x5_3
          ·rw [if_pos c8] at H
           have c8b0 : decide (0 ≤ x5_3) = true := decide_eq_true c8
           clear c8
           replace H := Option.bind_eq_some_iff.mp H
           obtain ⟨t266, A90, H⟩ := H
           replace H : (if (rdOf ByteArray.empty l0 x5_3).toList = ([] : List UInt8) then (some 1) else (if t266 < (wrap64 (((rdOf ByteArray.empty l0 x5_3).size : Int) - 1)) then (some 1) else (if t266 = ((rdOf ByteArray.empty l0 x5_3).size : Int) then (if x5_3 < (wrap64 ((l0.length : Int) - 1)) then (some 1) else (spec_LinesFault.l1 k3 l0 (wrap64 (x5_3 + 1)))) else (spec_LinesFault.l1 k3 l0 (wrap64 (x5_3 + 1)))))) = some r := H
           have A9 := Aside0.mk A90
           clear A90
           by_cases c10 : (rdOf ByteArray.empty l0 x5_3).toList = ([] : List UInt8)
           ·rw [if_pos c10] at H
            have c10b0 : ((rdOf ByteArray.empty l0 x5_3).toList == ([] : List UInt8)) = true := beq_iff_eq.mpr c10
            have c10b1 : ((rdOf ByteArray.empty l0 x5_3).toList != ([] : List UInt8)) = false := bne_eq_false_iff_eq.mpr c10
            clear c10
            obtain rfl := Option.some.inj H
            have p265 : 0 ≤ (x5_3 : Int) := of_decide_eq_true (by first | (with_reducible assumption) | assumption)
            have q265 : x5_3 < (l0.length : Int) := of_decide_eq_true (by first | (with_reducible assumption) | assumption)
            obtain ⟨ad265, e265, hx265_0⟩ := Kd.at_string HR0.out x5_3 p265 q265
            cases e265
            replace p265 := eq_true p265
            replace q265 := eq_true q265
            go_wp2_with (first | ((with_reducible refine gate_callee (f := 33) rfl ?_); refine goesL_ (some 37) rfl rfl Tryd.func33 (by kernel_rfl) rfl #[.string (rdOf ByteArray.empty l0 x5_3)] rfl (by (try simp only [List.map_toArray, List.map_cons, List.map_nil]); first | done | rfl | (simp only [List.length_drop, List.length_take]; rfl)) ?_; (with_reducible refine (spec_l1Ended.calls k3 (rdOf ByteArray.empty l0 x5_3) t266 _ A9.out).mono ?_); rintro e w' ⟨rfl, ⟨nd, rfl⟩⟩; refine ⟨_, rfl, ?_⟩; have p267 : 0 ≤ (x5_3 : Int) := of_decide_eq_true (by first | (with_reducible assumption) | assumption); have q267 : x5_3 < (l0.length : Int) := of_decide_eq_true (by first | (with_reducible assumption) | assumption); obtain ⟨ad267, e267, hx267_0⟩ := Kd.at_string HR0.out x5_3 p267 q267; obtain rfl : ad265 = ad267 := (by injection e267); replace p267 := eq_true p267; replace q267 := eq_true q267))
            go_ret
            exact ⟨by first | rfl | (simp; done) | (simp [*]; done), by repeat (first | exact Drawn0.refl _ | apply Drawn0.step)⟩
           ·rw [if_neg c10] at H
            have c10b0 : ((rdOf ByteArray.empty l0 x5_3).toList == ([] : List UInt8)) = false := beq_eq_false_iff_ne.mpr c10
            have c10b1 : ((rdOf ByteArray.empty l0 x5_3).toList != ([] : List UInt8)) = true := bne_iff_ne.mpr c10
            by_cases c11 : t266 < (wrap64 (((rdOf ByteArray.empty l0 x5_3).size : Int) - 1))
            ·rw [if_pos c11] at H
             have c11b0 : decide (t266 < (wrap64 (((rdOf ByteArray.empty l0 x5_3).size : Int) - 1))) = true := decide_eq_true c11
             clear c11
             obtain rfl := Option.some.inj H
             have p265 : 0 ≤ (x5_3 : Int) := of_decide_eq_true (by first | (with_reducible assumption) | assumption)
             have q265 : x5_3 < (l0.length : Int) := of_decide_eq_true (by first | (with_reducible assumption) | assumption)
             obtain ⟨ad265, e265, hx265_0⟩ := Kd.at_string HR0.out x5_3 p265 q265
             cases e265
             replace p265 := eq_true p265
             replace q265 := eq_true q265
             go_wp2_with (first | ((with_reducible refine gate_callee (f := 33) rfl ?_); refine goesL_ (some 37) rfl rfl Tryd.func33 (by kernel_rfl) rfl #[.string (rdOf ByteArray.empty l0 x5_3)] rfl (by (try simp only [List.map_toArray, List.map_cons, List.map_nil]); first | done | rfl | (simp only [List.length_drop, List.length_take]; rfl)) ?_; (with_reducible refine (spec_l1Ended.calls k3 (rdOf ByteArray.empty l0 x5_3) t266 _ A9.out).mono ?_); rintro e w' ⟨rfl, ⟨nd, rfl⟩⟩; refine ⟨_, rfl, ?_⟩; have p267 : 0 ≤ (x5_3 : Int) := of_decide_eq_true (by first | (with_reducible assumption) | assumption); have q267 : x5_3 < (l0.length : Int) := of_decide_eq_true (by first | (with_reducible assumption) | assumption); obtain ⟨ad267, e267, hx267_0⟩ := Kd.at_string HR0.out x5_3 p267 q267; obtain rfl : ad265 = ad267 := (by injection e267); replace p267 := eq_true p267; replace q267 := eq_true q267; have p268 : 0 ≤ (x5_3 : Int) := of_decide_eq_true (by first | (with_reducible assumption) | assumption); have q268 : x5_3 < (l0.length : Int) := of_decide_eq_true (by first | (with_reducible assumption) | assumption); obtain ⟨ad268, e268, hx268_0⟩ := Kd.at_string HR0.out x5_3 p268 q268; obtain rfl : ad265 = ad268 := (by injection e268); replace p268 := eq_true p268; replace q268 := eq_true q268))
             go_ret
             exact ⟨by first | rfl | (simp; done) | (simp [*]; done), by repeat (first | exact Drawn0.refl _ | apply Drawn0.step)⟩
            ·rw [if_neg c11] at H
             have c11b0 : decide (t266 < (wrap64 (((rdOf ByteArray.empty l0 x5_3).size : Int) - 1))) = false := decide_eq_false c11
             clear c11
             by_cases c12 : t266 = ((rdOf ByteArray.empty l0 x5_3).size : Int)
             ·rw [if_pos c12] at H
              have c12b0 : (t266 == ((rdOf ByteArray.empty l0 x5_3).size : Int)) = true := beq_iff_eq.mpr c12
              have c12b1 : (t266 != ((rdOf ByteArray.empty l0 x5_3).size : Int)) = false := bne_eq_false_iff_eq.mpr c12
              clear c12
              by_cases c13 : x5_3 < (wrap64 ((l0.length : Int) - 1))
              ·rw [if_pos c13] at H
               have c13b0 : decide (x5_3 < (wrap64 ((l0.length : Int) - 1))) = true := decide_eq_true c13
               clear c13
               obtain rfl := Option.some.inj H
               have p265 : 0 ≤ (x5_3 : Int) := of_decide_eq_true (by first | (with_reducible assumption) | assumption)
               have q265 : x5_3 < (l0.length : Int) := of_decide_eq_true (by first | (with_reducible assumption) | assumption)
               obtain ⟨ad265, e265, hx265_0⟩ := Kd.at_string HR0.out x5_3 p265 q265
               cases e265
               replace p265 := eq_true p265
               replace q265 := eq_true q265
               go_wp2_with (first | ((with_reducible refine gate_callee (f := 33) rfl ?_); refine goesL_ (some 37) rfl rfl Tryd.func33 (by kernel_rfl) rfl #[.string (rdOf ByteArray.empty l0 x5_3)] rfl (by (try simp only [List.map_toArray, List.map_cons, List.map_nil]); first | done | rfl | (simp only [List.length_drop, List.length_take]; rfl)) ?_; (with_reducible refine (spec_l1Ended.calls k3 (rdOf ByteArray.empty l0 x5_3) t266 _ A9.out).mono ?_); rintro e w' ⟨rfl, ⟨nd, rfl⟩⟩; refine ⟨_, rfl, ?_⟩; have p267 : 0 ≤ (x5_3 : Int) := of_decide_eq_true (by first | (with_reducible assumption) | assumption); have q267 : x5_3 < (l0.length : Int) := of_decide_eq_true (by first | (with_reducible assumption) | assumption); obtain ⟨ad267, e267, hx267_0⟩ := Kd.at_string HR0.out x5_3 p267 q267; obtain rfl : ad265 = ad267 := (by injection e267); replace p267 := eq_true p267; replace q267 := eq_true q267; have p268 : 0 ≤ (x5_3 : Int) := of_decide_eq_true (by first | (with_reducible assumption) | assumption); have q268 : x5_3 < (l0.length : Int) := of_decide_eq_true (by first | (with_reducible assumption) | assumption); obtain ⟨ad268, e268, hx268_0⟩ := Kd.at_string HR0.out x5_3 p268 q268; obtain rfl : ad265 = ad268 := (by injection e268); replace p268 := eq_true p268; replace q268 := eq_true q268; have p269 : 0 ≤ (x5_3 : Int) := of_decide_eq_true (by first | (with_reducible assumption) | assumption); have q269 : x5_3 < (l0.length : Int) := of_decide_eq_true (by first | (with_reducible assumption) | assumption); obtain ⟨ad269, e269, hx269_0⟩ := Kd.at_string HR0.out x5_3 p269 q269; obtain rfl : ad265 = ad269 := (by injection e269); replace p269 := eq_true p269; replace q269 := eq_true q269))
               go_ret
               exact ⟨by first | rfl | (simp; done) | (simp [*]; done), by repeat (first | exact Drawn0.refl _ | apply Drawn0.step)⟩
              ·rw [if_neg c13] at H
               have c13b0 : decide (x5_3 < (wrap64 ((l0.length : Int) - 1))) = false := decide_eq_false c13
               clear c13
               have H' := Aside0.mk H
               clear H
               have p265 : 0 ≤ (x5_3 : Int) := of_decide_eq_true (by first | (with_reducible assumption) | assumption)
               have q265 : x5_3 < (l0.length : Int) := of_decide_eq_true (by first | (with_reducible assumption) | assumption)
               obtain ⟨ad265, e265, hx265_0⟩ := Kd.at_string HR0.out x5_3 p265 q265
               cases e265
               replace p265 := eq_true p265
               replace q265 := eq_true q265
               go_wp2_with (first | ((with_reducible refine gate_callee (f := 33) rfl ?_); refine goesL_ (some 37) rfl rfl Tryd.func33 (by kernel_rfl) rfl #[.string (rdOf ByteArray.empty l0 x5_3)] rfl (by (try simp only [List.map_toArray, List.map_cons, List.map_nil]); first | done | rfl | (simp only [List.length_drop, List.length_take]; rfl)) ?_; (with_reducible refine (spec_l1Ended.calls k3 (rdOf ByteArray.empty l0 x5_3) t266 _ A9.out).mono ?_); rintro e w' ⟨rfl, ⟨nd, rfl⟩⟩; refine ⟨_, rfl, ?_⟩; have p267 : 0 ≤ (x5_3 : Int) := of_decide_eq_true (by first | (with_reducible assumption) | assumption); have q267 : x5_3 < (l0.length : Int) := of_decide_eq_true (by first | (with_reducible assumption) | assumption); obtain ⟨ad267, e267, hx267_0⟩ := Kd.at_string HR0.out x5_3 p267 q267; obtain rfl : ad265 = ad267 := (by injection e267); replace p267 := eq_true p267; replace q267 := eq_true q267; have p268 : 0 ≤ (x5_3 : Int) := of_decide_eq_true (by first | (with_reducible assumption) | assumption); have q268 : x5_3 < (l0.length : Int) := of_decide_eq_true (by first | (with_reducible assumption) | assumption); obtain ⟨ad268, e268, hx268_0⟩ := Kd.at_string HR0.out x5_3 p268 q268; obtain rfl : ad265 = ad268 := (by injection e268); replace p268 := eq_true p268; replace q268 := eq_true q268; have p269 : 0 ≤ (x5_3 : Int) := of_decide_eq_true (by first | (with_reducible assumption) | assumption); have q269 : x5_3 < (l0.length : Int) := of_decide_eq_true (by first | (with_reducible assumption) | assumption); obtain ⟨ad269, e269, hx269_0⟩ := Kd.at_string HR0.out x5_3 p269 q269; obtain rfl : ad265 = ad269 := (by injection e269); replace p269 := eq_true p269; replace q269 := eq_true q269))
               go_roundg k3
               case measure => have := HK1.out; have := HJ3.out; have := HK3.out; omega
               case rel => exact ⟨(wrap64 (x5_3 + 1)), (by first | rfl | (simp; done) | (simp [*]; done)), H', ⟨by have := HK1.out; have := HJ3.out; have := HK3.out; omega⟩, by repeat (first | exact Drawn0.refl _ | apply Drawn0.step)⟩
             ·rw [if_neg c12] at H
              have c12b0 : (t266 == ((rdOf ByteArray.empty l0 x5_3).size : Int)) = false := beq_eq_false_iff_ne.mpr c12
              have c12b1 : (t266 != ((rdOf ByteArray.empty l0 x5_3).size : Int)) = true := bne_iff_ne.mpr c12
              have H' := Aside0.mk H
              clear H
              have p265 : 0 ≤ (x5_3 : Int) := of_decide_eq_true (by first | (with_reducible assumption) | assumption)
              have q265 : x5_3 < (l0.length : Int) := of_decide_eq_true (by first | (with_reducible assumption) | assumption)
              obtain ⟨ad265, e265, hx265_0⟩ := Kd.at_string HR0.out x5_3 p265 q265
              cases e265
              replace p265 := eq_true p265
              replace q265 := eq_true q265
              go_wp2_with (first | ((with_reducible refine gate_callee (f := 33) rfl ?_); refine goesL_ (some 37) rfl rfl Tryd.func33 (by kernel_rfl) rfl #[.string (rdOf ByteArray.empty l0 x5_3)] rfl (by (try simp only [List.map_toArray, List.map_cons, List.map_nil]); first | done | rfl | (simp only [List.length_drop, List.length_take]; rfl)) ?_; (with_reducible refine (spec_l1Ended.calls k3 (rdOf ByteArray.empty l0 x5_3) t266 _ A9.out).mono ?_); rintro e w' ⟨rfl, ⟨nd, rfl⟩⟩; refine ⟨_, rfl, ?_⟩; have p267 : 0 ≤ (x5_3 : Int) := of_decide_eq_true (by first | (with_reducible assumption) | assumption); have q267 : x5_3 < (l0.length : Int) := of_decide_eq_true (by first | (with_reducible assumption) | assumption); obtain ⟨ad267, e267, hx267_0⟩ := Kd.at_string HR0.out x5_3 p267 q267; obtain rfl : ad265 = ad267 := (by injection e267); replace p267 := eq_true p267; replace q267 := eq_true q267; have p268 : 0 ≤ (x5_3 : Int) := of_decide_eq_true (by first | (with_reducible assumption) | assumption); have q268 : x5_3 < (l0.length : Int) := of_decide_eq_true (by first | (with_reducible assumption) | assumption); obtain ⟨ad268, e268, hx268_0⟩ := Kd.at_string HR0.out x5_3 p268 q268; obtain rfl : ad265 = ad268 := (by injection e268); replace p268 := eq_true p268; replace q268 := eq_true q268; have p269 : 0 ≤ (x5_3 : Int) := of_decide_eq_true (by first | (with_reducible assumption) | assumption); have q269 : x5_3 < (l0.length : Int) := of_decide_eq_true (by first | (with_reducible assumption) | assumption); obtain ⟨ad269, e269, hx269_0⟩ := Kd.at_string HR0.out x5_3 p269 q269; obtain rfl : ad265 = ad269 := (by injection e269); replace p269 := eq_true p269; replace q269 := eq_true q269))
              go_roundg k3
              case measure => have := HK1.out; have := HJ3.out; have := HK3.out; omega
              case rel => exact ⟨(wrap64 (x5_3 + 1)), (by first | rfl | (simp; done) | (simp [*]; done)), H', ⟨by have := HK1.out; have := HJ3.out; have := HK3.out; omega⟩, by repeat (first | exact Drawn0.refl _ | apply Drawn0.step)⟩
          ·rw [if_neg c8] at H
           exact absurd H (by simp)
         ·rw [if_neg c7] at H
          have c7b0 : decide (x5_3 < (l0.length : Int)) = false := decide_eq_false c7
          clear c7
          obtain rfl := Option.some.inj H
          go_wp2
          go_ret
          exact ⟨by first | rfl | (simp; done) | (simp [*]; done), by repeat (first | exact Drawn0.refl _ | apply Drawn0.step)⟩
end Go.Proofs.YtacdkacjlekkgaaDoor.P
end
section
namespace Go.Proofs.YtacdkacjlekkgaaDoor.P
open Go.RowKit Go.Proofs.YtacdkacjlekkgaaDoorW.PrintWords Go.Proofs.YtacdkacjlekkgaaDoorW.PrintLast Go.Proofs.YtacdkacjlekkgaaDoorW.PrintMore
attribute [local go_sem] max2_int min2_int max_two min_two max_three min_three max_four min_four
set_option linter.unusedVariables false
set_option linter.unusedSimpArgs false
def slices_Equal_string_string.l0 : Nat → List ByteArray → List ByteArray → Int → Int → Option (Bool)
 | 0, _, _, _, _ => none
 | k + 1, x0, x1, x12, x13 => if x13 < x12 then (if 0 ≤ x13 then (if x13 < (x0.length : Int) then (if x13 < (x1.length : Int) then (if (rdOf ByteArray.empty x0 x13).toList = (rdOf ByteArray.empty x1 x13).toList then (slices_Equal_string_string.l0 k x0 x1 x12 (wrap64 (x13 + 1))) else (some false)) else (none)) else (none)) else (none)) else (some true)
def slices_Equal_string_string.f (k : Nat) (l0 : List ByteArray) (l1 : List ByteArray) : Option (Bool) := if (l0.length : Int) = (l1.length : Int) then (slices_Equal_string_string.l0 k l0 l1 (l0.length : Int) 0) else (some false)
set_option maxHeartbeats 8000000 in
set_option maxRecDepth 100000 in
theorem slices_Equal_string_string.calls (k : Nat) (A0 : Option Addr) (c0 : Nat) (l0 : List ByteArray) (A1 : Option Addr) (c1 : Nat) (l1 : List ByteArray) (r : Bool) (w : World) (hr0 : Kd.C Kd.string w A0 l0.length l0) (hc0 : l0.length ≤ c0) (hr1 : Kd.C Kd.string w A1 l1.length l1) (hc1 : l1.length ≤ c1) (h : slices_Equal_string_string.f k l0 l1 = some r) :
  Calls Tryd.prog 36 #[.slice A0 l0.length c0, .slice A1 l1.length c1] w fun e w' => e = .returned (.bool r) ∧ Drawn0 w w' := by
 have HR0 := Aside0.mk hr0
 have HC0 := Aside0.mk hc0
 clear hr0 hc0
 have HR1 := Aside0.mk hr1
 have HC1 := Aside0.mk hc1
 clear hr1 hc1
 have H : (if (l0.length : Int) = (l1.length : Int) then (slices_Equal_string_string.l0 k l0 l1 (l0.length : Int) 0) else (some false)) = some r := h
 clear h
 by_cases c3 : (l0.length : Int) = (l1.length : Int)
 ·rw [if_pos c3] at H
  have c3b0 : ((l0.length : Int) == (l1.length : Int)) = true := beq_iff_eq.mpr c3
  have c3b1 : ((l0.length : Int) != (l1.length : Int)) = false := bne_eq_false_iff_eq.mpr c3
  have c3b2 : (l0.length == l1.length) = true := by first | simpa using c3 | (simp at c3 ⊢; omega)
  clear c3
  have H' := Aside0.mk H
  clear H
  go_enter Tryd.func36, Tryd.ntmps36
  go_wp2
  repeat (go_quiet (fail); try go_wp2)
  go_loopg [13] k (fun kq v13 w' => ∃ (x13_1 : Int), v13 = .int .i64 x13_1 ∧ Aside0 (slices_Equal_string_string.l0 kq l0 l1 (l0.length : Int) x13_1 = some r) ∧ Aside0 (kq ≤ k) ∧ Drawn0 w w')
  case atStart => exact ⟨(0), (by first | rfl | (simp; done) | (simp [*]; done)), H', ⟨Nat.le_refl _⟩, by repeat (first | exact Drawn0.refl _ | apply Drawn0.step)⟩
  case round =>
   clear H'
   try clear c1
   try clear p2
   try clear c3
   try clear c3b0
   try clear c3b1
   try clear c3b2
   obtain ⟨x13_1, rfl, HA, HK1, ⟨m1, rfl⟩⟩ := hrel
   cases gk with
   | zero => exact absurd HA.out (by simp [slices_Equal_string_string.l0])
   | succ k1 =>
    have H := HA.out
    clear HA
    simp only [slices_Equal_string_string.l0] at H
    by_cases c4 : x13_1 < (l0.length : Int)
    ·rw [if_pos c4] at H
     have c4b0 : decide (x13_1 < (l0.length : Int)) = true := decide_eq_true c4
     clear c4
     by_cases c5 : 0 ≤ x13_1
     ·rw [if_pos c5] at H
      have c5b0 : decide (0 ≤ x13_1) = true := decide_eq_true c5
      clear c5
      by_cases c6 : x13_1 < (l0.length : Int)
      ·rw [if_pos c6] at H
       have c6b0 : decide (x13_1 < (l0.length : Int)) = true := decide_eq_true c6
       clear c6
       by_cases c7 : x13_1 < (l1.length : Int)
       ·rw [if_pos c7] at H
        have c7b0 : decide (x13_1 < (l1.length : Int)) = true := decide_eq_true c7
        clear c7
        by_cases c8 : (rdOf ByteArray.empty l0 x13_1).toList = (rdOf ByteArray.empty l1 x13_1).toList
        ·rw [if_pos c8] at H
         have c8b0 : ((rdOf ByteArray.empty l0 x13_1).toList == (rdOf ByteArray.empty l1 x13_1).toList) = true := beq_iff_eq.mpr c8
         have c8b1 : ((rdOf ByteArray.empty l0 x13_1).toList != (rdOf ByteArray.empty l1 x13_1).toList) = false := bne_eq_false_iff_eq.mpr c8
         clear c8
         have H' := Aside0.mk H
         clear H
         have p270 : 0 ≤ (x13_1 : Int) := of_decide_eq_true (by first | (with_reducible assumption) | assumption)
         have q270 : x13_1 < (l0.length : Int) := of_decide_eq_true (by first | (with_reducible assumption) | assumption)
         obtain ⟨ad270, e270, hx270_0⟩ := Kd.at_string HR0.out x13_1 p270 q270
         cases e270
         replace p270 := eq_true p270
         replace q270 := eq_true q270
         have p271 : 0 ≤ (x13_1 : Int) := of_decide_eq_true (by first | (with_reducible assumption) | assumption)
         have q271 : x13_1 < (l1.length : Int) := of_decide_eq_true (by first | (with_reducible assumption) | assumption)
         obtain ⟨ad271, e271, hx271_0⟩ := Kd.at_string HR1.out x13_1 p271 q271
         cases e271
         replace p271 := eq_true p271
         replace q271 := eq_true q271
         go_wp2
         repeat (go_quiet (fail); try go_wp2)
         go_roundg k1
         case measure => have := HK1.out; omega
         case rel => exact ⟨(wrap64 (x13_1 + 1)), (by first | rfl | (simp; done) | (simp [*]; done)), H', ⟨by have := HK1.out; omega⟩, by repeat (first | exact Drawn0.refl _ | apply Drawn0.step)⟩
        ·rw [if_neg c8] at H
         have c8b0 : ((rdOf ByteArray.empty l0 x13_1).toList == (rdOf ByteArray.empty l1 x13_1).toList) = false := beq_eq_false_iff_ne.mpr c8
         have c8b1 : ((rdOf ByteArray.empty l0 x13_1).toList != (rdOf ByteArray.empty l1 x13_1).toList) = true := bne_iff_ne.mpr c8
         obtain rfl := Option.some.inj H
         have p270 : 0 ≤ (x13_1 : Int) := of_decide_eq_true (by first | (with_reducible assumption) | assumption)
         have q270 : x13_1 < (l0.length : Int) := of_decide_eq_true (by first | (with_reducible assumption) | assumption)
         obtain ⟨ad270, e270, hx270_0⟩ := Kd.at_string HR0.out x13_1 p270 q270
         cases e270
         replace p270 := eq_true p270
         replace q270 := eq_true q270
         have p271 : 0 ≤ (x13_1 : Int) := of_decide_eq_true (by first | (with_reducible assumption) | assumption)
         have q271 : x13_1 < (l1.length : Int) := of_decide_eq_true (by first | (with_reducible assumption) | assumption)
         obtain ⟨ad271, e271, hx271_0⟩ := Kd.at_string HR1.out x13_1 p271 q271
         cases e271
         replace p271 := eq_true p271
         replace q271 := eq_true q271
         go_wp2
         repeat (go_quiet (fail); try go_wp2)
         go_ret
         exact ⟨by first | rfl | (simp; done) | (simp [*]; done), by repeat (first | exact Drawn0.refl _ | apply Drawn0.step)⟩
       ·rw [if_neg c7] at H
        exact absurd H (by simp)
      ·rw [if_neg c6] at H
       exact absurd H (by simp)
     ·rw [if_neg c5] at H
      exact absurd H (by simp)
    ·rw [if_neg c4] at H
     have c4b0 : decide (x13_1 < (l0.length : Int)) = false := decide_eq_false c4
     clear c4
     obtain rfl := Option.some.inj H
     go_wp2
     repeat (go_quiet (fail); try go_wp2)
     go_ret
     exact ⟨by first | rfl | (simp; done) | (simp [*]; done), by repeat (first | exact Drawn0.refl _ | apply Drawn0.step)⟩
 ·rw [if_neg c3] at H
  have c3b0 : ((l0.length : Int) == (l1.length : Int)) = false := beq_eq_false_iff_ne.mpr c3
  have c3b1 : ((l0.length : Int) != (l1.length : Int)) = true := bne_iff_ne.mpr c3
  have c3b2 : (l0.length == l1.length) = false := by first | simpa using c3 | (simp at c3 ⊢; omega)
  obtain rfl := Option.some.inj H
  go_enter Tryd.func36, Tryd.ntmps36
  go_wp2
  repeat (go_quiet (fail); try go_wp2)
  go_ret
  exact ⟨by first | rfl | (simp; done) | (simp [*]; done), by repeat (first | exact Drawn0.refl _ | apply Drawn0.step)⟩
end Go.Proofs.YtacdkacjlekkgaaDoor.P
end
section
namespace Go.Proofs.YtacdkacjlekkgaaDoor.P
open Go.RowKit Go.Proofs.YtacdkacjlekkgaaDoorW.PrintWords Go.Proofs.YtacdkacjlekkgaaDoorW.PrintLast Go.Proofs.YtacdkacjlekkgaaDoorW.PrintMore
attribute [local go_sem] max2_int min2_int max_two min_two max_three min_three max_four min_four
set_option linter.unusedVariables false
set_option linter.unusedSimpArgs false
def impl_SameLines.f (k : Nat) (l0 : List ByteArray) (l1 : List ByteArray) : Option (Bool) := (slices_Equal_string_string.f k l0 l1).bind fun t272 => (some t272)
set_option maxHeartbeats 8000000 in
set_option maxRecDepth 100000 in
theorem impl_SameLines.calls (k : Nat) (A0 : Option Addr) (c0 : Nat) (l0 : List ByteArray) (A1 : Option Addr) (c1 : Nat) (l1 : List ByteArray) (r : Bool) (w : World) (hr0 : Kd.C Kd.string w A0 l0.length l0) (hc0 : l0.length ≤ c0) (hr1 : Kd.C Kd.string w A1 l1.length l1) (hc1 : l1.length ≤ c1) (h : impl_SameLines.f k l0 l1 = some r) :
  Calls Tryd.prog 19 #[.slice A0 l0.length c0, .slice A1 l1.length c1] w fun e w' => e = .returned (.bool r) ∧ Drawn0 w w' := by
 have HR0 := Aside0.mk hr0
 have HC0 := Aside0.mk hc0
 clear hr0 hc0
 have HR1 := Aside0.mk hr1
 have HC1 := Aside0.mk hc1
 clear hr1 hc1
 have H : ((slices_Equal_string_string.f k l0 l1).bind fun t272 => (some t272)) = some r := h
 clear h
 replace H := Option.bind_eq_some_iff.mp H
 obtain ⟨t272, A30, H⟩ := H
 replace H : (some t272) = some r := H
 have A3 := Aside0.mk A30
 clear A30
 obtain rfl := Option.some.inj H
 go_enter Tryd.func19, Tryd.ntmps19
 go_wp2_with (first | ((with_reducible refine gate_callee (f := 36) rfl ?_); refine goesL_ (some 7) rfl rfl Tryd.func36 (by kernel_rfl) rfl #[.slice A0 l0.length c0, .slice A1 l1.length c1] rfl (by (try simp only [List.map_toArray, List.map_cons, List.map_nil]); first | done | rfl | (simp only [List.length_drop, List.length_take]; rfl)) ?_; (with_reducible refine (slices_Equal_string_string.calls k _ _ l0 _ _ l1 t272 _ ?side1 ?side2 ?side3 ?side4 A3.out).mono ?_); (case side1 => repeat (first | exact HR0.out | (with_reducible refine Kd.C_alloc ?_ _) | (with_reducible refine Kd.C_drewN ?_ _) | (with_reducible refine Kd.C_drew ?_))); (case side2 => exact HC0.out); (case side3 => repeat (first | exact HR1.out | (with_reducible refine Kd.C_alloc ?_ _) | (with_reducible refine Kd.C_drewN ?_ _) | (with_reducible refine Kd.C_drew ?_))); (case side4 => exact HC1.out); rintro e w' ⟨rfl, ⟨nd, rfl⟩⟩; refine ⟨_, rfl, ?_⟩))
 go_ret
 exact ⟨by first | rfl | (simp; done) | (simp [*]; done), by repeat (first | exact Drawn0.refl _ | apply Drawn0.step)⟩
end Go.Proofs.YtacdkacjlekkgaaDoor.P
end
section
namespace Go.Proofs.YtacdkacjlekkgaaDoor.P
open Go.RowKit Go.Proofs.YtacdkacjlekkgaaDoorW.PrintWords Go.Proofs.YtacdkacjlekkgaaDoorW.PrintLast Go.Proofs.YtacdkacjlekkgaaDoorW.PrintMore
attribute [local go_sem] max2_int min2_int max_two min_two max_three min_three max_four min_four
set_option linter.unusedVariables false
set_option linter.unusedSimpArgs false
def impl_DigestOf.l0 : Nat → ByteArray → Int → Int → Int → Option (Int)
 | 0, _, _, _, _ => none
 | k + 1, x0, x3, x6, x7 => if x7 < x6 then (if 0 ≤ x7 then (if x7 < (x0.size : Int) then (impl_DigestOf.l0 k x0 (Int.tmod (wrap64 ((wrap64 (x3 * 131)) + (wrap64 (bt x0 x7)))) 65521) x6 (wrap64 (x7 + 1))) else (none)) else (none)) else (some x3)
def impl_DigestOf.f (k : Nat) (a0 : ByteArray) : Option (Int) := impl_DigestOf.l0 k a0 7 (a0.size : Int) 0
set_option maxHeartbeats 8000000 in
set_option maxRecDepth 100000 in
theorem impl_DigestOf.calls (k : Nat) (a0 : ByteArray) (r : Int) (w : World) (h : impl_DigestOf.f k a0 = some r) :
  Calls Tryd.prog 20 #[.string a0] w fun e w' => e = .returned (.int .i64 r) ∧ Drawn0 w w' := by
 have H : (impl_DigestOf.l0 k a0 7 (a0.size : Int) 0) = some r := h
 clear h
 have H' := Aside0.mk H
 clear H
 go_enter Tryd.func20, Tryd.ntmps20
 go_wp2
 go_loopg [3, 7] k (fun kq v3 v7 w' => ∃ (x3_1 : Int) (x7_1 : Int), v3 = .int .i64 x3_1 ∧ v7 = .int .i64 x7_1 ∧ Aside0 (impl_DigestOf.l0 kq a0 x3_1 (a0.size : Int) x7_1 = some r) ∧ Aside0 (kq ≤ k) ∧ Drawn0 w w')
 case atStart => exact ⟨(7), (0), (by first | rfl | (simp; done) | (simp [*]; done)), (by first | rfl | (simp; done) | (simp [*]; done)), H', ⟨Nat.le_refl _⟩, by repeat (first | exact Drawn0.refl _ | apply Drawn0.step)⟩
 case round =>
  clear H'
  obtain ⟨x3_1, x7_1, rfl, rfl, HA, HK1, ⟨m1, rfl⟩⟩ := hrel
  cases gk with
  | zero => exact absurd HA.out (by simp [impl_DigestOf.l0])
  | succ k1 =>
   have H := HA.out
   clear HA
   simp only [impl_DigestOf.l0] at H
   by_cases c2 : x7_1 < (a0.size : Int)
   ·rw [if_pos c2] at H
    have c2b0 : decide (x7_1 < (a0.size : Int)) = true := decide_eq_true c2
    clear c2
    by_cases c3 : 0 ≤ x7_1
    ·rw [if_pos c3] at H
     have c3b0 : decide (0 ≤ x7_1) = true := decide_eq_true c3
     clear c3
     by_cases c4 : x7_1 < (a0.size : Int)
     ·rw [if_pos c4] at H
      have c4b0 : decide (x7_1 < (a0.size : Int)) = true := decide_eq_true c4
      clear c4
      have H' := Aside0.mk H
      clear H
      have p5 : 0 ≤ (x7_1 : Int) := of_decide_eq_true (by first | (with_reducible assumption) | assumption)
      have q5 : x7_1 < (a0.size : Int) := of_decide_eq_true (by first | (with_reducible assumption) | assumption)
      have hx5 := bt_at a0 x7_1
      replace p5 := eq_true p5
      replace q5 := eq_true q5
      go_wp2
      go_roundg k1
      case measure => have := HK1.out; omega
      case rel => exact ⟨(Int.tmod (wrap64 ((wrap64 (x3_1 * 131)) + (wrap64 (bt a0 x7_1)))) 65521), (wrap64 (x7_1 + 1)), (by first | rfl | (simp; done) | (simp [*]; done)), (by first | rfl | (simp; done) | (simp [*]; done)), H', ⟨by have := HK1.out; omega⟩, by repeat (first | exact Drawn0.refl _ | apply Drawn0.step)⟩
     ·rw [if_neg c4] at H
      exact absurd H (by simp)
    ·rw [if_neg c3] at H
     exact absurd H (by simp)
   ·rw [if_neg c2] at H
    have c2b0 : decide (x7_1 < (a0.size : Int)) = false := decide_eq_false c2
    clear c2
    obtain rfl := Option.some.inj H
    go_wp2
    go_ret
    exact ⟨by first | rfl | (simp; done) | (simp [*]; done), by repeat (first | exact Drawn0.refl _ | apply Drawn0.step)⟩
end Go.Proofs.YtacdkacjlekkgaaDoor.P
end
section
namespace Go.Proofs.YtacdkacjlekkgaaDoor.P
open Go.RowKit Go.Proofs.YtacdkacjlekkgaaDoorW.PrintWords Go.Proofs.YtacdkacjlekkgaaDoorW.PrintLast Go.Proofs.YtacdkacjlekkgaaDoorW.PrintMore
attribute [local go_sem] max2_int min2_int max_two min_two max_three min_three max_four min_four
set_option linter.unusedVariables false
set_option linter.unusedSimpArgs false
def spec_DigestOf.l0 : Nat → ByteArray → Int → Int → Option (Int)
 | 0, _, _, _ => none
 | k + 1, x0, x3, x4 => if x4 < (x0.size : Int) then (if 0 ≤ x4 then (spec_DigestOf.l0 k x0 (Int.tmod (wrap64 ((wrap64 (x3 * 131)) + (wrap64 (bt x0 x4)))) 65521) (wrap64 (x4 + 1))) else (none)) else (some x3)
def spec_DigestOf.f (k : Nat) (a0 : ByteArray) : Option (Int) := spec_DigestOf.l0 k a0 7 0
set_option maxHeartbeats 8000000 in
set_option maxRecDepth 100000 in
theorem spec_DigestOf.calls (k : Nat) (a0 : ByteArray) (r : Int) (w : World) (h : spec_DigestOf.f k a0 = some r) :
  Calls Tryd.prog 21 #[.string a0] w fun e w' => e = .returned (.int .i64 r) ∧ Drawn0 w w' := by
 have H : (spec_DigestOf.l0 k a0 7 0) = some r := h
 clear h
 have H' := Aside0.mk H
 clear H
 go_enter Tryd.func21, Tryd.ntmps21
 go_wp2
 go_loopg [3, 4] k (fun kq v3 v4 w' => ∃ (x3_1 : Int) (x4_1 : Int), v3 = .int .i64 x3_1 ∧ v4 = .int .i64 x4_1 ∧ Aside0 (spec_DigestOf.l0 kq a0 x3_1 x4_1 = some r) ∧ Aside0 (kq ≤ k) ∧ Drawn0 w w')
 case atStart => exact ⟨(7), (0), (by first | rfl | (simp; done) | (simp [*]; done)), (by first | rfl | (simp; done) | (simp [*]; done)), H', ⟨Nat.le_refl _⟩, by repeat (first | exact Drawn0.refl _ | apply Drawn0.step)⟩
 case round =>
  clear H'
  obtain ⟨x3_1, x4_1, rfl, rfl, HA, HK1, ⟨m1, rfl⟩⟩ := hrel
  cases gk with
  | zero => exact absurd HA.out (by simp [spec_DigestOf.l0])
  | succ k1 =>
   have H := HA.out
   clear HA
   simp only [spec_DigestOf.l0] at H
   by_cases c2 : x4_1 < (a0.size : Int)
   ·rw [if_pos c2] at H
    have c2b0 : decide (x4_1 < (a0.size : Int)) = true := decide_eq_true c2
    clear c2
    by_cases c3 : 0 ≤ x4_1
    ·rw [if_pos c3] at H
     have c3b0 : decide (0 ≤ x4_1) = true := decide_eq_true c3
     clear c3
     have H' := Aside0.mk H
     clear H
     have p4 : 0 ≤ (x4_1 : Int) := of_decide_eq_true (by first | (with_reducible assumption) | assumption)
     have q4 : x4_1 < (a0.size : Int) := of_decide_eq_true (by first | (with_reducible assumption) | assumption)
     have hx4 := bt_at a0 x4_1
     replace p4 := eq_true p4
     replace q4 := eq_true q4
     go_wp2
     go_roundg k1
     case measure => have := HK1.out; omega
     case rel => exact ⟨(Int.tmod (wrap64 ((wrap64 (x3_1 * 131)) + (wrap64 (bt a0 x4_1)))) 65521), (wrap64 (x4_1 + 1)), (by first | rfl | (simp; done) | (simp [*]; done)), (by first | rfl | (simp; done) | (simp [*]; done)), H', ⟨by have := HK1.out; omega⟩, by repeat (first | exact Drawn0.refl _ | apply Drawn0.step)⟩
    ·rw [if_neg c3] at H
     exact absurd H (by simp)
   ·rw [if_neg c2] at H
    have c2b0 : decide (x4_1 < (a0.size : Int)) = false := decide_eq_false c2
    clear c2
    obtain rfl := Option.some.inj H
    go_wp2
    go_ret
    exact ⟨by first | rfl | (simp; done) | (simp [*]; done), by repeat (first | exact Drawn0.refl _ | apply Drawn0.step)⟩
end Go.Proofs.YtacdkacjlekkgaaDoor.P
end
section
namespace Go.Proofs.YtacdkacjlekkgaaDoor.P
open Go.RowKit Go.Proofs.YtacdkacjlekkgaaDoorW.PrintWords Go.Proofs.YtacdkacjlekkgaaDoorW.PrintLast Go.Proofs.YtacdkacjlekkgaaDoorW.PrintMore
attribute [local go_sem] max2_int min2_int max_two min_two max_three min_three max_four min_four
set_option linter.unusedVariables false
set_option linter.unusedSimpArgs false
def spec_l1Split.l0 : Nat → ByteArray → List ByteArray → Int → Int → Option (List ByteArray)
 | 0, _, _, _, _ => none
 | k + 1, x0, x3, x4, x5 => if x5 < (x0.size : Int) then (if 0 ≤ x5 then (if (bt x0 x5) = 10 then (if 0 ≤ x4 then (if x4 ≤ (wrap64 (x5 + 1)) then (if (wrap64 (x5 + 1)) ≤ (x0.size : Int) then (if x3.length < 8796093022208 then (spec_l1Split.l0 k x0 (x3 ++ [x0.extract (x4 : Int).toNat ((wrap64 (x5 + 1)) : Int).toNat]) (wrap64 (x5 + 1)) (wrap64 (x5 + 1))) else (none)) else (none)) else (none)) else (none)) else (spec_l1Split.l0 k x0 x3 x4 (wrap64 (x5 + 1)))) else (none)) else (if x4 < (x0.size : Int) then (if 0 ≤ x4 then (if x4 ≤ (x0.size : Int) then (if x3.length < 8796093022208 then (some (x3 ++ [x0.extract (x4 : Int).toNat x0.size])) else (none)) else (none)) else (none)) else (some x3))
def spec_l1Split.f (k : Nat) (a0 : ByteArray) : Option (List ByteArray) := spec_l1Split.l0 k a0 (([] : List ByteArray)) 0 0
set_option maxHeartbeats 8000000 in
set_option maxRecDepth 100000 in
theorem spec_l1Split.calls (k : Nat) (a0 : ByteArray) (r : List ByteArray) (w : World) (h : spec_l1Split.f k a0 = some r) :
  Calls Tryd.prog 22 #[.string a0] w fun e w' => ∃ v0_ : Value, e = .returned (v0_) ∧ Kd.R Kd.string 9 w' w.heap.size (fun _ => True) v0_ r ∧ Below w.heap.size w w' := by
 have HB := Aside0.mk (Below.refl w.heap.size w)
 have H : (spec_l1Split.l0 k a0 (([] : List ByteArray)) 0 0) = some r := h
 clear h
 obtain ⟨y101, hy101⟩ : ∃ y_ : List ByteArray, y_ = (([] : List ByteArray)) := ⟨_, rfl⟩
 replace H : (spec_l1Split.l0 k a0 y101 0 0) = some r := by first | (rw [hy101]; with_reducible exact H) | (have H2_ := (Option.bind_some _ _).symm.trans H; rw [hy101]; with_reducible exact H2_) | (have H2_ := (Option.bind_some _ _).symm.trans H; with_reducible exact H2_) | with_reducible exact H | (rw [hy101]; exact H) | exact H
 have Ny101 := Aside0.mk hy101
 clear hy101
 have H' := Aside0.mk H
 clear H
 go_enter Tryd.func22, Tryd.ntmps22
 go_wp2_with (first | ((with_reducible refine gate_dst (N := 6) rfl ?_); refine Kd.R_lit Kd.string _ 9 ?hg (N := 6) ?hd (xs := ([] : List ByteArray)) (inner := []) (ok := fun _ => True) (okp := fun _ => True) ?hr ?hp (fun _ hk => hk) trivial (Below.refl _ _) (Nat.le_refl _) (by simp) ?_; (case hd => rfl); (case hg => rfl); (case hr => first | (go_simp; done) | (go_simp; rfl)); (case hp => exact (Reps.none _ _)); intro v102 w2 ho3 hb hg_ hnew_; clear hg_ hnew_; (first | rw [← Ny101.out] at ho3 | (simp only [Int.reduceToNat] at ho3; rw [← Ny101.out] at ho3)); have n0_ := Aside0.mk (Kd.R_lower ho3 (below_size (by repeat (first | (with_reducible first | exact HB.out | apply below_alloc | apply pw_below_drewN | apply below_drew1) | exact HB.out)))); have n1_ := Aside0.mk (below_step (by repeat (first | (with_reducible first | exact HB.out | apply below_alloc | apply pw_below_drewN | apply below_drew1) | exact HB.out)) hb); clear HB; have HO103 := n0_; have HB := n1_; clear n0_ n1_; clear hb ho3))
 go_loopg [3, 4, 5] k (fun kq v3 v4 v5 w' => ∃ (x3_1 : List ByteArray) (x4_1 : Int) (x5_1 : Int), v4 = .int .i64 x4_1 ∧ v5 = .int .i64 x5_1 ∧ Aside0 (spec_l1Split.l0 kq a0 x3_1 x4_1 x5_1 = some r) ∧ Aside0 (kq ≤ k) ∧ Aside0 (Kd.R Kd.string 9 w' w.heap.size (fun _ => True) v3 x3_1) ∧ Aside0 (Below w.heap.size w w'))
 case atStart => exact ⟨(y101), (0), (0), (by first | rfl | (simp; done) | (simp [*]; done)), (by first | rfl | (simp; done) | (simp [*]; done)), H', ⟨Nat.le_refl _⟩, ⟨by (with_reducible repeat (first | apply Kd.R_alloc | apply Kd.R_drewN | apply Kd.R_drew)); exact HO103.out⟩, ⟨by repeat (first | (with_reducible first | exact HB.out | apply below_alloc | apply pw_below_drewN | apply below_drew1) | exact HB.out)⟩⟩
 case round =>
  clear H'
  try clear c2
  try clear p2
  obtain ⟨x3_1, x4_1, x5_1, rfl, rfl, HA, HK1, HO_3, HB⟩ := hrel
  cases gk with
  | zero => exact absurd HA.out (by simp [spec_l1Split.l0])
  | succ k1 =>
   have H := HA.out
   clear HA
   simp only [spec_l1Split.l0] at H
   by_cases c4 : x5_1 < (a0.size : Int)
   ·rw [if_pos c4] at H
    have c4b0 : decide (x5_1 < (a0.size : Int)) = true := decide_eq_true c4
    clear c4
    by_cases c5 : 0 ≤ x5_1
    ·rw [if_pos c5] at H
     have c5b0 : decide (0 ≤ x5_1) = true := decide_eq_true c5
     clear c5
     by_cases c7 : (bt a0 x5_1) = 10
     ·rw [if_pos c7] at H
      have c7b0 : ((bt a0 x5_1) == 10) = true := beq_iff_eq.mpr c7
      have c7b1 : ((bt a0 x5_1) != 10) = false := bne_eq_false_iff_eq.mpr c7
      clear c7
      by_cases c8 : 0 ≤ x4_1
      ·rw [if_pos c8] at H
       have c8b0 := eq_true c8
       have c8b1 : decide (0 ≤ x4_1) = true := decide_eq_true c8
       clear c8
       by_cases c9 : x4_1 ≤ (wrap64 (x5_1 + 1))
       ·rw [if_pos c9] at H
        have c9b0 := eq_true c9
        have c9b1 : decide (x4_1 ≤ (wrap64 (x5_1 + 1))) = true := decide_eq_true c9
        by_cases c10 : (wrap64 (x5_1 + 1)) ≤ (a0.size : Int)
        ·rw [if_pos c10] at H
         have c10b0 := eq_true c10
         have c10b1 : decide ((wrap64 (x5_1 + 1)) ≤ (a0.size : Int)) = true := decide_eq_true c10
         by_cases c11 : x3_1.length < 8796093022208
         ·rw [if_pos c11] at H
          have LMc11 := Aside0.mk c11
          clear c11
          obtain ⟨y104, hy104⟩ : ∃ y_ : List ByteArray, y_ = (x3_1 ++ [a0.extract (x4_1 : Int).toNat ((wrap64 (x5_1 + 1)) : Int).toNat]) := ⟨_, rfl⟩
          replace H : (spec_l1Split.l0 k1 a0 y104 (wrap64 (x5_1 + 1)) (wrap64 (x5_1 + 1))) = some r := by first | (rw [hy104]; with_reducible exact H) | (have H2_ := (Option.bind_some _ _).symm.trans H; rw [hy104]; with_reducible exact H2_) | (have H2_ := (Option.bind_some _ _).symm.trans H; with_reducible exact H2_) | with_reducible exact H | (rw [hy104]; exact H) | exact H
          have Ny104 := Aside0.mk hy104
          clear hy104
          have H' := Aside0.mk H
          clear H
          have p6 : 0 ≤ (x5_1 : Int) := of_decide_eq_true (by first | (with_reducible assumption) | assumption)
          have q6 : x5_1 < (a0.size : Int) := of_decide_eq_true (by first | (with_reducible assumption) | assumption)
          have hx6 := bt_at a0 x5_1
          replace p6 := eq_true p6
          replace q6 := eq_true q6
          go_wp2_with (first | ((with_reducible refine gate_builtin (b := .append) (xs := #[.tmp 17, .tmp 23]) rfl ?_); at_builtin; refine Kd.R_append Kd.string (w0 := w) w.heap.size rfl (.tmp 17) (.tmp 23) 24 9 (.string ⟨#[]⟩) 16 rfl Tryd.underlying24 info9 rfl (by decide) (by omega) u3 x3_1 (a0.extract (x4_1 : Int).toNat ((wrap64 (x5_1 + 1)) : Int).toNat) [.string (a0.extract (x4_1 : Int).toNat ((wrap64 (x5_1 + 1)) : Int).toNat)] (fun _ => True) (fun _ => False) rfl rfl ?aP (fun _ hk => hk.elim) ?aF ?aO ?aB ?aS ?aL ?_; (case aP => exact rfl); (case aB => exact (by repeat (first | (with_reducible first | exact HB.out | apply below_alloc | apply pw_below_drewN | apply below_drew1) | exact HB.out))); (case aF => exact (fun _ _ => trivial)); (case aO => exact (by (with_reducible repeat (first | apply Kd.R_alloc | apply Kd.R_drewN | apply Kd.R_drew)); exact HO_3.out)); (case aS => exact (below_size (by repeat (first | (with_reducible first | exact HB.out | apply below_alloc | apply pw_below_drewN | apply below_drew1) | exact HB.out)))); (case aL => have := LMc11.out; omega); intro v105 w12 ho hb hg hat; rw [← Ny104.out] at ho; have n0_ := Aside0.mk (hb); have n1_ := Aside0.mk (ho); clear HB; clear HO_3; have HB := n0_; have HO106 := n1_; clear n0_ n1_; clear ho hb hg hat))
          go_roundg k1
          case measure => have := HK1.out; omega
          case rel => exact ⟨(y104), (wrap64 (x5_1 + 1)), (wrap64 (x5_1 + 1)), (by first | rfl | (simp; done) | (simp [*]; done)), (by first | rfl | (simp; done) | (simp [*]; done)), H', ⟨by have := HK1.out; omega⟩, ⟨by (with_reducible repeat (first | apply Kd.R_alloc | apply Kd.R_drewN | apply Kd.R_drew)); exact HO106.out⟩, ⟨by repeat (first | (with_reducible first | exact HB.out | apply below_alloc | apply pw_below_drewN | apply below_drew1) | exact HB.out)⟩⟩
         ·rw [if_neg c11] at H
          exact absurd H (by simp)
        ·rw [if_neg c10] at H
         exact absurd H (by simp)
       ·rw [if_neg c9] at H
        exact absurd H (by simp)
      ·rw [if_neg c8] at H
       exact absurd H (by simp)
     ·rw [if_neg c7] at H
      have c7b0 : ((bt a0 x5_1) == 10) = false := beq_eq_false_iff_ne.mpr c7
      have c7b1 : ((bt a0 x5_1) != 10) = true := bne_iff_ne.mpr c7
      have H' := Aside0.mk H
      clear H
      have p6 : 0 ≤ (x5_1 : Int) := of_decide_eq_true (by first | (with_reducible assumption) | assumption)
      have q6 : x5_1 < (a0.size : Int) := of_decide_eq_true (by first | (with_reducible assumption) | assumption)
      have hx6 := bt_at a0 x5_1
      replace p6 := eq_true p6
      replace q6 := eq_true q6
      go_wp2
      go_roundg k1
      case measure => have := HK1.out; omega
      case rel => exact ⟨(x3_1), (x4_1), (wrap64 (x5_1 + 1)), (by first | rfl | (simp; done) | (simp [*]; done)), (by first | rfl | (simp; done) | (simp [*]; done)), H', ⟨by have := HK1.out; omega⟩, ⟨by (with_reducible repeat (first | apply Kd.R_alloc | apply Kd.R_drewN | apply Kd.R_drew)); exact HO_3.out⟩, ⟨by repeat (first | (with_reducible first | exact HB.out | apply below_alloc | apply pw_below_drewN | apply below_drew1) | exact HB.out)⟩⟩
    ·rw [if_neg c5] at H
     exact absurd H (by simp)
   ·rw [if_neg c4] at H
    have c4b0 : decide (x5_1 < (a0.size : Int)) = false := decide_eq_false c4
    clear c4
    by_cases c13 : x4_1 < (a0.size : Int)
    ·rw [if_pos c13] at H
     have c13b0 : decide (x4_1 < (a0.size : Int)) = true := decide_eq_true c13
     clear c13
     by_cases c14 : 0 ≤ x4_1
     ·rw [if_pos c14] at H
      have c14b0 := eq_true c14
      have c14b1 : decide (0 ≤ x4_1) = true := decide_eq_true c14
      clear c14
      by_cases c15 : x4_1 ≤ (a0.size : Int)
      ·rw [if_pos c15] at H
       have c15b0 := eq_true c15
       have c15b1 : decide (x4_1 ≤ (a0.size : Int)) = true := decide_eq_true c15
       clear c15
       by_cases c16 : x3_1.length < 8796093022208
       ·rw [if_pos c16] at H
        have LMc16 := Aside0.mk c16
        clear c16
        obtain ⟨y107, hy107⟩ : ∃ y_ : List ByteArray, y_ = (x3_1 ++ [a0.extract (x4_1 : Int).toNat a0.size]) := ⟨_, rfl⟩
        replace H : (some y107) = some r := by first | (rw [hy107]; with_reducible exact H) | (have H2_ := (Option.bind_some _ _).symm.trans H; rw [hy107]; with_reducible exact H2_) | (have H2_ := (Option.bind_some _ _).symm.trans H; with_reducible exact H2_) | with_reducible exact H | (rw [hy107]; exact H) | exact H
        have Ny107 := Aside0.mk hy107
        clear hy107
        obtain rfl := Option.some.inj H
        go_wp2_with (first | ((with_reducible refine gate_builtin (b := .append) (xs := #[.tmp 31, .tmp 35]) rfl ?_); at_builtin; refine Kd.R_append Kd.string (w0 := w) w.heap.size rfl (.tmp 31) (.tmp 35) 24 9 (.string ⟨#[]⟩) 16 rfl Tryd.underlying24 info9 rfl (by decide) (by omega) u3 x3_1 (a0.extract (x4_1 : Int).toNat a0.size) [.string (a0.extract (x4_1 : Int).toNat a0.size)] (fun _ => True) (fun _ => False) rfl rfl ?aP (fun _ hk => hk.elim) ?aF ?aO ?aB ?aS ?aL ?_; (case aP => exact rfl); (case aB => exact (by repeat (first | (with_reducible first | exact HB.out | apply below_alloc | apply pw_below_drewN | apply below_drew1) | exact HB.out))); (case aF => exact (fun _ _ => trivial)); (case aO => exact (by (with_reducible repeat (first | apply Kd.R_alloc | apply Kd.R_drewN | apply Kd.R_drew)); exact HO_3.out)); (case aS => exact (below_size (by repeat (first | (with_reducible first | exact HB.out | apply below_alloc | apply pw_below_drewN | apply below_drew1) | exact HB.out)))); (case aL => have := LMc16.out; omega); intro v108 w17 ho hb hg hat; rw [← Ny107.out] at ho; have n0_ := Aside0.mk (hb); have n1_ := Aside0.mk (ho); clear HB; clear HO_3; have HB := n0_; have HO109 := n1_; clear n0_ n1_; clear ho hb hg hat))
        go_ret
        exact ⟨_, by first | rfl | (simp [errW_none, errW_some] <;> rfl) | (simp [*, errW_none, errW_some] <;> rfl), by (with_reducible repeat (first | apply Kd.R_alloc | apply Kd.R_drewN | apply Kd.R_drew)); exact HO109.out, by repeat (first | (with_reducible first | exact HB.out | apply below_alloc | apply pw_below_drewN | apply below_drew1) | exact HB.out)⟩
       ·rw [if_neg c16] at H
        exact absurd H (by simp)
      ·rw [if_neg c15] at H
       exact absurd H (by simp)
     ·rw [if_neg c14] at H
      exact absurd H (by simp)
    ·rw [if_neg c13] at H
     have c13b0 : decide (x4_1 < (a0.size : Int)) = false := decide_eq_false c13
     clear c13
     obtain rfl := Option.some.inj H
     go_wp2
     go_ret
     exact ⟨_, by first | rfl | (simp [errW_none, errW_some] <;> rfl) | (simp [*, errW_none, errW_some] <;> rfl), by (with_reducible repeat (first | apply Kd.R_alloc | apply Kd.R_drewN | apply Kd.R_drew)); exact HO_3.out, by repeat (first | (with_reducible first | exact HB.out | apply below_alloc | apply pw_below_drewN | apply below_drew1) | exact HB.out)⟩
end Go.Proofs.YtacdkacjlekkgaaDoor.P
end
section
namespace Go.Proofs.YtacdkacjlekkgaaDoor.P
open Go.RowKit Go.Proofs.YtacdkacjlekkgaaDoorW.PrintWords Go.Proofs.YtacdkacjlekkgaaDoorW.PrintLast Go.Proofs.YtacdkacjlekkgaaDoorW.PrintMore
attribute [local go_sem] max2_int min2_int max_two min_two max_three min_three max_four min_four
set_option linter.unusedVariables false
set_option linter.unusedSimpArgs false
def spec_TextFault.f (k : Nat) (a0 : ByteArray) : Option (Int) := if (a0.size : Int) > 2000 then (some 2) else ((spec_l1Split.f k a0).bind fun t110 => (if (t110.length : Int) > 100 then (some 2) else (some 0)))
set_option maxHeartbeats 8000000 in
set_option maxRecDepth 100000 in
theorem spec_TextFault.calls (k : Nat) (a0 : ByteArray) (r : Int) (w : World) (h : spec_TextFault.f k a0 = some r) :
  Calls Tryd.prog 6 #[.string a0] w fun e w' => e = .returned (.int .i64 r) ∧ Below w.heap.size w w' := by
 have HB := Aside0.mk (Below.refl w.heap.size w)
 have H : (if (a0.size : Int) > 2000 then (some 2) else ((spec_l1Split.f k a0).bind fun t110 => (if (t110.length : Int) > 100 then (some 2) else (some 0)))) = some r := h
 clear h
 by_cases c2 : (a0.size : Int) > 2000
 ·rw [if_pos c2] at H
  have c2b0 : decide (2000 < (a0.size : Int)) = true := decide_eq_true c2
  have c2b1 : decide (2000 < a0.size) = true := decide_eq_true (by omega)
  clear c2
  obtain rfl := Option.some.inj H
  go_enter Tryd.func6, Tryd.ntmps6
  go_wp2
  go_ret
  exact ⟨by first | rfl | (simp [errW_none, errW_some] <;> rfl) | (simp [*, errW_none, errW_some] <;> rfl), by repeat (first | (with_reducible first | exact HB.out | apply below_alloc | apply pw_below_drewN | apply below_drew1) | exact HB.out)⟩
 ·rw [if_neg c2] at H
  have c2b0 : decide (2000 < (a0.size : Int)) = false := decide_eq_false c2
  have c2b1 : decide (2000 < a0.size) = false := decide_eq_false (by omega)
  clear c2
  replace H := Option.bind_eq_some_iff.mp H
  obtain ⟨t110, A30, H⟩ := H
  replace H : (if (t110.length : Int) > 100 then (some 2) else (some 0)) = some r := H
  have A3 := Aside0.mk A30
  clear A30
  by_cases c4 : (t110.length : Int) > 100
  ·rw [if_pos c4] at H
   have c4b0 : decide (100 < (t110.length : Int)) = true := decide_eq_true c4
   have c4b1 : decide (100 < t110.length) = true := decide_eq_true (by omega)
   clear c4
   obtain rfl := Option.some.inj H
   go_enter Tryd.func6, Tryd.ntmps6
   go_wp2_with (first | (go_at_call 22; (with_reducible refine (spec_l1Split.calls k a0 t110 _ A3.out).mono ?_); rintro e w5 ⟨v111, rfl, ho0, hb⟩; have n0_ := Aside0.mk (Kd.R_lower ho0 (below_size (by repeat (first | (with_reducible first | exact HB.out | apply below_alloc | apply pw_below_drewN | apply below_drew1) | exact HB.out)))); have n1_ := Aside0.mk (below_step (by repeat (first | (with_reducible first | exact HB.out | apply below_alloc | apply pw_below_drewN | apply below_drew1) | exact HB.out)) hb); clear HB; have HO112 := n0_; have HB := n1_; clear n0_ n1_; (try clear hb); (try clear hb2); (try clear hk); (try clear hi); (try clear ho0); obtain ⟨Ao6, co6, eo6⟩ := Kd.R_slice HO112.out; subst eo6))
   go_ret
   exact ⟨by first | rfl | (simp [errW_none, errW_some] <;> rfl) | (simp [*, errW_none, errW_some] <;> rfl), by repeat (first | (with_reducible first | exact HB.out | apply below_alloc | apply pw_below_drewN | apply below_drew1) | exact HB.out)⟩
  ·rw [if_neg c4] at H
   have c4b0 : decide (100 < (t110.length : Int)) = false := decide_eq_false c4
   have c4b1 : decide (100 < t110.length) = false := decide_eq_false (by omega)
   clear c4
   obtain rfl := Option.some.inj H
   go_enter Tryd.func6, Tryd.ntmps6
   go_wp2_with (first | (go_at_call 22; (with_reducible refine (spec_l1Split.calls k a0 t110 _ A3.out).mono ?_); rintro e w7 ⟨v111, rfl, ho0, hb⟩; have n0_ := Aside0.mk (Kd.R_lower ho0 (below_size (by repeat (first | (with_reducible first | exact HB.out | apply below_alloc | apply pw_below_drewN | apply below_drew1) | exact HB.out)))); have n1_ := Aside0.mk (below_step (by repeat (first | (with_reducible first | exact HB.out | apply below_alloc | apply pw_below_drewN | apply below_drew1) | exact HB.out)) hb); clear HB; have HO112 := n0_; have HB := n1_; clear n0_ n1_; (try clear hb); (try clear hb2); (try clear hk); (try clear hi); (try clear ho0); obtain ⟨Ao8, co8, eo8⟩ := Kd.R_slice HO112.out; subst eo8))
   go_ret
   exact ⟨by first | rfl | (simp [errW_none, errW_some] <;> rfl) | (simp [*, errW_none, errW_some] <;> rfl), by repeat (first | (with_reducible first | exact HB.out | apply below_alloc | apply pw_below_drewN | apply below_drew1) | exact HB.out)⟩
end Go.Proofs.YtacdkacjlekkgaaDoor.P
end
section
namespace Go.Proofs.YtacdkacjlekkgaaDoor.P
open Go.RowKit Go.Proofs.YtacdkacjlekkgaaDoorW.PrintWords Go.Proofs.YtacdkacjlekkgaaDoorW.PrintLast Go.Proofs.YtacdkacjlekkgaaDoorW.PrintMore
attribute [local go_sem] max2_int min2_int max_two min_two max_three min_three max_four min_four
set_option linter.unusedVariables false
set_option linter.unusedSimpArgs false
def strings_SplitAfter.f (a0 : ByteArray) (a1 : ByteArray) : Option (List ByteArray) := (strings_genSplit.f a0 a1 (a1.size : Int) (-1)).bind fun t113 => (some t113)
set_option maxHeartbeats 8000000 in
set_option maxRecDepth 100000 in
theorem strings_SplitAfter.calls (a0 : ByteArray) (a1 : ByteArray) (r : List ByteArray) (w : World) (h : strings_SplitAfter.f a0 a1 = some r) :
  Calls Tryd.prog 37 #[.string a0, .string a1] w fun e w' => ∃ v0_ : Value, e = .returned (v0_) ∧ Kd.R Kd.string 9 w' w.heap.size (fun _ => True) v0_ r ∧ Below w.heap.size w w' := by
 have HB := Aside0.mk (Below.refl w.heap.size w)
 have H : ((strings_genSplit.f a0 a1 (a1.size : Int) (-1)).bind fun t113 => (some t113)) = some r := h
 clear h
 replace H := Option.bind_eq_some_iff.mp H
 obtain ⟨t113, A30, H⟩ := H
 replace H : (some t113) = some r := H
 have A3 := Aside0.mk A30
 clear A30
 obtain rfl := Option.some.inj H
 go_enter Tryd.func37, Tryd.ntmps37
 go_wp2_with (first | ((with_reducible refine gate_callee (f := 47) rfl ?_); refine goesL_ (some 9) rfl rfl Tryd.func47 (by kernel_rfl) rfl #[.string a0, .string a1, .int .i64 (a1.size : Int), .int .i64 (-1)] rfl (by (try simp only [List.map_toArray, List.map_cons, List.map_nil]); first | done | rfl | (simp only [List.length_drop, List.length_take]; rfl)) ?_; (with_reducible refine (strings_genSplit.calls a0 a1 (a1.size : Int) (-1) t113 _ A3.out).mono ?_); rintro e w4 ⟨v114, rfl, ho0, hb⟩; refine ⟨_, rfl, ?_⟩; have n0_ := Aside0.mk (Kd.R_lower ho0 (below_size (by repeat (first | (with_reducible first | exact HB.out | apply below_alloc | apply pw_below_drewN | apply below_drew1) | exact HB.out)))); have n1_ := Aside0.mk (below_step (by repeat (first | (with_reducible first | exact HB.out | apply below_alloc | apply pw_below_drewN | apply below_drew1) | exact HB.out)) hb); clear HB; have HO115 := n0_; have HB := n1_; clear n0_ n1_; (try clear hb); (try clear hb2); (try clear hk); (try clear hi); (try clear ho0)))
 go_ret
 exact ⟨_, by first | rfl | (simp [errW_none, errW_some] <;> rfl) | (simp [*, errW_none, errW_some] <;> rfl), by (with_reducible repeat (first | apply Kd.R_alloc | apply Kd.R_drewN | apply Kd.R_drew)); exact HO115.out, by repeat (first | (with_reducible first | exact HB.out | apply below_alloc | apply pw_below_drewN | apply below_drew1) | exact HB.out)⟩
end Go.Proofs.YtacdkacjlekkgaaDoor.P
end
section
namespace Go.Proofs.YtacdkacjlekkgaaDoor.P
open Go.RowKit Go.Proofs.YtacdkacjlekkgaaDoorW.PrintWords Go.Proofs.YtacdkacjlekkgaaDoorW.PrintLast Go.Proofs.YtacdkacjlekkgaaDoorW.PrintMore
attribute [local go_sem] max2_int min2_int max_two min_two max_three min_three max_four min_four
set_option linter.unusedVariables false
set_option linter.unusedSimpArgs false
def impl_linesOf.f (a0 : ByteArray) : Option (List ByteArray) := (strings_SplitAfter.f a0 (⟨#[10]⟩ : ByteArray)).bind fun t116 => (if 0 ≤ (wrap64 ((t116.length : Int) - 1)) then (if (wrap64 ((t116.length : Int) - 1)) < (t116.length : Int) then (if (rdOf ByteArray.empty t116 (wrap64 ((t116.length : Int) - 1))).toList = ([] : List UInt8) then (if (wrap64 ((t116.length : Int) - 1)) ≤ (t116.length : Int) then (some (t116.take ((wrap64 ((t116.length : Int) - 1)) : Int).toNat)) else (none)) else (some t116)) else (none)) else (none))
set_option maxHeartbeats 8000000 in
set_option maxRecDepth 100000 in
theorem impl_linesOf.calls (a0 : ByteArray) (r : List ByteArray) (w : World) (h : impl_linesOf.f a0 = some r) :
  Calls Tryd.prog 23 #[.string a0] w fun e w' => ∃ v0_ : Value, e = .returned (v0_) ∧ Kd.R Kd.string 9 w' w.heap.size (fun _ => True) v0_ r ∧ Below w.heap.size w w' := by
 have HB := Aside0.mk (Below.refl w.heap.size w)
 have H : ((strings_SplitAfter.f a0 (⟨#[10]⟩ : ByteArray)).bind fun t116 => (if 0 ≤ (wrap64 ((t116.length : Int) - 1)) then (if (wrap64 ((t116.length : Int) - 1)) < (t116.length : Int) then (if (rdOf ByteArray.empty t116 (wrap64 ((t116.length : Int) - 1))).toList = ([] : List UInt8) then (if (wrap64 ((t116.length : Int) - 1)) ≤ (t116.length : Int) then (some (t116.take ((wrap64 ((t116.length : Int) - 1)) : Int).toNat)) else (none)) else (some t116)) else (none)) else (none))) = some r := h
 clear h
 replace H := Option.bind_eq_some_iff.mp H
 obtain ⟨t116, A20, H⟩ := H
 replace H : (if 0 ≤ (wrap64 ((t116.length : Int) - 1)) then (if (wrap64 ((t116.length : Int) - 1)) < (t116.length : Int) then (if (rdOf ByteArray.empty t116 (wrap64 ((t116.length : Int) - 1))).toList = ([] : List UInt8) then (if (wrap64 ((t116.length : Int) - 1)) ≤ (t116.length : Int) then (some (t116.take ((wrap64 ((t116.length : Int) - 1)) : Int).toNat)) else (none)) else (some t116)) else (none)) else (none)) = some r := H
 have A2 := Aside0.mk A20
 clear A20
 obtain ⟨ji3, hji3⟩ : ∃ j_ : Int, (wrap64 ((t116.length : Int) - 1)) = j_ := ⟨_, rfl⟩
 replace H : (if 0 ≤ (ji3) then (if (ji3) < (t116.length : Int) then (if (rdOf ByteArray.empty t116 (ji3)).toList = ([] : List UInt8) then (if (ji3) ≤ (t116.length : Int) then (some (t116.take ((ji3) : Int).toNat)) else (none)) else (some t116)) else (none)) else (none)) = some r := by first | (rw [hji3] at H; exact H) | (simp only [hji3] at H ⊢; exact H)
 (try rw [hji3] at A2)
 have hji3w : (IntKind.i64.wrap ((t116.length : Int) - 1)) = ji3 := (i64_w _).trans hji3
 by_cases c4 : 0 ≤ (ji3)
 ·rw [if_pos c4] at H
  have c4b0 : decide (0 ≤ (ji3)) = true := decide_eq_true c4
  clear c4
  by_cases c5 : (ji3) < (t116.length : Int)
  ·rw [if_pos c5] at H
   have c5b0 : decide ((ji3) < (t116.length : Int)) = true := decide_eq_true c5
   clear c5
   by_cases c6 : (rdOf ByteArray.empty t116 (ji3)).toList = ([] : List UInt8)
   ·rw [if_pos c6] at H
    have c6b0 : ((rdOf ByteArray.empty t116 (ji3)).toList == ([] : List UInt8)) = true := beq_iff_eq.mpr c6
    have c6b1 : ((rdOf ByteArray.empty t116 (ji3)).toList != ([] : List UInt8)) = false := bne_eq_false_iff_eq.mpr c6
    clear c6
    by_cases c7 : (ji3) ≤ (t116.length : Int)
    ·rw [if_pos c7] at H
     have c7b0 := eq_true c7
     have c7b1 : decide ((ji3) ≤ (t116.length : Int)) = true := decide_eq_true c7
     clear c7
     obtain ⟨y120, hy120⟩ : ∃ y_ : List ByteArray, y_ = (t116.take ((ji3) : Int).toNat) := ⟨_, rfl⟩
     replace H : (some y120) = some r := by first | (rw [hy120]; with_reducible exact H) | (have H2_ := (Option.bind_some _ _).symm.trans H; rw [hy120]; with_reducible exact H2_) | (have H2_ := (Option.bind_some _ _).symm.trans H; with_reducible exact H2_) | with_reducible exact H | (rw [hy120]; exact H) | exact H
     have Ny120 := Aside0.mk hy120
     clear hy120
     obtain rfl := Option.some.inj H
     go_enter Tryd.func23, Tryd.ntmps23
     go_wp2_with (first | ((with_reducible refine gate_callee (f := 37) rfl ?_); refine goesL_ (some 5) rfl rfl Tryd.func37 (by kernel_rfl) rfl #[.string a0, .string (⟨#[10]⟩ : ByteArray)] rfl (by (try simp only [List.map_toArray, List.map_cons, List.map_nil]); first | done | rfl | (simp only [List.length_drop, List.length_take]; rfl)) ?_; (with_reducible refine (strings_SplitAfter.calls a0 (⟨#[10]⟩ : ByteArray) t116 _ A2.out).mono ?_); rintro e w8 ⟨v117, rfl, ho0, hb⟩; refine ⟨_, rfl, ?_⟩; have n0_ := Aside0.mk (Kd.R_lower ho0 (below_size (by repeat (first | (with_reducible first | exact HB.out | apply below_alloc | apply pw_below_drewN | apply below_drew1) | exact HB.out)))); have n1_ := Aside0.mk (below_step (by repeat (first | (with_reducible first | exact HB.out | apply below_alloc | apply pw_below_drewN | apply below_drew1) | exact HB.out)) hb); clear HB; have HO118 := n0_; have HB := n1_; clear n0_ n1_; (try clear hb); (try clear hb2); (try clear hk); (try clear hi); (try clear ho0); obtain ⟨Ao9, co9, eo9⟩ := Kd.R_slice HO118.out; subst eo9; have p119 : 0 ≤ ((ji3) : Int) := of_decide_eq_true (by first | (with_reducible assumption) | assumption); have q119 : (ji3) < (t116.length : Int) := of_decide_eq_true (by first | (with_reducible assumption) | assumption); obtain ⟨ad119, e119, hx119_0⟩ := Kd.at_string (Kd.R_reads' HO118.out).2.2 (ji3) p119 q119; cases e119; replace p119 := eq_true p119; replace q119 := eq_true q119; have q10 : ((ji3) : Int) ≤ ((t116.length : Int) : Int) := of_decide_eq_true (by first | (with_reducible assumption) | assumption); obtain ⟨i010, hi010, _, hsz10, _⟩ := info_parts info9; have hcut10 := cut_to (P := Tryd.prog) 24 9 .i64 Tryd.underlying24 hi010 (some ad119) t116.length co9 (ji3) (of_decide_eq_true (by first | (with_reducible assumption) | assumption)) q10 (Kd.R_reads' HO118.out).2.1; have hr10 := Kd.R_take (m := ((ji3) : Int).toNat) HO118.out (by omega); have hy10 : y120.length = ((ji3) : Int).toNat := (by rw [Ny120.out, List.length_take]; omega); rw [← Ny120.out] at hr10; rw [← hy10] at hr10 hcut10; clear hy10 hi010 hsz10 HO118; have HO122 := Aside0.mk hr10; clear hr10; replace q10 := eq_true q10))
     go_ret
     exact ⟨_, by first | rfl | (simp [errW_none, errW_some] <;> rfl) | (simp only [← hji3]; first | rfl | (simp [errW_none, errW_some] <;> rfl)) | (simp [*, errW_none, errW_some] <;> rfl), by (with_reducible repeat (first | apply Kd.R_alloc | apply Kd.R_drewN | apply Kd.R_drew)); exact HO122.out, by repeat (first | (with_reducible first | exact HB.out | apply below_alloc | apply pw_below_drewN | apply below_drew1) | exact HB.out)⟩
    ·rw [if_neg c7] at H
     exact absurd H (by simp)
   ·rw [if_neg c6] at H
    have c6b0 : ((rdOf ByteArray.empty t116 (ji3)).toList == ([] : List UInt8)) = false := beq_eq_false_iff_ne.mpr c6
    have c6b1 : ((rdOf ByteArray.empty t116 (ji3)).toList != ([] : List UInt8)) = true := bne_iff_ne.mpr c6
    obtain rfl := Option.some.inj H
    go_enter Tryd.func23, Tryd.ntmps23
    go_wp2_with (first | ((with_reducible refine gate_callee (f := 37) rfl ?_); refine goesL_ (some 5) rfl rfl Tryd.func37 (by kernel_rfl) rfl #[.string a0, .string (⟨#[10]⟩ : ByteArray)] rfl (by (try simp only [List.map_toArray, List.map_cons, List.map_nil]); first | done | rfl | (simp only [List.length_drop, List.length_take]; rfl)) ?_; (with_reducible refine (strings_SplitAfter.calls a0 (⟨#[10]⟩ : ByteArray) t116 _ A2.out).mono ?_); rintro e w11 ⟨v117, rfl, ho0, hb⟩; refine ⟨_, rfl, ?_⟩; have n0_ := Aside0.mk (Kd.R_lower ho0 (below_size (by repeat (first | (with_reducible first | exact HB.out | apply below_alloc | apply pw_below_drewN | apply below_drew1) | exact HB.out)))); have n1_ := Aside0.mk (below_step (by repeat (first | (with_reducible first | exact HB.out | apply below_alloc | apply pw_below_drewN | apply below_drew1) | exact HB.out)) hb); clear HB; have HO118 := n0_; have HB := n1_; clear n0_ n1_; (try clear hb); (try clear hb2); (try clear hk); (try clear hi); (try clear ho0); obtain ⟨Ao12, co12, eo12⟩ := Kd.R_slice HO118.out; subst eo12; have p119 : 0 ≤ ((ji3) : Int) := of_decide_eq_true (by first | (with_reducible assumption) | assumption); have q119 : (ji3) < (t116.length : Int) := of_decide_eq_true (by first | (with_reducible assumption) | assumption); obtain ⟨ad119, e119, hx119_0⟩ := Kd.at_string (Kd.R_reads' HO118.out).2.2 (ji3) p119 q119; cases e119; replace p119 := eq_true p119; replace q119 := eq_true q119))
    go_ret
    exact ⟨_, by first | rfl | (simp [errW_none, errW_some] <;> rfl) | (simp only [← hji3]; first | rfl | (simp [errW_none, errW_some] <;> rfl)) | (simp [*, errW_none, errW_some] <;> rfl), by (with_reducible repeat (first | apply Kd.R_alloc | apply Kd.R_drewN | apply Kd.R_drew)); exact HO118.out, by repeat (first | (with_reducible first | exact HB.out | apply below_alloc | apply pw_below_drewN | apply below_drew1) | exact HB.out)⟩
  ·rw [if_neg c5] at H
   exact absurd H (by simp)
 ·rw [if_neg c4] at H
  exact absurd H (by simp)
end Go.Proofs.YtacdkacjlekkgaaDoor.P
end
section
namespace Go.Proofs.YtacdkacjlekkgaaDoor.P
open Go.RowKit Go.Proofs.YtacdkacjlekkgaaDoorW.PrintWords Go.Proofs.YtacdkacjlekkgaaDoorW.PrintLast Go.Proofs.YtacdkacjlekkgaaDoorW.PrintMore
attribute [local go_sem] max2_int min2_int max_two min_two max_three min_three max_four min_four
set_option linter.unusedVariables false
set_option linter.unusedSimpArgs false
def impl_TextFault.f (a0 : ByteArray) : Option (Int) := if (a0.size : Int) > 2000 then (some 2) else ((impl_linesOf.f a0).bind fun t123 => (if (t123.length : Int) > 100 then (some 2) else (some 0)))
set_option maxHeartbeats 8000000 in
set_option maxRecDepth 100000 in
theorem impl_TextFault.calls (a0 : ByteArray) (r : Int) (w : World) (h : impl_TextFault.f a0 = some r) :
  Calls Tryd.prog 7 #[.string a0] w fun e w' => e = .returned (.int .i64 r) ∧ Below w.heap.size w w' := by
 have HB := Aside0.mk (Below.refl w.heap.size w)
 have H : (if (a0.size : Int) > 2000 then (some 2) else ((impl_linesOf.f a0).bind fun t123 => (if (t123.length : Int) > 100 then (some 2) else (some 0)))) = some r := h
 clear h
 by_cases c2 : (a0.size : Int) > 2000
 ·rw [if_pos c2] at H
  have c2b0 : decide (2000 < (a0.size : Int)) = true := decide_eq_true c2
  have c2b1 : decide (2000 < a0.size) = true := decide_eq_true (by omega)
  clear c2
  obtain rfl := Option.some.inj H
  go_enter Tryd.func7, Tryd.ntmps7
  go_wp2
  go_ret
  exact ⟨by first | rfl | (simp [errW_none, errW_some] <;> rfl) | (simp [*, errW_none, errW_some] <;> rfl), by repeat (first | (with_reducible first | exact HB.out | apply below_alloc | apply pw_below_drewN | apply below_drew1) | exact HB.out)⟩
 ·rw [if_neg c2] at H
  have c2b0 : decide (2000 < (a0.size : Int)) = false := decide_eq_false c2
  have c2b1 : decide (2000 < a0.size) = false := decide_eq_false (by omega)
  clear c2
  replace H := Option.bind_eq_some_iff.mp H
  obtain ⟨t123, A30, H⟩ := H
  replace H : (if (t123.length : Int) > 100 then (some 2) else (some 0)) = some r := H
  have A3 := Aside0.mk A30
  clear A30
  by_cases c4 : (t123.length : Int) > 100
  ·rw [if_pos c4] at H
   have c4b0 : decide (100 < (t123.length : Int)) = true := decide_eq_true c4
   have c4b1 : decide (100 < t123.length) = true := decide_eq_true (by omega)
   clear c4
   obtain rfl := Option.some.inj H
   go_enter Tryd.func7, Tryd.ntmps7
   go_wp2_with (first | (go_at_call 23; (with_reducible refine (impl_linesOf.calls a0 t123 _ A3.out).mono ?_); rintro e w5 ⟨v124, rfl, ho0, hb⟩; have n0_ := Aside0.mk (Kd.R_lower ho0 (below_size (by repeat (first | (with_reducible first | exact HB.out | apply below_alloc | apply pw_below_drewN | apply below_drew1) | exact HB.out)))); have n1_ := Aside0.mk (below_step (by repeat (first | (with_reducible first | exact HB.out | apply below_alloc | apply pw_below_drewN | apply below_drew1) | exact HB.out)) hb); clear HB; have HO125 := n0_; have HB := n1_; clear n0_ n1_; (try clear hb); (try clear hb2); (try clear hk); (try clear hi); (try clear ho0); obtain ⟨Ao6, co6, eo6⟩ := Kd.R_slice HO125.out; subst eo6))
   go_ret
   exact ⟨by first | rfl | (simp [errW_none, errW_some] <;> rfl) | (simp [*, errW_none, errW_some] <;> rfl), by repeat (first | (with_reducible first | exact HB.out | apply below_alloc | apply pw_below_drewN | apply below_drew1) | exact HB.out)⟩
  ·rw [if_neg c4] at H
   have c4b0 : decide (100 < (t123.length : Int)) = false := decide_eq_false c4
   have c4b1 : decide (100 < t123.length) = false := decide_eq_false (by omega)
   clear c4
   obtain rfl := Option.some.inj H
   go_enter Tryd.func7, Tryd.ntmps7
   go_wp2_with (first | (go_at_call 23; (with_reducible refine (impl_linesOf.calls a0 t123 _ A3.out).mono ?_); rintro e w7 ⟨v124, rfl, ho0, hb⟩; have n0_ := Aside0.mk (Kd.R_lower ho0 (below_size (by repeat (first | (with_reducible first | exact HB.out | apply below_alloc | apply pw_below_drewN | apply below_drew1) | exact HB.out)))); have n1_ := Aside0.mk (below_step (by repeat (first | (with_reducible first | exact HB.out | apply below_alloc | apply pw_below_drewN | apply below_drew1) | exact HB.out)) hb); clear HB; have HO125 := n0_; have HB := n1_; clear n0_ n1_; (try clear hb); (try clear hb2); (try clear hk); (try clear hi); (try clear ho0); obtain ⟨Ao8, co8, eo8⟩ := Kd.R_slice HO125.out; subst eo8))
   go_ret
   exact ⟨by first | rfl | (simp [errW_none, errW_some] <;> rfl) | (simp [*, errW_none, errW_some] <;> rfl), by repeat (first | (with_reducible first | exact HB.out | apply below_alloc | apply pw_below_drewN | apply below_drew1) | exact HB.out)⟩
end Go.Proofs.YtacdkacjlekkgaaDoor.P
end
section
namespace Go.Proofs.YtacdkacjlekkgaaDoor.P
open Go.RowKit Go.Proofs.YtacdkacjlekkgaaDoorW.PrintWords Go.Proofs.YtacdkacjlekkgaaDoorW.PrintLast Go.Proofs.YtacdkacjlekkgaaDoorW.PrintMore
attribute [local go_sem] max2_int min2_int max_two min_two max_three min_three max_four min_four
set_option linter.unusedVariables false
set_option linter.unusedSimpArgs false
def impl_SplitLines.f (a0 : ByteArray) : Option (Int × List ByteArray) := (impl_TextFault.f a0).bind fun t134 => (if t134 = 0 then ((impl_linesOf.f a0).bind fun t135 => (some (0, t135))) else (some (t134, ([] : List ByteArray))))
set_option maxHeartbeats 8000000 in
set_option maxRecDepth 100000 in
theorem impl_SplitLines.calls (a0 : ByteArray) (r1 : Int) (r2 : List ByteArray) (w : World) (h : impl_SplitLines.f a0 = some (r1, r2)) :
  Calls Tryd.prog 9 #[.string a0] w fun e w' => ∃ v1_ : Value, e = .returned (.agg #[.int .i64 r1, v1_]) ∧ Kd.R Kd.string 9 w' w.heap.size (fun _ => True) v1_ r2 ∧ Below w.heap.size w w' := by
 have hu26 := Tryd.underlying26
 have HB := Aside0.mk (Below.refl w.heap.size w)
 have H : ((impl_TextFault.f a0).bind fun t134 => (if t134 = 0 then ((impl_linesOf.f a0).bind fun t135 => (some (0, t135))) else (some (t134, ([] : List ByteArray))))) = some (r1, r2) := h
 clear h
 replace H := Option.bind_eq_some_iff.mp H
 obtain ⟨t134, A20, H⟩ := H
 replace H : (if t134 = 0 then ((impl_linesOf.f a0).bind fun t135 => (some (0, t135))) else (some (t134, ([] : List ByteArray)))) = some (r1, r2) := H
 have A2 := Aside0.mk A20
 clear A20
 by_cases c3 : t134 = 0
 ·rw [if_pos c3] at H
  have c3b0 : (t134 == 0) = true := beq_iff_eq.mpr c3
  have c3b1 : (t134 != 0) = false := bne_eq_false_iff_eq.mpr c3
  clear c3
  replace H := Option.bind_eq_some_iff.mp H
  obtain ⟨t135, A40, H⟩ := H
  replace H : (some (0, t135)) = some (r1, r2) := H
  have A4 := Aside0.mk A40
  clear A40
  simp only [Option.some.injEq, Prod.mk.injEq] at H
  obtain ⟨rfl, rfl⟩ := H
  go_enter Tryd.func9, Tryd.ntmps9
  go_wp2_with (first | ((with_reducible refine gate_dst (N := 2) rfl ?_); refine box_event ?hg (N := 2) ?hd (cs := #[.int .i64 0, .slice none 0 0]) (t := 26) ?hr ?_; (case hd => rfl); (case hg => rfl); (case hr => first | (go_simp; done) | (go_simp; rfl)); intro gb133 hg w5 hbox hb; have n0_ := Aside0.mk (below_step (by repeat (first | (with_reducible first | exact HB.out | apply below_alloc | apply pw_below_drewN | apply below_drew1) | exact HB.out)) hb); have n1_ := Aside0.mk (hbox); have n2_ := Aside0.mk ((by rw [hg]; exact (below_size (by repeat (first | (with_reducible first | exact HB.out | apply below_alloc | apply pw_below_drewN | apply below_drew1) | exact HB.out))) : w.heap.size ≤ gb133)); have n3_ := Aside0.mk ((by rw [hg]; exact (below_size (by repeat (first | (with_reducible first | exact HB.out | apply below_alloc | apply pw_below_drewN | apply below_drew1) | exact HB.out))) : w.heap.size ≤ gb133)); clear HB; have HB := n0_; have BK133 := n1_; have GW133 := n2_; have GE133 := n3_; clear n0_ n1_ n2_ n3_; clear hb hbox hg) | ((with_reducible refine gate_callee (f := 7) rfl ?_); refine goesL_ (some 5) rfl rfl Tryd.func7 (by kernel_rfl) rfl #[.string a0] rfl (by (try simp only [List.map_toArray, List.map_cons, List.map_nil]); first | done | rfl | (simp only [List.length_drop, List.length_take]; rfl)) ?_; (with_reducible refine (impl_TextFault.calls a0 t134 _ A2.out).mono ?_); rintro e w6 ⟨rfl, hb⟩; refine ⟨_, rfl, ?_⟩; have n0_ := Aside0.mk (blk_below (g := gb133) (o := .cells #[.int .i64 0, .slice none 0 0] 26 (0, 0)) (by (with_reducible repeat (first | refine blk_drewN ?_ _ | refine blk_drew ?_ | refine blk_alloc ?_ _)); exact BK133.out) hb); have n1_ := Aside0.mk (below_step (by repeat (first | (with_reducible first | exact HB.out | apply below_alloc | apply pw_below_drewN | apply below_drew1 | refine below_set ?_ GE133.out) | exact HB.out)) hb); clear BK133; clear HB; have BK133 := n0_; have HB := n1_; clear n0_ n1_; (try clear hb); (try clear hb2); (try clear hk); (try clear hi)) | ((with_reducible refine gate_callee (f := 23) rfl ?_); refine goesL_ (some 11) rfl rfl Tryd.func23 (by kernel_rfl) rfl #[.string a0] rfl (by (try simp only [List.map_toArray, List.map_cons, List.map_nil]); first | done | rfl | (simp only [List.length_drop, List.length_take]; rfl)) ?_; (with_reducible refine (impl_linesOf.calls a0 t135 _ A4.out).mono ?_); rintro e w7 ⟨v136, rfl, ho0, hb⟩; refine ⟨_, rfl, ?_⟩; have n0_ := Aside0.mk (Kd.R_lower ho0 (below_size (by repeat (first | (with_reducible first | exact HB.out | apply below_alloc | apply pw_below_drewN | apply below_drew1 | refine below_set ?_ GE133.out) | exact HB.out)))); have n1_ := Aside0.mk (blk_below (g := gb133) (o := .cells #[.int .i64 0, .slice none 0 0] 26 (0, 0)) (by (with_reducible repeat (first | refine blk_drewN ?_ _ | refine blk_drew ?_ | refine blk_alloc ?_ _)); exact BK133.out) hb); have n2_ := Aside0.mk (below_step (by repeat (first | (with_reducible first | exact HB.out | apply below_alloc | apply pw_below_drewN | apply below_drew1 | refine below_set ?_ GE133.out) | exact HB.out)) hb); clear BK133; clear HB; have HO137 := n0_; have BK133 := n1_; have HB := n2_; clear n0_ n1_ n2_; (try clear hb); (try clear hb2); (try clear hk); (try clear hi); (try clear ho0); obtain ⟨Ao8, co8, eo8⟩ := Kd.R_slice HO137.out; subst eo8; have hcz9_0 : w7.cell? ⟨gb133, 0, none⟩ = some (.int .i64 0) := (blk_cell BK133.out 0).trans rfl; have hcz9_1 : w7.cell? ⟨gb133, 1, none⟩ = some (.slice none 0 0) := (blk_cell BK133.out 1).trans rfl; have hfz9_0 := blk_frozen BK133.out 0; have hfz9_1 := blk_frozen BK133.out 1))
  refine bodyPost_ret (results_cell_row rfl _ _ gb133 26 #[.int .i64 0, .slice Ao8 t135.length co8] (0, 0) _ rfl (by (with_reducible repeat (first | refine blk_drewN ?_ _ | refine blk_drew ?_ | refine blk_alloc ?_ _)); refine blk_put (cs := #[.int .i64 0, .slice none 0 0]) ?_ 1 _ rfl; (with_reducible repeat (first | refine blk_drewN ?_ _ | refine blk_drew ?_ | refine blk_alloc ?_ _)); refine blk_put (cs := #[.int .i64 0, .slice none 0 0]) ?_ 0 _ rfl; (with_reducible repeat (first | refine blk_drewN ?_ _ | refine blk_drew ?_ | refine blk_alloc ?_ _)); exact BK133.out) Tryd.underlying26 rfl (by kernel_rfl)) rfl ?_
  exact ⟨_, by first | rfl | (simp [errW_none, errW_some] <;> rfl) | (simp [*, errW_none, errW_some] <;> rfl), by (with_reducible repeat (first | apply Kd.R_alloc | apply Kd.R_drewN | apply Kd.R_drew)); exact Kd.R_mono (Kd.R_far (p := ⟨gb133, 1, none⟩) (Kd.R_far (p := ⟨gb133, 0, none⟩) (Kd.R_types HO137.out BK133.out (by decide)) (fun _ hk => hk.2) (.int .i64 0)) (fun _ hk => hk.2) (.slice Ao8 t135.length co8)) (fun _ hk => trivial), by repeat (first | (with_reducible first | exact HB.out | apply below_alloc | apply pw_below_drewN | apply below_drew1 | refine below_set ?_ GE133.out) | exact HB.out)⟩
 ·rw [if_neg c3] at H
  have c3b0 : (t134 == 0) = false := beq_eq_false_iff_ne.mpr c3
  have c3b1 : (t134 != 0) = true := bne_iff_ne.mpr c3
  simp only [Option.some.injEq, Prod.mk.injEq] at H
  obtain ⟨rfl, rfl⟩ := H
  go_enter Tryd.func9, Tryd.ntmps9
  go_wp2_with (first | ((with_reducible refine gate_dst (N := 2) rfl ?_); refine box_event ?hg (N := 2) ?hd (cs := #[.int .i64 0, .slice none 0 0]) (t := 26) ?hr ?_; (case hd => rfl); (case hg => rfl); (case hr => first | (go_simp; done) | (go_simp; rfl)); intro gb133 hg w10 hbox hb; have n0_ := Aside0.mk (below_step (by repeat (first | (with_reducible first | exact HB.out | apply below_alloc | apply pw_below_drewN | apply below_drew1) | exact HB.out)) hb); have n1_ := Aside0.mk (hbox); have n2_ := Aside0.mk ((by rw [hg]; exact (below_size (by repeat (first | (with_reducible first | exact HB.out | apply below_alloc | apply pw_below_drewN | apply below_drew1) | exact HB.out))) : w.heap.size ≤ gb133)); have n3_ := Aside0.mk ((by rw [hg]; exact (below_size (by repeat (first | (with_reducible first | exact HB.out | apply below_alloc | apply pw_below_drewN | apply below_drew1) | exact HB.out))) : w.heap.size ≤ gb133)); clear HB; have HB := n0_; have BK133 := n1_; have GW133 := n2_; have GE133 := n3_; clear n0_ n1_ n2_ n3_; clear hb hbox hg) | ((with_reducible refine gate_callee (f := 7) rfl ?_); refine goesL_ (some 5) rfl rfl Tryd.func7 (by kernel_rfl) rfl #[.string a0] rfl (by (try simp only [List.map_toArray, List.map_cons, List.map_nil]); first | done | rfl | (simp only [List.length_drop, List.length_take]; rfl)) ?_; (with_reducible refine (impl_TextFault.calls a0 t134 _ A2.out).mono ?_); rintro e w11 ⟨rfl, hb⟩; refine ⟨_, rfl, ?_⟩; have n0_ := Aside0.mk (blk_below (g := gb133) (o := .cells #[.int .i64 0, .slice none 0 0] 26 (0, 0)) (by (with_reducible repeat (first | refine blk_drewN ?_ _ | refine blk_drew ?_ | refine blk_alloc ?_ _)); exact BK133.out) hb); have n1_ := Aside0.mk (below_step (by repeat (first | (with_reducible first | exact HB.out | apply below_alloc | apply pw_below_drewN | apply below_drew1 | refine below_set ?_ GE133.out) | exact HB.out)) hb); clear BK133; clear HB; have BK133 := n0_; have HB := n1_; clear n0_ n1_; (try clear hb); (try clear hb2); (try clear hk); (try clear hi); have hcz12_0 : w11.cell? ⟨gb133, 0, none⟩ = some (.int .i64 0) := (blk_cell BK133.out 0).trans rfl; have hcz12_1 : w11.cell? ⟨gb133, 1, none⟩ = some (.slice none 0 0) := (blk_cell BK133.out 1).trans rfl; have hfz12_0 := blk_frozen BK133.out 0; have hfz12_1 := blk_frozen BK133.out 1))
  refine bodyPost_ret (results_cell_row rfl _ _ gb133 26 #[.int .i64 t134, .slice none 0 0] (0, 0) _ rfl (by (with_reducible repeat (first | refine blk_drewN ?_ _ | refine blk_drew ?_ | refine blk_alloc ?_ _)); refine blk_put (cs := #[.int .i64 t134, .slice none 0 0]) ?_ 1 _ rfl; (with_reducible repeat (first | refine blk_drewN ?_ _ | refine blk_drew ?_ | refine blk_alloc ?_ _)); refine blk_put (cs := #[.int .i64 0, .slice none 0 0]) ?_ 0 _ rfl; (with_reducible repeat (first | refine blk_drewN ?_ _ | refine blk_drew ?_ | refine blk_alloc ?_ _)); exact BK133.out) Tryd.underlying26 rfl (by kernel_rfl)) rfl ?_
  exact ⟨_, by first | rfl | (simp [errW_none, errW_some] <;> rfl) | (simp [*, errW_none, errW_some] <;> rfl), by first | exact Kd.R_nil _ _ _ _ _ | exact Kd.N_nil _ _ _ _ _ | exact Kd.V_nil _ _ _ _ _ | exact Kd.Q_nil _ _ _ _ _ | exact Kd.S_nil _ _ _ _ _, by repeat (first | (with_reducible first | exact HB.out | apply below_alloc | apply pw_below_drewN | apply below_drew1 | refine below_set ?_ GE133.out) | exact HB.out)⟩
end Go.Proofs.YtacdkacjlekkgaaDoor.P
end
section
namespace Go.Proofs.YtacdkacjlekkgaaDoor.P
open Go.RowKit Go.Proofs.YtacdkacjlekkgaaDoorW.PrintWords Go.Proofs.YtacdkacjlekkgaaDoorW.PrintLast Go.Proofs.YtacdkacjlekkgaaDoorW.PrintMore
attribute [local go_sem] max2_int min2_int max_two min_two max_three min_three max_four min_four
set_option linter.unusedVariables false
set_option linter.unusedSimpArgs false
def laws_FnLines.f (k : Nat) (l0 : List Int) : Option (Bool) := (laws_lwBig.f l0).bind fun t273 => (if t273 = true then (some true) else ((spec_DrawSplitLines.f k l0).bind fun t274 => ((impl_SplitLines.f t274).bind fun bt275 => (if bt275.1 = 0 then ((impl_JoinLines.f k bt275.2).bind fun bt281 => ((spec_DrawJoinLines.f k l0).bind fun t284 => ((impl_JoinLines.f k t284).bind fun bt287 => (if bt287.1 = 0 then ((impl_SplitLines.f bt287.2).bind fun bt291 => ((impl_LinesFault.f k bt275.2).bind fun t296 => (if t296 = 0 then (if bt281.1 = 0 then (if bt281.2.toList = t274.toList then (if bt291.1 = 0 then ((impl_SameLines.f k bt291.2 t284).bind fun t297 => (if t297 = true then ((impl_DigestOf.f k t274).bind fun t298 => ((spec_DigestOf.f k t274).bind fun t299 => (some (t298 == t299)))) else (some false))) else (some false)) else (some false)) else (some false)) else (some false)))) else ((spec_LinesFault.f k t284).bind fun t290 => (if t290 = bt287.1 then (if bt281.1 = 0 then (some (bt281.2.toList == t274.toList)) else (some false)) else (some false))))))) else ((spec_TextFault.f k t274).bind fun t280 => (some (t280 == bt275.1)))))))
def laws_FnLines.T11 : Bool × List (List Nat × List Nat) := (true, [([], []), ([0], [0]), ([], []), ([2], [2]), ([1, 3], [1, 3]), ([4, 1], [4]), ([5], [5]), ([6, 5], [5, 6]), ([7, 5], [5, 7]), ([5, 8], [5, 8]), ([9, 5], [9]), ([10], [10]), ([11, 10], [10, 11]), ([10], [10]), ([12, 13, 10], [10, 12, 13]), ([10, 14], [10, 14]), ([15, 10, 0, 1, 2, 3, 4, 5, 6, 7, 8, 9, 10, 11, 12, 13, 14, 15], [15])])
def laws_FnLines.B11 : List Nat := [0, 1, 0, 4, 15, 31, 63, 127, 255, 511, 1023, 2047, 4095, 2047, 16383, 32767, 65535]
theorem laws_FnLines.tab11 : rtab .any (opsOf Tryd.f5 11) = laws_FnLines.T11 := by kernel_rfl
theorem laws_FnLines.bits11 : waitsOk laws_FnLines.T11.2 laws_FnLines.B11 = true := by kernel_rfl
set_option maxHeartbeats 8000000 in
set_option maxRecDepth 100000 in
theorem laws_FnLines.calls (k : Nat) (A0 : Option Addr) (c0 : Nat) (l0 : List Int) (r : Bool) (w : World) (hr0 : Kd.C (Kd.int .u8) w A0 l0.length l0) (hc0 : l0.length ≤ c0) (h : laws_FnLines.f k l0 = some r) (hlaw : r = true) :
  Calls Tryd.prog 5 #[.slice A0 l0.length c0] w fun e w' => e = .returned (.bool r) ∧ Below w.heap.size w w' := by
 have hu26 := Tryd.underlying26
 have hu34 := Tryd.underlying34
 have HR0 := Aside0.mk hr0
 have HC0 := Aside0.mk hc0
 clear hr0 hc0
 have HB := Aside0.mk (Below.refl w.heap.size w)
 have HLAW := Aside0.mk hlaw
 clear hlaw
 have H : ((laws_lwBig.f l0).bind fun t273 => (if t273 = true then (some true) else ((spec_DrawSplitLines.f k l0).bind fun t274 => ((impl_SplitLines.f t274).bind fun bt275 => (if bt275.1 = 0 then ((impl_JoinLines.f k bt275.2).bind fun bt281 => ((spec_DrawJoinLines.f k l0).bind fun t284 => ((impl_JoinLines.f k t284).bind fun bt287 => (if bt287.1 = 0 then ((impl_SplitLines.f bt287.2).bind fun bt291 => ((impl_LinesFault.f k bt275.2).bind fun t296 => (if t296 = 0 then (if bt281.1 = 0 then (if bt281.2.toList = t274.toList then (if bt291.1 = 0 then ((impl_SameLines.f k bt291.2 t284).bind fun t297 => (if t297 = true then ((impl_DigestOf.f k t274).bind fun t298 => ((spec_DigestOf.f k t274).bind fun t299 => (some (t298 == t299)))) else (some false))) else (some false)) else (some false)) else (some false)) else (some false)))) else ((spec_LinesFault.f k t284).bind fun t290 => (if t290 = bt287.1 then (if bt281.1 = 0 then (some (bt281.2.toList == t274.toList)) else (some false)) else (some false))))))) else ((spec_TextFault.f k t274).bind fun t280 => (some (t280 == bt275.1)))))))) = some r := h
 clear h
 replace H := Option.bind_eq_some_iff.mp H
 obtain ⟨t273, A20, H⟩ := H
 replace H : (if t273 = true then (some true) else ((spec_DrawSplitLines.f k l0).bind fun t274 => ((impl_SplitLines.f t274).bind fun bt275 => (if bt275.1 = 0 then ((impl_JoinLines.f k bt275.2).bind fun bt281 => ((spec_DrawJoinLines.f k l0).bind fun t284 => ((impl_JoinLines.f k t284).bind fun bt287 => (if bt287.1 = 0 then ((impl_SplitLines.f bt287.2).bind fun bt291 => ((impl_LinesFault.f k bt275.2).bind fun t296 => (if t296 = 0 then (if bt281.1 = 0 then (if bt281.2.toList = t274.toList then (if bt291.1 = 0 then ((impl_SameLines.f k bt291.2 t284).bind fun t297 => (if t297 = true then ((impl_DigestOf.f k t274).bind fun t298 => ((spec_DigestOf.f k t274).bind fun t299 => (some (t298 == t299)))) else (some false))) else (some false)) else (some false)) else (some false)) else (some false)))) else ((spec_LinesFault.f k t284).bind fun t290 => (if t290 = bt287.1 then (if bt281.1 = 0 then (some (bt281.2.toList == t274.toList)) else (some false)) else (some false))))))) else ((spec_TextFault.f k t274).bind fun t280 => (some (t280 == bt275.1))))))) = some r := H
 have A2 := Aside0.mk A20
 clear A20
 by_cases c3 : t273 = true
 ·subst c3
  have H1 : (some true) = some r := by rw [if_pos rfl] at H; exact H
  clear H
  have H := H1
  clear H1
  obtain rfl := Option.some.inj H
  go_enter Tryd.func5, Tryd.ntmps5
  go_wp2_with (first | ((with_reducible refine gate_callee (f := 13) rfl ?_); refine goesL_ (some 10) rfl rfl Tryd.func13 (by kernel_rfl) rfl #[.slice A0 l0.length c0] rfl (by (try simp only [List.map_toArray, List.map_cons, List.map_nil]); first | done | rfl | (simp only [List.length_drop, List.length_take]; rfl)) ?_; (with_reducible refine (laws_lwBig.calls _ _ l0 true _ ?side1 ?side2 A2.out).mono ?_); (case side1 => repeat (first | exact HR0.out | (with_reducible refine Kd.C_alloc ?_ _) | (with_reducible refine Kd.C_drewN ?_ _) | (with_reducible refine Kd.C_drew ?_))); (case side2 => exact HC0.out); rintro e w' ⟨rfl, ⟨nd, rfl⟩⟩; refine ⟨_, rfl, ?_⟩))
  go_ret
  exact ⟨by first | rfl | (simp [errW_none, errW_some] <;> rfl) | (simp [*, errW_none, errW_some] <;> rfl), by repeat (first | (with_reducible first | exact HB.out | apply below_alloc | apply pw_below_drewN | apply below_drew1) | exact HB.out)⟩
 ·replace c3 := Bool.eq_false_iff.mpr c3
  subst c3
  have H1 : ((spec_DrawSplitLines.f k l0).bind fun t274 => ((impl_SplitLines.f t274).bind fun bt275 => (if bt275.1 = 0 then ((impl_JoinLines.f k bt275.2).bind fun bt281 => ((spec_DrawJoinLines.f k l0).bind fun t284 => ((impl_JoinLines.f k t284).bind fun bt287 => (if bt287.1 = 0 then ((impl_SplitLines.f bt287.2).bind fun bt291 => ((impl_LinesFault.f k bt275.2).bind fun t296 => (if t296 = 0 then (if bt281.1 = 0 then (if bt281.2.toList = t274.toList then (if bt291.1 = 0 then ((impl_SameLines.f k bt291.2 t284).bind fun t297 => (if t297 = true then ((impl_DigestOf.f k t274).bind fun t298 => ((spec_DigestOf.f k t274).bind fun t299 => (some (t298 == t299)))) else (some false))) else (some false)) else (some false)) else (some false)) else (some false)))) else ((spec_LinesFault.f k t284).bind fun t290 => (if t290 = bt287.1 then (if bt281.1 = 0 then (some (bt281.2.toList == t274.toList)) else (some false)) else (some false))))))) else ((spec_TextFault.f k t274).bind fun t280 => (some (t280 == bt275.1)))))) = some r := by rw [if_neg (show ¬ (false = true) by decide)] at H; exact H
  clear H
  have H := H1
  clear H1
  replace H := Option.bind_eq_some_iff.mp H
  obtain ⟨t274, A40, H⟩ := H
  replace H : ((impl_SplitLines.f t274).bind fun bt275 => (if bt275.1 = 0 then ((impl_JoinLines.f k bt275.2).bind fun bt281 => ((spec_DrawJoinLines.f k l0).bind fun t284 => ((impl_JoinLines.f k t284).bind fun bt287 => (if bt287.1 = 0 then ((impl_SplitLines.f bt287.2).bind fun bt291 => ((impl_LinesFault.f k bt275.2).bind fun t296 => (if t296 = 0 then (if bt281.1 = 0 then (if bt281.2.toList = t274.toList then (if bt291.1 = 0 then ((impl_SameLines.f k bt291.2 t284).bind fun t297 => (if t297 = true then ((impl_DigestOf.f k t274).bind fun t298 => ((spec_DigestOf.f k t274).bind fun t299 => (some (t298 == t299)))) else (some false))) else (some false)) else (some false)) else (some false)) else (some false)))) else ((spec_LinesFault.f k t284).bind fun t290 => (if t290 = bt287.1 then (if bt281.1 = 0 then (some (bt281.2.toList == t274.toList)) else (some false)) else (some false))))))) else ((spec_TextFault.f k t274).bind fun t280 => (some (t280 == bt275.1))))) = some r := H
  have A4 := Aside0.mk A40
  clear A40
  replace H := Option.bind_eq_some_iff.mp H
  obtain ⟨⟨t275, t276⟩, A50, H⟩ := H
  replace H : (if t275 = 0 then ((impl_JoinLines.f k t276).bind fun bt281 => ((spec_DrawJoinLines.f k l0).bind fun t284 => ((impl_JoinLines.f k t284).bind fun bt287 => (if bt287.1 = 0 then ((impl_SplitLines.f bt287.2).bind fun bt291 => ((impl_LinesFault.f k t276).bind fun t296 => (if t296 = 0 then (if bt281.1 = 0 then (if bt281.2.toList = t274.toList then (if bt291.1 = 0 then ((impl_SameLines.f k bt291.2 t284).bind fun t297 => (if t297 = true then ((impl_DigestOf.f k t274).bind fun t298 => ((spec_DigestOf.f k t274).bind fun t299 => (some (t298 == t299)))) else (some false))) else (some false)) else (some false)) else (some false)) else (some false)))) else ((spec_LinesFault.f k t284).bind fun t290 => (if t290 = bt287.1 then (if bt281.1 = 0 then (some (bt281.2.toList == t274.toList)) else (some false)) else (some false))))))) else ((spec_TextFault.f k t274).bind fun t280 => (some (t280 == t275)))) = some r := H
  have A5 := Aside0.mk A50
  clear A50
  by_cases c6 : t275 = 0
  ·rw [if_pos c6] at H
   have c6b0 : (t275 == 0) = true := beq_iff_eq.mpr c6
   have c6b1 : (t275 != 0) = false := bne_eq_false_iff_eq.mpr c6
   clear c6
   replace H := Option.bind_eq_some_iff.mp H
   obtain ⟨⟨t281, t282⟩, A70, H⟩ := H
   replace H : ((spec_DrawJoinLines.f k l0).bind fun t284 => ((impl_JoinLines.f k t284).bind fun bt287 => (if bt287.1 = 0 then ((impl_SplitLines.f bt287.2).bind fun bt291 => ((impl_LinesFault.f k t276).bind fun t296 => (if t296 = 0 then (if t281 = 0 then (if t282.toList = t274.toList then (if bt291.1 = 0 then ((impl_SameLines.f k bt291.2 t284).bind fun t297 => (if t297 = true then ((impl_DigestOf.f k t274).bind fun t298 => ((spec_DigestOf.f k t274).bind fun t299 => (some (t298 == t299)))) else (some false))) else (some false)) else (some false)) else (some false)) else (some false)))) else ((spec_LinesFault.f k t284).bind fun t290 => (if t290 = bt287.1 then (if t281 = 0 then (some (t282.toList == t274.toList)) else (some false)) else (some false)))))) = some r := H
   have A7 := Aside0.mk A70
   clear A70
   replace H := Option.bind_eq_some_iff.mp H
   obtain ⟨t284, A80, H⟩ := H
   replace H : ((impl_JoinLines.f k t284).bind fun bt287 => (if bt287.1 = 0 then ((impl_SplitLines.f bt287.2).bind fun bt291 => ((impl_LinesFault.f k t276).bind fun t296 => (if t296 = 0 then (if t281 = 0 then (if t282.toList = t274.toList then (if bt291.1 = 0 then ((impl_SameLines.f k bt291.2 t284).bind fun t297 => (if t297 = true then ((impl_DigestOf.f k t274).bind fun t298 => ((spec_DigestOf.f k t274).bind fun t299 => (some (t298 == t299)))) else (some false))) else (some false)) else (some false)) else (some false)) else (some false)))) else ((spec_LinesFault.f k t284).bind fun t290 => (if t290 = bt287.1 then (if t281 = 0 then (some (t282.toList == t274.toList)) else (some false)) else (some false))))) = some r := H
   have A8 := Aside0.mk A80
   clear A80
   replace H := Option.bind_eq_some_iff.mp H
   obtain ⟨⟨t287, t288⟩, A90, H⟩ := H
   replace H : (if t287 = 0 then ((impl_SplitLines.f t288).bind fun bt291 => ((impl_LinesFault.f k t276).bind fun t296 => (if t296 = 0 then (if t281 = 0 then (if t282.toList = t274.toList then (if bt291.1 = 0 then ((impl_SameLines.f k bt291.2 t284).bind fun t297 => (if t297 = true then ((impl_DigestOf.f k t274).bind fun t298 => ((spec_DigestOf.f k t274).bind fun t299 => (some (t298 == t299)))) else (some false))) else (some false)) else (some false)) else (some false)) else (some false)))) else ((spec_LinesFault.f k t284).bind fun t290 => (if t290 = t287 then (if t281 = 0 then (some (t282.toList == t274.toList)) else (some false)) else (some false)))) = some r := H
   have A9 := Aside0.mk A90
   clear A90
   by_cases c10 : t287 = 0
   ·rw [if_pos c10] at H
    have c10b0 : (t287 == 0) = true := beq_iff_eq.mpr c10
    have c10b1 : (t287 != 0) = false := bne_eq_false_iff_eq.mpr c10
    clear c10
    replace H := Option.bind_eq_some_iff.mp H
    obtain ⟨⟨t291, t292⟩, A110, H⟩ := H
    replace H : ((impl_LinesFault.f k t276).bind fun t296 => (if t296 = 0 then (if t281 = 0 then (if t282.toList = t274.toList then (if t291 = 0 then ((impl_SameLines.f k t292 t284).bind fun t297 => (if t297 = true then ((impl_DigestOf.f k t274).bind fun t298 => ((spec_DigestOf.f k t274).bind fun t299 => (some (t298 == t299)))) else (some false))) else (some false)) else (some false)) else (some false)) else (some false))) = some r := H
    have A11 := Aside0.mk A110
    clear A110
    replace H := Option.bind_eq_some_iff.mp H
    obtain ⟨t296, A120, H⟩ := H
    replace H : (if t296 = 0 then (if t281 = 0 then (if t282.toList = t274.toList then (if t291 = 0 then ((impl_SameLines.f k t292 t284).bind fun t297 => (if t297 = true then ((impl_DigestOf.f k t274).bind fun t298 => ((spec_DigestOf.f k t274).bind fun t299 => (some (t298 == t299)))) else (some false))) else (some false)) else (some false)) else (some false)) else (some false)) = some r := H
    have A12 := Aside0.mk A120
    clear A120
    by_cases c13 : t296 = 0
    ·rw [if_pos c13] at H
     have c13b0 : (t296 == 0) = true := beq_iff_eq.mpr c13
     have c13b1 : (t296 != 0) = false := bne_eq_false_iff_eq.mpr c13
     clear c13
     by_cases c14 : t281 = 0
     ·rw [if_pos c14] at H
      have c14b0 : (t281 == 0) = true := beq_iff_eq.mpr c14
      have c14b1 : (t281 != 0) = false := bne_eq_false_iff_eq.mpr c14
      clear c14
      by_cases c15 : t282.toList = t274.toList
      ·rw [if_pos c15] at H
       have c15b0 : (t282.toList == t274.toList) = true := beq_iff_eq.mpr c15
       have c15b1 : (t282.toList != t274.toList) = false := bne_eq_false_iff_eq.mpr c15
       clear c15
       by_cases c16 : t291 = 0
       ·rw [if_pos c16] at H
        have c16b0 : (t291 == 0) = true := beq_iff_eq.mpr c16
        have c16b1 : (t291 != 0) = false := bne_eq_false_iff_eq.mpr c16
        clear c16
        replace H := Option.bind_eq_some_iff.mp H
        obtain ⟨t297, A170, H⟩ := H
        replace H : (if t297 = true then ((impl_DigestOf.f k t274).bind fun t298 => ((spec_DigestOf.f k t274).bind fun t299 => (some (t298 == t299)))) else (some false)) = some r := H
        have A17 := Aside0.mk A170
        clear A170
        by_cases c18 : t297 = true
        ·subst c18
         have H1 : ((impl_DigestOf.f k t274).bind fun t298 => ((spec_DigestOf.f k t274).bind fun t299 => (some (t298 == t299)))) = some r := by rw [if_pos rfl] at H; exact H
         clear H
         have H := H1
         clear H1
         replace H := Option.bind_eq_some_iff.mp H
         obtain ⟨t298, A190, H⟩ := H
         replace H : ((spec_DigestOf.f k t274).bind fun t299 => (some (t298 == t299))) = some r := H
         have A19 := Aside0.mk A190
         clear A190
         replace H := Option.bind_eq_some_iff.mp H
         obtain ⟨t299, A200, H⟩ := H
         replace H : (some (t298 == t299)) = some r := H
         have A20 := Aside0.mk A200
         clear A200
         obtain rfl := Option.some.inj H
         go_enter Tryd.func5, Tryd.ntmps5
         go_wp2_with (first | ((with_reducible refine gate_callee (f := 13) rfl ?_); refine goesL_ (some 10) rfl rfl Tryd.func13 (by kernel_rfl) rfl #[.slice A0 l0.length c0] rfl (by (try simp only [List.map_toArray, List.map_cons, List.map_nil]); first | done | rfl | (simp only [List.length_drop, List.length_take]; rfl)) ?_; (with_reducible refine (laws_lwBig.calls _ _ l0 false _ ?side1 ?side2 A2.out).mono ?_); (case side1 => repeat (first | exact HR0.out | (with_reducible refine Kd.C_alloc ?_ _) | (with_reducible refine Kd.C_drewN ?_ _) | (with_reducible refine Kd.C_drew ?_))); (case side2 => exact HC0.out); rintro e w' ⟨rfl, ⟨nd, rfl⟩⟩; refine ⟨_, rfl, ?_⟩) | ((with_reducible refine gate_callee (f := 14) rfl ?_); refine goesL_ (some 12) rfl rfl Tryd.func14 (by kernel_rfl) rfl #[.slice A0 l0.length c0] rfl (by (try simp only [List.map_toArray, List.map_cons, List.map_nil]); first | done | rfl | (simp only [List.length_drop, List.length_take]; rfl)) ?_; (with_reducible refine (spec_DrawSplitLines.calls k _ _ l0 t274 _ ?side1 ?side2 A4.out).mono ?_); (case side1 => repeat (first | exact HR0.out | (with_reducible refine Kd.C_alloc ?_ _) | (with_reducible refine Kd.C_drewN ?_ _) | (with_reducible refine Kd.C_drew ?_))); (case side2 => exact HC0.out); rintro e w21 ⟨rfl, hb⟩; refine ⟨_, rfl, ?_⟩; have n0_ := Aside0.mk (below_step (by repeat (first | (with_reducible first | exact HB.out | apply below_alloc | apply pw_below_drewN | apply below_drew1) | exact HB.out)) hb); clear HB; have HB := n0_; clear n0_; (try clear hb); (try clear hb2); (try clear hk); (try clear hi)) | ((with_reducible refine gate_callee (f := 9) rfl ?_); refine goesL_ (some 14) rfl rfl Tryd.func9 (by kernel_rfl) rfl #[.string t274] rfl (by (try simp only [List.map_toArray, List.map_cons, List.map_nil]); first | done | rfl | (simp only [List.length_drop, List.length_take]; rfl)) ?_; (with_reducible refine (impl_SplitLines.calls t274 t275 t276 _ A5.out).mono ?_); rintro e w22 ⟨v277, rfl, ho0, hb⟩; refine ⟨_, rfl, ?_⟩; have n0_ := Aside0.mk (Kd.R_lower ho0 (below_size (by repeat (first | (with_reducible first | exact HB.out | apply below_alloc | apply pw_below_drewN | apply below_drew1) | exact HB.out)))); have n1_ := Aside0.mk (below_step (by repeat (first | (with_reducible first | exact HB.out | apply below_alloc | apply pw_below_drewN | apply below_drew1) | exact HB.out)) hb); clear HB; have HO278 := n0_; have HB := n1_; clear n0_ n1_; (try clear hb); (try clear hb2); (try clear hk); (try clear hi); (try clear ho0)) | ((with_reducible refine gate_dst (N := 4) rfl ?_); refine box_event ?hg (N := 4) ?hd (cs := #[.int .i64 0, .slice none 0 0]) (t := 26) ?hr ?_; (case hd => rfl); (case hg => rfl); (case hr => first | (go_simp; done) | (go_simp; rfl)); intro gb279 hg w23 hbox hb; have n0_ := Aside0.mk (Kd.R_below (by (with_reducible repeat (first | apply Kd.R_alloc | apply Kd.R_drewN | apply Kd.R_drew)); exact HO278.out) hb); have n1_ := Aside0.mk (below_step (by repeat (first | (with_reducible first | exact HB.out | apply below_alloc | apply pw_below_drewN | apply below_drew1) | exact HB.out)) hb); have n2_ := Aside0.mk (hbox); have n3_ := Aside0.mk ((by rw [hg]; exact (below_size (by repeat (first | (with_reducible first | exact HB.out | apply below_alloc | apply pw_below_drewN | apply below_drew1) | exact HB.out))) : w.heap.size ≤ gb279)); have n4_ := Aside0.mk ((by rw [hg]; exact (below_size (by repeat (first | (with_reducible first | exact HB.out | apply below_alloc | apply pw_below_drewN | apply below_drew1) | exact HB.out))) : w.heap.size ≤ gb279)); clear HO278; clear HB; have HO278 := n0_; have HB := n1_; have BK279 := n2_; have GW279 := n3_; have GE279 := n4_; clear n0_ n1_ n2_ n3_ n4_; clear hb hbox hg; have hcz24_0 : w23.cell? ⟨gb279, 0, none⟩ = some (.int .i64 0) := (blk_cell BK279.out 0).trans rfl; have hcz24_1 : w23.cell? ⟨gb279, 1, none⟩ = some (.slice none 0 0) := (blk_cell BK279.out 1).trans rfl; have hfz24_0 := blk_frozen BK279.out 0; have hfz24_1 := blk_frozen BK279.out 1; obtain ⟨Ao25, co25, eo25⟩ := Kd.R_slice HO278.out; subst eo25) | ((with_reducible refine gate_callee (f := 15) rfl ?_); refine goesL_ (some 25) rfl rfl Tryd.func15 (by kernel_rfl) rfl #[.slice Ao25 t276.length co25] rfl (by (try simp only [List.map_toArray, List.map_cons, List.map_nil]); first | done | rfl | (simp only [List.length_drop, List.length_take]; rfl)) ?_; (with_reducible refine (impl_JoinLines.calls k _ _ t276 t281 t282 _ ?side1 ?side2 A7.out).mono ?_); (case side1 => refine (Kd.R_reads' (e := 9) (base := w.heap.size) (ok := fun k_ => True) (n := t276.length) (c := co25) ?_).2.2; exact (by (with_reducible repeat (first | apply Kd.R_alloc | apply Kd.R_drewN | apply Kd.R_drew)); exact (Kd.R_mono (Kd.R_far (p := ⟨gb279, 1, none⟩) (Kd.R_far (p := ⟨gb279, 0, none⟩) (Kd.R_types HO278.out BK279.out (by decide)) (fun _ hk => hk.2) (.int .i64 t275)) (fun _ hk => hk.2) (.slice Ao25 t276.length co25)) (fun _ h_ => h_.1)))); (case side2 => exact (Kd.R_reads' HO278.out).2.1); rintro e w26 ⟨rfl, hb⟩; refine ⟨_, rfl, ?_⟩; have n0_ := Aside0.mk (Kd.R_below (by (with_reducible repeat (first | apply Kd.R_alloc | apply Kd.R_drewN | apply Kd.R_drew)); exact (Kd.R_mono (Kd.R_far (p := ⟨gb279, 1, none⟩) (Kd.R_far (p := ⟨gb279, 0, none⟩) (Kd.R_types HO278.out BK279.out (by decide)) (fun _ hk => hk.2) (.int .i64 t275)) (fun _ hk => hk.2) (.slice Ao25 t276.length co25)) (fun _ h_ => h_.1))) hb); have n1_ := Aside0.mk (blk_below (g := gb279) (o := .cells #[.int .i64 t275, .slice Ao25 t276.length co25] 26 (0, 0)) (by (with_reducible repeat (first | refine blk_drewN ?_ _ | refine blk_drew ?_ | refine blk_alloc ?_ _)); refine blk_put (cs := #[.int .i64 t275, .slice none 0 0]) ?_ 1 _ rfl; (with_reducible repeat (first | refine blk_drewN ?_ _ | refine blk_drew ?_ | refine blk_alloc ?_ _)); refine blk_put (cs := #[.int .i64 0, .slice none 0 0]) ?_ 0 _ rfl; (with_reducible repeat (first | refine blk_drewN ?_ _ | refine blk_drew ?_ | refine blk_alloc ?_ _)); exact BK279.out) hb); have n2_ := Aside0.mk (below_step (by repeat (first | (with_reducible first | exact HB.out | apply below_alloc | apply pw_below_drewN | apply below_drew1 | refine below_set ?_ GE279.out) | exact HB.out)) hb); clear HO278; clear BK279; clear HB; have HO278 := n0_; have BK279 := n1_; have HB := n2_; clear n0_ n1_ n2_; (try clear hb); (try clear hb2); (try clear hk); (try clear hi)) | ((with_reducible refine gate_dst (N := 5) rfl ?_); refine box_event ?hg (N := 5) ?hd (cs := #[.int .i64 0, .string (⟨#[]⟩ : ByteArray)]) (t := 34) ?hr ?_; (case hd => rfl); (case hg => rfl); (case hr => first | (go_simp; done) | (go_simp; rfl)); intro gb283 hg w27 hbox hb; have n0_ := Aside0.mk (Kd.R_below (by (with_reducible repeat (first | apply Kd.R_alloc | apply Kd.R_drewN | apply Kd.R_drew)); exact HO278.out) hb); have n1_ := Aside0.mk (blk_below (g := gb279) (o := .cells #[.int .i64 t275, .slice Ao25 t276.length co25] 26 (0, 0)) (by (with_reducible repeat (first | refine blk_drewN ?_ _ | refine blk_drew ?_ | refine blk_alloc ?_ _)); exact BK279.out) hb); have n2_ := Aside0.mk (below_step (by repeat (first | (with_reducible first | exact HB.out | apply below_alloc | apply pw_below_drewN | apply below_drew1 | refine below_set ?_ GE279.out) | exact HB.out)) hb); have n3_ := Aside0.mk (hbox); have n4_ := Aside0.mk ((by rw [hg]; exact (below_size (by repeat (first | (with_reducible first | exact HB.out | apply below_alloc | apply pw_below_drewN | apply below_drew1 | refine below_set ?_ GE279.out) | exact HB.out))) : w.heap.size ≤ gb283)); have n5_ := Aside0.mk ((by rw [hg]; exact (below_size (by repeat (first | (with_reducible first | exact HB.out | apply below_alloc | apply pw_below_drewN | apply below_drew1 | refine below_set ?_ GE279.out) | exact HB.out))) : w.heap.size ≤ gb283)); have n6_ := Aside0.mk ((by rw [hg]; exact Nat.ne_of_lt (blk_lt (g := gb279) (o := .cells #[.int .i64 t275, .slice Ao25 t276.length co25] 26 (0, 0)) (by (with_reducible repeat (first | refine blk_drewN ?_ _ | refine blk_drew ?_ | refine blk_alloc ?_ _)); exact BK279.out)) : gb279 ≠ gb283)); have n7_ := Aside0.mk ((by rw [hg]; exact Nat.ne_of_gt (blk_lt (g := gb279) (o := .cells #[.int .i64 t275, .slice Ao25 t276.length co25] 26 (0, 0)) (by (with_reducible repeat (first | refine blk_drewN ?_ _ | refine blk_drew ?_ | refine blk_alloc ?_ _)); exact BK279.out)) : gb283 ≠ gb279)); clear HO278; clear BK279; clear HB; have HO278 := n0_; have BK279 := n1_; have HB := n2_; have BK283 := n3_; have GW283 := n4_; have GE283 := n5_; have NB279_283 := n6_; have NB283_279 := n7_; clear n0_ n1_ n2_ n3_ n4_ n5_ n6_ n7_; clear hb hbox hg; have hnb28 := NB283_279.out; have hnc28 := NB279_283.out; have hcz29_0 : w27.cell? ⟨gb283, 0, none⟩ = some (.int .i64 0) := (blk_cell BK283.out 0).trans rfl; have hcz29_1 : w27.cell? ⟨gb283, 1, none⟩ = some (.string (⟨#[]⟩ : ByteArray)) := (blk_cell BK283.out 1).trans rfl; have hfz29_0 := blk_frozen BK283.out 0; have hfz29_1 := blk_frozen BK283.out 1) | ((with_reducible refine gate_callee (f := 16) rfl ?_); refine goesL_ (some 27) rfl rfl Tryd.func16 (by kernel_rfl) rfl #[.slice A0 l0.length c0] rfl (by (try simp only [List.map_toArray, List.map_cons, List.map_nil]); first | done | rfl | (simp only [List.length_drop, List.length_take]; rfl)) ?_; (with_reducible refine (spec_DrawJoinLines.calls k _ _ l0 t284 _ ?side1 ?side2 A8.out).mono ?_); (case side1 => exact Kd.C_below HR0.out (by repeat (first | (with_reducible first | exact HB.out | apply below_alloc | apply pw_below_drewN | apply below_drew1 | refine below_set ?_ GE279.out | refine below_set ?_ GE283.out) | exact HB.out))); (case side2 => exact HC0.out); rintro e w30 ⟨v285, rfl, ho0, hb⟩; refine ⟨_, rfl, ?_⟩; have n0_ := Aside0.mk (Kd.R_elder' (by (with_reducible repeat (first | apply Kd.R_alloc | apply Kd.R_drewN | apply Kd.R_drew)); exact (Kd.R_mono (Kd.R_far (p := ⟨gb283, 1, none⟩) (Kd.R_far (p := ⟨gb283, 0, none⟩) (Kd.R_types HO278.out BK283.out (by decide)) (fun _ hk => hk.2) (.int .i64 t281)) (fun _ hk => hk.2) (.string t282)) (fun _ h_ => h_.1))) (Kd.R_base ho0) hb); have n1_ := Aside0.mk (Kd.R_lower (Kd.R_new' ho0 (Kd.R_lt (by (with_reducible repeat (first | apply Kd.R_alloc | apply Kd.R_drewN | apply Kd.R_drew)); exact (Kd.R_mono (Kd.R_far (p := ⟨gb283, 1, none⟩) (Kd.R_far (p := ⟨gb283, 0, none⟩) (Kd.R_types HO278.out BK283.out (by decide)) (fun _ hk => hk.2) (.int .i64 t281)) (fun _ hk => hk.2) (.string t282)) (fun _ h_ => h_.1))))) (below_size (by repeat (first | (with_reducible first | exact HB.out | apply below_alloc | apply pw_below_drewN | apply below_drew1 | refine below_set ?_ GE279.out | refine below_set ?_ GE283.out) | exact HB.out)))); have n2_ := Aside0.mk (blk_below (g := gb279) (o := .cells #[.int .i64 t275, .slice Ao25 t276.length co25] 26 (0, 0)) (by (with_reducible repeat (first | refine blk_drewN ?_ _ | refine blk_drew ?_ | refine blk_alloc ?_ _)); refine blk_far ?_ NB279_283.out _; (with_reducible repeat (first | refine blk_drewN ?_ _ | refine blk_drew ?_ | refine blk_alloc ?_ _)); refine blk_far ?_ NB279_283.out _; (with_reducible repeat (first | refine blk_drewN ?_ _ | refine blk_drew ?_ | refine blk_alloc ?_ _)); exact BK279.out) hb); have n3_ := Aside0.mk (blk_below (g := gb283) (o := .cells #[.int .i64 t281, .string t282] 34 (0, 0)) (by (with_reducible repeat (first | refine blk_drewN ?_ _ | refine blk_drew ?_ | refine blk_alloc ?_ _)); refine blk_put (cs := #[.int .i64 t281, .string (⟨#[]⟩ : ByteArray)]) ?_ 1 _ rfl; (with_reducible repeat (first | refine blk_drewN ?_ _ | refine blk_drew ?_ | refine blk_alloc ?_ _)); refine blk_put (cs := #[.int .i64 0, .string (⟨#[]⟩ : ByteArray)]) ?_ 0 _ rfl; (with_reducible repeat (first | refine blk_drewN ?_ _ | refine blk_drew ?_ | refine blk_alloc ?_ _)); exact BK283.out) hb); have n4_ := Aside0.mk (below_step (by repeat (first | (with_reducible first | exact HB.out | apply below_alloc | apply pw_below_drewN | apply below_drew1 | refine below_set ?_ GE279.out | refine below_set ?_ GE283.out) | exact HB.out)) hb); clear HO278; clear BK279; clear BK283; clear HB; have HO278 := n0_; have HO286 := n1_; have BK279 := n2_; have BK283 := n3_; have HB := n4_; clear n0_ n1_ n2_ n3_ n4_; (try clear hb); (try clear hb2); (try clear hk); (try clear hi); (try clear ho0); obtain ⟨Ao31, co31, eo31⟩ := Kd.R_slice HO286.out; subst eo31) | ((with_reducible refine gate_callee (f := 15) rfl ?_); refine goesL_ (some 29) rfl rfl Tryd.func15 (by kernel_rfl) rfl #[.slice Ao31 t284.length co31] rfl (by (try simp only [List.map_toArray, List.map_cons, List.map_nil]); first | done | rfl | (simp only [List.length_drop, List.length_take]; rfl)) ?_; (with_reducible refine (impl_JoinLines.calls k _ _ t284 t287 t288 _ ?side1 ?side2 A9.out).mono ?_); (case side1 => repeat (first | exact (Kd.R_reads' HO286.out).2.2 | (with_reducible refine Kd.C_alloc ?_ _) | (with_reducible refine Kd.C_drewN ?_ _) | (with_reducible refine Kd.C_drew ?_))); (case side2 => exact (Kd.R_reads' HO286.out).2.1); rintro e w32 ⟨rfl, hb⟩; refine ⟨_, rfl, ?_⟩; have n0_ := Aside0.mk (Kd.R_below (by (with_reducible repeat (first | apply Kd.R_alloc | apply Kd.R_drewN | apply Kd.R_drew)); exact HO278.out) hb); have n1_ := Aside0.mk (Kd.R_below (by (with_reducible repeat (first | apply Kd.R_alloc | apply Kd.R_drewN | apply Kd.R_drew)); exact HO286.out) hb); have n2_ := Aside0.mk (blk_below (g := gb279) (o := .cells #[.int .i64 t275, .slice Ao25 t276.length co25] 26 (0, 0)) (by (with_reducible repeat (first | refine blk_drewN ?_ _ | refine blk_drew ?_ | refine blk_alloc ?_ _)); exact BK279.out) hb); have n3_ := Aside0.mk (blk_below (g := gb283) (o := .cells #[.int .i64 t281, .string t282] 34 (0, 0)) (by (with_reducible repeat (first | refine blk_drewN ?_ _ | refine blk_drew ?_ | refine blk_alloc ?_ _)); exact BK283.out) hb); have n4_ := Aside0.mk (below_step (by repeat (first | (with_reducible first | exact HB.out | apply below_alloc | apply pw_below_drewN | apply below_drew1 | refine below_set ?_ GE279.out | refine below_set ?_ GE283.out) | exact HB.out)) hb); clear HO278; clear HO286; clear BK279; clear BK283; clear HB; have HO278 := n0_; have HO286 := n1_; have BK279 := n2_; have BK283 := n3_; have HB := n4_; clear n0_ n1_ n2_ n3_ n4_; (try clear hb); (try clear hb2); (try clear hk); (try clear hi)) | ((with_reducible refine gate_dst (N := 7) rfl ?_); refine box_event ?hg (N := 7) ?hd (cs := #[.int .i64 0, .string (⟨#[]⟩ : ByteArray)]) (t := 34) ?hr ?_; (case hd => rfl); (case hg => rfl); (case hr => first | (go_simp; done) | (go_simp; rfl)); intro gb289 hg w33 hbox hb; have n0_ := Aside0.mk (Kd.R_below (by (with_reducible repeat (first | apply Kd.R_alloc | apply Kd.R_drewN | apply Kd.R_drew)); exact HO278.out) hb); have n1_ := Aside0.mk (Kd.R_below (by (with_reducible repeat (first | apply Kd.R_alloc | apply Kd.R_drewN | apply Kd.R_drew)); exact HO286.out) hb); have n2_ := Aside0.mk (blk_below (g := gb279) (o := .cells #[.int .i64 t275, .slice Ao25 t276.length co25] 26 (0, 0)) (by (with_reducible repeat (first | refine blk_drewN ?_ _ | refine blk_drew ?_ | refine blk_alloc ?_ _)); exact BK279.out) hb); have n3_ := Aside0.mk (blk_below (g := gb283) (o := .cells #[.int .i64 t281, .string t282] 34 (0, 0)) (by (with_reducible repeat (first | refine blk_drewN ?_ _ | refine blk_drew ?_ | refine blk_alloc ?_ _)); exact BK283.out) hb); have n4_ := Aside0.mk (below_step (by repeat (first | (with_reducible first | exact HB.out | apply below_alloc | apply pw_below_drewN | apply below_drew1 | refine below_set ?_ GE279.out | refine below_set ?_ GE283.out) | exact HB.out)) hb); have n5_ := Aside0.mk (hbox); have n6_ := Aside0.mk ((by rw [hg]; exact (below_size (by repeat (first | (with_reducible first | exact HB.out | apply below_alloc | apply pw_below_drewN | apply below_drew1 | refine below_set ?_ GE279.out | refine below_set ?_ GE283.out) | exact HB.out))) : w.heap.size ≤ gb289)); have n7_ := Aside0.mk ((by rw [hg]; exact (below_size (by repeat (first | (with_reducible first | exact HB.out | apply below_alloc | apply pw_below_drewN | apply below_drew1 | refine below_set ?_ GE279.out | refine below_set ?_ GE283.out) | exact HB.out))) : w.heap.size ≤ gb289)); have n8_ := Aside0.mk ((by rw [hg]; exact Nat.ne_of_lt (blk_lt (g := gb279) (o := .cells #[.int .i64 t275, .slice Ao25 t276.length co25] 26 (0, 0)) (by (with_reducible repeat (first | refine blk_drewN ?_ _ | refine blk_drew ?_ | refine blk_alloc ?_ _)); exact BK279.out)) : gb279 ≠ gb289)); have n9_ := Aside0.mk ((by rw [hg]; exact Nat.ne_of_gt (blk_lt (g := gb279) (o := .cells #[.int .i64 t275, .slice Ao25 t276.length co25] 26 (0, 0)) (by (with_reducible repeat (first | refine blk_drewN ?_ _ | refine blk_drew ?_ | refine blk_alloc ?_ _)); exact BK279.out)) : gb289 ≠ gb279)); have n10_ := Aside0.mk ((by rw [hg]; exact Nat.ne_of_lt (blk_lt (g := gb283) (o := .cells #[.int .i64 t281, .string t282] 34 (0, 0)) (by (with_reducible repeat (first | refine blk_drewN ?_ _ | refine blk_drew ?_ | refine blk_alloc ?_ _)); exact BK283.out)) : gb283 ≠ gb289)); have n11_ := Aside0.mk ((by rw [hg]; exact Nat.ne_of_gt (blk_lt (g := gb283) (o := .cells #[.int .i64 t281, .string t282] 34 (0, 0)) (by (with_reducible repeat (first | refine blk_drewN ?_ _ | refine blk_drew ?_ | refine blk_alloc ?_ _)); exact BK283.out)) : gb289 ≠ gb283)); clear HO278; clear HO286; clear BK279; clear BK283; clear HB; have HO278 := n0_; have HO286 := n1_; have BK279 := n2_; have BK283 := n3_; have HB := n4_; have BK289 := n5_; have GW289 := n6_; have GE289 := n7_; have NB279_289 := n8_; have NB289_279 := n9_; have NB283_289 := n10_; have NB289_283 := n11_; clear n0_ n1_ n2_ n3_ n4_ n5_ n6_ n7_ n8_ n9_ n10_ n11_; clear hb hbox hg; have hnb34 := NB289_279.out; have hnc34 := NB279_289.out; have hnb35 := NB289_283.out; have hnc35 := NB283_289.out; have hcz36_0 : w33.cell? ⟨gb289, 0, none⟩ = some (.int .i64 0) := (blk_cell BK289.out 0).trans rfl; have hcz36_1 : w33.cell? ⟨gb289, 1, none⟩ = some (.string (⟨#[]⟩ : ByteArray)) := (blk_cell BK289.out 1).trans rfl; have hfz36_0 := blk_frozen BK289.out 0; have hfz36_1 := blk_frozen BK289.out 1) | ((with_reducible refine gate_callee (f := 9) rfl ?_); refine goesL_ (some 51) rfl rfl Tryd.func9 (by kernel_rfl) rfl #[.string t288] rfl (by (try simp only [List.map_toArray, List.map_cons, List.map_nil]); first | done | rfl | (simp only [List.length_drop, List.length_take]; rfl)) ?_; (with_reducible refine (impl_SplitLines.calls t288 t291 t292 _ A11.out).mono ?_); rintro e w37 ⟨v293, rfl, ho0, hb⟩; refine ⟨_, rfl, ?_⟩; have n0_ := Aside0.mk (Kd.R_elder' (by (with_reducible repeat (first | apply Kd.R_alloc | apply Kd.R_drewN | apply Kd.R_drew)); exact (Kd.R_mono (Kd.R_far (p := ⟨gb289, 1, none⟩) (Kd.R_far (p := ⟨gb289, 0, none⟩) (Kd.R_types HO278.out BK289.out (by decide)) (fun _ hk => hk.2) (.int .i64 t287)) (fun _ hk => hk.2) (.string t288)) (fun _ h_ => h_.1))) (Kd.R_base ho0) hb); have n1_ := Aside0.mk (Kd.R_elder' (by (with_reducible repeat (first | apply Kd.R_alloc | apply Kd.R_drewN | apply Kd.R_drew)); exact (Kd.R_mono (Kd.R_far (p := ⟨gb289, 1, none⟩) (Kd.R_far (p := ⟨gb289, 0, none⟩) (Kd.R_types HO286.out BK289.out (by decide)) (fun _ hk => hk.2) (.int .i64 t287)) (fun _ hk => hk.2) (.string t288)) (fun _ h_ => h_.1))) (Kd.R_base ho0) hb); have n2_ := Aside0.mk (Kd.R_lower (Kd.R_new' (Kd.R_new' ho0 (Kd.R_lt (by (with_reducible repeat (first | apply Kd.R_alloc | apply Kd.R_drewN | apply Kd.R_drew)); exact (Kd.R_mono (Kd.R_far (p := ⟨gb289, 1, none⟩) (Kd.R_far (p := ⟨gb289, 0, none⟩) (Kd.R_types HO278.out BK289.out (by decide)) (fun _ hk => hk.2) (.int .i64 t287)) (fun _ hk => hk.2) (.string t288)) (fun _ h_ => h_.1))))) (Kd.R_lt (by (with_reducible repeat (first | apply Kd.R_alloc | apply Kd.R_drewN | apply Kd.R_drew)); exact (Kd.R_mono (Kd.R_far (p := ⟨gb289, 1, none⟩) (Kd.R_far (p := ⟨gb289, 0, none⟩) (Kd.R_types HO286.out BK289.out (by decide)) (fun _ hk => hk.2) (.int .i64 t287)) (fun _ hk => hk.2) (.string t288)) (fun _ h_ => h_.1))))) (below_size (by repeat (first | (with_reducible first | exact HB.out | apply below_alloc | apply pw_below_drewN | apply below_drew1 | refine below_set ?_ GE279.out | refine below_set ?_ GE283.out | refine below_set ?_ GE289.out) | exact HB.out)))); have n3_ := Aside0.mk (blk_below (g := gb279) (o := .cells #[.int .i64 t275, .slice Ao25 t276.length co25] 26 (0, 0)) (by (with_reducible repeat (first | refine blk_drewN ?_ _ | refine blk_drew ?_ | refine blk_alloc ?_ _)); refine blk_far ?_ NB279_289.out _; (with_reducible repeat (first | refine blk_drewN ?_ _ | refine blk_drew ?_ | refine blk_alloc ?_ _)); refine blk_far ?_ NB279_289.out _; (with_reducible repeat (first | refine blk_drewN ?_ _ | refine blk_drew ?_ | refine blk_alloc ?_ _)); exact BK279.out) hb); have n4_ := Aside0.mk (blk_below (g := gb283) (o := .cells #[.int .i64 t281, .string t282] 34 (0, 0)) (by (with_reducible repeat (first | refine blk_drewN ?_ _ | refine blk_drew ?_ | refine blk_alloc ?_ _)); refine blk_far ?_ NB283_289.out _; (with_reducible repeat (first | refine blk_drewN ?_ _ | refine blk_drew ?_ | refine blk_alloc ?_ _)); refine blk_far ?_ NB283_289.out _; (with_reducible repeat (first | refine blk_drewN ?_ _ | refine blk_drew ?_ | refine blk_alloc ?_ _)); exact BK283.out) hb); have n5_ := Aside0.mk (blk_below (g := gb289) (o := .cells #[.int .i64 t287, .string t288] 34 (0, 0)) (by (with_reducible repeat (first | refine blk_drewN ?_ _ | refine blk_drew ?_ | refine blk_alloc ?_ _)); refine blk_put (cs := #[.int .i64 t287, .string (⟨#[]⟩ : ByteArray)]) ?_ 1 _ rfl; (with_reducible repeat (first | refine blk_drewN ?_ _ | refine blk_drew ?_ | refine blk_alloc ?_ _)); refine blk_put (cs := #[.int .i64 0, .string (⟨#[]⟩ : ByteArray)]) ?_ 0 _ rfl; (with_reducible repeat (first | refine blk_drewN ?_ _ | refine blk_drew ?_ | refine blk_alloc ?_ _)); exact BK289.out) hb); have n6_ := Aside0.mk (below_step (by repeat (first | (with_reducible first | exact HB.out | apply below_alloc | apply pw_below_drewN | apply below_drew1 | refine below_set ?_ GE279.out | refine below_set ?_ GE283.out | refine below_set ?_ GE289.out) | exact HB.out)) hb); clear HO278; clear HO286; clear BK279; clear BK283; clear BK289; clear HB; have HO278 := n0_; have HO286 := n1_; have HO294 := n2_; have BK279 := n3_; have BK283 := n4_; have BK289 := n5_; have HB := n6_; clear n0_ n1_ n2_ n3_ n4_ n5_ n6_; (try clear hb); (try clear hb2); (try clear hk); (try clear hi); (try clear ho0)) | ((with_reducible refine gate_dst (N := 8) rfl ?_); refine box_event ?hg (N := 8) ?hd (cs := #[.int .i64 0, .slice none 0 0]) (t := 26) ?hr ?_; (case hd => rfl); (case hg => rfl); (case hr => first | (go_simp; done) | (go_simp; rfl)); intro gb295 hg w38 hbox hb; have n0_ := Aside0.mk (Kd.R_below (by (with_reducible repeat (first | apply Kd.R_alloc | apply Kd.R_drewN | apply Kd.R_drew)); exact HO278.out) hb); have n1_ := Aside0.mk (Kd.R_below (by (with_reducible repeat (first | apply Kd.R_alloc | apply Kd.R_drewN | apply Kd.R_drew)); exact HO286.out) hb); have n2_ := Aside0.mk (Kd.R_below (by (with_reducible repeat (first | apply Kd.R_alloc | apply Kd.R_drewN | apply Kd.R_drew)); exact HO294.out) hb); have n3_ := Aside0.mk (blk_below (g := gb279) (o := .cells #[.int .i64 t275, .slice Ao25 t276.length co25] 26 (0, 0)) (by (with_reducible repeat (first | refine blk_drewN ?_ _ | refine blk_drew ?_ | refine blk_alloc ?_ _)); exact BK279.out) hb); have n4_ := Aside0.mk (blk_below (g := gb283) (o := .cells #[.int .i64 t281, .string t282] 34 (0, 0)) (by (with_reducible repeat (first | refine blk_drewN ?_ _ | refine blk_drew ?_ | refine blk_alloc ?_ _)); exact BK283.out) hb); have n5_ := Aside0.mk (blk_below (g := gb289) (o := .cells #[.int .i64 t287, .string t288] 34 (0, 0)) (by (with_reducible repeat (first | refine blk_drewN ?_ _ | refine blk_drew ?_ | refine blk_alloc ?_ _)); exact BK289.out) hb); have n6_ := Aside0.mk (below_step (by repeat (first | (with_reducible first | exact HB.out | apply below_alloc | apply pw_below_drewN | apply below_drew1 | refine below_set ?_ GE279.out | refine below_set ?_ GE283.out | refine below_set ?_ GE289.out) | exact HB.out)) hb); have n7_ := Aside0.mk (hbox); have n8_ := Aside0.mk ((by rw [hg]; exact (below_size (by repeat (first | (with_reducible first | exact HB.out | apply below_alloc | apply pw_below_drewN | apply below_drew1 | refine below_set ?_ GE279.out | refine below_set ?_ GE283.out | refine below_set ?_ GE289.out) | exact HB.out))) : w.heap.size ≤ gb295)); have n9_ := Aside0.mk ((by rw [hg]; exact (below_size (by repeat (first | (with_reducible first | exact HB.out | apply below_alloc | apply pw_below_drewN | apply below_drew1 | refine below_set ?_ GE279.out | refine below_set ?_ GE283.out | refine below_set ?_ GE289.out) | exact HB.out))) : w.heap.size ≤ gb295)); have n10_ := Aside0.mk ((by rw [hg]; exact Nat.ne_of_lt (blk_lt (g := gb279) (o := .cells #[.int .i64 t275, .slice Ao25 t276.length co25] 26 (0, 0)) (by (with_reducible repeat (first | refine blk_drewN ?_ _ | refine blk_drew ?_ | refine blk_alloc ?_ _)); exact BK279.out)) : gb279 ≠ gb295)); have n11_ := Aside0.mk ((by rw [hg]; exact Nat.ne_of_gt (blk_lt (g := gb279) (o := .cells #[.int .i64 t275, .slice Ao25 t276.length co25] 26 (0, 0)) (by (with_reducible repeat (first | refine blk_drewN ?_ _ | refine blk_drew ?_ | refine blk_alloc ?_ _)); exact BK279.out)) : gb295 ≠ gb279)); have n12_ := Aside0.mk ((by rw [hg]; exact Nat.ne_of_lt (blk_lt (g := gb283) (o := .cells #[.int .i64 t281, .string t282] 34 (0, 0)) (by (with_reducible repeat (first | refine blk_drewN ?_ _ | refine blk_drew ?_ | refine blk_alloc ?_ _)); exact BK283.out)) : gb283 ≠ gb295)); have n13_ := Aside0.mk ((by rw [hg]; exact Nat.ne_of_gt (blk_lt (g := gb283) (o := .cells #[.int .i64 t281, .string t282] 34 (0, 0)) (by (with_reducible repeat (first | refine blk_drewN ?_ _ | refine blk_drew ?_ | refine blk_alloc ?_ _)); exact BK283.out)) : gb295 ≠ gb283)); have n14_ := Aside0.mk ((by rw [hg]; exact Nat.ne_of_lt (blk_lt (g := gb289) (o := .cells #[.int .i64 t287, .string t288] 34 (0, 0)) (by (with_reducible repeat (first | refine blk_drewN ?_ _ | refine blk_drew ?_ | refine blk_alloc ?_ _)); exact BK289.out)) : gb289 ≠ gb295)); have n15_ := Aside0.mk ((by rw [hg]; exact Nat.ne_of_gt (blk_lt (g := gb289) (o := .cells #[.int .i64 t287, .string t288] 34 (0, 0)) (by (with_reducible repeat (first | refine blk_drewN ?_ _ | refine blk_drew ?_ | refine blk_alloc ?_ _)); exact BK289.out)) : gb295 ≠ gb289)); clear HO278; clear HO286; clear HO294; clear BK279; clear BK283; clear BK289; clear HB; have HO278 := n0_; have HO286 := n1_; have HO294 := n2_; have BK279 := n3_; have BK283 := n4_; have BK289 := n5_; have HB := n6_; have BK295 := n7_; have GW295 := n8_; have GE295 := n9_; have NB279_295 := n10_; have NB295_279 := n11_; have NB283_295 := n12_; have NB295_283 := n13_; have NB289_295 := n14_; have NB295_289 := n15_; clear n0_ n1_ n2_ n3_ n4_ n5_ n6_ n7_ n8_ n9_ n10_ n11_ n12_ n13_ n14_ n15_; clear hb hbox hg; have hnb39 := NB295_279.out; have hnc39 := NB279_295.out; have hnb40 := NB295_283.out; have hnc40 := NB283_295.out; have hnb41 := NB295_289.out; have hnc41 := NB289_295.out; have hcz42_0 : w38.cell? ⟨gb295, 0, none⟩ = some (.int .i64 0) := (blk_cell BK295.out 0).trans rfl; have hcz42_1 : w38.cell? ⟨gb295, 1, none⟩ = some (.slice none 0 0) := (blk_cell BK295.out 1).trans rfl; have hfz42_0 := blk_frozen BK295.out 0; have hfz42_1 := blk_frozen BK295.out 1; obtain ⟨Ao43, co43, eo43⟩ := Kd.R_slice HO294.out; subst eo43; have hcz44_0 : w38.cell? ⟨gb279, 0, none⟩ = some (.int .i64 t275) := (blk_cell BK279.out 0).trans rfl; have hcz44_1 : w38.cell? ⟨gb279, 1, none⟩ = some (.slice Ao25 t276.length co25) := (blk_cell BK279.out 1).trans rfl; have hfz44_0 := blk_frozen BK279.out 0; have hfz44_1 := blk_frozen BK279.out 1) | ((with_reducible refine gate_callee (f := 18) rfl ?_); refine goesL_ (some 54) rfl rfl Tryd.func18 (by kernel_rfl) rfl #[.slice Ao25 t276.length co25] rfl (by (try simp only [List.map_toArray, List.map_cons, List.map_nil]); first | done | rfl | (simp only [List.length_drop, List.length_take]; rfl)) ?_; (with_reducible refine (impl_LinesFault.calls k _ _ t276 t296 _ ?side1 ?side2 A12.out).mono ?_); (case side1 => refine (Kd.R_reads' (e := 9) (base := w.heap.size) (ok := fun k_ => ((True ∧ some k_ ≠ (.slice Ao31 t284.length co31 : Value).ownBlock) ∧ some k_ ≠ (.slice Ao43 t292.length co43 : Value).ownBlock)) (n := t276.length) (c := co25) ?_).2.2; exact (by (with_reducible repeat (first | apply Kd.R_alloc | apply Kd.R_drewN | apply Kd.R_drew)); exact (Kd.R_mono (Kd.R_far (p := ⟨gb295, 1, none⟩) (Kd.R_far (p := ⟨gb295, 0, none⟩) (Kd.R_types HO278.out BK295.out (by decide)) (fun _ hk => hk.2) (.int .i64 t291)) (fun _ hk => hk.2) (.slice Ao43 t292.length co43)) (fun _ h_ => h_.1)))); (case side2 => exact (Kd.R_reads' HO278.out).2.1); rintro e w45 ⟨rfl, hb⟩; refine ⟨_, rfl, ?_⟩; have n0_ := Aside0.mk (Kd.R_below (by (with_reducible repeat (first | apply Kd.R_alloc | apply Kd.R_drewN | apply Kd.R_drew)); exact (Kd.R_mono (Kd.R_far (p := ⟨gb295, 1, none⟩) (Kd.R_far (p := ⟨gb295, 0, none⟩) (Kd.R_types HO278.out BK295.out (by decide)) (fun _ hk => hk.2) (.int .i64 t291)) (fun _ hk => hk.2) (.slice Ao43 t292.length co43)) (fun _ h_ => h_.1))) hb); have n1_ := Aside0.mk (Kd.R_below (by (with_reducible repeat (first | apply Kd.R_alloc | apply Kd.R_drewN | apply Kd.R_drew)); exact (Kd.R_mono (Kd.R_far (p := ⟨gb295, 1, none⟩) (Kd.R_far (p := ⟨gb295, 0, none⟩) (Kd.R_types HO286.out BK295.out (by decide)) (fun _ hk => hk.2) (.int .i64 t291)) (fun _ hk => hk.2) (.slice Ao43 t292.length co43)) (fun _ h_ => h_.1))) hb); have n2_ := Aside0.mk (Kd.R_below (by (with_reducible repeat (first | apply Kd.R_alloc | apply Kd.R_drewN | apply Kd.R_drew)); exact (Kd.R_mono (Kd.R_far (p := ⟨gb295, 1, none⟩) (Kd.R_far (p := ⟨gb295, 0, none⟩) (Kd.R_types HO294.out BK295.out (by decide)) (fun _ hk => hk.2) (.int .i64 t291)) (fun _ hk => hk.2) (.slice Ao43 t292.length co43)) (fun _ h_ => h_.1))) hb); have n3_ := Aside0.mk (blk_below (g := gb279) (o := .cells #[.int .i64 t275, .slice Ao25 t276.length co25] 26 (0, 0)) (by (with_reducible repeat (first | refine blk_drewN ?_ _ | refine blk_drew ?_ | refine blk_alloc ?_ _)); refine blk_far ?_ NB279_295.out _; (with_reducible repeat (first | refine blk_drewN ?_ _ | refine blk_drew ?_ | refine blk_alloc ?_ _)); refine blk_far ?_ NB279_295.out _; (with_reducible repeat (first | refine blk_drewN ?_ _ | refine blk_drew ?_ | refine blk_alloc ?_ _)); exact BK279.out) hb); have n4_ := Aside0.mk (blk_below (g := gb283) (o := .cells #[.int .i64 t281, .string t282] 34 (0, 0)) (by (with_reducible repeat (first | refine blk_drewN ?_ _ | refine blk_drew ?_ | refine blk_alloc ?_ _)); refine blk_far ?_ NB283_295.out _; (with_reducible repeat (first | refine blk_drewN ?_ _ | refine blk_drew ?_ | refine blk_alloc ?_ _)); refine blk_far ?_ NB283_295.out _; (with_reducible repeat (first | refine blk_drewN ?_ _ | refine blk_drew ?_ | refine blk_alloc ?_ _)); exact BK283.out) hb); have n5_ := Aside0.mk (blk_below (g := gb289) (o := .cells #[.int .i64 t287, .string t288] 34 (0, 0)) (by (with_reducible repeat (first | refine blk_drewN ?_ _ | refine blk_drew ?_ | refine blk_alloc ?_ _)); refine blk_far ?_ NB289_295.out _; (with_reducible repeat (first | refine blk_drewN ?_ _ | refine blk_drew ?_ | refine blk_alloc ?_ _)); refine blk_far ?_ NB289_295.out _; (with_reducible repeat (first | refine blk_drewN ?_ _ | refine blk_drew ?_ | refine blk_alloc ?_ _)); exact BK289.out) hb); have n6_ := Aside0.mk (blk_below (g := gb295) (o := .cells #[.int .i64 t291, .slice Ao43 t292.length co43] 26 (0, 0)) (by (with_reducible repeat (first | refine blk_drewN ?_ _ | refine blk_drew ?_ | refine blk_alloc ?_ _)); refine blk_put (cs := #[.int .i64 t291, .slice none 0 0]) ?_ 1 _ rfl; (with_reducible repeat (first | refine blk_drewN ?_ _ | refine blk_drew ?_ | refine blk_alloc ?_ _)); refine blk_put (cs := #[.int .i64 0, .slice none 0 0]) ?_ 0 _ rfl; (with_reducible repeat (first | refine blk_drewN ?_ _ | refine blk_drew ?_ | refine blk_alloc ?_ _)); exact BK295.out) hb); have n7_ := Aside0.mk (below_step (by repeat (first | (with_reducible first | exact HB.out | apply below_alloc | apply pw_below_drewN | apply below_drew1 | refine below_set ?_ GE279.out | refine below_set ?_ GE283.out | refine below_set ?_ GE289.out | refine below_set ?_ GE295.out) | exact HB.out)) hb); clear HO278; clear HO286; clear HO294; clear BK279; clear BK283; clear BK289; clear BK295; clear HB; have HO278 := n0_; have HO286 := n1_; have HO294 := n2_; have BK279 := n3_; have BK283 := n4_; have BK289 := n5_; have BK295 := n6_; have HB := n7_; clear n0_ n1_ n2_ n3_ n4_ n5_ n6_ n7_; (try clear hb); (try clear hb2); (try clear hk); (try clear hi); have hcz46_0 : w45.cell? ⟨gb283, 0, none⟩ = some (.int .i64 t281) := (blk_cell BK283.out 0).trans rfl; have hcz46_1 : w45.cell? ⟨gb283, 1, none⟩ = some (.string t282) := (blk_cell BK283.out 1).trans rfl; have hfz46_0 := blk_frozen BK283.out 0; have hfz46_1 := blk_frozen BK283.out 1; have hcz47_0 : w45.cell? ⟨gb295, 0, none⟩ = some (.int .i64 t291) := (blk_cell BK295.out 0).trans rfl; have hcz47_1 : w45.cell? ⟨gb295, 1, none⟩ = some (.slice Ao43 t292.length co43) := (blk_cell BK295.out 1).trans rfl; have hfz47_0 := blk_frozen BK295.out 0; have hfz47_1 := blk_frozen BK295.out 1) | (go_at_call 19; (with_reducible refine (impl_SameLines.calls k _ _ t292 _ _ t284 true _ ?side1 ?side2 ?side3 ?side4 A17.out).mono ?_); (case side1 => repeat (first | exact (Kd.R_reads' HO294.out).2.2 | (with_reducible refine Kd.C_alloc ?_ _) | (with_reducible refine Kd.C_drewN ?_ _) | (with_reducible refine Kd.C_drew ?_))); (case side2 => exact (Kd.R_reads' HO294.out).2.1); (case side3 => repeat (first | exact (Kd.R_reads' HO286.out).2.2 | (with_reducible refine Kd.C_alloc ?_ _) | (with_reducible refine Kd.C_drewN ?_ _) | (with_reducible refine Kd.C_drew ?_))); (case side4 => exact (Kd.R_reads' HO286.out).2.1); rintro e w' ⟨rfl, ⟨nd, rfl⟩⟩) | (go_at_call 20; (with_reducible refine (impl_DigestOf.calls k t274 t298 _ A19.out).mono ?_); rintro e w' ⟨rfl, ⟨nd, rfl⟩⟩) | (go_at_call 21; (with_reducible refine (spec_DigestOf.calls k t274 t299 _ A20.out).mono ?_); rintro e w' ⟨rfl, ⟨nd, rfl⟩⟩))
         go_ret
         exact ⟨by first | rfl | (simp [errW_none, errW_some] <;> rfl) | (simp [*, errW_none, errW_some] <;> rfl), by repeat (first | (with_reducible first | exact HB.out | apply below_alloc | apply pw_below_drewN | apply below_drew1 | refine below_set ?_ GE279.out | refine below_set ?_ GE283.out | refine below_set ?_ GE289.out | refine below_set ?_ GE295.out) | exact HB.out)⟩
        ·replace c18 := Bool.eq_false_iff.mpr c18
         subst c18
         have H1 : (some false) = some r := by rw [if_neg (show ¬ (false = true) by decide)] at H; exact H
         clear H
         have H := H1
         clear H1
         exact absurd ((Option.some.inj H).trans HLAW.out) (by decide)
       ·rw [if_neg c16] at H
        have c16b0 : (t291 == 0) = false := beq_eq_false_iff_ne.mpr c16
        have c16b1 : (t291 != 0) = true := bne_iff_ne.mpr c16
        exact absurd ((Option.some.inj H).trans HLAW.out) (by decide)
      ·rw [if_neg c15] at H
       have c15b0 : (t282.toList == t274.toList) = false := beq_eq_false_iff_ne.mpr c15
       have c15b1 : (t282.toList != t274.toList) = true := bne_iff_ne.mpr c15
       exact absurd ((Option.some.inj H).trans HLAW.out) (by decide)
     ·rw [if_neg c14] at H
      have c14b0 : (t281 == 0) = false := beq_eq_false_iff_ne.mpr c14
      have c14b1 : (t281 != 0) = true := bne_iff_ne.mpr c14
      exact absurd ((Option.some.inj H).trans HLAW.out) (by decide)
    ·rw [if_neg c13] at H
     have c13b0 : (t296 == 0) = false := beq_eq_false_iff_ne.mpr c13
     have c13b1 : (t296 != 0) = true := bne_iff_ne.mpr c13
     exact absurd ((Option.some.inj H).trans HLAW.out) (by decide)
   ·rw [if_neg c10] at H
    have c10b0 : (t287 == 0) = false := beq_eq_false_iff_ne.mpr c10
    have c10b1 : (t287 != 0) = true := bne_iff_ne.mpr c10
    replace H := Option.bind_eq_some_iff.mp H
    obtain ⟨t290, A480, H⟩ := H
    replace H : (if t290 = t287 then (if t281 = 0 then (some (t282.toList == t274.toList)) else (some false)) else (some false)) = some r := H
    have A48 := Aside0.mk A480
    clear A480
    by_cases c49 : t290 = t287
    ·rw [if_pos c49] at H
     have c49b0 : (t290 == t287) = true := beq_iff_eq.mpr c49
     have c49b1 : (t290 != t287) = false := bne_eq_false_iff_eq.mpr c49
     clear c49
     by_cases c50 : t281 = 0
     ·rw [if_pos c50] at H
      have c50b0 : (t281 == 0) = true := beq_iff_eq.mpr c50
      have c50b1 : (t281 != 0) = false := bne_eq_false_iff_eq.mpr c50
      clear c50
      obtain rfl := Option.some.inj H
      go_enter Tryd.func5, Tryd.ntmps5
      try go_wp2_with (first | ((with_reducible refine gate_callee (f := 13) rfl ?_); refine goesL_ (some 10) rfl rfl Tryd.func13 (by kernel_rfl) rfl #[.slice A0 l0.length c0] rfl (by (try simp only [List.map_toArray, List.map_cons, List.map_nil]); first | done | rfl | (simp only [List.length_drop, List.length_take]; rfl)) ?_; (with_reducible refine (laws_lwBig.calls _ _ l0 false _ ?side1 ?side2 A2.out).mono ?_); (case side1 => repeat (first | exact HR0.out | (with_reducible refine Kd.C_alloc ?_ _) | (with_reducible refine Kd.C_drewN ?_ _) | (with_reducible refine Kd.C_drew ?_))); (case side2 => exact HC0.out); rintro e w' ⟨rfl, ⟨nd, rfl⟩⟩; refine ⟨_, rfl, ?_⟩) | ((with_reducible refine gate_callee (f := 14) rfl ?_); refine goesL_ (some 12) rfl rfl Tryd.func14 (by kernel_rfl) rfl #[.slice A0 l0.length c0] rfl (by (try simp only [List.map_toArray, List.map_cons, List.map_nil]); first | done | rfl | (simp only [List.length_drop, List.length_take]; rfl)) ?_; (with_reducible refine (spec_DrawSplitLines.calls k _ _ l0 t274 _ ?side1 ?side2 A4.out).mono ?_); (case side1 => repeat (first | exact HR0.out | (with_reducible refine Kd.C_alloc ?_ _) | (with_reducible refine Kd.C_drewN ?_ _) | (with_reducible refine Kd.C_drew ?_))); (case side2 => exact HC0.out); rintro e w51 ⟨rfl, hb⟩; refine ⟨_, rfl, ?_⟩; have n0_ := Aside0.mk (below_step (by repeat (first | (with_reducible first | exact HB.out | apply below_alloc | apply pw_below_drewN | apply below_drew1) | exact HB.out)) hb); clear HB; have HB := n0_; clear n0_; (try clear hb); (try clear hb2); (try clear hk); (try clear hi)) | ((with_reducible refine gate_callee (f := 9) rfl ?_); refine goesL_ (some 14) rfl rfl Tryd.func9 (by kernel_rfl) rfl #[.string t274] rfl (by (try simp only [List.map_toArray, List.map_cons, List.map_nil]); first | done | rfl | (simp only [List.length_drop, List.length_take]; rfl)) ?_; (with_reducible refine (impl_SplitLines.calls t274 t275 t276 _ A5.out).mono ?_); rintro e w52 ⟨v277, rfl, ho0, hb⟩; refine ⟨_, rfl, ?_⟩; have n0_ := Aside0.mk (Kd.R_lower ho0 (below_size (by repeat (first | (with_reducible first | exact HB.out | apply below_alloc | apply pw_below_drewN | apply below_drew1) | exact HB.out)))); have n1_ := Aside0.mk (below_step (by repeat (first | (with_reducible first | exact HB.out | apply below_alloc | apply pw_below_drewN | apply below_drew1) | exact HB.out)) hb); clear HB; have HO278 := n0_; have HB := n1_; clear n0_ n1_; (try clear hb); (try clear hb2); (try clear hk); (try clear hi); (try clear ho0)) | ((with_reducible refine gate_dst (N := 4) rfl ?_); refine box_event ?hg (N := 4) ?hd (cs := #[.int .i64 0, .slice none 0 0]) (t := 26) ?hr ?_; (case hd => rfl); (case hg => rfl); (case hr => first | (go_simp; done) | (go_simp; rfl)); intro gb279 hg w53 hbox hb; have n0_ := Aside0.mk (Kd.R_below (by (with_reducible repeat (first | apply Kd.R_alloc | apply Kd.R_drewN | apply Kd.R_drew)); exact HO278.out) hb); have n1_ := Aside0.mk (below_step (by repeat (first | (with_reducible first | exact HB.out | apply below_alloc | apply pw_below_drewN | apply below_drew1) | exact HB.out)) hb); have n2_ := Aside0.mk (hbox); have n3_ := Aside0.mk ((by rw [hg]; exact (below_size (by repeat (first | (with_reducible first | exact HB.out | apply below_alloc | apply pw_below_drewN | apply below_drew1) | exact HB.out))) : w.heap.size ≤ gb279)); have n4_ := Aside0.mk ((by rw [hg]; exact (below_size (by repeat (first | (with_reducible first | exact HB.out | apply below_alloc | apply pw_below_drewN | apply below_drew1) | exact HB.out))) : w.heap.size ≤ gb279)); clear HO278; clear HB; have HO278 := n0_; have HB := n1_; have BK279 := n2_; have GW279 := n3_; have GE279 := n4_; clear n0_ n1_ n2_ n3_ n4_; clear hb hbox hg; have hcz54_0 : w53.cell? ⟨gb279, 0, none⟩ = some (.int .i64 0) := (blk_cell BK279.out 0).trans rfl; have hcz54_1 : w53.cell? ⟨gb279, 1, none⟩ = some (.slice none 0 0) := (blk_cell BK279.out 1).trans rfl; have hfz54_0 := blk_frozen BK279.out 0; have hfz54_1 := blk_frozen BK279.out 1; obtain ⟨Ao55, co55, eo55⟩ := Kd.R_slice HO278.out; subst eo55) | ((with_reducible refine gate_callee (f := 15) rfl ?_); refine goesL_ (some 25) rfl rfl Tryd.func15 (by kernel_rfl) rfl #[.slice Ao55 t276.length co55] rfl (by (try simp only [List.map_toArray, List.map_cons, List.map_nil]); first | done | rfl | (simp only [List.length_drop, List.length_take]; rfl)) ?_; (with_reducible refine (impl_JoinLines.calls k _ _ t276 t281 t282 _ ?side1 ?side2 A7.out).mono ?_); (case side1 => refine (Kd.R_reads' (e := 9) (base := w.heap.size) (ok := fun k_ => True) (n := t276.length) (c := co55) ?_).2.2; exact (by (with_reducible repeat (first | apply Kd.R_alloc | apply Kd.R_drewN | apply Kd.R_drew)); exact (Kd.R_mono (Kd.R_far (p := ⟨gb279, 1, none⟩) (Kd.R_far (p := ⟨gb279, 0, none⟩) (Kd.R_types HO278.out BK279.out (by decide)) (fun _ hk => hk.2) (.int .i64 t275)) (fun _ hk => hk.2) (.slice Ao55 t276.length co55)) (fun _ h_ => h_.1)))); (case side2 => exact (Kd.R_reads' HO278.out).2.1); rintro e w56 ⟨rfl, hb⟩; refine ⟨_, rfl, ?_⟩; have n0_ := Aside0.mk (Kd.R_below (by (with_reducible repeat (first | apply Kd.R_alloc | apply Kd.R_drewN | apply Kd.R_drew)); exact (Kd.R_mono (Kd.R_far (p := ⟨gb279, 1, none⟩) (Kd.R_far (p := ⟨gb279, 0, none⟩) (Kd.R_types HO278.out BK279.out (by decide)) (fun _ hk => hk.2) (.int .i64 t275)) (fun _ hk => hk.2) (.slice Ao55 t276.length co55)) (fun _ h_ => h_.1))) hb); have n1_ := Aside0.mk (blk_below (g := gb279) (o := .cells #[.int .i64 t275, .slice Ao55 t276.length co55] 26 (0, 0)) (by (with_reducible repeat (first | refine blk_drewN ?_ _ | refine blk_drew ?_ | refine blk_alloc ?_ _)); refine blk_put (cs := #[.int .i64 t275, .slice none 0 0]) ?_ 1 _ rfl; (with_reducible repeat (first | refine blk_drewN ?_ _ | refine blk_drew ?_ | refine blk_alloc ?_ _)); refine blk_put (cs := #[.int .i64 0, .slice none 0 0]) ?_ 0 _ rfl; (with_reducible repeat (first | refine blk_drewN ?_ _ | refine blk_drew ?_ | refine blk_alloc ?_ _)); exact BK279.out) hb); have n2_ := Aside0.mk (below_step (by repeat (first | (with_reducible first | exact HB.out | apply below_alloc | apply pw_below_drewN | apply below_drew1 | refine below_set ?_ GE279.out) | exact HB.out)) hb); clear HO278; clear BK279; clear HB; have HO278 := n0_; have BK279 := n1_; have HB := n2_; clear n0_ n1_ n2_; (try clear hb); (try clear hb2); (try clear hk); (try clear hi)) | ((with_reducible refine gate_dst (N := 5) rfl ?_); refine box_event ?hg (N := 5) ?hd (cs := #[.int .i64 0, .string (⟨#[]⟩ : ByteArray)]) (t := 34) ?hr ?_; (case hd => rfl); (case hg => rfl); (case hr => first | (go_simp; done) | (go_simp; rfl)); intro gb283 hg w57 hbox hb; have n0_ := Aside0.mk (Kd.R_below (by (with_reducible repeat (first | apply Kd.R_alloc | apply Kd.R_drewN | apply Kd.R_drew)); exact HO278.out) hb); have n1_ := Aside0.mk (blk_below (g := gb279) (o := .cells #[.int .i64 t275, .slice Ao55 t276.length co55] 26 (0, 0)) (by (with_reducible repeat (first | refine blk_drewN ?_ _ | refine blk_drew ?_ | refine blk_alloc ?_ _)); exact BK279.out) hb); have n2_ := Aside0.mk (below_step (by repeat (first | (with_reducible first | exact HB.out | apply below_alloc | apply pw_below_drewN | apply below_drew1 | refine below_set ?_ GE279.out) | exact HB.out)) hb); have n3_ := Aside0.mk (hbox); have n4_ := Aside0.mk ((by rw [hg]; exact (below_size (by repeat (first | (with_reducible first | exact HB.out | apply below_alloc | apply pw_below_drewN | apply below_drew1 | refine below_set ?_ GE279.out) | exact HB.out))) : w.heap.size ≤ gb283)); have n5_ := Aside0.mk ((by rw [hg]; exact (below_size (by repeat (first | (with_reducible first | exact HB.out | apply below_alloc | apply pw_below_drewN | apply below_drew1 | refine below_set ?_ GE279.out) | exact HB.out))) : w.heap.size ≤ gb283)); have n6_ := Aside0.mk ((by rw [hg]; exact Nat.ne_of_lt (blk_lt (g := gb279) (o := .cells #[.int .i64 t275, .slice Ao55 t276.length co55] 26 (0, 0)) (by (with_reducible repeat (first | refine blk_drewN ?_ _ | refine blk_drew ?_ | refine blk_alloc ?_ _)); exact BK279.out)) : gb279 ≠ gb283)); have n7_ := Aside0.mk ((by rw [hg]; exact Nat.ne_of_gt (blk_lt (g := gb279) (o := .cells #[.int .i64 t275, .slice Ao55 t276.length co55] 26 (0, 0)) (by (with_reducible repeat (first | refine blk_drewN ?_ _ | refine blk_drew ?_ | refine blk_alloc ?_ _)); exact BK279.out)) : gb283 ≠ gb279)); clear HO278; clear BK279; clear HB; have HO278 := n0_; have BK279 := n1_; have HB := n2_; have BK283 := n3_; have GW283 := n4_; have GE283 := n5_; have NB279_283 := n6_; have NB283_279 := n7_; clear n0_ n1_ n2_ n3_ n4_ n5_ n6_ n7_; clear hb hbox hg; have hnb58 := NB283_279.out; have hnc58 := NB279_283.out; have hcz59_0 : w57.cell? ⟨gb283, 0, none⟩ = some (.int .i64 0) := (blk_cell BK283.out 0).trans rfl; have hcz59_1 : w57.cell? ⟨gb283, 1, none⟩ = some (.string (⟨#[]⟩ : ByteArray)) := (blk_cell BK283.out 1).trans rfl; have hfz59_0 := blk_frozen BK283.out 0; have hfz59_1 := blk_frozen BK283.out 1) | ((with_reducible refine gate_callee (f := 16) rfl ?_); refine goesL_ (some 27) rfl rfl Tryd.func16 (by kernel_rfl) rfl #[.slice A0 l0.length c0] rfl (by (try simp only [List.map_toArray, List.map_cons, List.map_nil]); first | done | rfl | (simp only [List.length_drop, List.length_take]; rfl)) ?_; (with_reducible refine (spec_DrawJoinLines.calls k _ _ l0 t284 _ ?side1 ?side2 A8.out).mono ?_); (case side1 => exact Kd.C_below HR0.out (by repeat (first | (with_reducible first | exact HB.out | apply below_alloc | apply pw_below_drewN | apply below_drew1 | refine below_set ?_ GE279.out | refine below_set ?_ GE283.out) | exact HB.out))); (case side2 => exact HC0.out); rintro e w60 ⟨v285, rfl, ho0, hb⟩; refine ⟨_, rfl, ?_⟩; have n0_ := Aside0.mk (Kd.R_elder' (by (with_reducible repeat (first | apply Kd.R_alloc | apply Kd.R_drewN | apply Kd.R_drew)); exact (Kd.R_mono (Kd.R_far (p := ⟨gb283, 1, none⟩) (Kd.R_far (p := ⟨gb283, 0, none⟩) (Kd.R_types HO278.out BK283.out (by decide)) (fun _ hk => hk.2) (.int .i64 t281)) (fun _ hk => hk.2) (.string t282)) (fun _ h_ => h_.1))) (Kd.R_base ho0) hb); have n1_ := Aside0.mk (Kd.R_lower (Kd.R_new' ho0 (Kd.R_lt (by (with_reducible repeat (first | apply Kd.R_alloc | apply Kd.R_drewN | apply Kd.R_drew)); exact (Kd.R_mono (Kd.R_far (p := ⟨gb283, 1, none⟩) (Kd.R_far (p := ⟨gb283, 0, none⟩) (Kd.R_types HO278.out BK283.out (by decide)) (fun _ hk => hk.2) (.int .i64 t281)) (fun _ hk => hk.2) (.string t282)) (fun _ h_ => h_.1))))) (below_size (by repeat (first | (with_reducible first | exact HB.out | apply below_alloc | apply pw_below_drewN | apply below_drew1 | refine below_set ?_ GE279.out | refine below_set ?_ GE283.out) | exact HB.out)))); have n2_ := Aside0.mk (blk_below (g := gb279) (o := .cells #[.int .i64 t275, .slice Ao55 t276.length co55] 26 (0, 0)) (by (with_reducible repeat (first | refine blk_drewN ?_ _ | refine blk_drew ?_ | refine blk_alloc ?_ _)); refine blk_far ?_ NB279_283.out _; (with_reducible repeat (first | refine blk_drewN ?_ _ | refine blk_drew ?_ | refine blk_alloc ?_ _)); refine blk_far ?_ NB279_283.out _; (with_reducible repeat (first | refine blk_drewN ?_ _ | refine blk_drew ?_ | refine blk_alloc ?_ _)); exact BK279.out) hb); have n3_ := Aside0.mk (blk_below (g := gb283) (o := .cells #[.int .i64 t281, .string t282] 34 (0, 0)) (by (with_reducible repeat (first | refine blk_drewN ?_ _ | refine blk_drew ?_ | refine blk_alloc ?_ _)); refine blk_put (cs := #[.int .i64 t281, .string (⟨#[]⟩ : ByteArray)]) ?_ 1 _ rfl; (with_reducible repeat (first | refine blk_drewN ?_ _ | refine blk_drew ?_ | refine blk_alloc ?_ _)); refine blk_put (cs := #[.int .i64 0, .string (⟨#[]⟩ : ByteArray)]) ?_ 0 _ rfl; (with_reducible repeat (first | refine blk_drewN ?_ _ | refine blk_drew ?_ | refine blk_alloc ?_ _)); exact BK283.out) hb); have n4_ := Aside0.mk (below_step (by repeat (first | (with_reducible first | exact HB.out | apply below_alloc | apply pw_below_drewN | apply below_drew1 | refine below_set ?_ GE279.out | refine below_set ?_ GE283.out) | exact HB.out)) hb); clear HO278; clear BK279; clear BK283; clear HB; have HO278 := n0_; have HO286 := n1_; have BK279 := n2_; have BK283 := n3_; have HB := n4_; clear n0_ n1_ n2_ n3_ n4_; (try clear hb); (try clear hb2); (try clear hk); (try clear hi); (try clear ho0); obtain ⟨Ao61, co61, eo61⟩ := Kd.R_slice HO286.out; subst eo61) | ((with_reducible refine gate_callee (f := 15) rfl ?_); refine goesL_ (some 29) rfl rfl Tryd.func15 (by kernel_rfl) rfl #[.slice Ao61 t284.length co61] rfl (by (try simp only [List.map_toArray, List.map_cons, List.map_nil]); first | done | rfl | (simp only [List.length_drop, List.length_take]; rfl)) ?_; (with_reducible refine (impl_JoinLines.calls k _ _ t284 t287 t288 _ ?side1 ?side2 A9.out).mono ?_); (case side1 => repeat (first | exact (Kd.R_reads' HO286.out).2.2 | (with_reducible refine Kd.C_alloc ?_ _) | (with_reducible refine Kd.C_drewN ?_ _) | (with_reducible refine Kd.C_drew ?_))); (case side2 => exact (Kd.R_reads' HO286.out).2.1); rintro e w62 ⟨rfl, hb⟩; refine ⟨_, rfl, ?_⟩; have n0_ := Aside0.mk (Kd.R_below (by (with_reducible repeat (first | apply Kd.R_alloc | apply Kd.R_drewN | apply Kd.R_drew)); exact HO278.out) hb); have n1_ := Aside0.mk (Kd.R_below (by (with_reducible repeat (first | apply Kd.R_alloc | apply Kd.R_drewN | apply Kd.R_drew)); exact HO286.out) hb); have n2_ := Aside0.mk (blk_below (g := gb279) (o := .cells #[.int .i64 t275, .slice Ao55 t276.length co55] 26 (0, 0)) (by (with_reducible repeat (first | refine blk_drewN ?_ _ | refine blk_drew ?_ | refine blk_alloc ?_ _)); exact BK279.out) hb); have n3_ := Aside0.mk (blk_below (g := gb283) (o := .cells #[.int .i64 t281, .string t282] 34 (0, 0)) (by (with_reducible repeat (first | refine blk_drewN ?_ _ | refine blk_drew ?_ | refine blk_alloc ?_ _)); exact BK283.out) hb); have n4_ := Aside0.mk (below_step (by repeat (first | (with_reducible first | exact HB.out | apply below_alloc | apply pw_below_drewN | apply below_drew1 | refine below_set ?_ GE279.out | refine below_set ?_ GE283.out) | exact HB.out)) hb); clear HO278; clear HO286; clear BK279; clear BK283; clear HB; have HO278 := n0_; have HO286 := n1_; have BK279 := n2_; have BK283 := n3_; have HB := n4_; clear n0_ n1_ n2_ n3_ n4_; (try clear hb); (try clear hb2); (try clear hk); (try clear hi)) | ((with_reducible refine gate_dst (N := 7) rfl ?_); refine box_event ?hg (N := 7) ?hd (cs := #[.int .i64 0, .string (⟨#[]⟩ : ByteArray)]) (t := 34) ?hr ?_; (case hd => rfl); (case hg => rfl); (case hr => first | (go_simp; done) | (go_simp; rfl)); intro gb289 hg w63 hbox hb; have n0_ := Aside0.mk (Kd.R_below (by (with_reducible repeat (first | apply Kd.R_alloc | apply Kd.R_drewN | apply Kd.R_drew)); exact HO278.out) hb); have n1_ := Aside0.mk (Kd.R_below (by (with_reducible repeat (first | apply Kd.R_alloc | apply Kd.R_drewN | apply Kd.R_drew)); exact HO286.out) hb); have n2_ := Aside0.mk (blk_below (g := gb279) (o := .cells #[.int .i64 t275, .slice Ao55 t276.length co55] 26 (0, 0)) (by (with_reducible repeat (first | refine blk_drewN ?_ _ | refine blk_drew ?_ | refine blk_alloc ?_ _)); exact BK279.out) hb); have n3_ := Aside0.mk (blk_below (g := gb283) (o := .cells #[.int .i64 t281, .string t282] 34 (0, 0)) (by (with_reducible repeat (first | refine blk_drewN ?_ _ | refine blk_drew ?_ | refine blk_alloc ?_ _)); exact BK283.out) hb); have n4_ := Aside0.mk (below_step (by repeat (first | (with_reducible first | exact HB.out | apply below_alloc | apply pw_below_drewN | apply below_drew1 | refine below_set ?_ GE279.out | refine below_set ?_ GE283.out) | exact HB.out)) hb); have n5_ := Aside0.mk (hbox); have n6_ := Aside0.mk ((by rw [hg]; exact (below_size (by repeat (first | (with_reducible first | exact HB.out | apply below_alloc | apply pw_below_drewN | apply below_drew1 | refine below_set ?_ GE279.out | refine below_set ?_ GE283.out) | exact HB.out))) : w.heap.size ≤ gb289)); have n7_ := Aside0.mk ((by rw [hg]; exact (below_size (by repeat (first | (with_reducible first | exact HB.out | apply below_alloc | apply pw_below_drewN | apply below_drew1 | refine below_set ?_ GE279.out | refine below_set ?_ GE283.out) | exact HB.out))) : w.heap.size ≤ gb289)); have n8_ := Aside0.mk ((by rw [hg]; exact Nat.ne_of_lt (blk_lt (g := gb279) (o := .cells #[.int .i64 t275, .slice Ao55 t276.length co55] 26 (0, 0)) (by (with_reducible repeat (first | refine blk_drewN ?_ _ | refine blk_drew ?_ | refine blk_alloc ?_ _)); exact BK279.out)) : gb279 ≠ gb289)); have n9_ := Aside0.mk ((by rw [hg]; exact Nat.ne_of_gt (blk_lt (g := gb279) (o := .cells #[.int .i64 t275, .slice Ao55 t276.length co55] 26 (0, 0)) (by (with_reducible repeat (first | refine blk_drewN ?_ _ | refine blk_drew ?_ | refine blk_alloc ?_ _)); exact BK279.out)) : gb289 ≠ gb279)); have n10_ := Aside0.mk ((by rw [hg]; exact Nat.ne_of_lt (blk_lt (g := gb283) (o := .cells #[.int .i64 t281, .string t282] 34 (0, 0)) (by (with_reducible repeat (first | refine blk_drewN ?_ _ | refine blk_drew ?_ | refine blk_alloc ?_ _)); exact BK283.out)) : gb283 ≠ gb289)); have n11_ := Aside0.mk ((by rw [hg]; exact Nat.ne_of_gt (blk_lt (g := gb283) (o := .cells #[.int .i64 t281, .string t282] 34 (0, 0)) (by (with_reducible repeat (first | refine blk_drewN ?_ _ | refine blk_drew ?_ | refine blk_alloc ?_ _)); exact BK283.out)) : gb289 ≠ gb283)); clear HO278; clear HO286; clear BK279; clear BK283; clear HB; have HO278 := n0_; have HO286 := n1_; have BK279 := n2_; have BK283 := n3_; have HB := n4_; have BK289 := n5_; have GW289 := n6_; have GE289 := n7_; have NB279_289 := n8_; have NB289_279 := n9_; have NB283_289 := n10_; have NB289_283 := n11_; clear n0_ n1_ n2_ n3_ n4_ n5_ n6_ n7_ n8_ n9_ n10_ n11_; clear hb hbox hg; have hnb64 := NB289_279.out; have hnc64 := NB279_289.out; have hnb65 := NB289_283.out; have hnc65 := NB283_289.out; have hcz66_0 : w63.cell? ⟨gb289, 0, none⟩ = some (.int .i64 0) := (blk_cell BK289.out 0).trans rfl; have hcz66_1 : w63.cell? ⟨gb289, 1, none⟩ = some (.string (⟨#[]⟩ : ByteArray)) := (blk_cell BK289.out 1).trans rfl; have hfz66_0 := blk_frozen BK289.out 0; have hfz66_1 := blk_frozen BK289.out 1))
      have n0_ : Aside0 (Kd.R Kd.string 9 ((w63.setCell ⟨gb289, 0, none⟩ (.int .i64 t287)).setCell ⟨gb289, 1, none⟩ (.string t288)) w.heap.size (fun k_ => some k_ ≠ (.slice Ao61 t284.length co61 : Value).ownBlock) (.slice Ao55 t276.length co55) t276) := ⟨by (with_reducible repeat (first | apply Kd.R_alloc | apply Kd.R_drewN | apply Kd.R_drew)); exact Kd.R_mono (Kd.R_far (p := ⟨gb289, 1, none⟩) (Kd.R_far (p := ⟨gb289, 0, none⟩) (Kd.R_types HO278.out BK289.out (by decide)) (fun _ hk => hk.2) (.int .i64 t287)) (fun _ hk => hk.2) (.string t288)) (fun _ hk => hk.1.2)⟩
      have n1_ : Aside0 (Kd.R Kd.string 9 ((w63.setCell ⟨gb289, 0, none⟩ (.int .i64 t287)).setCell ⟨gb289, 1, none⟩ (.string t288)) w.heap.size (fun k_ => some k_ ≠ (.slice Ao55 t276.length co55 : Value).ownBlock) (.slice Ao61 t284.length co61) t284) := ⟨by (with_reducible repeat (first | apply Kd.R_alloc | apply Kd.R_drewN | apply Kd.R_drew)); exact Kd.R_mono (Kd.R_far (p := ⟨gb289, 1, none⟩) (Kd.R_far (p := ⟨gb289, 0, none⟩) (Kd.R_types HO286.out BK289.out (by decide)) (fun _ hk => hk.2) (.int .i64 t287)) (fun _ hk => hk.2) (.string t288)) (fun _ hk => hk.1.2)⟩
      have n2_ : Aside0 (((w63.setCell ⟨gb289, 0, none⟩ (.int .i64 t287)).setCell ⟨gb289, 1, none⟩ (.string t288)).heap[gb279]? = some (.cells #[.int .i64 t275, .slice Ao55 t276.length co55] 26 (0, 0))) := ⟨by (with_reducible repeat (first | refine blk_drewN ?_ _ | refine blk_drew ?_ | refine blk_alloc ?_ _)); refine blk_far ?_ NB279_289.out _; (with_reducible repeat (first | refine blk_drewN ?_ _ | refine blk_drew ?_ | refine blk_alloc ?_ _)); refine blk_far ?_ NB279_289.out _; (with_reducible repeat (first | refine blk_drewN ?_ _ | refine blk_drew ?_ | refine blk_alloc ?_ _)); exact BK279.out⟩
      have n3_ : Aside0 (((w63.setCell ⟨gb289, 0, none⟩ (.int .i64 t287)).setCell ⟨gb289, 1, none⟩ (.string t288)).heap[gb283]? = some (.cells #[.int .i64 t281, .string t282] 34 (0, 0))) := ⟨by (with_reducible repeat (first | refine blk_drewN ?_ _ | refine blk_drew ?_ | refine blk_alloc ?_ _)); refine blk_far ?_ NB283_289.out _; (with_reducible repeat (first | refine blk_drewN ?_ _ | refine blk_drew ?_ | refine blk_alloc ?_ _)); refine blk_far ?_ NB283_289.out _; (with_reducible repeat (first | refine blk_drewN ?_ _ | refine blk_drew ?_ | refine blk_alloc ?_ _)); exact BK283.out⟩
      have n4_ : Aside0 (((w63.setCell ⟨gb289, 0, none⟩ (.int .i64 t287)).setCell ⟨gb289, 1, none⟩ (.string t288)).heap[gb289]? = some (.cells #[.int .i64 t287, .string t288] 34 (0, 0))) := ⟨by (with_reducible repeat (first | refine blk_drewN ?_ _ | refine blk_drew ?_ | refine blk_alloc ?_ _)); refine blk_put (cs := #[.int .i64 t287, .string (⟨#[]⟩ : ByteArray)]) ?_ 1 _ rfl; (with_reducible repeat (first | refine blk_drewN ?_ _ | refine blk_drew ?_ | refine blk_alloc ?_ _)); refine blk_put (cs := #[.int .i64 0, .string (⟨#[]⟩ : ByteArray)]) ?_ 0 _ rfl; (with_reducible repeat (first | refine blk_drewN ?_ _ | refine blk_drew ?_ | refine blk_alloc ?_ _)); exact BK289.out⟩
      have n5_ : Aside0 (Below w.heap.size w ((w63.setCell ⟨gb289, 0, none⟩ (.int .i64 t287)).setCell ⟨gb289, 1, none⟩ (.string t288))) := ⟨by repeat (first | (with_reducible first | exact HB.out | apply below_alloc | apply pw_below_drewN | apply below_drew1 | refine below_set ?_ GE279.out | refine below_set ?_ GE283.out | refine below_set ?_ GE289.out) | exact HB.out)⟩
      (try clear HO278)
      (try clear HO286)
      (try clear BK279)
      (try clear BK283)
      (try clear BK289)
      (try clear HB)
      generalize ((w63.setCell ⟨gb289, 0, none⟩ (.int .i64 t287)).setCell ⟨gb289, 1, none⟩ (.string t288)) = w67 at n0_ n1_ n2_ n3_ n4_ n5_ ⊢
      have HO278 := n0_
      have HO286 := n1_
      have BK279 := n2_
      have BK283 := n3_
      have BK289 := n4_
      have HB := n5_
      clear n0_ n1_ n2_ n3_ n4_ n5_
      have n0_ := Aside0.mk (Kd.R_drew HO278.out)
      have n1_ := Aside0.mk (Kd.R_drew HO286.out)
      have n2_ := Aside0.mk (blk_drew BK279.out)
      have n3_ := Aside0.mk (blk_drew BK283.out)
      have n4_ := Aside0.mk (blk_drew BK289.out)
      have n5_ := Aside0.mk (below_drew1 HB.out)
      clear HO278
      clear HO286
      clear BK279
      clear BK283
      clear BK289
      clear HB
      have HO278 := n0_
      have HO286 := n1_
      have BK279 := n2_
      have BK283 := n3_
      have BK289 := n4_
      have HB := n5_
      clear n0_ n1_ n2_ n3_ n4_ n5_
      refine start_ (n := 17) (S := fun w' => w'.cell? ⟨gb289, 0, none⟩ = some (.int .i64 t287) ∧ w'.cell? ⟨gb289, 1, none⟩ = some (.string t288) ∧ w'.cell? ⟨gb283, 0, none⟩ = some (.int .i64 t281) ∧ w'.cell? ⟨gb283, 1, none⟩ = some (.string t282)) (ds := []) #[false, false, false, false, false, false, false, false, false, false, false, false, false, false, false, false, false] (by kernel_rfl) rfl rfl ⟨(blk_cell BK289.out 0).trans rfl, (blk_cell BK289.out 1).trans rfl, (blk_cell BK283.out 0).trans rfl, (blk_cell BK283.out 1).trans rfl⟩ (fun hHeld => ?_); refine with_tabW laws_FnLines.tab11 laws_FnLines.bits11 (fun HT_ HW_ => ?_)
      generalize w67.drew = w68 at HO278 HO286 BK279 BK283 BK289 HB hHeld ⊢
      refine pure_ (i := 0) (N := some 33) (v := ?_) (a' := ?_) #[true, false, false, false, false, false, false, false, false, false, false, false, false, false, false, false, false] rfl rfl (any_of HT_.out (by kernel_rfl)) (fun _ _ _ h => h) (Or.inl ⟨by rfl, ?_⟩) ?_ ?_
      rotate_left
      ·intro w'
       go_simp
       with_reducible rfl
      rotate_left
      ·simp only [Act.put, List.setIfInBounds_toArray, List.set_cons_zero, List.set_cons_succ, i64_w, i32_w]
       rfl
      refine pure_ (i := 2) (N := some 35) (v := ?_) (a' := ?_) #[true, false, true, false, false, false, false, false, false, false, false, false, false, false, false, false, false] rfl rfl (any_of HT_.out (by kernel_rfl)) (fun _ _ _ h => h) (Or.inl ⟨by rfl, ?_⟩) ?_ ?_
      rotate_left
      ·intro w'
       go_simp
       with_reducible rfl
      rotate_left
      ·simp only [Act.put, List.setIfInBounds_toArray, List.set_cons_zero, List.set_cons_succ, i64_w, i32_w]
       rfl
      refine take_ (i := 3) (N := some 36) (v := ?_) (a' := ?_) #[true, false, true, true, false, false, false, false, false, false, false, false, false, false, false, false, false] rfl rfl (take_ofW HT_.out HW_.out (by kernel_rfl)) (fun _ _ _ h => h) (Or.inl ⟨by rfl, ?_⟩) hHeld ?_ ?_
      rotate_left
      ·rintro w' ⟨s0, s1, s2, s3⟩
       go_simp
       with_reducible rfl
      rotate_left
      ·simp only [Act.put, List.setIfInBounds_toArray, List.set_cons_zero, List.set_cons_succ, i64_w, i32_w]
       rfl
      refine one_ (i := 1) (N := some 34) #[true, true, true, true, false, false, false, false, false, false, false, false, false, false, false, false, false] rfl rfl (one_of HT_.out (by kernel_rfl)) (by decide) (fun K hK => ?_)
      refine goes_ Tryd.func17 (by kernel_rfl) rfl #[.slice Ao61 t284.length co61] (by rfl) rfl rfl (by (try simp only [List.map_toArray, List.map_cons, List.map_nil]); first | done | rfl | (simp only [List.length_drop, List.length_take]; rfl)) ?_
      with_reducible refine (spec_LinesFault.calls k _ _ t284 t290 _ ?side1 ?side2 A48.out).mono ?_
      (case side1 => repeat (first | exact (Kd.R_reads' HO286.out).2.2 | (with_reducible refine Kd.C_alloc ?_ _) | (with_reducible refine Kd.C_drewN ?_ _) | (with_reducible refine Kd.C_drew ?_)))
      (case side2 => exact (Kd.R_reads' HO286.out).2.1)
      rintro e w' ⟨rfl, ⟨nd, rfl⟩⟩
      refine ⟨_, rfl, ?_⟩
      refine hK.out _ _ ⟨(blk_cell BK289.out 0).trans rfl, (blk_cell BK289.out 1).trans rfl, (blk_cell BK283.out 0).trans rfl, (blk_cell BK283.out 1).trans rfl⟩ (fun hHeld => ?_)
      clear hK K
      refine norm_ (a' := ?_) ?_ ?_
      rotate_left
      ·show Act.put _ (some 34) _ = _
       simp only [Act.put, List.setIfInBounds_toArray, List.set_cons_zero, List.set_cons_succ, i64_w, i32_w]
       rfl
      refine pure_ (i := 4) (N := some 37) (v := ?_) (a' := ?_) #[true, true, true, true, true, false, false, false, false, false, false, false, false, false, false, false, false] rfl rfl (any_of HT_.out (by kernel_rfl)) (fun _ _ _ h => h) (Or.inl ⟨by rfl, ?_⟩) ?_ ?_
      rotate_left
      ·intro w'
       go_simp
       with_reducible rfl
      rotate_left
      ·simp only [Act.put, List.setIfInBounds_toArray, List.set_cons_zero, List.set_cons_succ, i64_w, i32_w]
       rfl
      refine pure_ (i := 5) (N := some 38) (v := ?_) (a' := ?_) #[true, true, true, true, true, true, false, false, false, false, false, false, false, false, false, false, false] rfl rfl (any_of HT_.out (by kernel_rfl)) (fun _ _ _ h => h) (Or.inl ⟨by rfl, ?_⟩) ?_ ?_
      rotate_left
      ·intro w'
       go_simp
       with_reducible rfl
      rotate_left
      ·simp only [Act.put, List.setIfInBounds_toArray, List.set_cons_zero, List.set_cons_succ, i64_w, i32_w]
       rfl
      refine pure_ (i := 6) (N := some 39) (v := ?_) (a' := ?_) #[true, true, true, true, true, true, true, false, false, false, false, false, false, false, false, false, false] rfl rfl (any_of HT_.out (by kernel_rfl)) (fun _ _ _ h => h) (Or.inl ⟨by rfl, ?_⟩) ?_ ?_
      rotate_left
      ·intro w'
       go_simp
       with_reducible rfl
      rotate_left
      ·simp only [Act.put, List.setIfInBounds_toArray, List.set_cons_zero, List.set_cons_succ, i64_w, i32_w]
       rfl
      refine take_ (i := 7) (N := some 40) (v := ?_) (a' := ?_) #[true, true, true, true, true, true, true, true, false, false, false, false, false, false, false, false, false] rfl rfl (take_ofW HT_.out HW_.out (by kernel_rfl)) (fun _ _ _ h => h) (Or.inl ⟨by rfl, ?_⟩) hHeld ?_ ?_
      rotate_left
      ·rintro w' ⟨s0, s1, s2, s3⟩
       go_simp
       with_reducible rfl
      rotate_left
      ·simp only [Act.put, List.setIfInBounds_toArray, List.set_cons_zero, List.set_cons_succ, i64_w, i32_w]
       rfl
      refine pure_ (i := 8) (N := some 41) (v := ?_) (a' := ?_) #[true, true, true, true, true, true, true, true, true, false, false, false, false, false, false, false, false] rfl rfl (any_of HT_.out (by kernel_rfl)) (fun _ _ _ h => h) (Or.inl ⟨by rfl, ?_⟩) ?_ ?_
      rotate_left
      ·intro w'
       go_simp
       with_reducible rfl
      rotate_left
      ·simp only [Act.put, List.setIfInBounds_toArray, List.set_cons_zero, List.set_cons_succ, i64_w, i32_w]
       rfl
      refine pure_ (i := 9) (N := some 42) (v := ?_) (a' := ?_) #[true, true, true, true, true, true, true, true, true, true, false, false, false, false, false, false, false] rfl rfl (any_of HT_.out (by kernel_rfl)) (fun _ _ _ h => h) (Or.inl ⟨by rfl, ?_⟩) ?_ ?_
      rotate_left
      ·intro w'
       go_simp
       with_reducible rfl
      rotate_left
      ·simp only [Act.put, List.setIfInBounds_toArray, List.set_cons_zero, List.set_cons_succ, i64_w, i32_w]
       rfl
      refine pure_ (i := 10) (N := some 43) (v := ?_) (a' := ?_) #[true, true, true, true, true, true, true, true, true, true, true, false, false, false, false, false, false] rfl rfl (any_of HT_.out (by kernel_rfl)) (fun _ _ _ h => h) (Or.inl ⟨by rfl, ?_⟩) ?_ ?_
      rotate_left
      ·intro w'
       go_simp
       with_reducible rfl
      rotate_left
      ·simp only [Act.put, List.setIfInBounds_toArray, List.set_cons_zero, List.set_cons_succ, i64_w, i32_w]
       rfl
      refine pure_ (i := 11) (N := some 44) (v := ?_) (a' := ?_) #[true, true, true, true, true, true, true, true, true, true, true, true, false, false, false, false, false] rfl rfl (any_of HT_.out (by kernel_rfl)) (fun _ _ _ h => h) (Or.inl ⟨by rfl, ?_⟩) ?_ ?_
      rotate_left
      ·intro w'
       go_simp
       with_reducible rfl
      rotate_left
      ·simp only [Act.put, List.setIfInBounds_toArray, List.set_cons_zero, List.set_cons_succ, i64_w, i32_w]
       rfl
      refine pure_ (i := 13) (N := some 46) (v := ?_) (a' := ?_) #[true, true, true, true, true, true, true, true, true, true, true, true, false, true, false, false, false] rfl rfl (any_of HT_.out (by kernel_rfl)) (fun _ _ _ h => h) (Or.inl ⟨by rfl, ?_⟩) ?_ ?_
      rotate_left
      ·intro w'
       go_simp
       with_reducible rfl
      rotate_left
      ·simp only [Act.put, List.setIfInBounds_toArray, List.set_cons_zero, List.set_cons_succ, i64_w, i32_w]
       rfl
      refine take_ (i := 12) (N := some 45) (v := ?_) (a' := ?_) #[true, true, true, true, true, true, true, true, true, true, true, true, true, true, false, false, false] rfl rfl (take_ofW HT_.out HW_.out (by kernel_rfl)) (fun _ _ _ h => h) (Or.inl ⟨by rfl, ?_⟩) hHeld ?_ ?_
      rotate_left
      ·rintro w' ⟨s0, s1, s2, s3⟩
       go_simp
       with_reducible rfl
      rotate_left
      ·simp only [Act.put, List.setIfInBounds_toArray, List.set_cons_zero, List.set_cons_succ, i64_w, i32_w]
       rfl
      refine pure_ (i := 14) (N := some 47) (v := ?_) (a' := ?_) #[true, true, true, true, true, true, true, true, true, true, true, true, true, true, true, false, false] rfl rfl (any_of HT_.out (by kernel_rfl)) (fun _ _ _ h => h) (Or.inl ⟨by rfl, ?_⟩) ?_ ?_
      rotate_left
      ·intro w'
       go_simp
       with_reducible rfl
      rotate_left
      ·simp only [Act.put, List.setIfInBounds_toArray, List.set_cons_zero, List.set_cons_succ, i64_w, i32_w]
       rfl
      refine pure_ (i := 15) (N := some 48) (v := ?_) (a' := ?_) #[true, true, true, true, true, true, true, true, true, true, true, true, true, true, true, true, false] rfl rfl (any_of HT_.out (by kernel_rfl)) (fun _ _ _ h => h) (Or.inl ⟨by rfl, ?_⟩) ?_ ?_
      rotate_left
      ·intro w'
       go_simp
       with_reducible rfl
      rotate_left
      ·simp only [Act.put, List.setIfInBounds_toArray, List.set_cons_zero, List.set_cons_succ, i64_w, i32_w]
       rfl
      refine pure_ (i := 16) (N := some 2) (v := ?_) (a' := ?_) #[true, true, true, true, true, true, true, true, true, true, true, true, true, true, true, true, true] rfl rfl (any_of HT_.out (by kernel_rfl)) (fun _ _ _ h => h) (Or.inl ⟨by rfl, ?_⟩) ?_ ?_
      rotate_left
      ·intro w'
       go_simp
       with_reducible rfl
      rotate_left
      ·simp only [Act.put, List.setIfInBounds_toArray, List.set_cons_zero, List.set_cons_succ, i64_w, i32_w]
       rfl
      refine done_ (done_of HT_.out (by kernel_rfl)) ?_
      try go_wp2
      go_ret
      exact ⟨by first | rfl | (simp [errW_none, errW_some] <;> rfl) | (simp [*, errW_none, errW_some] <;> rfl), by repeat (first | (with_reducible first | exact HB.out | apply below_alloc | apply pw_below_drewN | apply below_drew1 | refine below_set ?_ GE279.out | refine below_set ?_ GE283.out | refine below_set ?_ GE289.out) | exact HB.out)⟩
     ·rw [if_neg c50] at H
      have c50b0 : (t281 == 0) = false := beq_eq_false_iff_ne.mpr c50
      have c50b1 : (t281 != 0) = true := bne_iff_ne.mpr c50
      exact absurd ((Option.some.inj H).trans HLAW.out) (by decide)
    ·rw [if_neg c49] at H
     have c49b0 : (t290 == t287) = false := beq_eq_false_iff_ne.mpr c49
     have c49b1 : (t290 != t287) = true := bne_iff_ne.mpr c49
     exact absurd ((Option.some.inj H).trans HLAW.out) (by decide)
  ·rw [if_neg c6] at H
   have c6b0 : (t275 == 0) = false := beq_eq_false_iff_ne.mpr c6
   have c6b1 : (t275 != 0) = true := bne_iff_ne.mpr c6
   replace H := Option.bind_eq_some_iff.mp H
   obtain ⟨t280, A690, H⟩ := H
   replace H : (some (t280 == t275)) = some r := H
   have A69 := Aside0.mk A690
   clear A690
   obtain rfl := Option.some.inj H
   go_enter Tryd.func5, Tryd.ntmps5
   try go_wp2_with (first | ((with_reducible refine gate_callee (f := 13) rfl ?_); refine goesL_ (some 10) rfl rfl Tryd.func13 (by kernel_rfl) rfl #[.slice A0 l0.length c0] rfl (by (try simp only [List.map_toArray, List.map_cons, List.map_nil]); first | done | rfl | (simp only [List.length_drop, List.length_take]; rfl)) ?_; (with_reducible refine (laws_lwBig.calls _ _ l0 false _ ?side1 ?side2 A2.out).mono ?_); (case side1 => repeat (first | exact HR0.out | (with_reducible refine Kd.C_alloc ?_ _) | (with_reducible refine Kd.C_drewN ?_ _) | (with_reducible refine Kd.C_drew ?_))); (case side2 => exact HC0.out); rintro e w' ⟨rfl, ⟨nd, rfl⟩⟩; refine ⟨_, rfl, ?_⟩) | ((with_reducible refine gate_callee (f := 14) rfl ?_); refine goesL_ (some 12) rfl rfl Tryd.func14 (by kernel_rfl) rfl #[.slice A0 l0.length c0] rfl (by (try simp only [List.map_toArray, List.map_cons, List.map_nil]); first | done | rfl | (simp only [List.length_drop, List.length_take]; rfl)) ?_; (with_reducible refine (spec_DrawSplitLines.calls k _ _ l0 t274 _ ?side1 ?side2 A4.out).mono ?_); (case side1 => repeat (first | exact HR0.out | (with_reducible refine Kd.C_alloc ?_ _) | (with_reducible refine Kd.C_drewN ?_ _) | (with_reducible refine Kd.C_drew ?_))); (case side2 => exact HC0.out); rintro e w70 ⟨rfl, hb⟩; refine ⟨_, rfl, ?_⟩; have n0_ := Aside0.mk (below_step (by repeat (first | (with_reducible first | exact HB.out | apply below_alloc | apply pw_below_drewN | apply below_drew1) | exact HB.out)) hb); clear HB; have HB := n0_; clear n0_; (try clear hb); (try clear hb2); (try clear hk); (try clear hi)) | ((with_reducible refine gate_callee (f := 9) rfl ?_); refine goesL_ (some 14) rfl rfl Tryd.func9 (by kernel_rfl) rfl #[.string t274] rfl (by (try simp only [List.map_toArray, List.map_cons, List.map_nil]); first | done | rfl | (simp only [List.length_drop, List.length_take]; rfl)) ?_; (with_reducible refine (impl_SplitLines.calls t274 t275 t276 _ A5.out).mono ?_); rintro e w71 ⟨v277, rfl, ho0, hb⟩; refine ⟨_, rfl, ?_⟩; have n0_ := Aside0.mk (Kd.R_lower ho0 (below_size (by repeat (first | (with_reducible first | exact HB.out | apply below_alloc | apply pw_below_drewN | apply below_drew1) | exact HB.out)))); have n1_ := Aside0.mk (below_step (by repeat (first | (with_reducible first | exact HB.out | apply below_alloc | apply pw_below_drewN | apply below_drew1) | exact HB.out)) hb); clear HB; have HO278 := n0_; have HB := n1_; clear n0_ n1_; (try clear hb); (try clear hb2); (try clear hk); (try clear hi); (try clear ho0)) | ((with_reducible refine gate_dst (N := 4) rfl ?_); refine box_event ?hg (N := 4) ?hd (cs := #[.int .i64 0, .slice none 0 0]) (t := 26) ?hr ?_; (case hd => rfl); (case hg => rfl); (case hr => first | (go_simp; done) | (go_simp; rfl)); intro gb279 hg w72 hbox hb; have n0_ := Aside0.mk (Kd.R_below (by (with_reducible repeat (first | apply Kd.R_alloc | apply Kd.R_drewN | apply Kd.R_drew)); exact HO278.out) hb); have n1_ := Aside0.mk (below_step (by repeat (first | (with_reducible first | exact HB.out | apply below_alloc | apply pw_below_drewN | apply below_drew1) | exact HB.out)) hb); have n2_ := Aside0.mk (hbox); have n3_ := Aside0.mk ((by rw [hg]; exact (below_size (by repeat (first | (with_reducible first | exact HB.out | apply below_alloc | apply pw_below_drewN | apply below_drew1) | exact HB.out))) : w.heap.size ≤ gb279)); have n4_ := Aside0.mk ((by rw [hg]; exact (below_size (by repeat (first | (with_reducible first | exact HB.out | apply below_alloc | apply pw_below_drewN | apply below_drew1) | exact HB.out))) : w.heap.size ≤ gb279)); clear HO278; clear HB; have HO278 := n0_; have HB := n1_; have BK279 := n2_; have GW279 := n3_; have GE279 := n4_; clear n0_ n1_ n2_ n3_ n4_; clear hb hbox hg; have hcz73_0 : w72.cell? ⟨gb279, 0, none⟩ = some (.int .i64 0) := (blk_cell BK279.out 0).trans rfl; have hcz73_1 : w72.cell? ⟨gb279, 1, none⟩ = some (.slice none 0 0) := (blk_cell BK279.out 1).trans rfl; have hfz73_0 := blk_frozen BK279.out 0; have hfz73_1 := blk_frozen BK279.out 1; obtain ⟨Ao74, co74, eo74⟩ := Kd.R_slice HO278.out; subst eo74))
   have n0_ : Aside0 (Kd.R Kd.string 9 ((w72.setCell ⟨gb279, 0, none⟩ (.int .i64 t275)).setCell ⟨gb279, 1, none⟩ (.slice Ao74 t276.length co74)) w.heap.size (fun _ => True) (.slice Ao74 t276.length co74) t276) := ⟨by (with_reducible repeat (first | apply Kd.R_alloc | apply Kd.R_drewN | apply Kd.R_drew)); exact Kd.R_mono (Kd.R_far (p := ⟨gb279, 1, none⟩) (Kd.R_far (p := ⟨gb279, 0, none⟩) (Kd.R_types HO278.out BK279.out (by decide)) (fun _ hk => hk.2) (.int .i64 t275)) (fun _ hk => hk.2) (.slice Ao74 t276.length co74)) (fun _ hk => trivial)⟩
   have n1_ : Aside0 (((w72.setCell ⟨gb279, 0, none⟩ (.int .i64 t275)).setCell ⟨gb279, 1, none⟩ (.slice Ao74 t276.length co74)).heap[gb279]? = some (.cells #[.int .i64 t275, .slice Ao74 t276.length co74] 26 (0, 0))) := ⟨by (with_reducible repeat (first | refine blk_drewN ?_ _ | refine blk_drew ?_ | refine blk_alloc ?_ _)); refine blk_put (cs := #[.int .i64 t275, .slice none 0 0]) ?_ 1 _ rfl; (with_reducible repeat (first | refine blk_drewN ?_ _ | refine blk_drew ?_ | refine blk_alloc ?_ _)); refine blk_put (cs := #[.int .i64 0, .slice none 0 0]) ?_ 0 _ rfl; (with_reducible repeat (first | refine blk_drewN ?_ _ | refine blk_drew ?_ | refine blk_alloc ?_ _)); exact BK279.out⟩
   have n2_ : Aside0 (Below w.heap.size w ((w72.setCell ⟨gb279, 0, none⟩ (.int .i64 t275)).setCell ⟨gb279, 1, none⟩ (.slice Ao74 t276.length co74))) := ⟨by repeat (first | (with_reducible first | exact HB.out | apply below_alloc | apply pw_below_drewN | apply below_drew1 | refine below_set ?_ GE279.out) | exact HB.out)⟩
   (try clear HO278)
   (try clear BK279)
   (try clear HB)
   generalize ((w72.setCell ⟨gb279, 0, none⟩ (.int .i64 t275)).setCell ⟨gb279, 1, none⟩ (.slice Ao74 t276.length co74)) = w75 at n0_ n1_ n2_ ⊢
   have HO278 := n0_
   have BK279 := n1_
   have HB := n2_
   clear n0_ n1_ n2_
   have n0_ := Aside0.mk (Kd.R_drew HO278.out)
   have n1_ := Aside0.mk (blk_drew BK279.out)
   have n2_ := Aside0.mk (below_drew1 HB.out)
   clear HO278
   clear BK279
   clear HB
   have HO278 := n0_
   have BK279 := n1_
   have HB := n2_
   clear n0_ n1_ n2_
   refine start_ (n := 6) (S := fun w' => w'.cell? ⟨gb279, 0, none⟩ = some (.int .i64 t275) ∧ w'.cell? ⟨gb279, 1, none⟩ = some (.slice Ao74 t276.length co74)) (ds := []) #[false, false, false, false, false, false] (by kernel_rfl) rfl rfl ⟨(blk_cell BK279.out 0).trans rfl, (blk_cell BK279.out 1).trans rfl⟩ (fun hHeld => ?_)
   generalize w75.drew = w76 at HO278 BK279 HB hHeld ⊢
   refine pure_ (i := 0) (N := some 18) (v := ?_) (a' := ?_) #[true, false, false, false, false, false] rfl rfl (by kernel_rfl) (fun _ _ _ h => h) (Or.inl ⟨by rfl, ?_⟩) ?_ ?_
   rotate_left
   ·intro w'
    go_simp
    with_reducible rfl
   rotate_left
   ·simp only [Act.put, List.setIfInBounds_toArray, List.set_cons_zero, List.set_cons_succ, i64_w, i32_w]
    rfl
   refine pure_ (i := 2) (N := some 20) (v := ?_) (a' := ?_) #[true, false, true, false, false, false] rfl rfl (by kernel_rfl) (fun _ _ _ h => h) (Or.inl ⟨by rfl, ?_⟩) ?_ ?_
   rotate_left
   ·intro w'
    go_simp
    with_reducible rfl
   rotate_left
   ·simp only [Act.put, List.setIfInBounds_toArray, List.set_cons_zero, List.set_cons_succ, i64_w, i32_w]
    rfl
   refine take_ (i := 3) (N := some 21) (v := ?_) (a' := ?_) #[true, false, true, true, false, false] rfl rfl (by kernel_rfl) (fun _ _ _ h => h) (Or.inl ⟨by rfl, ?_⟩) hHeld ?_ ?_
   rotate_left
   ·rintro w' ⟨s0, s1⟩
    go_simp
    with_reducible rfl
   rotate_left
   ·simp only [Act.put, List.setIfInBounds_toArray, List.set_cons_zero, List.set_cons_succ, i64_w, i32_w]
    rfl
   refine one_ (i := 1) (N := some 19) #[true, true, true, true, false, false] rfl rfl (by kernel_rfl) (by decide) (fun K hK => ?_)
   refine goes_ Tryd.func6 (by kernel_rfl) rfl #[.string t274] (by rfl) rfl rfl (by (try simp only [List.map_toArray, List.map_cons, List.map_nil]); first | done | rfl | (simp only [List.length_drop, List.length_take]; rfl)) ?_
   with_reducible refine (spec_TextFault.calls k t274 t280 _ A69.out).mono ?_
   rintro e w77 ⟨rfl, hb⟩
   refine ⟨_, rfl, ?_⟩
   have n0_ := Aside0.mk (Kd.R_below (by (with_reducible repeat (first | apply Kd.R_alloc | apply Kd.R_drewN | apply Kd.R_drew)); exact HO278.out) hb)
   have n1_ := Aside0.mk (blk_below (g := gb279) (o := .cells #[.int .i64 t275, .slice Ao74 t276.length co74] 26 (0, 0)) (by (with_reducible repeat (first | refine blk_drewN ?_ _ | refine blk_drew ?_ | refine blk_alloc ?_ _)); exact BK279.out) hb)
   have n2_ := Aside0.mk (below_step (by repeat (first | (with_reducible first | exact HB.out | apply below_alloc | apply pw_below_drewN | apply below_drew1 | refine below_set ?_ GE279.out) | exact HB.out)) hb)
   clear HO278
   clear BK279
   clear HB
   have HO278 := n0_
   have BK279 := n1_
   have HB := n2_
   clear n0_ n1_ n2_
   (try clear hb)
   (try clear hb2)
   (try clear hk)
   (try clear hi)
   refine hK.out _ _ ⟨(blk_cell BK279.out 0).trans rfl, (blk_cell BK279.out 1).trans rfl⟩ (fun hHeld => ?_)
   clear hK K
   refine norm_ (a' := ?_) ?_ ?_
   rotate_left
   ·show Act.put _ (some 19) _ = _
    simp only [Act.put, List.setIfInBounds_toArray, List.set_cons_zero, List.set_cons_succ, i64_w, i32_w]
    rfl
   refine pure_ (i := 4) (N := some 22) (v := ?_) (a' := ?_) #[true, true, true, true, true, false] rfl rfl (by kernel_rfl) (fun _ _ _ h => h) (Or.inl ⟨by rfl, ?_⟩) ?_ ?_
   rotate_left
   ·intro w'
    go_simp
    with_reducible rfl
   rotate_left
   ·simp only [Act.put, List.setIfInBounds_toArray, List.set_cons_zero, List.set_cons_succ, i64_w, i32_w]
    rfl
   refine pure_ (i := 5) (N := some 2) (v := ?_) (a' := ?_) #[true, true, true, true, true, true] rfl rfl (by kernel_rfl) (fun _ _ _ h => h) (Or.inl ⟨by rfl, ?_⟩) ?_ ?_
   rotate_left
   ·intro w'
    go_simp
    with_reducible rfl
   rotate_left
   ·simp only [Act.put, List.setIfInBounds_toArray, List.set_cons_zero, List.set_cons_succ, i64_w, i32_w]
    rfl
   refine done_ (by kernel_rfl) ?_
   try go_wp2
   go_ret
   exact ⟨by first | rfl | (simp [errW_none, errW_some] <;> rfl) | (simp [*, errW_none, errW_some] <;> rfl), by repeat (first | (with_reducible first | exact HB.out | apply below_alloc | apply pw_below_drewN | apply below_drew1 | refine below_set ?_ GE279.out) | exact HB.out)⟩
end Go.Proofs.YtacdkacjlekkgaaDoor.P
end
section
set_option linter.unusedVariables false
namespace Go.Proofs.YtacdkacjlekkgaaDoor.P
open Go.RowKit Go.Proofs.YtacdkacjlekkgaaDoorW.PrintWords Go.Proofs.YtacdkacjlekkgaaDoorW.PrintLast
namespace UFnLines
def Pure : Prop := ∀ (l0 : List Int), (l0.length ≤ 9223372036854775807 ∧ ∀ x ∈ l0, (Lit.int .u8 x).wf = true) → ∃ k, laws_FnLines.f k l0 = some true
end UFnLines
end Go.Proofs.YtacdkacjlekkgaaDoor.P
end
section
set_option linter.unusedVariables false
set_option linter.unusedSimpArgs false
namespace Go.Proofs.YtacdkacjlekkgaaDoor.P
open Go.RowKit Go.Proofs.YtacdkacjlekkgaaDoorW.PrintWords Go.Proofs.YtacdkacjlekkgaaDoorW.PrintLast
theorem wid {x : Int} (h0 : -9223372036854775808 ≤ x) (h1 : x ≤ 9223372036854775807) : wrap64 x = x := by
  unfold wrap64
  omega
theorem wsucc {i n : Nat} (h : i < n) (hn : n ≤ 9223372036854775807) : wrap64 ((i : Int) + 1) = ((i + 1 : Nat) : Int) := by
  rw [wid (by omega) (by omega)]
  rfl
theorem Ev_if {α : Type} {c : Prop} [Decidable c] {a b : Nat → Option α} {r : α} (hp : c → Ev a r) (hn : ¬ c → Ev b r) : Ev (fun k => if c then a k else b k) r := by
  by_cases h : c
  · exact (hp h).congr (fun k => if_pos h)
  · exact (hn h).congr (fun k => if_neg h)
theorem Ev_pos {α : Type} {c : Prop} [Decidable c] {a b : Nat → Option α} {r : α} (hc : c) (h : Ev a r) : Ev (fun k => if c then a k else b k) r := h.congr (fun k => if_pos hc)
theorem Ev_neg {α : Type} {c : Prop} [Decidable c] {a b : Nat → Option α} {r : α} (hc : ¬ c) (h : Ev b r) : Ev (fun k => if c then a k else b k) r := h.congr (fun k => if_neg hc)
theorem Ev_call {α β : Type} {g : Nat → Option α} {f : Nat → α → Option β} {a : α} {r : β} (h : Ev g a) (k : Ev (fun n => f n a) r) : Ev (fun n => (g n).bind (f n)) r := Ev.bind h k
theorem Ev_const {α β : Type} {g : Option α} {f : Nat → α → Option β} {a : α} {r : β} (h : g = some a) (k : Ev (fun n => f n a) r) : Ev (fun n => g.bind (f n)) r :=
  Ev.bind (g := fun _ => g) ⟨0, fun _ _ => h⟩ k
theorem Ev_eq {α : Type} {g : Nat → Option α} {r r' : α} (h : Ev g r) (e : r = r') : Ev g r' := e ▸ h
theorem Ev_val {α : Type} {r r' : α} (h : r = r') : Ev (fun _ => some r) r' := ⟨0, fun _ _ => by rw [h]⟩
theorem rd_nat {α : Type} (d : α) {xs : List α} {i : Nat} (h : i < xs.length) : rdOf d xs (i : Int) = xs[i] := by
  unfold rdOf
  rw [Int.toNat_natCast, List.getD_eq_getElem?_getD, List.getElem?_eq_getElem h]
  rfl
theorem rdi_nat {xs : List Int} {i : Nat} (h : i < xs.length) : rd xs (i : Int) = xs[i] := by
  unfold rd
  rw [Int.toNat_natCast, List.getD_eq_getElem?_getD, List.getElem?_eq_getElem h]
  rfl
theorem bt_nat {s : ByteArray} {i : Nat} (h : i < s.data.toList.length) : bt s (i : Int) = ((s.data.toList[i]).toNat : Int) := by
  have h' : i < s.size := by simpa using h
  unfold bt
  rw [dif_pos (by rw [Int.toNat_natCast]; exact h')]
  simp [ByteArray.getElem_eq_getElem_data]
theorem data_eq {a b : ByteArray} : a.toList = b.toList ↔ a = b := by
  rw [ByteArray.toList_eq, ByteArray.toList_eq]
  constructor
  · intro h
    cases a
    cases b
    simpa using h
  · rintro rfl
    rfl
theorem toList_nil {a : ByteArray} : a.toList = ([] : List UInt8) ↔ a.data.toList = [] := by rw [ByteArray.toList_eq]
theorem size_data (a : ByteArray) : a.data.toList.length = a.size := by simp
theorem dec_same {α : Type} [DecidableEq α] {x y : α} {l m : List α} (h : x = y) : decide (l = m) = decide (x :: l = y :: m) := by
  subst h
  simp
theorem dec_diff {α : Type} [DecidableEq α] {x y : α} {l m : List α} (h : x ≠ y) : false = decide (x :: l = y :: m) := by simp [h]
theorem drop_at {α : Type} {xs : List α} {i : Nat} (h : i < xs.length) : xs.drop i = xs[i] :: xs.drop (i + 1) := List.drop_eq_getElem_cons h
def total : List ByteArray → Nat
  | [] => 0
  | x :: l => x.size + total l
end Go.Proofs.YtacdkacjlekkgaaDoor.P
end
section
set_option linter.unusedVariables false
set_option linter.unusedSimpArgs false
namespace Go.Proofs.YtacdkacjlekkgaaDoor.P
open Go.RowKit
theorem index_low (l : List UInt8) (c : UInt8) : -1 ≤ Lib.indexByte l c := by
  induction l with
  | nil => simp [Lib.indexByte]
  | cons b l ih =>
    unfold Lib.indexByte
    split
    · omega
    · split
      · omega
      · omega
theorem index_mem (l : List UInt8) (c : UInt8) : Lib.indexByte l c ≥ 0 ↔ c ∈ l := by
  induction l with
  | nil => simp [Lib.indexByte]
  | cons b l ih =>
    have hl := index_low l c
    unfold Lib.indexByte
    by_cases h : b = c
    · subst h
      simp
    · have h2 : (b == c) = false := by simpa using h
      rw [h2, List.mem_cons]
      have h3 : ¬ c = b := fun e => h e.symm
      by_cases h4 : Lib.indexByte l c = -1
      · have h5 : (Lib.indexByte l c == -1) = true := by simpa using h4
        rw [h5]
        have : ¬ c ∈ l := fun hm => by have := ih.2 hm; omega
        simp [h3, this]
      · have h5 : (Lib.indexByte l c == -1) = false := by simpa using h4
        rw [h5]
        have : c ∈ l := ih.1 (by omega)
        simp [this]
        omega
def lineEnd : List UInt8 → Nat
  | [] => 0
  | c :: l => if c = 10 then 0 else lineEnd l + 1
theorem lineEnd_le (l : List UInt8) : lineEnd l ≤ l.length := by
  induction l with
  | nil => simp [lineEnd]
  | cons c l ih =>
    unfold lineEnd
    split
    · omega
    · simp
      omega
theorem lineEnd_mem (l : List UInt8) : lineEnd l < l.length ↔ 10 ∈ l := by
  induction l with
  | nil => simp [lineEnd]
  | cons c l ih =>
    unfold lineEnd
    by_cases h : c = 10
    · subst h
      simp
    · rw [if_neg h, List.length_cons, List.mem_cons]
      have h2 : ¬ (10 : UInt8) = c := fun e => h e.symm
      simp only [h2, false_or]
      rw [← ih]
      omega
theorem lineEnd_early (l : List UInt8) : lineEnd l < l.length - 1 ↔ 10 ∈ l.dropLast := by
  induction l with
  | nil => simp [lineEnd]
  | cons c l ih =>
    cases l with
    | nil =>
      simp [lineEnd]
    | cons d l =>
      unfold lineEnd
      by_cases h : c = 10
      · subst h
        simp
      · rw [if_neg h, List.dropLast_cons_cons, List.mem_cons]
        have h2 : ¬ (10 : UInt8) = c := fun e => h e.symm
        simp only [h2, false_or]
        rw [← ih]
        simp only [List.length_cons]
        omega
theorem suffix_last (l : List UInt8) : Lib.hasSuffix l [10] = true ↔ ∃ r, l = r ++ [10] := by
  unfold Lib.hasSuffix
  rw [List.isSuffixOf_iff_suffix]
  constructor
  · rintro ⟨r, h⟩
    exact ⟨r, h.symm⟩
  · rintro ⟨r, h⟩
    exact ⟨r, h.symm⟩
theorem suffix_iff (l : List UInt8) (h : ¬ 10 ∈ l.dropLast) : Lib.hasSuffix l [10] = true ↔ 10 ∈ l := by
  rw [suffix_last]
  constructor
  · rintro ⟨r, rfl⟩
    simp
  · intro hm
    have hne : l ≠ [] := by
      rintro rfl
      simp at hm
    have e := List.dropLast_concat_getLast hne
    rw [← e] at hm
    rcases List.mem_append.1 hm with h1 | h1
    · exact absurd h1 h
    · refine ⟨l.dropLast, ?_⟩
      have h2 : (10 : UInt8) = l.getLast hne := by simpa using h1
      rw [h2]
      exact e.symm
end Go.Proofs.YtacdkacjlekkgaaDoor.P
end
section
set_option linter.unusedVariables false
set_option linter.unusedSimpArgs false
namespace Go.Proofs.YtacdkacjlekkgaaDoor.P
open Go.RowKit Go.Proofs.YtacdkacjlekkgaaDoorW.PrintWords Go.Proofs.YtacdkacjlekkgaaDoorW.PrintLast
def pieces : List UInt8 → List UInt8 → List (List UInt8)
  | cur, [] => [cur]
  | cur, b :: l => if b = 10 then (cur ++ [b]) :: pieces [] l else pieces (cur ++ [b]) l
def linesL : List UInt8 → List UInt8 → List (List UInt8)
  | cur, [] => if cur = [] then [] else [cur]
  | cur, b :: l => if b = 10 then (cur ++ [b]) :: linesL [] l else linesL (cur ++ [b]) l
def toB (l : List UInt8) : ByteArray := ⟨l.toArray⟩
theorem toB_data (s : ByteArray) : toB s.data.toList = s := by cases s; simp [toB]
theorem data_toB (l : List UInt8) : (toB l).data.toList = l := by simp [toB]
def LNB (s : ByteArray) : List ByteArray := (linesL [] s.data.toList).map toB
theorem extract_data (s : ByteArray) (a b : Nat) : (s.extract a b).data.toList = (s.data.toList.drop a).take (b - a) := by
  rw [ByteArray.data_extract, Array.toList_extract, List.extract_eq_take_drop]
theorem extract_toB (s : ByteArray) (a b : Nat) : s.extract a b = toB ((s.data.toList.drop a).take (b - a)) := by
  rw [← extract_data, toB_data]
theorem take_more {l : List UInt8} {f i : Nat} (hf : f ≤ i) (hi : i < l.length) : (l.drop f).take (i + 1 - f) = (l.drop f).take (i - f) ++ [l[i]] := by
  have e : i + 1 - f = (i - f) + 1 := by omega
  rw [e, List.take_add_one, List.getElem?_drop]
  have e2 : f + (i - f) = i := by omega
  rw [e2, List.getElem?_eq_getElem hi]
  rfl
theorem split_loop (s : ByteArray) (hs : s.size ≤ 1048576) : ∀ (d i f : Nat) (out : List ByteArray), s.size - i = d → i ≤ s.size → f ≤ i → out.length ≤ f →
    Ev (fun k => spec_l1Split.l0 k s out (f : Int) (i : Int)) (out ++ (linesL ((s.data.toList.drop f).take (i - f)) (s.data.toList.drop i)).map toB) := by
  intro d
  induction d with
  | zero =>
    intro i f out hd hi hf ho
    have hi' : i = s.size := by omega
    subst hi'
    refine Ev.step (fun k => by rw [spec_l1Split.l0]) ?_
    refine Ev_neg (by omega) ?_
    rw [List.drop_eq_nil_of_le (Nat.le_of_eq (size_data s)), linesL]
    refine Ev_if (fun h => ?_) (fun h => ?_)
    · refine Ev_pos (by omega) (Ev_pos (by omega) (Ev_pos (by omega) (Ev_val ?_)))
      have e1 : ((f : Int)).toNat = f := by omega
      rw [extract_toB, if_neg (fun e => ?_)]
      · rfl
      · have := congrArg List.length e
        simp only [List.length_take, List.length_drop, size_data, List.length_nil] at this
        omega
    · refine Ev_val ?_
      have : f = s.size := by omega
      subst this
      rw [if_pos (by simp)]
      simp
  | succ d ih =>
    intro i f out hd hi hf ho
    have hlt : i < s.data.toList.length := by rw [size_data]; omega
    refine Ev.step (fun k => by rw [spec_l1Split.l0]) (Ev_pos (by omega) (Ev_pos (by omega) ?_))
    rw [bt_nat hlt, drop_at hlt, wsucc (n := s.size) (by omega) (by omega)]
    rw [linesL, ← take_more hf hlt]
    refine Ev_if (fun h => ?_) (fun h => ?_)
    · have hb : s.data.toList[i] = 10 := by
        apply UInt8.toNat_inj.1
        have h2 : s.data.toList[i].toNat = 10 := by omega
        exact h2
      refine Ev_pos (by omega) (Ev_pos (by omega) (Ev_pos (by omega) (Ev_pos (by omega) ?_)))
      rw [if_pos hb]
      refine Ev_eq (ih (i + 1) (i + 1) _ (by omega) (by omega) (Nat.le_refl _) (by rw [List.length_append, List.length_singleton]; omega)) ?_
      have e1 : ((f : Int)).toNat = f := by omega
      have e2 : (((i + 1 : Nat) : Int)).toNat = i + 1 := by omega
      rw [e1, e2, extract_toB, Nat.sub_self, List.take_zero, List.append_assoc]
      rfl
    · have : ¬ s.data.toList[i] = 10 := fun e => h (by rw [e]; rfl)
      rw [if_neg this]
      exact ih (i + 1) f out (by omega) (by omega) (by omega) ho
theorem split_tells (s : ByteArray) (hs : s.size ≤ 1048576) : Ev (fun k => spec_l1Split.f k s) (LNB s) := by
  unfold spec_l1Split.f
  have h := split_loop s hs _ 0 0 [] rfl (by omega) (by omega) (by simp)
  rw [List.drop_zero, Nat.sub_self, List.take_zero] at h
  exact h
def ahead (cur : List UInt8) : List (List UInt8) → List (List UInt8)
  | [] => [cur]
  | x :: r => (cur ++ x) :: r
theorem pieces_ne (cur l : List UInt8) : pieces cur l ≠ [] := by
  induction l generalizing cur with
  | nil => simp [pieces]
  | cons b l ih =>
    rw [pieces]
    split
    · simp
    · exact ih _
theorem ahead_ahead (a b : List UInt8) {xs : List (List UInt8)} (h : xs ≠ []) : ahead a (ahead b xs) = ahead (a ++ b) xs := by
  cases xs with
  | nil => exact absurd rfl h
  | cons x r => simp [ahead]
theorem pieces_cur (cur l : List UInt8) : pieces cur l = ahead cur (pieces [] l) := by
  induction l generalizing cur with
  | nil => simp [pieces, ahead]
  | cons b l ih =>
    rw [pieces, pieces]
    by_cases h : b = 10
    · rw [if_pos h, if_pos h]
      simp [ahead]
    · rw [if_neg h, if_neg h, ih (cur ++ [b]), ih ([] ++ [b]), ahead_ahead _ _ (pieces_ne _ _)]
      rfl
theorem splitK_cons (b : UInt8) (l : List UInt8) (h : b ≠ 10) (k : Nat) : Lib.splitK [10] 1 k (b :: l) = ahead [b] (Lib.splitK [10] 1 k l) := by
  cases k with
  | zero => rfl
  | succ k =>
    have hge := index_low l 10
    have e : Lib.indexByte (b :: l) 10 = if Lib.indexByte l 10 < 0 then -1 else Lib.indexByte l 10 + 1 := by
      rw [Lib.indexByte]
      simp only [beq_iff_eq, h, if_false]
      by_cases q : Lib.indexByte l 10 = -1
      · rw [if_pos q, if_pos (by omega)]
      · rw [if_neg q, if_neg (by omega)]
    rw [Lib.splitK, Lib.splitK, Lib.index_one, Lib.index_one, e]
    by_cases hn : Lib.indexByte l 10 < 0
    · have e2 : Lib.indexByte l 10 = -1 := by omega
      rw [if_pos hn, e2, if_pos (beq_self_eq_true _), if_pos (beq_self_eq_true _)]
      rfl
    · rw [if_neg hn, if_neg (fun q => by have := beq_iff_eq.1 q; omega), if_neg (fun q => by have := beq_iff_eq.1 q; omega)]
      obtain ⟨o, ho⟩ : ∃ o : Nat, Lib.indexByte l 10 = (o : Int) := ⟨(Lib.indexByte l 10).toNat, by omega⟩
      rw [ho]
      have e3 : ((o : Int) + 1).toNat = o + 1 := by omega
      have e4 : ((o : Int)).toNat = o := by omega
      rw [e3, e4]
      rfl
theorem splitK_pieces (l : List UInt8) : Lib.splitK [10] 1 (l.count 10) l = pieces [] l := by
  induction l with
  | nil => rfl
  | cons b l ih =>
    rw [pieces]
    by_cases h : b = 10
    · subst h
      rw [if_pos rfl, List.count_cons_self, Lib.splitK, Lib.index_one]
      have e : Lib.indexByte (10 :: l) 10 = 0 := by rw [Lib.indexByte]; simp
      rw [e, if_neg (by decide)]
      show _ :: Lib.splitK [10] 1 (l.count 10) l = _
      rw [ih]
      rfl
    · rw [if_neg h, List.count_cons_of_ne (fun e => h e), splitK_cons b l h, ih]
      exact (pieces_cur [b] l).symm
theorem pieces_lines (cur l : List UInt8) : ∃ p ps, pieces cur l = ps ++ [p] ∧ linesL cur l = if p = [] then ps else ps ++ [p] := by
  induction l generalizing cur with
  | nil =>
    refine ⟨cur, [], rfl, ?_⟩
    simp [linesL]
  | cons b l ih =>
    rw [pieces, linesL]
    by_cases h : b = 10
    · rw [if_pos h, if_pos h]
      obtain ⟨p, ps, e1, e2⟩ := ih []
      refine ⟨p, (cur ++ [b]) :: ps, by rw [e1]; rfl, ?_⟩
      rw [e2]
      split <;> rfl
    · rw [if_neg h, if_neg h]
      exact ih _
theorem linesOf_tells (s : ByteArray) (hs : s.size ≤ 1048576) : impl_linesOf.f s = some (LNB s) := by
  have e1 : strings_SplitAfter.f s (⟨#[10]⟩ : ByteArray) = some ((pieces [] s.data.toList).map toB) := by
    unfold strings_SplitAfter.f
    have : strings_genSplit.f s (⟨#[10]⟩ : ByteArray) (((⟨#[10]⟩ : ByteArray).size : Nat) : Int) (-1) = some ((pieces [] s.data.toList).map toB) := by
      unfold strings_genSplit.f
      show (if s.size < 4294967281 ∧ (1 : Int) = 1 ∧ (-1 : Int) = -1 then some (Lib.splitB ⟨⟨[10]⟩⟩ 1 (Lib.countB s ⟨⟨[10]⟩⟩) s) else none) = _
      rw [if_pos ⟨by omega, rfl, rfl⟩]
      congr 1
      have h := Lib.splitB_data ⟨⟨[10]⟩⟩ 1 (Lib.countB s ⟨⟨[10]⟩⟩) s
      have e0 : Lib.countB s ⟨⟨[10]⟩⟩ = s.data.toList.count 10 := Lib.count_one 10 s.data.toList
      rw [e0] at h ⊢
      have h2 := h.trans (splitK_pieces s.data.toList)
      rw [← h2, List.map_map]
      have : (toB ∘ fun x : ByteArray => x.data.toList) = id := funext toB_data
      rw [this, List.map_id]
    rw [this]
    rfl
  unfold impl_linesOf.f
  rw [e1]
  obtain ⟨p, ps, e2, e3⟩ := pieces_lines [] s.data.toList
  show (if 0 ≤ wrap64 ((((pieces [] s.data.toList).map toB).length : Int) - 1) then _ else none) = _
  have hl : ((pieces [] s.data.toList).map toB).length = ps.length + 1 := by rw [e2]; simp
  have hle : ps.length ≤ s.size := by
    have h1 : ∀ (cur l : List UInt8), (pieces cur l).length ≤ l.length + 1 := by
      intro cur l
      induction l generalizing cur with
      | nil => simp [pieces]
      | cons b l ih =>
        rw [pieces]
        split
        · have := ih []; simp only [List.length_cons]; omega
        · have := ih (cur ++ [b]); simp only [List.length_cons]; omega
    have := h1 [] s.data.toList
    rw [List.length_map] at hl
    rw [hl, size_data] at this
    omega
  rw [hl]
  have ew : wrap64 (((ps.length + 1 : Nat) : Int) - 1) = (ps.length : Int) := by rw [wid (by omega) (by omega)]; omega
  rw [ew, if_pos (by omega), if_pos (by omega)]
  have hlt : ps.length < ((pieces [] s.data.toList).map toB).length := by omega
  rw [rd_nat _ hlt]
  have hget : ((pieces [] s.data.toList).map toB)[ps.length] = toB p := by
    simp [e2]
  rw [hget]
  have hq : (toB p).toList = ([] : List UInt8) ↔ p = [] := by rw [toList_nil, data_toB]
  unfold LNB
  rw [e3]
  by_cases hp : p = []
  · rw [if_pos (hq.2 hp), if_pos (by omega), if_pos hp, e2]
    have : ((ps.length : Int)).toNat = ps.length := by omega
    rw [this]
    simp
  · rw [if_neg (fun e => hp (hq.1 e)), if_neg hp, e2]
theorem lines_total (cur l : List UInt8) : (linesL cur l).flatten = cur ++ l := by
  induction l generalizing cur with
  | nil =>
    rw [linesL]
    split
    · rename_i h; rw [h]; rfl
    · simp
  | cons b l ih =>
    rw [linesL]
    split
    · rw [List.flatten_cons, ih]; simp
    · rw [ih]; simp
end Go.Proofs.YtacdkacjlekkgaaDoor.P
end
section
namespace Go.Proofs.YtacdkacjlekkgaaDoor.P
open Go.RowKit Go.Proofs.YtacdkacjlekkgaaDoorW.PrintWords Go.Proofs.YtacdkacjlekkgaaDoorW.PrintLast Go.Proofs.YtacdkacjlekkgaaDoorW.PrintMore
attribute [local go_sem] max2_int min2_int max_two min_two max_three min_three max_four min_four
end Go.Proofs.YtacdkacjlekkgaaDoor.P
end
section
set_option linter.unusedVariables false
set_option linter.unusedSimpArgs false
namespace Go.Proofs.YtacdkacjlekkgaaDoor.P
open Go.RowKit Go.Proofs.YtacdkacjlekkgaaDoorW.PrintWords Go.Proofs.YtacdkacjlekkgaaDoorW.PrintLast
def TF (a0 : ByteArray) : Int := if (a0.size : Int) > 2000 then 2 else if ((LNB a0).length : Int) > 100 then 2 else 0
theorem stf_tells (a0 : ByteArray) (hs : a0.size ≤ 1048576) : Ev (fun k => spec_TextFault.f k a0) (TF a0) := by
  unfold spec_TextFault.f TF
  refine Ev_if (fun h1 => by rw [if_pos h1]; exact Ev.now _) (fun h1 => ?_)
  rw [if_neg h1]
  refine Ev_call (split_tells a0 hs) (Ev_if (fun h2 => by rw [if_pos h2]; exact Ev.now _) (fun h2 => by rw [if_neg h2]; exact Ev.now _))
theorem itf_tells (a0 : ByteArray) (hs : a0.size ≤ 1048576) : impl_TextFault.f a0 = some (TF a0) := by
  unfold impl_TextFault.f TF
  by_cases h1 : (a0.size : Int) > 2000
  · rw [if_pos h1, if_pos h1]
  · rw [if_neg h1, if_neg h1, linesOf_tells a0 hs]
    by_cases h2 : ((LNB a0).length : Int) > 100
    · rw [if_pos h2]; exact if_pos h2
    · rw [if_neg h2]; exact if_neg h2
def SPL (a0 : ByteArray) : Int × List ByteArray := if TF a0 = 0 then (0, LNB a0) else (TF a0, [])
theorem ispl_tells (a0 : ByteArray) (hs : a0.size ≤ 1048576) : impl_SplitLines.f a0 = some (SPL a0) := by
  unfold impl_SplitLines.f SPL
  rw [itf_tells a0 hs]
  by_cases h : TF a0 = 0
  · rw [if_pos h, linesOf_tells a0 hs]; exact if_pos h
  · rw [if_neg h]; exact if_neg h
end Go.Proofs.YtacdkacjlekkgaaDoor.P
end
section
set_option linter.unusedVariables false
set_option linter.unusedSimpArgs false
namespace Go.Proofs.YtacdkacjlekkgaaDoor.P
open Go.RowKit Go.Proofs.YtacdkacjlekkgaaDoorW.PrintWords Go.Proofs.YtacdkacjlekkgaaDoorW.PrintLast
theorem ended_loop (s : ByteArray) (hs : s.size ≤ 9223372036854775807) : ∀ (d i : Nat), s.size - i = d → i ≤ s.size → Ev (fun k => spec_l1Ended.l0 k s (i : Int)) (((i + lineEnd (s.data.toList.drop i) : Nat)) : Int) := by
  intro d
  induction d with
  | zero =>
    intro i hd hi
    refine Ev.step (fun k => by rw [spec_l1Ended.l0]) (Ev_neg (by omega) (Ev_val ?_))
    rw [List.drop_eq_nil_of_le (by rw [size_data]; omega)]
    simp only [lineEnd]
    omega
  | succ d ih =>
    intro i hd hi
    have hlt : i < s.data.toList.length := by rw [size_data]; omega
    refine Ev.step (fun k => by rw [spec_l1Ended.l0]) (Ev_pos (by omega) (Ev_pos (by omega) ?_))
    rw [bt_nat hlt, drop_at hlt, wsucc (n := s.size) (by omega) hs]
    refine Ev_if (fun h => Ev_val ?_) (fun h => Ev_eq (ih (i + 1) (by omega) (by omega)) ?_)
    · have : s.data.toList[i] = 10 := by
        apply UInt8.toNat_inj.1
        have h2 : s.data.toList[i].toNat = 10 := by omega
        exact h2
      rw [lineEnd, if_pos this]
      rfl
    · have : ¬ s.data.toList[i] = 10 := fun e => h (by rw [e]; rfl)
      rw [lineEnd, if_neg this]
      omega
theorem ended_tells (s : ByteArray) (hs : s.size ≤ 9223372036854775807) : Ev (fun k => spec_l1Ended.f k s) ((lineEnd s.data.toList : Nat) : Int) := by
  unfold spec_l1Ended.f
  have h := ended_loop s hs _ 0 rfl (by omega)
  rw [List.drop_zero, Nat.zero_add] at h
  exact h
def lineBad (s : List UInt8) (last : Bool) : Bool := decide (s = [] ∨ 10 ∈ s.dropLast ∨ (¬ 10 ∈ s ∧ last = false))
def linesBad : List ByteArray → Bool
  | [] => false
  | x :: r => lineBad x.data.toList (decide (r = [])) || linesBad r
theorem lb_go {x : ByteArray} {r : List ByteArray} (h : lineBad x.data.toList (decide (r = [])) = false) : (if linesBad r then (1 : Int) else 0) = if linesBad (x :: r) then 1 else 0 := by
  unfold linesBad
  rw [h, Bool.false_or]
  cases r <;> rfl
theorem lb_end {x : ByteArray} {r : List ByteArray} (h : lineBad x.data.toList (decide (r = [])) = true) : (1 : Int) = if linesBad (x :: r) then 1 else 0 := by
  unfold linesBad
  rw [h, Bool.true_or]
  rfl
def LF (xs : List ByteArray) : Int := if xs.length > 100 ∨ total xs > 2000 then 2 else if linesBad xs then 1 else 0
theorem slf_loop1 (xs : List ByteArray) (hx : ∀ x ∈ xs, x.size ≤ 9223372036854775807) (hl : xs.length ≤ 9223372036854775807) : ∀ (d i : Nat), xs.length - i = d → i ≤ xs.length →
    Ev (fun k => spec_LinesFault.l1 k xs (i : Int)) (if linesBad (xs.drop i) then 1 else 0) := by
  intro d
  induction d with
  | zero =>
    intro i hd hi
    refine Ev.step (fun k => by rw [spec_LinesFault.l1]) (Ev_neg (by omega) (Ev_val ?_))
    rw [List.drop_eq_nil_of_le (by omega)]
    rfl
  | succ d ih =>
    intro i hd hi
    have hlt : i < xs.length := by omega
    have hs := hx xs[i] (List.getElem_mem hlt)
    refine Ev.step (fun k => by rw [spec_LinesFault.l1]) (Ev_pos (by omega) (Ev_pos (by omega) ?_))
    rw [rd_nat _ hlt, drop_at hlt, wsucc hlt hl]
    refine Ev_call (ended_tells _ hs) ?_
    have hle := lineEnd_le xs[i].data.toList
    rw [size_data] at hle
    have hrest : xs.drop (i + 1) = [] ↔ i + 1 = xs.length := by
      rw [List.drop_eq_nil_iff]
      omega
    refine Ev_if (fun h => Ev_val ?_) (fun h => ?_)
    · have h2 := toList_nil.1 h
      exact lb_end (by simp [lineBad, h2])
    have hne : ¬ xs[i].data.toList = [] := fun e => h (toList_nil.2 e)
    have h0 : xs[i].data.toList.length ≠ 0 := fun e => hne (List.length_eq_zero_iff.1 e)
    rw [size_data] at h0
    rw [wid (by omega) (by omega)]
    have hearly := lineEnd_early xs[i].data.toList
    rw [size_data] at hearly
    have hmem := lineEnd_mem xs[i].data.toList
    rw [size_data] at hmem
    refine Ev_if (fun h => Ev_val ?_) (fun h => ?_)
    · have h2 : 10 ∈ xs[i].data.toList.dropLast := hearly.1 (by omega)
      exact lb_end (by simp [lineBad, h2])
    have hn2 : ¬ 10 ∈ xs[i].data.toList.dropLast := fun e => h (by have := hearly.2 e; omega)
    have go : (¬ 10 ∈ xs[i].data.toList → i + 1 = xs.length) → Ev (fun k => spec_LinesFault.l1 k xs ((i + 1 : Nat) : Int)) (if linesBad (xs[i] :: xs.drop (i + 1)) then 1 else 0) := by
      intro hg
      refine Ev_eq (ih (i + 1) (by omega) (by omega)) ?_
      have : lineBad xs[i].data.toList (decide (xs.drop (i + 1) = [])) = false := by
        unfold lineBad
        rw [decide_eq_false_iff_not]
        rintro (h1 | h1 | ⟨h1, h2⟩)
        · exact hne h1
        · exact hn2 h1
        · rw [decide_eq_false_iff_not, hrest] at h2
          exact h2 (hg h1)
      exact lb_go this
    refine Ev_if (fun h => ?_) (fun h => ?_)
    · have hno : ¬ 10 ∈ xs[i].data.toList := fun e => by have := hmem.2 e; omega
      rw [wid (by omega) (by omega)]
      refine Ev_if (fun h3 => Ev_val ?_) (fun h3 => go (fun _ => by omega))
      have : lineBad xs[i].data.toList (decide (xs.drop (i + 1) = [])) = true := by
        unfold lineBad
        rw [decide_eq_true_iff]
        refine .inr (.inr ⟨hno, ?_⟩)
        rw [decide_eq_false_iff_not, hrest]
        omega
      exact lb_end this
    · exact go (fun hno => absurd (hmem.1 (by omega)) hno)
theorem slf_loop0 (xs : List ByteArray) (hx : ∀ x ∈ xs, x.size ≤ 9223372036854775807) (hl : xs.length ≤ 9223372036854775807) (hb : total xs ≤ 9223372036854775807) : ∀ (d i n : Nat), xs.length - i = d → i ≤ xs.length → n + total (xs.drop i) = total xs →
    Ev (fun k => spec_LinesFault.l0 k xs (n : Int) (i : Int)) (LF xs) := by
  intro d
  induction d with
  | zero =>
    intro i n hd hi hn
    rw [List.drop_eq_nil_of_le (by omega)] at hn
    simp only [total, Nat.add_zero] at hn
    refine Ev.step (fun k => by rw [spec_LinesFault.l0]) (Ev_neg (by omega) ?_)
    have body : ∀ b : Bool, b = decide (xs.length > 100 ∨ total xs > 2000) → Ev (fun k => spec_LinesFault.j1 k xs b) (LF xs) := by
      intro b hb2
      refine Ev.step (fun k => by rw [spec_LinesFault.j1]) ?_
      unfold LF
      rw [hb2]
      refine Ev_if (fun h => Ev_val ?_) (fun h => ?_)
      · rw [if_pos (of_decide_eq_true h)]
      · rw [if_neg (fun e => h (decide_eq_true e))]
        have := slf_loop1 xs hx hl _ 0 rfl (by omega)
        rw [List.drop_zero] at this
        exact this
    refine Ev_if (fun h => body _ ?_) (fun h => body _ ?_)
    · symm
      rw [decide_eq_true_iff]
      exact .inl (by omega)
    · rw [decide_eq_decide]
      omega
  | succ d ih =>
    intro i n hd hi hn
    have hlt : i < xs.length := by omega
    rw [drop_at hlt] at hn
    simp only [total] at hn
    refine Ev.step (fun k => by rw [spec_LinesFault.l0]) (Ev_pos (by omega) (Ev_pos (by omega) ?_))
    rw [rd_nat _ hlt, wsucc hlt hl, wid (by omega) (by omega), show (n : Int) + (xs[i].size : Int) = ((n + xs[i].size : Nat) : Int) by omega]
    exact ih (i + 1) (n + xs[i].size) (by omega) (by omega) (by omega)
theorem slf_tells (xs : List ByteArray) (hx : ∀ x ∈ xs, x.size ≤ 9223372036854775807) (hl : xs.length ≤ 9223372036854775807) (hb : total xs ≤ 9223372036854775807) : Ev (fun k => spec_LinesFault.f k xs) (LF xs) := by
  unfold spec_LinesFault.f
  exact slf_loop0 xs hx hl hb _ 0 0 rfl (by omega) (by simp)
theorem isLine_tells (s : ByteArray) (hs : s.size ≤ 9223372036854775807) : impl_isLine.f s = some (decide (¬ (s.data.toList = [] ∨ 10 ∈ s.data.toList.dropLast))) := by
  unfold impl_isLine.f
  by_cases h : s.data.toList = []
  · rw [if_pos (toList_nil.2 h)]
    simp [h]
  · have h0 : s.data.toList.length ≠ 0 := fun e => h (List.length_eq_zero_iff.1 e)
    rw [size_data] at h0
    rw [if_neg (fun e => h (toList_nil.1 e)), wid (by omega) (by omega), if_pos (by omega), if_pos (by omega)]
    have he : (s.extract 0 ((s.size : Int) - 1).toNat).data.toList = s.data.toList.dropLast := by
      rw [← ByteArray.toList_eq, Lib.extract_toList, List.drop_zero, List.dropLast_eq_take, size_data]
      congr 1
      omega
    unfold strings_Contains.f
    simp only [Option.bind_some]
    rw [he]
    congr 1
    have hi := index_mem s.data.toList.dropLast 10
    by_cases hm : 10 ∈ s.data.toList.dropLast
    · have : (0 : Int) ≤ Lib.indexByte s.data.toList.dropLast 10 := hi.2 hm
      simp [hm, this]
    · have : ¬ (0 : Int) ≤ Lib.indexByte s.data.toList.dropLast 10 := fun e => hm (hi.1 e)
      simp only [this, hm, h]
      simp
theorem isWhole_tells (s : ByteArray) (hs : s.size ≤ 9223372036854775807) : impl_isWhole.f s = some (Lib.hasSuffix s.data.toList [10]) := by
  unfold impl_isWhole.f strings_HasSuffix.f
  rw [if_pos hs]
  rfl
theorem ilf_loop (xs : List ByteArray) (hx : ∀ x ∈ xs, x.size ≤ 9223372036854775807) (hl : xs.length ≤ 9223372036854775807) : ∀ (d i : Nat), xs.length - i = d → i ≤ xs.length →
    Ev (fun k => impl_LinesFault.l0 k xs xs (xs.length : Int) (i : Int)) (if linesBad (xs.drop i) then 1 else 0) := by
  intro d
  induction d with
  | zero =>
    intro i hd hi
    refine Ev.step (fun k => by rw [impl_LinesFault.l0]) (Ev_neg (by omega) (Ev_val ?_))
    rw [List.drop_eq_nil_of_le (by omega)]
    rfl
  | succ d ih =>
    intro i hd hi
    have hlt : i < xs.length := by omega
    have hs := hx xs[i] (List.getElem_mem hlt)
    have hrest : xs.drop (i + 1) = [] ↔ i + 1 = xs.length := by
      rw [List.drop_eq_nil_iff]
      omega
    refine Ev.step (fun k => by rw [impl_LinesFault.l0]) (Ev_pos (by omega) (Ev_pos (by omega) (Ev_pos (by omega) ?_)))
    rw [rd_nat _ hlt, drop_at hlt, wsucc hlt hl]
    refine Ev_const (isLine_tells _ hs) ?_
    refine Ev_if (fun h => ?_) (fun h => Ev_val ?_)
    · have h := of_decide_eq_true h
      have hne : ¬ xs[i].data.toList = [] := fun e => h (.inl e)
      have hn2 : ¬ 10 ∈ xs[i].data.toList.dropLast := fun e => h (.inr e)
      have go : (¬ 10 ∈ xs[i].data.toList → i + 1 = xs.length) → Ev (fun k => impl_LinesFault.l0 k xs xs (xs.length : Int) ((i + 1 : Nat) : Int)) (if linesBad (xs[i] :: xs.drop (i + 1)) then 1 else 0) := by
        intro hg
        refine Ev_eq (ih (i + 1) (by omega) (by omega)) ?_
        have : lineBad xs[i].data.toList (decide (xs.drop (i + 1) = [])) = false := by
          unfold lineBad
          rw [decide_eq_false_iff_not]
          rintro (h1 | h1 | ⟨h1, h2⟩)
          · exact hne h1
          · exact hn2 h1
          · rw [decide_eq_false_iff_not, hrest] at h2
            exact h2 (hg h1)
        exact lb_go this
      have hsuf := suffix_iff _ hn2
      refine Ev_const (isWhole_tells _ hs) (Ev_if (fun h3 => go (fun hno => absurd (hsuf.1 h3) hno)) (fun h3 => ?_))
      rw [wid (by omega) (by omega)]
      refine Ev_if (fun h4 => go (fun _ => by omega)) (fun h4 => Ev_val ?_)
      have : lineBad xs[i].data.toList (decide (xs.drop (i + 1) = [])) = true := by
        unfold lineBad
        rw [decide_eq_true_iff]
        refine .inr (.inr ⟨fun e => h3 (hsuf.2 e), ?_⟩)
        rw [decide_eq_false_iff_not, hrest]
        omega
      exact lb_end this
    · have h2 : xs[i].data.toList = [] ∨ 10 ∈ xs[i].data.toList.dropLast := Classical.byContradiction (fun e => h (decide_eq_true e))
      have : lineBad xs[i].data.toList (decide (xs.drop (i + 1) = [])) = true := by
        unfold lineBad
        rw [decide_eq_true_iff]
        rcases h2 with h2 | h2
        · exact .inl h2
        · exact .inr (.inl h2)
      exact lb_end this
theorem join_flat (xs : List ByteArray) : Lib.join (xs.map (·.data.toList)) [] = (xs.map (·.data.toList)).flatten := by
  unfold Lib.join
  induction xs with
  | nil => rfl
  | cons x l ih =>
    cases l with
    | nil => simp [List.intercalate]
    | cons y l =>
      simp only [List.map_cons, List.intercalate, List.intersperse, List.flatten_cons, List.nil_append] at ih ⊢
      rw [ih]
theorem join_all (xs : List ByteArray) : (Lib.join (xs.map (·.data.toList)) []).length = total xs := by
  rw [join_flat]
  induction xs with
  | nil => rfl
  | cons x l ih =>
    rw [List.map_cons, List.flatten_cons, List.length_append, ih, size_data]
    rfl
theorem ilf_tells (xs : List ByteArray) (hx : ∀ x ∈ xs, x.size ≤ 9223372036854775807) (hl : xs.length ≤ 140737488355328) (hb : total xs ≤ 140737488355328) : Ev (fun k => impl_LinesFault.f k xs) (LF xs) := by
  unfold impl_LinesFault.f
  have body : ∀ b : Bool, b = decide (xs.length > 100 ∨ total xs > 2000) → Ev (fun k => impl_LinesFault.j0 k xs b) (LF xs) := by
    intro b hb2
    refine Ev.step (fun k => by rw [impl_LinesFault.j0]) ?_
    unfold LF
    rw [hb2]
    refine Ev_if (fun h => Ev_val ?_) (fun h => ?_)
    · rw [if_pos (of_decide_eq_true h)]
    · rw [if_neg (fun e => h (decide_eq_true e))]
      have := ilf_loop xs hx (by omega) _ 0 rfl (by omega)
      rw [List.drop_zero] at this
      exact this
  refine Ev_if (fun h => body _ ?_) (fun h => ?_)
  · symm
    rw [decide_eq_true_iff]
    exact .inl (by omega)
  · have hj := join_all xs
    refine Ev_const (a := ⟨(Lib.join (xs.map (·.data.toList)) []).toArray⟩) ?_ (body _ ?_)
    · unfold strings_Join.f
      exact if_pos ⟨hl, by show (Lib.join _ []).length ≤ _; omega⟩
    · rw [decide_eq_decide]
      have : ((⟨(Lib.join (xs.map (·.data.toList)) []).toArray⟩ : ByteArray).size) = total xs := by
        rw [← hj]
        simp [ByteArray.size]
      rw [this]
      omega
end Go.Proofs.YtacdkacjlekkgaaDoor.P
end
section
set_option linter.unusedVariables false
set_option linter.unusedSimpArgs false
namespace Go.Proofs.YtacdkacjlekkgaaDoor.P
open Go.RowKit Go.Proofs.YtacdkacjlekkgaaDoorW.PrintWords Go.Proofs.YtacdkacjlekkgaaDoorW.PrintLast
def Small (xs : List ByteArray) : Prop := (∀ x ∈ xs, x.size ≤ 9223372036854775807) ∧ xs.length ≤ 1048576 ∧ total xs ≤ 1048576
theorem Small.slf {xs : List ByteArray} (h : Small xs) : Ev (fun k => spec_LinesFault.f k xs) (LF xs) := slf_tells xs h.1 (by have := h.2.1; omega) (by have := h.2.2; omega)
theorem Small.ilf {xs : List ByteArray} (h : Small xs) : Ev (fun k => impl_LinesFault.f k xs) (LF xs) := ilf_tells xs h.1 (by have := h.2.1; omega) (by have := h.2.2; omega)
theorem LF_zero {xs : List ByteArray} (h : LF xs = 0) : xs.length ≤ 100 ∧ total xs ≤ 2000 ∧ linesBad xs = false := by
  unfold LF at h
  split at h
  · omega
  · rename_i h1
    split at h
    · omega
    · rename_i h2
      exact ⟨by omega, by omega, by simpa using h2⟩
end Go.Proofs.YtacdkacjlekkgaaDoor.P
end
section
set_option linter.unusedVariables false
set_option linter.unusedSimpArgs false
namespace Go.Proofs.YtacdkacjlekkgaaDoor.P
open Go.RowKit Go.Proofs.YtacdkacjlekkgaaDoorW.PrintWords Go.Proofs.YtacdkacjlekkgaaDoorW.PrintLast
def joinedB (xs : List ByteArray) : ByteArray := ⟨(Lib.join (xs.map (·.data.toList)) []).toArray⟩
theorem flatB (xs : List ByteArray) : (joinedB xs).data.toList = (xs.map (·.data.toList)).flatten := by
  unfold joinedB
  rw [List.toList_toArray, join_flat]
theorem joinedB_size (xs : List ByteArray) : (joinedB xs).size = total xs := by
  rw [← join_all]
  simp [joinedB, ByteArray.size]
theorem sjoin_loop (xs : List ByteArray) (hl : xs.length ≤ 9223372036854775807) (ht : total xs ≤ 9223372036854775807) : ∀ (d i : Nat) (s : ByteArray), xs.length - i = d → i ≤ xs.length → s.size + total (xs.drop i) ≤ 9223372036854775807 →
    Ev (fun k => spec_l1Join.l0 k xs s (i : Int)) (⟨(s.data.toList ++ ((xs.drop i).map (·.data.toList)).flatten).toArray⟩ : ByteArray) := by
  intro d
  induction d with
  | zero =>
    intro i s hd hi hs
    refine Ev.step (fun k => by rw [spec_l1Join.l0]) (Ev_neg (by omega) (Ev_val ?_))
    rw [List.drop_eq_nil_of_le (by omega)]
    simp
  | succ d ih =>
    intro i s hd hi hs
    have hlt : i < xs.length := by omega
    rw [drop_at hlt] at hs ⊢
    simp only [total] at hs
    refine Ev.step (fun k => by rw [spec_l1Join.l0]) (Ev_pos (by omega) (Ev_pos (by omega) ?_))
    rw [rd_nat _ hlt, wsucc hlt hl]
    refine Ev_pos (by omega) ?_
    refine Ev_eq (ih (i + 1) (s ++ xs[i]) (by omega) (by omega) (by rw [ByteArray.size_append]; omega)) ?_
    congr 2
    rw [List.map_cons, List.flatten_cons, ByteArray.data_append, Array.toList_append, List.append_assoc]
theorem sjoin_tells (xs : List ByteArray) (hl : xs.length ≤ 9223372036854775807) (ht : total xs ≤ 9223372036854775807) : Ev (fun k => spec_l1Join.f k xs) (joinedB xs) := by
  unfold spec_l1Join.f
  refine Ev_eq (sjoin_loop xs hl ht _ 0 (⟨#[]⟩ : ByteArray) rfl (by omega) (by simp [ByteArray.size]; exact ht)) ?_
  rw [List.drop_zero]
  apply data_eq.1
  rw [ByteArray.toList_eq, ByteArray.toList_eq, flatB]
  simp
def JL (xs : List ByteArray) : Int × ByteArray := if LF xs = 0 then (0, joinedB xs) else (LF xs, (⟨#[]⟩ : ByteArray))
theorem ijl_tells {xs : List ByteArray} (hs : Small xs) : Ev (fun k => impl_JoinLines.f k xs) (JL xs) := by
  have hlen := hs.2.1
  have htot := hs.2.2
  unfold impl_JoinLines.f JL
  refine Ev_call hs.ilf (Ev_if (fun h => ?_) (fun h => ?_))
  · rw [if_pos h]
    refine Ev_const (a := joinedB xs) ?_ (Ev.now _)
    unfold strings_Join.f
    exact if_pos ⟨by omega, by have := join_all xs; show (Lib.join _ []).length ≤ _; omega⟩
  · rw [if_neg h]
    exact Ev.now _
theorem total_toB (ls : List (List UInt8)) : total (ls.map toB) = ls.flatten.length := by
  induction ls with
  | nil => rfl
  | cons a ls ih =>
    rw [List.map_cons, total, ih, List.flatten_cons, List.length_append, ← size_data, data_toB]
theorem LNB_total (s : ByteArray) : total (LNB s) = s.size := by
  unfold LNB
  rw [total_toB, lines_total, List.nil_append, size_data]
theorem LNB_join (s : ByteArray) : joinedB (LNB s) = s := by
  apply data_eq.1
  rw [ByteArray.toList_eq, ByteArray.toList_eq, flatB]
  unfold LNB
  rw [List.map_map]
  have : ((fun x : ByteArray => x.data.toList) ∘ toB) = id := funext data_toB
  rw [this, List.map_id, lines_total, List.nil_append]
theorem lines_good : ∀ (l cur : List UInt8), ¬ 10 ∈ cur → linesBad ((linesL cur l).map toB) = false := by
  intro l
  induction l with
  | nil =>
    intro cur hc
    rw [linesL]
    split
    · rfl
    · rename_i h
      show (lineBad (toB cur).data.toList (decide (([] : List ByteArray) = [])) || linesBad []) = false
      rw [data_toB]
      have : ¬ (cur = [] ∨ 10 ∈ cur.dropLast ∨ (¬ 10 ∈ cur ∧ (decide (([] : List ByteArray) = [])) = false)) := by
        rintro (e | e | e)
        · exact h e
        · exact hc (List.dropLast_subset _ e)
        · exact absurd e.2 (by simp)
      unfold lineBad
      rw [decide_eq_false this]
      rfl
  | cons b l ih =>
    intro cur hc
    rw [linesL]
    split
    · rename_i hb
      subst hb
      rw [List.map_cons]
      show (lineBad (toB (cur ++ [10])).data.toList _ || linesBad ((linesL [] l).map toB)) = false
      rw [data_toB, ih [] (by simp), Bool.or_false]
      unfold lineBad
      apply decide_eq_false
      rintro (e | e | e)
      · simp at e
      · rw [List.dropLast_concat] at e
        exact hc e
      · exact e.1 (by simp)
    · rename_i hb
      exact ih _ (by simp only [List.mem_append, List.mem_singleton]; exact fun e => e.elim hc (fun e => hb e.symm))
theorem LNB_LF {s : ByteArray} (h1 : (LNB s).length ≤ 100) (h2 : s.size ≤ 2000) : LF (LNB s) = 0 := by
  unfold LF
  rw [LNB_total, if_neg (by omega)]
  have := lines_good s.data.toList [] (by simp)
  unfold LNB
  rw [this]
  rfl
theorem linesL_app : ∀ (y cur rest : List UInt8), ¬ 10 ∈ y → linesL cur (y ++ rest) = linesL (cur ++ y) rest := by
  intro y
  induction y with
  | nil => intro cur rest _; simp
  | cons b y ih =>
    intro cur rest h
    rw [List.cons_append, linesL, if_neg (fun e => h (by simp [e])), ih _ _ (fun e => h (by simp [e]))]
    simp
theorem lines_flat : ∀ (xs : List ByteArray), linesBad xs = false → linesL [] (xs.map (·.data.toList)).flatten = xs.map (·.data.toList) := by
  intro xs
  induction xs with
  | nil => intro _; rfl
  | cons x r ih =>
    intro h
    rw [linesBad, Bool.or_eq_false_iff] at h
    have h1 := of_decide_eq_false h.1
    have hr := ih h.2
    rw [List.map_cons, List.flatten_cons]
    by_cases h10 : 10 ∈ x.data.toList
    · have hne : x.data.toList ≠ [] := fun e => h1 (.inl e)
      have hd : ¬ 10 ∈ x.data.toList.dropLast := fun e => h1 (.inr (.inl e))
      have hx : x.data.toList = x.data.toList.dropLast ++ [x.data.toList.getLast hne] := (List.dropLast_concat_getLast hne).symm
      have hl : x.data.toList.getLast hne = 10 := by
        rw [hx] at h10
        rcases List.mem_append.1 h10 with e | e
        · exact absurd e hd
        · exact (List.mem_singleton.1 e).symm
      rw [hl] at hx
      rw [hx, List.append_assoc, linesL_app _ _ _ hd, List.nil_append]
      show linesL _ (10 :: _) = _
      rw [linesL, if_pos rfl]
      exact congrArg _ hr
    · have hnil : r = [] := by
        by_cases e : r = []
        · exact e
        · exact absurd (.inr (.inr ⟨h10, decide_eq_false e⟩)) h1
      subst hnil
      rw [linesL_app _ _ _ h10]
      show linesL _ [] = _
      rw [linesL, List.nil_append, if_neg (fun e => h1 (.inl e))]
      rfl
theorem LNB_joined {xs : List ByteArray} (h : linesBad xs = false) : LNB (joinedB xs) = xs := by
  unfold LNB
  rw [flatB, lines_flat xs h, List.map_map]
  have : (toB ∘ fun x : ByteArray => x.data.toList) = id := funext toB_data
  rw [this, List.map_id]
end Go.Proofs.YtacdkacjlekkgaaDoor.P
end
section
namespace Go.Proofs.YtacdkacjlekkgaaDoor.P
open Go.RowKit Go.Proofs.YtacdkacjlekkgaaDoorW.PrintWords Go.Proofs.YtacdkacjlekkgaaDoorW.PrintLast Go.Proofs.YtacdkacjlekkgaaDoorW.PrintMore
attribute [local go_sem] max2_int min2_int max_two min_two max_three min_three max_four min_four
end Go.Proofs.YtacdkacjlekkgaaDoor.P
end
section
set_option linter.unusedVariables false
set_option linter.unusedSimpArgs false
namespace Go.Proofs.YtacdkacjlekkgaaDoor.P
open Go.RowKit Go.Proofs.YtacdkacjlekkgaaDoorW.PrintWords Go.Proofs.YtacdkacjlekkgaaDoorW.PrintLast
theorem isame_loop (xs ys : List ByteArray) (hl : xs.length ≤ 9223372036854775807) (he : xs.length = ys.length) : ∀ (d i : Nat), xs.length - i = d → i ≤ xs.length → Ev (fun k => slices_Equal_string_string.l0 k xs ys (xs.length : Int) (i : Int)) (decide (xs.drop i = ys.drop i)) := by
  intro d
  induction d with
  | zero =>
    intro i hd hi
    refine Ev.step (fun k => by rw [slices_Equal_string_string.l0]) (Ev_neg (by omega) (Ev_val ?_))
    rw [List.drop_eq_nil_of_le (by omega), List.drop_eq_nil_of_le (by omega)]
    simp
  | succ d ih =>
    intro i hd hi
    have hlt : i < xs.length := by omega
    have hlt2 : i < ys.length := by omega
    refine Ev.step (fun k => by rw [slices_Equal_string_string.l0]) (Ev_pos (by omega) (Ev_pos (by omega) (Ev_pos (by omega) (Ev_pos (by omega) ?_))))
    rw [rd_nat _ hlt, rd_nat _ hlt2, wsucc hlt hl, drop_at hlt, drop_at hlt2]
    refine Ev_if (fun h => Ev_eq (ih (i + 1) (by omega) (by omega)) ?_) (fun h => Ev_val ?_)
    · exact dec_same (data_eq.1 h)
    · exact dec_diff (fun e => h (data_eq.2 e))
theorem isame_tells (xs ys : List ByteArray) (hl : xs.length ≤ 9223372036854775807) : Ev (fun k => slices_Equal_string_string.f k xs ys) (decide (xs = ys)) := by
  unfold slices_Equal_string_string.f
  refine Ev_if (fun h => ?_) (fun h => Ev_val ?_)
  · exact isame_loop xs ys hl (by omega) _ 0 rfl (by omega)
  · have : xs ≠ ys := fun e => h (by rw [e])
    simp [this]
theorem sdigest_loop (s : ByteArray) (hs : s.size ≤ 9223372036854775807) : ∀ (d i : Nat) (h : Int), s.size - i = d → i ≤ s.size → ∃ r, Ev (fun k => spec_DigestOf.l0 k s h (i : Int)) r
    ∧ Ev (fun k => impl_DigestOf.l0 k s h (s.size : Int) (i : Int)) r
    := by
  intro d
  induction d with
  | zero =>
    intro i h hd hi
    refine ⟨h, Ev.step (fun k => by rw [spec_DigestOf.l0]) (Ev_neg (by omega) (Ev.now _))
      , Ev.step (fun k => by rw [impl_DigestOf.l0]) (Ev_neg (by omega) (Ev.now _))
      ⟩
  | succ d ih =>
    intro i h hd hi
    have hlt : i < s.size := by omega
    obtain ⟨r, hr⟩ := ih (i + 1) (Int.tmod (wrap64 ((wrap64 (h * 131)) + (wrap64 (bt s (i : Int))))) 65521) (by omega) (by omega)
    refine ⟨r, Ev.step (fun k => by rw [spec_DigestOf.l0]) (Ev_pos (by omega) (Ev_pos (by omega) ?_))
      , Ev.step (fun k => by rw [impl_DigestOf.l0]) (Ev_pos (by omega) (Ev_pos (by omega) (Ev_pos (by omega) ?_)))
      ⟩
    · rw [wsucc hlt hs]
      exact hr.1
    · rw [wsucc hlt hs]
      exact hr.2
end Go.Proofs.YtacdkacjlekkgaaDoor.P
end
section
namespace Go.Proofs.YtacdkacjlekkgaaDoor.P
open Go.RowKit
theorem wsucc' {i : Nat} (hn : i < 9223372036854775807) : wrap64 ((i : Int) + 1) = ((i + 1 : Nat) : Int) := by
  rw [wid (by omega) (by omega)]
  omega
theorem wpred {i : Nat} (hn : i ≤ 9223372036854775807) : wrap64 (((i + 1 : Nat) : Int) - 1) = (i : Int) := by
  rw [wid (by omega) (by omega)]
  omega
end Go.Proofs.YtacdkacjlekkgaaDoor.P
end
section
set_option linter.unusedVariables false
set_option linter.unusedSimpArgs false
namespace Go.Proofs.YtacdkacjlekkgaaDoor.P
open Go.RowKit Go.Proofs.YtacdkacjlekkgaaDoorW.PrintWords Go.Proofs.YtacdkacjlekkgaaDoorW.PrintLast
def Code (c : List Int) : Prop := ∀ x ∈ c, 0 ≤ x ∧ x ≤ 255
theorem Code.rd {c : List Int} (hc : Code c) {i : Int} (h0 : 0 ≤ i) (h1 : i < (c.length : Int)) : 0 ≤ rd c i ∧ rd c i ≤ 255 := by
  obtain ⟨n, rfl⟩ := Int.eq_ofNat_of_zero_le h0
  have hn : n < c.length := by omega
  rw [rdi_nat hn]
  exact hc _ (List.getElem_mem hn)
theorem next_tells {c : List Int} (hc : Code c) {p n : Int} (h0 : 0 ≤ p) (h1 : p ≤ 1000000) (hn : n ≤ 1000000) : ∃ v, spec_l1Next.f c p n = some (v, p + 1) ∧ 0 ≤ v ∧ (1 ≤ n → v < n) := by
  unfold spec_l1Next.f
  rw [wid (x := p + 1) (by omega) (by omega), show p + 1 - 1 = p by omega, wid (x := p) (by omega) (by omega)]
  by_cases c0 : n < 1
  · rw [if_pos c0]
    exact ⟨0, rfl, by omega, by omega⟩
  rw [if_neg c0]
  by_cases c1 : (c.length : Int) = 0
  · rw [if_pos c1, if_neg (by omega), wid (x := p * 7) (by omega) (by omega)]
    exact ⟨_, rfl, Int.tmod_nonneg _ (by omega), fun _ => Int.tmod_lt_of_pos _ (by omega)⟩
  rw [if_neg c1]
  have q0 : 0 ≤ Int.tmod p (c.length : Int) := Int.tmod_nonneg _ h0
  have q1 : Int.tmod p (c.length : Int) < (c.length : Int) := Int.tmod_lt_of_pos _ (by omega)
  have r1 := hc.rd q0 q1
  rw [if_pos q0, if_pos q1]
  have d0 : 0 ≤ Int.tdiv p (c.length : Int) := Int.tdiv_nonneg h0 (by omega)
  have d1 : Int.tdiv p (c.length : Int) ≤ p := Int.tdiv_le_self _ h0
  rw [wid (x := Int.tdiv p (c.length : Int)) (by omega) (by omega), wid (x := rd c (Int.tmod p (c.length : Int))) (by omega) (by omega), wid (x := Int.tdiv p (c.length : Int) * 37) (by omega) (by omega), wid (x := rd c (Int.tmod p (c.length : Int)) + Int.tdiv p (c.length : Int) * 37) (by omega) (by omega)]
  by_cases c2 : n > 200
  · rw [if_pos c2, wid (x := p + 1) (by omega) (by omega)]
    have q2 : 0 ≤ Int.tmod (p + 1) (c.length : Int) := Int.tmod_nonneg _ (by omega)
    have q3 : Int.tmod (p + 1) (c.length : Int) < (c.length : Int) := Int.tmod_lt_of_pos _ (by omega)
    have r2 := hc.rd q2 q3
    rw [if_pos q2, if_pos q3, if_neg (by omega), wid (x := rd c (Int.tmod (p + 1) (c.length : Int))) (by omega) (by omega), wid (x := rd c (Int.tmod (p + 1) (c.length : Int)) * 13) (by omega) (by omega),
      wid (x := (rd c (Int.tmod p (c.length : Int)) + Int.tdiv p (c.length : Int) * 37) * 251) (by omega) (by omega), wid (x := (rd c (Int.tmod p (c.length : Int)) + Int.tdiv p (c.length : Int) * 37) * 251 + rd c (Int.tmod (p + 1) (c.length : Int)) * 13) (by omega) (by omega), wid (by omega) (by omega)]
    exact ⟨_, rfl, Int.tmod_nonneg _ (by omega), fun _ => Int.tmod_lt_of_pos _ (by omega)⟩
  · rw [if_neg c2, if_neg (by omega)]
    exact ⟨_, rfl, Int.tmod_nonneg _ (by omega), fun _ => Int.tmod_lt_of_pos _ (by omega)⟩
theorem chance_tells {c : List Int} (hc : Code c) {p n : Int} (h0 : 0 ≤ p) (h1 : p ≤ 1000000) (hn : n ≤ 1000000) : ∃ b, spec_l1Chance.f c p n = some (b, p + 1) := by
  obtain ⟨v, e, _⟩ := next_tells hc h0 h1 hn
  unfold spec_l1Chance.f
  rw [e]
  exact ⟨_, rfl⟩
def Lin (lo hi : Nat) (l : List ByteArray) : Prop := ∀ x ∈ l, lo ≤ x.size ∧ x.size ≤ hi
theorem Lin.mono {lo hi lo' hi' : Nat} {l : List ByteArray} (h : Lin lo hi l) (h1 : lo' ≤ lo) (h2 : hi ≤ hi') : Lin lo' hi' l := fun x hx => ⟨Nat.le_trans h1 (h x hx).1, Nat.le_trans (h x hx).2 h2⟩
theorem Lin.app {lo hi : Nat} {l m : List ByteArray} (h : Lin lo hi l) (g : Lin lo hi m) : Lin lo hi (l ++ m) := fun x hx => by
  rcases List.mem_append.1 hx with hx | hx
  · exact h x hx
  · exact g x hx
theorem Lin.one {lo hi : Nat} {s : ByteArray} (h : lo ≤ s.size ∧ s.size ≤ hi) : Lin lo hi [s] := fun x hx => by
  rw [List.mem_singleton.1 hx]
  exact h
theorem Lin.take {lo hi : Nat} {l : List ByteArray} (h : Lin lo hi l) (n : Nat) : Lin lo hi (l.take n) := fun x hx => h x (List.mem_of_mem_take hx)
theorem Lin.drop {lo hi : Nat} {l : List ByteArray} (h : Lin lo hi l) (n : Nat) : Lin lo hi (l.drop n) := fun x hx => h x (List.mem_of_mem_drop hx)
theorem Lin.set {lo hi : Nat} {l : List ByteArray} (h : Lin lo hi l) (i : Nat) {s : ByteArray} (hs : lo ≤ s.size ∧ s.size ≤ hi) : Lin lo hi (l.set i s) := fun x hx => by
  rcases List.mem_or_eq_of_mem_set hx with hx | rfl
  · exact h x hx
  · exact hs
theorem Lin.total {lo hi : Nat} : ∀ {l : List ByteArray}, Lin lo hi l → total l ≤ hi * l.length := by
  intro l
  induction l with
  | nil => intro _; simp [Go.Proofs.YtacdkacjlekkgaaDoor.P.total]
  | cons x l ih =>
    intro h
    have h1 := (h x (by simp)).2
    have h2 := ih (fun y hy => h y (by simp [hy]))
    simp only [Go.Proofs.YtacdkacjlekkgaaDoor.P.total, List.length_cons, Nat.mul_add, Nat.mul_one]
    omega
theorem Lin.small {lo hi : Nat} {l : List ByteArray} (h : Lin lo hi l) (hh : hi ≤ 1000) (hl : l.length ≤ 1000) : Small l := by
  have := h.total
  refine ⟨fun x hx => by have := (h x hx).2; omega, by omega, ?_⟩
  have : hi * l.length ≤ 1000 * 1000 := Nat.mul_le_mul hh hl
  omega
theorem end_size (s : ByteArray) : (s ++ (⟨#[10]⟩ : ByteArray)).size = s.size + 1 := by
  rw [ByteArray.size_append]
  rfl
theorem word_tells {c : List Int} (hc : Code c) {p : Int} (h0 : 0 ≤ p) (h1 : p ≤ 1000000) : ∃ s, spec_l1Word.f c p = some (s, p + 1) ∧ s.size ≤ 7 := by
  obtain ⟨v, e, v0, v1⟩ := next_tells hc (n := 9) h0 h1 (by omega)
  unfold spec_l1Word.f
  rw [Option.bind_some, e, Option.bind_some]
  have v2 := v1 (by omega)
  obtain ⟨n, rfl⟩ := Int.eq_ofNat_of_zero_le v0
  have hn : n < ([(⟨#[97]⟩ : ByteArray), (⟨#[98]⟩ : ByteArray), (⟨#[99]⟩ : ByteArray), (⟨#[100]⟩ : ByteArray), (⟨#[120, 32, 121]⟩ : ByteArray), (⟨#[]⟩ : ByteArray), (⟨#[60, 60, 60, 60, 60, 60, 60]⟩ : ByteArray), (⟨#[61, 61, 61, 61, 61, 61, 61]⟩ : ByteArray), (⟨#[111, 110, 101]⟩ : ByteArray)] : List ByteArray).length := by
    show n < 9
    omega
  rw [if_pos v0, if_pos (by omega), rd_nat _ hn]
  refine ⟨_, rfl, ?_⟩
  have all : ∀ x ∈ ([(⟨#[97]⟩ : ByteArray), (⟨#[98]⟩ : ByteArray), (⟨#[99]⟩ : ByteArray), (⟨#[100]⟩ : ByteArray), (⟨#[120, 32, 121]⟩ : ByteArray), (⟨#[]⟩ : ByteArray), (⟨#[60, 60, 60, 60, 60, 60, 60]⟩ : ByteArray), (⟨#[61, 61, 61, 61, 61, 61, 61]⟩ : ByteArray), (⟨#[111, 110, 101]⟩ : ByteArray)] : List ByteArray), x.size ≤ 7 := by decide
  exact all _ (List.getElem_mem hn)
theorem lines_loop {c : List Int} (hc : Code c) : ∀ (d : Nat) (p : Int) (o : List ByteArray), d ≤ 100 → 0 ≤ p → p ≤ 900000 + (100 - d) → o.length + d ≤ 1000 → Lin 1 8 o →
    ∃ r q, Ev (fun k => spec_l1Lines.l0 k (d : Int) o c p) (r, q) ∧ Lin 1 8 r ∧ r.length ≤ o.length + d ∧ p ≤ q ∧ q ≤ p + d + 2 := by
  intro d
  induction d with
  | zero =>
    intro p o hd h0 h1 ho hl
    by_cases c0 : (o.length : Int) > 0
    · obtain ⟨b, e⟩ := chance_tells hc (p := p) (n := 5) h0 (by omega) (by omega)
      cases b with
      | false =>
        refine ⟨o, p + 1, Ev.step (fun k => by rw [spec_l1Lines.l0]) ?_, hl, by omega, by omega, by omega⟩
        refine Ev_neg (by omega) (Ev_pos c0 (Ev_const e ?_))
        exact Ev_neg (by simp) (Ev.now _)
      | true =>
        obtain ⟨v, e2, v0, v1⟩ := next_tells hc (p := p + 1) (n := 3) (by omega) (by omega) (by omega)
        have v2 := v1 (by omega)
        obtain ⟨n, rfl⟩ := Int.eq_ofNat_of_zero_le v0
        have hn : n < ([(⟨#[122]⟩ : ByteArray), (⟨#[97]⟩ : ByteArray), (⟨#[101, 110, 100]⟩ : ByteArray)] : List ByteArray).length := by
          show n < 3
          omega
        have all : ∀ x ∈ ([(⟨#[122]⟩ : ByteArray), (⟨#[97]⟩ : ByteArray), (⟨#[101, 110, 100]⟩ : ByteArray)] : List ByteArray), 1 ≤ x.size ∧ x.size ≤ 8 := by decide
        refine ⟨o.set ((o.length : Int) - 1).toNat ([(⟨#[122]⟩ : ByteArray), (⟨#[97]⟩ : ByteArray), (⟨#[101, 110, 100]⟩ : ByteArray)] : List ByteArray)[n], p + 1 + 1, ?_, hl.set _ (all _ (List.getElem_mem hn)), by rw [List.length_set]; omega, by omega, by omega⟩
        refine Ev.step (fun k => by rw [spec_l1Lines.l0]) ?_
        refine Ev_neg (by omega) (Ev_pos c0 (Ev_const e ?_))
        refine Ev_pos rfl (Ev_const rfl (Ev_const e2 ?_))
        refine Ev_pos v0 (Ev_pos (by omega) ?_)
        rw [wid (by omega) (by omega), rd_nat _ hn]
        exact Ev_pos (by omega) (Ev_pos (by omega) (Ev.now _))
    · exact ⟨o, p, Ev.step (fun k => by rw [spec_l1Lines.l0]) (Ev_neg (by omega) (Ev_neg c0 (Ev.now _))), hl, by omega, by omega, by omega⟩
  | succ d ih =>
    intro p o hd h0 h1 ho hl
    obtain ⟨s, e, hs⟩ := word_tells hc (p := p) h0 (by omega)
    obtain ⟨r, q, hr, g1, g2, g3, g4⟩ := ih (p + 1) (o ++ [s ++ (⟨#[10]⟩ : ByteArray)]) (by omega) (by omega) (by omega) (by rw [List.length_append]; simp only [List.length_singleton]; omega) (hl.app (Lin.one (by rw [end_size]; omega)))
    rw [List.length_append, List.length_singleton] at g2
    refine ⟨r, q, Ev.step (fun k => by rw [spec_l1Lines.l0]) ?_, g1, by omega, by omega, by omega⟩
    refine Ev_pos (by omega) (Ev_const e ?_)
    rw [wpred (by omega)]
    refine Ev_pos (by show s.size + 1 ≤ 9223372036854775807; omega) (Ev_pos (by omega) ?_)
    exact hr
theorem lines_tells {c : List Int} (hc : Code c) {p n : Int} (h0 : 0 ≤ p) (h1 : p ≤ 900000) (n0 : 0 ≤ n) (n1 : n ≤ 100) :
    ∃ r q, Ev (fun k => spec_l1Lines.f k c p n) (r, q) ∧ Lin 1 8 r ∧ r.length ≤ 100 ∧ p ≤ q ∧ q ≤ p + 102 := by
  obtain ⟨m, rfl⟩ := Int.eq_ofNat_of_zero_le n0
  obtain ⟨r, q, hr, g1, g2, g3, g4⟩ := lines_loop hc m p [] (by omega) h0 (by omega) (by simp only [List.length_nil]; omega) (fun x hx => absurd hx (by simp))
  simp only [List.length_nil] at g2
  exact ⟨r, q, hr, g1, by omega, g3, by omega⟩
theorem bent_loop {c : List Int} (hc : Code c) : ∀ (d i : Nat) (p : Int) (o : List ByteArray), 101 - i = d → i ≤ 101 → o.length = 101 → 0 ≤ p → p ≤ 950000 + (i : Int) → Lin 0 10 o →
    ∃ r q, Ev (fun k => spec_l1Bent.l0 k o (i : Int) c p) (r, q) ∧ Lin 0 10 r ∧ r.length = 101 ∧ p ≤ q ∧ q ≤ p + 102 - i := by
  intro d
  induction d with
  | zero =>
    intro i p o hd hi ho h0 h1 hl
    obtain ⟨v, e, v0, v1⟩ := next_tells hc (p := p) (n := 2) h0 (by omega) (by omega)
    refine ⟨o, p + 1, Ev.step (fun k => by rw [spec_l1Bent.l0]) ?_, hl, ho, by omega, by omega⟩
    refine Ev_const e ?_
    have v2 := v1 (by omega)
    rw [wid (by omega) (by omega)]
    exact Ev_neg (by omega) (Ev.now _)
  | succ d ih =>
    intro i p o hd hi ho h0 h1 hl
    obtain ⟨v, e, v0, v1⟩ := next_tells hc (p := p) (n := 2) h0 (by omega) (by omega)
    have v2 := v1 (by omega)
    by_cases c0 : (i : Int) < (o.length : Int) - v
    · obtain ⟨r, q, hr, g1, g2, g3, g4⟩ := ih (i + 1) (p + 1) (o.set i (⟨#[10]⟩ : ByteArray)) (by omega) (by omega) (by rw [List.length_set]; exact ho) (by omega) (by omega) (hl.set _ (by decide))
      refine ⟨r, q, Ev.step (fun k => by rw [spec_l1Bent.l0]) ?_, g1, g2, by omega, by omega⟩
      refine Ev_const e ?_
      rw [wid (x := (o.length : Int) - v) (by omega) (by omega), wsucc' (by omega), Int.toNat_natCast]
      exact Ev_pos c0 (Ev_pos (by omega) (Ev_pos (by omega) hr))
    · refine ⟨o, p + 1, Ev.step (fun k => by rw [spec_l1Bent.l0]) ?_, hl, ho, by omega, by omega⟩
      refine Ev_const e ?_
      rw [wid (by omega) (by omega)]
      exact Ev_neg c0 (Ev.now _)
theorem bent_tells {c : List Int} (hc : Code c) {p : Int} (h0 : 0 ≤ p) (h1 : p ≤ 900000) {l : List ByteArray} (hl : l.length ≤ 900) (hi : Lin 0 10 l) :
    ∃ r q, Ev (fun k => spec_l1Bent.f k c p l) (r, q) ∧ Lin 0 10 r ∧ r.length ≤ 900 ∧ p ≤ q ∧ q ≤ p + 110 := by
  by_cases c0 : (l.length : Int) = 0
  · refine ⟨l, p, ?_, hi, hl, by omega, by omega⟩
    unfold spec_l1Bent.f
    exact Ev_pos c0 (Ev.now _)
  obtain ⟨v, e, v0, v1⟩ := next_tells hc (p := p) (n := (([] ++ l : List ByteArray).length : Int)) h0 (by omega) (by rw [List.nil_append]; omega)
  rw [List.nil_append] at v1
  have v2 := v1 (by omega)
  obtain ⟨i, rfl⟩ := Int.eq_ofNat_of_zero_le v0
  obtain ⟨u, e2, u0, u1⟩ := next_tells hc (p := p + 1) (n := 24) (by omega) (by omega) (by omega)
  have start : ∀ {r : List ByteArray} {q : Int}, Ev (fun k => if u = 0 then (if 0 ≤ (i : Int) then (if (i : Int) < (l.length : Int) then (some ((l.set (i : Int).toNat (⟨#[]⟩ : ByteArray)), (p + 1 + 1))) else (none)) else (none)) else (if u = 1 then (if 0 ≤ (i : Int) then (if (i : Int) < (l.length : Int) then (some ((l.set (i : Int).toNat (⟨#[97, 10, 98, 10]⟩ : ByteArray)), (p + 1 + 1))) else (none)) else (none)) else (if u = 2 then (if 0 ≤ (i : Int) then (if (i : Int) < (l.length : Int) then (some ((l.set (i : Int).toNat (⟨#[113]⟩ : ByteArray)), (p + 1 + 1))) else (none)) else (none)) else (if u = 3 then (if 101 ≤ 17592186044416 then (spec_l1Bent.l0 k (List.replicate 101 (⟨#[]⟩ : ByteArray)) 0 c (p + 1 + 1)) else (none)) else (some (l, (p + 1 + 1))))))) (r, q) →
      Ev (fun k => spec_l1Bent.f k c p l) (r, q) := by
    intro r q h
    unfold spec_l1Bent.f
    exact Ev_neg c0 (Ev_const rfl (Ev_pos (by simp only [List.length_nil]; omega) (Ev_const rfl (Ev_const e (Ev_const e2 h)))))
  by_cases c1 : u = 0
  · exact ⟨_, _, start (Ev_pos c1 (Ev_pos (by omega) (Ev_pos (by omega) (Ev.now _)))), hi.set _ (by decide), by rw [List.length_set]; exact hl, by omega, by omega⟩
  by_cases c2 : u = 1
  · exact ⟨_, _, start (Ev_neg c1 (Ev_pos c2 (Ev_pos (by omega) (Ev_pos (by omega) (Ev.now _))))), hi.set _ (by decide), by rw [List.length_set]; exact hl, by omega, by omega⟩
  by_cases c3 : u = 2
  · exact ⟨_, _, start (Ev_neg c1 (Ev_neg c2 (Ev_pos c3 (Ev_pos (by omega) (Ev_pos (by omega) (Ev.now _)))))), hi.set _ (by decide), by rw [List.length_set]; exact hl, by omega, by omega⟩
  by_cases c4 : u = 3
  · obtain ⟨r, q, hr, g1, g2, g3, g4⟩ := bent_loop hc _ 0 (p + 1 + 1) (List.replicate 101 (⟨#[]⟩ : ByteArray)) rfl (by omega) (by simp) (by omega) (by omega) (fun x hx => by rw [List.eq_of_mem_replicate hx]; decide)
    exact ⟨r, q, start (Ev_neg c1 (Ev_neg c2 (Ev_neg c3 (Ev_pos c4 (Ev_pos (by omega) hr))))), g1, by omega, by omega, by omega⟩
  · exact ⟨l, p + 1 + 1, start (Ev_neg c1 (Ev_neg c2 (Ev_neg c3 (Ev_neg c4 (Ev.now _))))), hi, hl, by omega, by omega⟩
end Go.Proofs.YtacdkacjlekkgaaDoor.P
end
section
set_option linter.unusedVariables false
set_option linter.unusedSimpArgs false
namespace Go.Proofs.YtacdkacjlekkgaaDoor.P.VFnLines
open Go.RowKit Go.Proofs.YtacdkacjlekkgaaDoorW.PrintWords Go.Proofs.YtacdkacjlekkgaaDoorW.PrintLast
theorem text_l0 {c : List Int} (hc : Code c) : ∀ (d : Nat) (p : Int) (s : ByteArray), 2001 - s.size ≤ d → 0 ≤ p → p + d ≤ 900000 → s.size ≤ 3000 → ∃ r q, Ev (fun k => spec_l1Text.l0 k s c p) (r, q) ∧ r.size ≤ 3000 := by
  intro d
  induction d with
  | zero =>
    intro p s hd h0 h1 hs
    obtain ⟨v, e, v0, v1⟩ := next_tells hc (p := p) (n := 2) h0 (by omega) (by omega)
    have v2 := v1 (by omega)
    refine ⟨s, p + 1, Ev.step (fun k => by rw [spec_l1Text.l0]) ?_, hs⟩
    refine Ev_const e ?_
    rw [wid (by omega) (by omega)]
    exact Ev_neg (by omega) (Ev.now _)
  | succ d ih =>
    intro p s hd h0 h1 hs
    obtain ⟨v, e, v0, v1⟩ := next_tells hc (p := p) (n := 2) h0 (by omega) (by omega)
    have v2 := v1 (by omega)
    by_cases h : (s.size : Int) < 2000 + v
    · have hz : (s ++ (⟨#[118]⟩ : ByteArray)).size = s.size + 1 := by rw [ByteArray.size_append]; rfl
      obtain ⟨r, q, hr, g⟩ := ih (p + 1) (s ++ (⟨#[118]⟩ : ByteArray)) (by omega) (by omega) (by omega) (by omega)
      refine ⟨r, q, Ev.step (fun k => by rw [spec_l1Text.l0]) ?_, g⟩
      refine Ev_const e ?_
      rw [wid (by omega) (by omega)]
      exact Ev_pos h (Ev_pos (by omega) hr)
    · refine ⟨s, p + 1, Ev.step (fun k => by rw [spec_l1Text.l0]) ?_, hs⟩
      refine Ev_const e ?_
      rw [wid (by omega) (by omega)]
      exact Ev_neg h (Ev.now _)
theorem text_l1 {c : List Int} (hc : Code c) : ∀ (d i : Nat) (p : Int) (s : ByteArray), 101 - i ≤ d → i ≤ 101 → 0 ≤ p → p + d ≤ 900000 → s.size ≤ 3000 + i → ∃ r q, Ev (fun k => spec_l1Text.l1 k s (i : Int) c p) (r, q) ∧ r.size ≤ 4000 := by
  intro d
  induction d with
  | zero =>
    intro i p s hd hi h0 h1 hs
    obtain ⟨v, e, v0, v1⟩ := next_tells hc (p := p) (n := 2) h0 (by omega) (by omega)
    have v2 := v1 (by omega)
    refine ⟨s, p + 1, Ev.step (fun k => by rw [spec_l1Text.l1]) ?_, by omega⟩
    refine Ev_const e ?_
    rw [wid (by omega) (by omega)]
    exact Ev_neg (by omega) (Ev.now _)
  | succ d ih =>
    intro i p s hd hi h0 h1 hs
    obtain ⟨v, e, v0, v1⟩ := next_tells hc (p := p) (n := 2) h0 (by omega) (by omega)
    have v2 := v1 (by omega)
    by_cases h : (i : Int) < 100 + v
    · have hz : (s ++ (⟨#[10]⟩ : ByteArray)).size = s.size + 1 := by rw [ByteArray.size_append]; rfl
      obtain ⟨r, q, hr, g⟩ := ih (i + 1) (p + 1) (s ++ (⟨#[10]⟩ : ByteArray)) (by omega) (by omega) (by omega) (by omega) (by omega)
      refine ⟨r, q, Ev.step (fun k => by rw [spec_l1Text.l1]) ?_, g⟩
      refine Ev_const e ?_
      rw [wid (by omega) (by omega), wsucc' (by omega)]
      exact Ev_pos h (Ev_pos (by omega) hr)
    · refine ⟨s, p + 1, Ev.step (fun k => by rw [spec_l1Text.l1]) ?_, by omega⟩
      refine Ev_const e ?_
      rw [wid (by omega) (by omega)]
      exact Ev_neg h (Ev.now _)
theorem text_tells {c : List Int} (hc : Code c) : ∃ r q, Ev (fun k => spec_l1Text.f k c 0) (r, q) ∧ r.size ≤ 4000 := by
  obtain ⟨v, e, v0, v1⟩ := next_tells hc (p := 0) (n := 8) (by omega) (by omega) (by omega)
  obtain ⟨ls, q, hl, g1, g2, g3, g4⟩ := lines_tells hc (p := 0 + 1) (n := v) (by omega) (by omega) v0 (by have := v1 (by omega); omega)
  have ht := g1.total
  obtain ⟨u, e2, u0, u1⟩ := next_tells hc (p := q) (n := 24) (by omega) (by omega) (by omega)
  have hz := joinedB_size ls
  have hj : Ev (fun k => spec_l1Join.f k ls) (joinedB ls) := sjoin_tells ls (by omega) (by omega)
  have start : ∀ {r : ByteArray} {q2 : Int}, Ev (fun k => if u = 0 then (if (joinedB ls).size + 2 ≤ 9223372036854775807 then (some (joinedB ls ++ (⟨#[0, 98]⟩ : ByteArray), q + 1)) else (none)) else (if u = 1 then (spec_l1Text.l0 k (joinedB ls) c (q + 1)) else (if u = 2 then (spec_l1Text.l1 k (joinedB ls) 0 c (q + 1)) else (some (joinedB ls, q + 1))))) (r, q2) → Ev (fun k => spec_l1Text.f k c 0) (r, q2) := by
    intro r q2 h
    unfold spec_l1Text.f
    exact Ev_const e (Ev_call hl (Ev_call hj (Ev_const e2 h)))
  by_cases c0 : u = 0
  · refine ⟨_, _, start (Ev_pos c0 (Ev_pos (by omega) (Ev.now _))), ?_⟩
    rw [ByteArray.size_append]
    show (joinedB ls).size + 2 ≤ _
    omega
  by_cases c1 : u = 1
  · obtain ⟨r, q2, hr, g⟩ := text_l0 hc 2001 (q + 1) (joinedB ls) (by omega) (by omega) (by omega) (by omega)
    exact ⟨r, q2, start (Ev_neg c0 (Ev_pos c1 hr)), by omega⟩
  by_cases c2 : u = 2
  · obtain ⟨r, q2, hr, g⟩ := text_l1 hc 101 0 (q + 1) (joinedB ls) (by omega) (by omega) (by omega) (by omega) (by omega)
    exact ⟨r, q2, start (Ev_neg c0 (Ev_neg c1 (Ev_pos c2 hr))), g⟩
  · exact ⟨_, _, start (Ev_neg c0 (Ev_neg c1 (Ev_neg c2 (Ev.now _)))), by omega⟩
theorem dtext {c : List Int} (hc : Code c) : ∃ s, Ev (fun k => spec_DrawSplitLines.f k c) s ∧ s.size ≤ 4000 := by
  obtain ⟨r, q, h, g⟩ := text_tells hc
  refine ⟨r, ?_, g⟩
  unfold spec_DrawSplitLines.f
  exact Ev_const (a := (c, 0)) (by unfold spec_l1Source.f; rfl) (Ev_call h (Ev.now _))
theorem dlines {c : List Int} (hc : Code c) : ∃ xs, Ev (fun k => spec_DrawJoinLines.f k c) xs ∧ Small xs := by
  obtain ⟨v, e, v0, v1⟩ := next_tells hc (p := 0) (n := 8) (by omega) (by omega) (by omega)
  obtain ⟨ls, q, hl, g1, g2, g3, g4⟩ := lines_tells hc (p := 0 + 1) (n := v) (by omega) (by omega) v0 (by have := v1 (by omega); omega)
  obtain ⟨r, q2, hr, b1, b2, b3, b4⟩ := bent_tells hc (p := q) (by omega) (by omega) (l := ls) (by omega) (g1.mono (by omega) (by omega))
  refine ⟨r, ?_, b1.small (by omega) (by omega)⟩
  unfold spec_DrawJoinLines.f
  exact Ev_const (a := (c, 0)) (by unfold spec_l1Source.f; rfl) (Ev_const e (Ev_call hl (Ev_call hr (Ev.now _))))
theorem same (a b : List ByteArray) (hl : a.length ≤ 1048576) : Ev (fun k => impl_SameLines.f k a b) (decide (a = b)) := by
  unfold impl_SameLines.f
  exact Ev_call (isame_tells a b (by omega)) (Ev.now _)
theorem proof : UFnLines.Pure := by
  intro l0 g0
  apply Ev.rounds
  unfold laws_FnLines.f
  have hc : Code l0 := fun x hx => by
    have := g0.2 x hx
    simpa [Lit.wf, IntKind.min, IntKind.max, IntKind.signed, IntKind.bits] using this
  refine Ev_const (a := decide ((l0.length : Int) > 1048576)) (by unfold laws_lwBig.f; rfl) (Ev_if (fun h => Ev.now _) (fun h => ?_))
  obtain ⟨s, hs, hz⟩ := dtext hc
  refine Ev_call hs (Ev_const (ispl_tells s (by omega)) ?_)
  by_cases ht : TF s = 0
  · have e1 : SPL s = (0, LNB s) := by unfold SPL; rw [if_pos ht]
    have b : s.size ≤ 2000 ∧ (LNB s).length ≤ 100 := by
      unfold TF at ht
      split at ht
      · cases ht
      · split at ht
        · cases ht
        · omega
    have hlf := LNB_LF b.2 b.1
    have hsm : Small (LNB s) := by
      refine ⟨fun x hx => ?_, by omega, by rw [LNB_total]; omega⟩
      have : ∀ (l : List ByteArray), ∀ x ∈ l, x.size ≤ total l := by
        intro l
        induction l with
        | nil => intro x hx; exact absurd hx (by simp)
        | cons a l ih =>
          intro x hx
          rw [total]
          rcases List.mem_cons.1 hx with rfl | hx
          · omega
          · have := ih x hx; omega
      have := this _ x hx
      rw [LNB_total] at this
      omega
    rw [e1]
    refine Ev_pos rfl ?_
    have hj : JL (LNB s) = (0, s) := by unfold JL; rw [if_pos hlf, LNB_join]
    refine Ev_call (ijl_tells hsm) ?_
    rw [hj]
    obtain ⟨xs, hx, hxs⟩ := dlines hc
    refine Ev_call hx (Ev_call (ijl_tells hxs) ?_)
    by_cases hf : LF xs = 0
    · have e2 : JL xs = (0, joinedB xs) := by unfold JL; rw [if_pos hf]
      rw [e2]
      have z := LF_zero hf
      have e3 : LNB (joinedB xs) = xs := LNB_joined z.2.2
      have e5 : TF (joinedB xs) = 0 := by
        unfold TF
        rw [e3, joinedB_size, if_neg (by omega), if_neg (by omega)]
      have e4 : SPL (joinedB xs) = (0, xs) := by
        unfold SPL
        rw [if_pos e5, e3]
      refine Ev_pos rfl (Ev_const (ispl_tells (joinedB xs) (by rw [joinedB_size]; omega)) ?_)
      rw [e4]
      refine Ev_call hsm.ilf (Ev_pos hlf (Ev_pos rfl (Ev_pos rfl (Ev_pos rfl ?_))))
      refine Ev_call (same xs xs (by omega)) (Ev_pos (by simp) ?_)
      obtain ⟨r, hr⟩ := sdigest_loop s (by omega) _ 0 7 rfl (by omega)
      refine Ev_call (a := r) (by unfold impl_DigestOf.f; exact hr.2) (Ev_call (a := r) (by unfold spec_DigestOf.f; exact hr.1) (Ev_val ?_))
      simp
    · have e2 : JL xs = (LF xs, (⟨#[]⟩ : ByteArray)) := by unfold JL; rw [if_neg hf]
      rw [e2]
      refine Ev_neg hf (Ev_call hxs.slf (Ev_pos rfl (Ev_pos rfl (Ev_val ?_))))
      simp
  · have e1 : SPL s = (TF s, []) := by unfold SPL; rw [if_neg ht]
    rw [e1]
    refine Ev_neg ht (Ev_call (stf_tells s (by omega)) (Ev_val ?_))
    simp
end Go.Proofs.YtacdkacjlekkgaaDoor.P.VFnLines
end
section
set_option linter.unusedVariables false
set_option linter.unusedSimpArgs false
namespace Go.Proofs.YtacdkacjlekkgaaDoor.O
open Go.RowKit Go.ChangeShapes Go.WideShapes Go.Proofs.YtacdkacjlekkgaaDoorW.PrintWords
def Opens {α : Type} (P : Program) (t : TypeId) (d : Kd α) (G : α → Prop) : Prop :=
  P.cellsOf t = d.sz ∧ ∀ {H : Type} {enc : TypeId × Value → H} {w : World} {base : Nat} {spare : Nat → Bool} {held : Bool} {fuel : Nat} {cs : List Value} {x : DataW H × List MemPlace},
    DataW.trod enc P w base spare held fuel t cs = some x → ∃ a, d.K w a cs ∧ G a
theorem list_of {α : Type} {Q : Nat → α → Prop} : ∀ n : Nat, (∀ j, j < n → ∃ p, Q j p) → ∃ xs : List α, xs.length = n ∧ ∀ j p, xs[j]? = some p → Q j p
  | 0, _ => ⟨[], rfl, fun j p h => by simp at h⟩
  | n + 1, h => by
    obtain ⟨xs, hl, hx⟩ := list_of n (fun j hj => h j (Nat.lt_succ_of_lt hj))
    obtain ⟨p, hp⟩ := h n (Nat.lt_succ_self n)
    refine ⟨xs ++ [p], by simp [hl], fun j q hq => ?_⟩
    rcases Nat.lt_or_ge j xs.length with hj | hj
    · rw [List.getElem?_append_left hj] at hq
      exact hx j q hq
    · have hj' : j = xs.length := by
        have := (List.getElem?_eq_some_iff.1 hq).1
        rw [List.length_append, List.length_singleton] at this
        omega
      subst hj'
      have e : p = q := by simpa using hq
      subst e
      rw [hl]
      exact hp
theorem cells_get {w : World} {base : Nat} {a : Addr} {n : Nat} {cs : List Value} (h : w.cells? base a n = some cs) : cs.length = n ∧ ∀ i u, cs[i]? = some u → w.cell? (a.add i) = some u := by
  unfold World.cells? at h
  split at h
  · have hl := mapM_some_length h
    rw [List.length_range] at hl
    refine ⟨hl, fun i u hu => ?_⟩
    have hi : i < n := by
      have := (List.getElem?_eq_some_iff.1 hu).1
      omega
    have := mapM_some_get h i i (by simp [hi])
    rw [this, hu]
  · simp at h
theorem opens_int {P : Program} {t : TypeId} {k : IntKind} (ht : P.underlying t = some (.int k)) (hc : P.cellsOf t = 1) : Opens P t (Kd.int k) (fun x => (Lit.int k x).wf = true) :=
  ⟨hc, fun h => by
    obtain ⟨n, rfl, _, hw⟩ := DataW.trod_int ht h
    exact ⟨n, rfl, hw⟩⟩
theorem opens_slice {α : Type} {P : Program} {t e : TypeId} {d : Kd α} {G : α → Prop} (ht : P.underlying t = some (.slice e)) (hc : P.cellsOf t = 1) (he : Opens P e d G) :
    Opens P t (Kd.slice e d) (fun l => l.length ≤ 9223372036854775807 ∧ ∀ x ∈ l, G x) := by
  refine ⟨hc, fun {H enc w base spare held fuel cs x} h => ?_⟩
  rcases DataW.trod_slice ht h with ⟨rfl, _⟩ | ⟨a, len, cap, elems, rest, n, _, rfl, _, hb, hl, hm, hlen, hel, _, _⟩
  · exact ⟨[], ⟨none, 0, rfl, Nat.le_refl _, rfl, by simp, fun hp => absurd hp (by simp)⟩, by simp, by simp⟩
  · have hcap : cap ≤ 9223372036854775807 := hm
    obtain ⟨xs, hxl, hx⟩ := list_of (Q := fun j p => (∃ c : List Value, c.length = d.sz ∧ d.K w p c ∧ ∀ i u, c[i]? = some u → w.cell? (a.add (j * d.sz + i)) = some u) ∧ G p) len (fun j hj => by
      have h1 := hel j hj
      rw [List.getElem?_eq_getElem (by omega), Option.bind_eq_some_iff] at h1
      obtain ⟨cs', hcs, hy⟩ := h1
      obtain ⟨p, hK, hG⟩ := he.2 hy
      obtain ⟨hcl, hcell⟩ := cells_get hcs
      refine ⟨p, ⟨cs', by rw [hcl, he.1], hK, fun i u hu => ?_⟩, hG⟩
      have := hcell i u hu
      rw [he.1] at this
      rw [← Addr.add_add]
      exact this)
    have hlen2 : xs.length ≤ cap := by omega
    refine ⟨xs, ⟨some a, cap, ?_, hlen2, rfl, by omega, fun _ => ⟨a, rfl, fun j p hj => (hx j p hj).1⟩⟩, by omega, fun y hy => ?_⟩
    · rw [hxl]
    · obtain ⟨j, hj⟩ := List.getElem?_of_mem hy
      exact (hx j y hj).2
end Go.Proofs.YtacdkacjlekkgaaDoor.O
end
namespace Go.Proofs.YtacdkacjlekkgaaDoor.fnLines
open Go.ChangeShapes Go.WideShapes Go.ChangeAt Go.RowKit
open Go.ChangeMaps (open_string shut_string)
open Go.Proofs.YtacdkacjlekkgaaDoor.P Go.Proofs.YtacdkacjlekkgaaDoor.P.UFnLines Go.Proofs.YtacdkacjlekkgaaDoorW.PrintWords
set_option linter.unusedVariables false
theorem own : ownKnob Tryd.prog.godebug = none := by kernel_rfl
theorem laidOut : laidOutB Tryd.prog = true := by kernel_rfl
set_option maxRecDepth 100000 in
theorem lifted (os : Os) (started : os.Started) (H : Type) (enc : TypeId × Value → H) :
    ReturnsInHanded {} Tryd.checked os 5 .any (fun w args => (Rows.fnLinesSpec.pre enc Tryd.prog Tryd.f5 [] false w args ∧ laidMetH Tryd.prog Rows.fnLinesRow.laid w) ∧ sizedMet enc Tryd.prog Tryd.f5 (OpenSpec.ofChange Rows.fnLinesSpec) false w args)
      (Rows.fnLinesSpec.post enc Tryd.prog Tryd.f5 false true false false) := by
  refine returnsInHanded_of_change_and (C := Tryd.checked) (X := fun w _ => laidMetH Tryd.prog Rows.fnLinesRow.laid w) (fun _ _ _ hh h => h.of_heap hh) own started (by kernel_rfl) Tryd.func5
    (ChangeSpec.witness_shaped (enc := enc) (C := Tryd.checked) (os := os) (X := fun w _ => laidMetH Tryd.prog Rows.fnLinesRow.laid w) false (World.laidAll Tryd.prog os Rows.fnLinesRow.laid) #[.slice none 0 0] 8 (World.laidAll_os _ _ _)
      (World.shaped_of_ZipB (by kernel_rfl) (by kernel_rfl)) (by kernel_rfl) (by kernel_rfl) (by kernel_rfl)
      (by rw [MakeChecks.laidMetH_plain _ _ _ (by kernel_rfl)]; exact laidMet_laidAll _ (by kernel_rfl) (by kernel_rfl))) ?_
  intro W base args ds gs before hval0 hW hcnd hsz0 hL _
  have hval : ∀ (j : Nat) t v, Tryd.f5.params[j]? = some t → args[j]? = some v → Value.okWide Tryd.prog W .any base t v := hval0
  have hW' := hW
  obtain ⟨p, q, hA0, hV, rfl, hfz, hnd⟩ := hW
  have hA : DataW.TrodAll enc Tryd.prog W 0 (fun _ => true) true Tryd.f5.params.toList args.toList ds p := hA0
  rw [Tryd.params5] at hA hval
  obtain ⟨v0, vs0, d0, ds0, p0, q0, hargs, rfl, rfl, h0, r0⟩ := trodAll_cons hA
  obtain ⟨rfl, rfl, rfl⟩ := trodAll_nil r0
  obtain rfl : args = #[v0] := by cases args; simp_all
  obtain ⟨rfl, rfl⟩ := trodVars_none hV
  have k0_ := h0
  have lt0 : ∀ x ∈ p0, x.block < W.heap.size := by obtain ⟨m, hm⟩ := k0_; exact DataW.trod_lt m _ _ _ hm
  obtain ⟨b0, len0, cap0, rfl⟩ := okWide_slice Tryd.underlying30 (hval 0 30 v0 rfl rfl)
  obtain ⟨fuel0, hf0⟩ := h0
  obtain ⟨l0, ⟨A0, c0, hcs0, hc0, hr0⟩, g0⟩ := (O.opens_slice Tryd.underlying30 (by kernel_rfl) (O.opens_int Tryd.underlying5 (by kernel_rfl))).2 hf0
  simp [Value.cells] at hcs0
  obtain ⟨rfl, rfl, rfl⟩ := hcs0
  clear hA0 hval0 hsz0
  obtain ⟨k, h⟩ := VFnLines.proof l0 g0
  refine (laws_FnLines.calls k _ _ l0 true W hr0 hc0 h rfl).mono fun e W' hend => ?_
  obtain ⟨rfl, hbel⟩ := hend
  have bel : Below W.heap.size W W' := hbel
  exact ⟨_, rfl, _, _, _, [], _, [], hW', trodAll_mk1 (shut_bool Tryd.underlying4 _), (trodAll_cons_mk (Below.trod laidOut (by kernel_rfl) (of_decide_eq_true (by kernel_rfl)) k0_ bel lt0) trodAll_mk0), rfl, bel.frame _, fun h => by cases h⟩
theorem over : Rows.fnLinesRow.holds Tryd.pinned (OpenSpec.ofChange Rows.fnLinesSpec) :=
  OpenClaim.holds_of_wide 5 Tryd.f5 rfl rfl rfl rfl rfl rfl rfl ⟨rfl, rfl, rfl, rfl, rfl⟩ rfl rfl rfl rfl rfl (by kernel_rfl) Tryd.func5 (by kernel_rfl)
    (of_decide_eq_true (by kernel_rfl)) (by unfold Func.isWrapper; first | (rw [if_pos (by decide +kernel)]; kernel_rfl) | (rw [if_neg (by decide +kernel)]; exact ⟨rfl, rfl⟩))
    (fun os started H enc _ => lifted os started H enc)
set_option maxRecDepth 100000 in
theorem proved : Rows.FnLinesCardSaid :=
  Claim7.holds_tied_plain_at .later [] [.data, .pinned] true (true, "3cbe3c75abb1a6bbcc09fbcff414ceaab3db1b5d504c75a740398ac6cf4783a0") false over (fun _ h => by cases h) (by kernel_rfl) (fun _ h => by cases h) fnLines_row_tie rfl ⟨rfl, rfl⟩ (by kernel_rfl) rfl
    (fun f fn hf hfn => by
      obtain rfl : f = 5 := Option.some.inj ((show Tryd.prog.funcNamed "loop.example/g00172/laws.FnLines" = some 5 by kernel_rfl).symm.trans hf) |>.symm
      obtain rfl : fn = Tryd.f5 := (Option.some.inj (Tryd.func5.symm.trans hfn)).symm
      exact ⟨by kernel_rfl, fun j t ht => by
        rw [Tryd.params5] at ht
        have hm : t ∈ [30] := by simpa using Array.mem_of_getElem? ht
        have hall : ([30].all fun u => !Tryd.prog.wantsStandIn u) = true := by kernel_rfl
        exact (show Tryd.prog.wantsStandIn t = false by simpa using List.all_eq_true.1 hall t hm)⟩)
    (by kernel_rfl)
#print axioms proved
end Go.Proofs.YtacdkacjlekkgaaDoor.fnLines
namespace Go.Proofs.YtacdkacjlekkgaaDoor
theorem fnLines_holds : Rows.FnLinesCardSaid := fnLines.proved
end Go.Proofs.YtacdkacjlekkgaaDoor
