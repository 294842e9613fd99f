/- Part 2 of the proof of FnExactChunksOf: words, the Go functions' contracts, what they compute, and the law on plain values. Words that the kit's print.sh wrote for this seat are among it, as far as they are used. -/
import Derived.Test.YtjngmhngedecdaaProg
import Derived.Below
import Derived.Deep.Draws
import Derived.Deep.AppendLies
import Derived.Maps.AppendAt
import Derived.OwnWalk
import Derived.Laws.BytesArg
import Derived.Laws.MakeOwn
import Derived.Laws.OwnMore
import Derived.Deep.OwnRows
import Derived.Tactics
import Derived.Lib.ConvBytes
import Derived.Laws.Slices
import Derived.WalkKit
import Derived.KernelRfl
import Derived.RowKit3
import Derived.Deep.LoopGhost
import Derived.Deep.QuietTactic
import Derived.BigQuiet
import Derived.WideLaws
import Derived.Deep.DeepCutAuto
import Derived.Deep.CutBlock
import Derived.Deep.RegionHeld3
import Derived.Laws.Rows
import Derived.Lib.AppendStr
import Derived.ArgAppend
import Derived.Laws.IdiomCopy
import Derived.OrdersHeld
import Derived.Laws.BitsLemmas
import Derived.RowKit
import Derived.Test.YtjngmhngedecdaaCFnExactChunksOf1
section
namespace Go.Proofs.Ytjngmhngedecdaa.P
open Go.RowKit Go.Proofs.YtjngmhngedecdaaW.PrintWords Go.Proofs.YtjngmhngedecdaaW.PrintLast Go.Proofs.YtjngmhngedecdaaW.PrintMore
attribute [local go_sem] max2_int min2_int max_two min_two max_three min_three max_four min_four
set_option linter.unusedVariables false
set_option linter.unusedSimpArgs false
def errW : Option Int → Value
 | none => .nilIface
 | some c => .iface 0 (.int .i64 c)
theorem errW_none : errW none = .nilIface := rfl
theorem errW_some (c : Int) : errW (some c) = .iface 0 (.int .i64 c) := rfl
theorem info2 : (Try.prog.info? 2).map (fun i => (i.zero, i.size, i.bytes)) = some (some (.int .i64 0), 1, 8) := by kernel_rfl
theorem info9 : (Try.prog.info? 9).map (fun i => (i.zero, i.size, i.bytes)) = some (some (.string ⟨#[]⟩), 1, 16) := by kernel_rfl
theorem info58 : (Try.prog.info? 58).map (fun i => (i.zero, i.size, i.bytes)) = some (some (.agg #[(.int .i64 0), (.slice none 0 0), (.slice none 0 0), (.slice none 0 0)]), 4, 80) := by kernel_rfl
theorem info130 : (Try.prog.info? 130).map (fun i => (i.zero, i.size, i.bytes)) = some (some (.slice none 0 0), 1, 24) := by kernel_rfl
def D3 (v1 v2 v3 : Value) : Prop := (∀ k, v1.ownBlock = some k → v2.ownBlock ≠ some k ∧ v3.ownBlock ≠ some k) ∧ ∀ k, v2.ownBlock = some k → v3.ownBlock ≠ some k
theorem D3_nil : D3 (.slice none 0 0) (.slice none 0 0) (.slice none 0 0) := ⟨fun _ e => (by cases e), fun _ e => (by cases e)⟩
theorem D3_of {v1 v2 v3 : Value} (h1 : ∀ k, v1.ownBlock = some k → some k ≠ v2.ownBlock ∧ some k ≠ v3.ownBlock) {P : Nat → Prop} (h2 : ∀ k, v2.ownBlock = some k → P k ∧ some k ≠ v3.ownBlock) : D3 v1 v2 v3 := ⟨fun k e => ⟨fun h => (h1 k e).1 h.symm, fun h => (h1 k e).2 h.symm⟩, fun k e h => (h2 k e).2 h.symm⟩
def sepk {α : Type} (d : Kd α) : Kd α where
 sz := d.sz
 E := d.E
 K := d.K
 M := fun w base ok x cs => d.M w base ok x cs ∧ ∀ v0 v1 v2 v3, cs = [v0, v1, v2, v3] → D3 v1 v2 v3
 K_len := fun h => d.K_len h
 K_one := fun h => d.K_one h
 K_below := fun hb h => d.K_below hb h
 K_of_M := fun h => d.K_of_M h.1
 M_mono := fun hok h => ⟨d.M_mono hok h.1, h.2⟩
 M_bound := fun h => ⟨d.M_bound h.1, h.2⟩
 M_move := fun hm h => ⟨d.M_move hm h.1, h.2⟩
 M_lower := fun hb h => ⟨d.M_lower hb h.1, h.2⟩
structure S58 where
 f0 : Int
 f1 : (List ByteArray)
 f2 : (List ByteArray)
 f3 : (List ByteArray)
def z58 : S58 := ⟨(0 : Int), ([] : List ByteArray), ([] : List ByteArray), ([] : List ByteArray)⟩
def k58_ : Kd S58 := Kd.iso (Kd.pair (Kd.int .i64) (Kd.pair (Kd.slice 9 Kd.string) (Kd.pair (Kd.slice 9 Kd.string) (Kd.slice 9 Kd.string)))) (fun x : S58 => (x.f0, x.f1, x.f2, x.f3))
def k58 : Kd S58 := sepk k58_
theorem k58_open {w : World} {x : S58} {cs : List Value} (h : k58.K w x cs) : ∃ A1 c1 A2 c2 A3 c3, cs = [.int .i64 x.f0, .slice A1 x.f1.length c1, .slice A2 x.f2.length c2, .slice A3 x.f3.length c3] ∧ x.f1.length ≤ c1 ∧ Kd.string.C w A1 x.f1.length x.f1 ∧ x.f2.length ≤ c2 ∧ Kd.string.C w A2 x.f2.length x.f2 ∧ x.f3.length ≤ c3 ∧ Kd.string.C w A3 x.f3.length x.f3 := by
 obtain ⟨_, _, rfl, rfl, ⟨_, _, rfl, ⟨A1, c1, rfl, l1, g1⟩, ⟨_, _, rfl, ⟨A2, c2, rfl, l2, g2⟩, ⟨A3, c3, rfl, l3, g3⟩⟩⟩⟩ := h;exact ⟨A1, c1, A2, c2, A3, c3, rfl, l1, g1, l2, g2, l3, g3⟩
theorem k58_openM {w : World} {base : Nat} {ok : Nat → Prop} {x : S58} {cs : List Value} (h : k58.M w base ok x cs) : ∃ v1 v2 v3, cs = [.int .i64 x.f0, v1, v2, v3] ∧ Kd.string.R 9 w base ok v1 x.f1 ∧ Kd.string.R 9 w base ok v2 x.f2 ∧ Kd.string.R 9 w base ok v3 x.f3 := by
 obtain ⟨⟨_, _, rfl, rfl, ⟨_, _, rfl, ⟨v1, rfl, g1⟩, ⟨_, _, rfl, ⟨v2, rfl, g2⟩, ⟨v3, rfl, g3⟩⟩⟩⟩, _⟩ := h;exact ⟨v1, v2, v3, rfl, g1, g2, g3⟩
theorem k58_openD {w : World} {base : Nat} {ok : Nat → Prop} {x : S58} {cs : List Value} (h : k58.M w base ok x cs) : ∀ v0 v1 v2 v3, cs = [v0, v1, v2, v3] → D3 v1 v2 v3 := h.2
theorem k58_mkM (w : World) (base : Nat) (ok : Nat → Prop) (x : S58) {v1 : Value} (g1 : Kd.string.R 9 w base ok v1 x.f1) {v2 : Value} (g2 : Kd.string.R 9 w base ok v2 x.f2) {v3 : Value} (g3 : Kd.string.R 9 w base ok v3 x.f3) (hD : D3 v1 v2 v3 := by first | assumption | exact D3_nil) : k58.M w base ok x [.int .i64 x.f0, v1, v2, v3] := ⟨⟨[.int .i64 x.f0], [v1, v2, v3], rfl, rfl, ⟨[v1], [v2, v3], rfl, ⟨v1, rfl, g1⟩, ⟨[v2], [v3], rfl, ⟨v2, rfl, g2⟩, ⟨v3, rfl, g3⟩⟩⟩⟩, fun _ _ _ _ e => by injection e with _ e;injection e with e1 e;injection e with e2 e;injection e with e3 e;subst e1;subst e2;subst e3;exact hD⟩
def rd_T58 (xs : List S58) (i : Int) : S58 := xs.getD i.toNat z58
theorem at_T58 {w : World} {A : Option Addr} {n : Nat} {xs : List S58} (h : Kd.C k58 w A n xs) (i : Int) (h0 : 0 ≤ i) (h1 : i < n) : ∃ ad A1 c1 A2 c2 A3 c3, A = some ad ∧ w.cell? (ad.add (i.toNat * 4)) = some (.int .i64 (rd_T58 xs i).f0) ∧ w.cell? ⟨(ad.add (i.toNat * 4)).block, (ad.add (i.toNat * 4)).off + 1, none⟩ = some (.slice A1 (rd_T58 xs i).f1.length c1) ∧ w.cell? ⟨(ad.add (i.toNat * 4)).block, (ad.add (i.toNat * 4)).off + 2, none⟩ = some (.slice A2 (rd_T58 xs i).f2.length c2) ∧ w.cell? ⟨(ad.add (i.toNat * 4)).block, (ad.add (i.toNat * 4)).off + 3, none⟩ = some (.slice A3 (rd_T58 xs i).f3.length c3) ∧ (rd_T58 xs i).f1.length ≤ c1 ∧ Kd.string.C w A1 (rd_T58 xs i).f1.length (rd_T58 xs i).f1 ∧ (rd_T58 xs i).f2.length ≤ c2 ∧ Kd.string.C w A2 (rd_T58 xs i).f2.length (rd_T58 xs i).f2 ∧ (rd_T58 xs i).f3.length ≤ c3 ∧ Kd.string.C w A3 (rd_T58 xs i).f3.length (rd_T58 xs i).f3 := by
 obtain ⟨ad, c, e, _, hK, hc0⟩ := Kd.C_get h z58 i h0 h1;have hc : ∀ j u, c[j]? = some u → w.cell? (ad.add (i.toNat * 4 + j)) = some u := hc0;obtain ⟨A1, c1, A2, c2, A3, c3, rfl, l1, g1, l2, g2, l3, g3⟩ := k58_open hK;exact ⟨ad, A1, c1, A2, c2, A3, c3, e, hc 0 _ rfl, by rw [← add_field _ _ 1 (by omega)];exact hc 1 _ rfl, by rw [← add_field _ _ 2 (by omega)];exact hc 2 _ rfl, by rw [← add_field _ _ 3 (by omega)];exact hc 3 _ rfl, l1, g1, l2, g2, l3, g3⟩
def rd_L13 (xs : List (List Int)) (i : Int) : (List Int) := xs.getD i.toNat ([] : List Int)
theorem at_L13 {w : World} {A : Option Addr} {n : Nat} {xs : List (List Int)} (h : Kd.C (Kd.slice 2 (Kd.int .i64)) w A n xs) (i : Int) (h0 : 0 ≤ i) (h1 : i < n) : ∃ ad A0 c0, A = some ad ∧ w.cell? (ad.add i.toNat) = some (.slice A0 (rd_L13 xs i).length c0) ∧ (rd_L13 xs i).length ≤ c0 ∧ (Kd.int .i64).C w A0 (rd_L13 xs i).length (rd_L13 xs i) := by
 obtain ⟨ad, c, e, _, hK, hc0⟩ := Kd.C_get h ([] : List Int) i h0 h1;have hc : ∀ j u, c[j]? = some u → w.cell? (ad.add (i.toNat * 1 + j)) = some u := hc0;obtain ⟨A0, c0, rfl, l0, g0⟩ := hK;exact ⟨ad, A0, c0, e, by have hq := hc 0 _ rfl;rwa [Nat.mul_one, Nat.add_zero] at hq, l0, g0⟩
theorem frozen_at_ {w w' : World} {m : Nat} {a : Addr} (hq : w.drewN m = w') (h : w.frozen? a = false) : w'.frozen? a = false := by
 subst hq;exact h
theorem kept_typed {α : Type} {d : Kd α} {e base : Nat} {ok : Nat → Prop} {W W2 : World} {v : Value} {xs : List α} {P : Nat → Prop} {L : List Nat} (hE : d.E = []) (h : d.R e W base ok v xs) (hk : Kept W W2 P) (hP : ∀ k, P k → ∃ q, q ∈ L ∧ ∃ cells, W.heap[k]? = some (.cells cells q (0, 0))) (hne : ∀ q, q ∈ L → q ≠ e) : d.R e W2 base (fun k => some k = v.ownBlock) v xs :=
 Kd.R_kept (Kd.R_tight hE h) hk (fun k hk_ hp => by
  obtain ⟨q, hq, c1, h1⟩ := hP k hp
  obtain ⟨c2, h2⟩ := Kd.R_typed h k hk_.symm
  rw [h1] at h2
  injection h2 with h2
  injection h2 with _ h2 _
  exact hne q hq h2)
theorem cell_typed {α : Type} {d : Kd α} {e base n c : Nat} {ok : Nat → Prop} {W : World} {ad : Addr} {xs : List α} {L : List Nat} (h : d.R e W base ok (.slice (some ad) n c) xs) (hne : ∀ q, q ∈ L → q ≠ e) (hP : ∃ q, q ∈ L ∧ ∃ cells, W.heap[ad.block]? = some (.cells cells q (0, 0))) : False := by
 obtain ⟨q, hq, c1, h1⟩ := hP;obtain ⟨c2, h2⟩ := Kd.R_typed h ad.block rfl;rw [h1] at h2;(injection h2 with h2);(injection h2 with _ h2 _);exact hne q hq h2
end Go.Proofs.Ytjngmhngedecdaa.P
end
section
namespace Go.Proofs.Ytjngmhngedecdaa.P
open Go.RowKit Go.Proofs.YtjngmhngedecdaaW.PrintWords Go.Proofs.YtjngmhngedecdaaW.PrintLast Go.Proofs.YtjngmhngedecdaaW.PrintMore
theorem as_ {p : Prop} (h : p := by first | (with_reducible assumption) | assumption) : p := h
theorem od_ {p : Prop} {i : Decidable p} (h : decide p = true := by first | (with_reducible assumption) | assumption) : p := of_decide_eq_true h
theorem lf_ {p : Prop} (h : p := by ((try simp only [List.map_toArray, List.map_cons, List.map_nil]); first | done | rfl | (simp only [List.length_drop, List.length_take]; rfl))) : p := h
theorem ls_ {p : Prop} (h : p := by first | rfl | (simp; done) | (simp [*]; done)) : p := h
def ml_ : Nat → Nat → List Bool
  | 0, _ => []
  | n + 1, b => Nat.beq (b % 2) 1 :: ml_ n (b / 2)
def mb_ (n b : Nat) : Array Bool := ⟨ml_ n b⟩
theorem s0_ {α : Type} {xs : List α} {i : Nat} {a : α} : xs.toArray.setIfInBounds i a = (xs.set i a).toArray := by simp
theorem s1_ {α : Type} {x y : α} {xs : List α} : (x :: xs).set 0 y = y :: xs := rfl
theorem s2_ {α : Type} {x y : α} {xs : List α} {i : Nat} : (x :: xs).set (i + 1) y = x :: xs.set i y := rfl
theorem bw_ {p q : Prop} (h : p) (f : p → q := by intro h; repeat (first | (with_reducible first | exact h | apply below_alloc | apply pw_below_drewN | apply below_drew1) | exact h)) : q := f h
theorem bw1_ {p r q : Prop} (h : p) (g : r) (f : p → r → q := by intro h g; repeat (first | (with_reducible first | exact h | apply below_alloc | apply pw_below_drewN | apply below_drew1 | refine below_set ?_ g) | exact h)) : q := f h g
theorem bw2_ {p r s q : Prop} (h : p) (g : r) (g2 : s) (f : p → r → s → q := by intro h g g2; repeat (first | (with_reducible first | exact h | apply below_alloc | apply pw_below_drewN | apply below_drew1 | refine below_set ?_ g | refine below_set ?_ g2) | exact h)) : q := f h g g2
theorem rr_ {p q : Prop} (h : p) (f : p → q := by intro h; (with_reducible repeat (first | apply Kd.R_alloc | apply Kd.R_drewN | apply Kd.R_drew)); exact h) : q := f h
theorem rs_ {p q : Prop} (h : p) (f : p → q := by intro h; (with_reducible repeat (first | apply Kd.S_alloc | apply Kd.S_drewN | apply Kd.S_drew)); exact h) : q := f h
theorem rb_ {p q : Prop} (h : p) (f : p → q := by intro h; (with_reducible repeat (first | refine blk_drewN ?_ _ | refine blk_drew ?_ | refine blk_alloc ?_ _)); exact h) : q := f h
theorem rc_ {p q : Prop} (h : p) (f : p → q := by intro h; repeat (first | exact h | (with_reducible refine Kd.C_alloc ?_ _) | (with_reducible refine Kd.C_drewN ?_ _) | (with_reducible refine Kd.C_drew ?_))) : q := f h
theorem hc_ {w w' : World} {a : Addr} {v : Value} (hb : Below w.heap.size w w') (h : w.cell? a = some v) : w'.cell? a = some v := (hb.cell (World.block_lt_of_cell? w _ h)).trans h
end Go.Proofs.Ytjngmhngedecdaa.P
end
section
namespace Go.Proofs.Ytjngmhngedecdaa.P
open Go.RowKit Go.Proofs.YtjngmhngedecdaaW.PrintWords Go.Proofs.YtjngmhngedecdaaW.PrintLast Go.Proofs.YtjngmhngedecdaaW.PrintMore
attribute [local go_sem] max2_int min2_int max_two min_two max_three min_three max_four min_four
set_option linter.unusedVariables false
set_option linter.unusedSimpArgs false
def laws_szStringS.l0 : Nat → List ByteArray → Int → Int → Option (Int)
 | 0, _, _, _ => none
 | k + 1, x0, x1, x5 => if x5 < (x0.length : Int) then (if 0 ≤ x5 then (if (wrap64 (x1 - ((rdOf ByteArray.empty x0 x5).size : Int))) < 0 then (some (-1)) else (laws_szStringS.l0 k x0 (wrap64 (x1 - ((rdOf ByteArray.empty x0 x5).size : Int))) (wrap64 (x5 + 1)))) else (none)) else (some x1)
def laws_szStringS.f (k : Nat) (l0 : List ByteArray) (a1 : Int) : Option (Int) := if (wrap64 (a1 - (l0.length : Int))) < 0 then (some (-1)) else (laws_szStringS.l0 k l0 (wrap64 (a1 - (l0.length : Int))) 0)
set_option maxHeartbeats 8000000 in
set_option maxRecDepth 100000 in
theorem laws_szStringS.calls (k : Nat) (A0 : Option Addr) (c0 : Nat) (l0 : List ByteArray) (a1 : Int) (r : Int) (w : World) (hr0 : Kd.C Kd.string w A0 l0.length l0) (hc0 : l0.length ≤ c0) (h : laws_szStringS.f k l0 a1 = some r) :
  Calls Try.prog 22 #[.slice A0 l0.length c0, .int .i64 a1] w fun e w' => e = .returned (.int .i64 r) ∧ Drawn0 w w' := by
 have HR0 := Aside0.mk hr0;have HC0 := Aside0.mk hc0;clear hr0 hc0;have H : (if (wrap64 (a1 - (l0.length : Int))) < 0 then (some (-1)) else (laws_szStringS.l0 k l0 (wrap64 (a1 - (l0.length : Int))) 0)) = some r := h;clear h;by_cases c3 : (wrap64 (a1 - (l0.length : Int))) < 0;(·rw [if_pos c3] at H;have c3b0 : decide ((wrap64 (a1 - (l0.length : Int))) < 0) = true := decide_eq_true c3;clear c3;obtain rfl := Option.some.inj H;go_enter Try.func22, Try.ntmps22;go_wp2;go_ret;exact ⟨by first | rfl | (simp;done) | (simp [*];done), by repeat (first | exact Drawn0.refl _ | apply Drawn0.step)⟩)
 ·rw [if_neg c3] at H;have c3b0 : decide ((wrap64 (a1 - (l0.length : Int))) < 0) = false := decide_eq_false c3;clear c3;have H' := Aside0.mk H;clear H;go_enter Try.func22, Try.ntmps22;go_wp2;go_loopg [1, 5] k (fun kq v1 v5 w' => ∃ (x1_1 : Int) (x5_1 : Int), v1 = .int .i64 x1_1 ∧ v5 = .int .i64 x5_1 ∧ Aside0 (laws_szStringS.l0 kq l0 x1_1 x5_1 = some r) ∧ Aside0 (kq ≤ k) ∧ Drawn0 w w');(case atStart => exact ⟨(wrap64 (a1 - (l0.length : Int))), (0), ls_, ls_, H', ⟨Nat.le_refl _⟩, by repeat (first | exact Drawn0.refl _ | apply Drawn0.step)⟩)
  case round =>
   clear H'
   try clear c2
   try clear p2
   try clear c3
   try clear c3b0
   obtain ⟨x1_1, x5_1, rfl, rfl, HA, HK1, ⟨m1, rfl⟩⟩ := hrel
   cases gk with
   | zero => exact absurd HA.out (by simp [laws_szStringS.l0])
   | succ k1 =>
    have H := HA.out
    clear HA
    simp only [laws_szStringS.l0] at H
    by_cases c4 : x5_1 < (l0.length : Int)
    ·rw [if_pos c4] at H
     have c4b0 : decide (x5_1 < (l0.length : Int)) = true := decide_eq_true c4
     clear c4
     by_cases c5 : 0 ≤ x5_1
     ·rw [if_pos c5] at H
      have c5b0 : decide (0 ≤ x5_1) = true := decide_eq_true c5
      clear c5
      by_cases c6 : (wrap64 (x1_1 - ((rdOf ByteArray.empty l0 x5_1).size : Int))) < 0
      ·rw [if_pos c6] at H
       have c6b0 : decide ((wrap64 (x1_1 - ((rdOf ByteArray.empty l0 x5_1).size : Int))) < 0) = true := decide_eq_true c6
       clear c6
       obtain rfl := Option.some.inj H
       have p101 : 0 ≤ (x5_1 : Int) := od_
       have q101 : x5_1 < (l0.length : Int) := od_
       obtain ⟨ad101, e101, hx101_0⟩ := Kd.at_string HR0.out x5_1 p101 q101
       cases e101
       replace p101 := eq_true p101
       replace q101 := eq_true q101
       go_wp2
       go_ret
       exact ⟨by first | rfl | (simp;done) | (simp [*];done), by repeat (first | exact Drawn0.refl _ | apply Drawn0.step)⟩
      ·rw [if_neg c6] at H
       have c6b0 : decide ((wrap64 (x1_1 - ((rdOf ByteArray.empty l0 x5_1).size : Int))) < 0) = false := decide_eq_false c6
       clear c6
       have H' := Aside0.mk H
       clear H
       have p101 : 0 ≤ (x5_1 : Int) := od_
       have q101 : x5_1 < (l0.length : Int) := od_
       obtain ⟨ad101, e101, hx101_0⟩ := Kd.at_string HR0.out x5_1 p101 q101
       cases e101
       replace p101 := eq_true p101
       replace q101 := eq_true q101
       go_wp2
       go_roundg k1
       case measure => have := HK1.out;omega
       case rel => exact ⟨(wrap64 (x1_1 - ((rdOf ByteArray.empty l0 x5_1).size : Int))), (wrap64 (x5_1 + 1)), ls_, ls_, H', ⟨by have := HK1.out;omega⟩, by repeat (first | exact Drawn0.refl _ | apply Drawn0.step)⟩
     ·rw [if_neg c5] at H
      exact absurd H (by simp)
    ·rw [if_neg c4] at H
     have c4b0 : decide (x5_1 < (l0.length : Int)) = false := decide_eq_false c4
     clear c4
     obtain rfl := Option.some.inj H
     go_wp2
     go_ret
     exact ⟨by first | rfl | (simp;done) | (simp [*];done), by repeat (first | exact Drawn0.refl _ | apply Drawn0.step)⟩
end Go.Proofs.Ytjngmhngedecdaa.P
end
section
namespace Go.Proofs.Ytjngmhngedecdaa.P
open Go.RowKit Go.Proofs.YtjngmhngedecdaaW.PrintWords Go.Proofs.YtjngmhngedecdaaW.PrintLast Go.Proofs.YtjngmhngedecdaaW.PrintMore
attribute [local go_sem] max2_int min2_int max_two min_two max_three min_three max_four min_four
set_option linter.unusedVariables false
set_option linter.unusedSimpArgs false
def laws_toStringS.l0 : Nat → List ByteArray → List ByteArray → Int → Option (List ByteArray)
 | 0, _, _, _ => none
 | k + 1, x0, x3, x4 => if x4 < (x0.length : Int) then (if 0 ≤ x4 then (if x4 < (x3.length : Int) then (laws_toStringS.l0 k x0 (x3.set (x4 : Int).toNat (rdOf ByteArray.empty x0 x4)) (wrap64 (x4 + 1))) else (none)) else (none)) else (some x3)
def laws_toStringS.f (k : Nat) (l0 : List ByteArray) : Option (List ByteArray) := if 0 ≤ (l0.length : Int) then (if ((l0.length : Int) : Int).toNat ≤ 17592186044416 then (laws_toStringS.l0 k l0 (List.replicate ((l0.length : Int) : Int).toNat (⟨#[]⟩ : ByteArray)) 0) else (none)) else (none)
set_option maxHeartbeats 8000000 in
set_option maxRecDepth 100000 in
theorem laws_toStringS.calls (k : Nat) (A0 : Option Addr) (c0 : Nat) (l0 : List ByteArray) (r : List ByteArray) (w : World) (hr0 : Kd.C Kd.string w A0 l0.length l0) (hc0 : l0.length ≤ c0) (h : laws_toStringS.f k l0 = some r) :
  Calls Try.prog 24 #[.slice A0 l0.length c0] w fun e w' => ∃ v0_ : Value, e = .returned (v0_) ∧ Kd.R Kd.string 9 w' w.heap.size (fun _ => True) v0_ r ∧ Below w.heap.size w w' := by
 have HR0 := Aside0.mk hr0;have HC0 := Aside0.mk hc0;clear hr0 hc0;have HB := Aside0.mk (Below.refl w.heap.size w);have H : (if 0 ≤ (l0.length : Int) then (if ((l0.length : Int) : Int).toNat ≤ 17592186044416 then (laws_toStringS.l0 k l0 (List.replicate ((l0.length : Int) : Int).toNat (⟨#[]⟩ : ByteArray)) 0) else (none)) else (none)) = some r := h;clear h;by_cases c2 : 0 ≤ (l0.length : Int)
 ·rw [if_pos c2] at H;have c2b0 := eq_true c2;have c2b1 : decide (0 ≤ (l0.length : Int)) = true := decide_eq_true c2;clear c2;by_cases c3 : ((l0.length : Int) : Int).toNat ≤ 17592186044416
  ·rw [if_pos c3] at H;have c3b0 := eq_true c3;have c3b1 : decide (((l0.length : Int) : Int).toNat ≤ 17592186044416) = true := decide_eq_true c3;clear c3;obtain ⟨y147, hy147⟩ : ∃ y_ : List ByteArray, y_ = (List.replicate ((l0.length : Int) : Int).toNat (⟨#[]⟩ : ByteArray)) := ⟨_, rfl⟩;(replace H : (laws_toStringS.l0 k l0 y147 0) = some r := by first | (rw [hy147];with_reducible exact H) | (have H2_ := (Option.bind_some _ _).symm.trans H;rw [hy147];with_reducible exact H2_) | (have H2_ := (Option.bind_some _ _).symm.trans H;with_reducible exact H2_) | with_reducible exact H | (rw [hy147];exact H) | exact H);have Ny147 := Aside0.mk hy147;clear hy147;have H' := Aside0.mk H;clear H;go_enter Try.func24, Try.ntmps24;go_wp2_with (first | ((with_reducible refine gate_dst (N := 7) rfl ?_);refine Kd.R_make Kd.string _ 9 rfl (N := 7) rfl 34 _ _ rfl (l0.length : Int) rfl rfl Try.underlying34 (.string ⟨#[]⟩) 16 info9 rfl (by decide) (by omega) (⟨#[]⟩ : ByteArray) (ok := fun _ => True) (okp := fun _ => True) rfl (fun _ hk => hk) trivial od_ (Nat.le_trans (Nat.mul_le_mul_right _ (od_ : (l0.length : Int).toNat ≤ 17592186044416)) (by omega)) (Below.refl _ _) (Nat.le_refl _) ?_;intro v148 w4 ho5 hb hg_ hnew_;clear hg_ hnew_;(first | rw [← Ny147.out] at ho5 | (simp only [Int.reduceToNat] at ho5;rw [← Ny147.out] at ho5));have n0_ := Aside0.mk (Kd.R_lower ho5 (below_size (bw_ HB.out)));have n1_ := Aside0.mk (below_step (bw_ HB.out) hb);clear HB;have HO149 := n0_;have HB := n1_;clear n0_ n1_;clear hb ho5));go_loopg [4] k (fun kq v4 w' => ∃ (x3_1 : List ByteArray) (x4_1 : Int), v4 = .int .i64 x4_1 ∧ Aside0 (laws_toStringS.l0 kq l0 x3_1 x4_1 = some r) ∧ Aside0 (kq ≤ k) ∧ Aside0 (Kd.R Kd.string 9 w' w.heap.size (fun _ => True) v148 x3_1) ∧ Aside0 (Below w.heap.size w w'));(case atStart => exact ⟨(y147), (0), ls_, H', ⟨Nat.le_refl _⟩, ⟨rr_ HO149.out⟩, ⟨bw_ HB.out⟩⟩)
   case round =>
    clear H'
    try clear c2
    try clear c2b0
    try clear c2b1
    try clear p2
    try clear c3
    try clear c3b0
    try clear c3b1
    obtain ⟨x3_1, x4_1, rfl, HA, HK1, HO_3, HB⟩ := hrel
    cases gk with
    | zero => exact absurd HA.out (by simp [laws_toStringS.l0])
    | succ k1 =>
     have H := HA.out
     clear HA
     simp only [laws_toStringS.l0] at H
     by_cases c6 : x4_1 < (l0.length : Int)
     ·rw [if_pos c6] at H
      have c6b0 : decide (x4_1 < (l0.length : Int)) = true := decide_eq_true c6
      clear c6
      by_cases c7 : 0 ≤ x4_1
      ·rw [if_pos c7] at H
       have c7b0 : decide (0 ≤ x4_1) = true := decide_eq_true c7
       clear c7
       by_cases c8 : x4_1 < (x3_1.length : Int)
       ·rw [if_pos c8] at H
        have c8b0 : decide (x4_1 < (x3_1.length : Int)) = true := decide_eq_true c8
        clear c8
        obtain ⟨y151, hy151⟩ : ∃ y_ : List ByteArray, y_ = (x3_1.set (x4_1 : Int).toNat (rdOf ByteArray.empty l0 x4_1)) := ⟨_, rfl⟩
        replace H : (laws_toStringS.l0 k1 l0 y151 (wrap64 (x4_1 + 1))) = some r := by first | (rw [hy151];with_reducible exact H) | (have H2_ := (Option.bind_some _ _).symm.trans H;rw [hy151];with_reducible exact H2_) | (have H2_ := (Option.bind_some _ _).symm.trans H;with_reducible exact H2_) | with_reducible exact H | (rw [hy151];exact H) | exact H
        have Ny151 := Aside0.mk hy151
        clear hy151
        have H' := Aside0.mk H
        clear H
        have p150 : 0 ≤ (x4_1 : Int) := od_
        have q150 : x4_1 < (l0.length : Int) := od_
        obtain ⟨ad150, e150, hx150_0⟩ := Kd.at_string HR0.out x4_1 p150 q150
        cases e150
        replace hx150_0 := hc_ HB.out hx150_0
        replace p150 := eq_true p150
        replace q150 := eq_true q150
        have p9 : 0 ≤ (x4_1 : Int) := od_
        have q9 : (x4_1 : Int) < ((x3_1.length : Int) : Int) := od_
        obtain ⟨go9, co9, eo9, gb9, gl9, cl9, HG9⟩ := Kd.R_form HO_3.out (by omega)
        (first | cases eo9 | (injection eo9 with ea_ en_ ec_;(first | subst ea_ | (injection ea_ with ea_;subst ea_));subst ec_;clear en_))
        have GB9 := Aside0.mk gb9
        have GG9 := Aside0.mk HG9
        clear gb9 gl9 HG9
        obtain ⟨hx9_0, hf9_0⟩ := Kd.R_celln (⟨#[]⟩ : ByteArray) HO_3.out (x4_1 : Int) p9 q9
        replace p9 := eq_true p9
        replace q9 := eq_true q9
        have HP10 := Kd.R_putg HO_3.out (x4_1 : Int) (rdOf ByteArray.empty l0 x4_1)
        go_wp2_with (first | ((with_reducible refine gate_store (t := 9) (p := 20) rfl ?_);refine store_event (t := 9) (p := 20) (v := ?vo_w11) (w1 := (wr.setCell ⟨go9, (x4_1 : Int).toNat, none⟩ (.string (rdOf ByteArray.empty l0 x4_1)))) ?hg ?ho ?hn ?hr ?_;(case ho => rfl);(case hg => rfl);(case hn => rfl);(case hr => first | (go_simp;done) | (go_simp;rfl));intro w11 hw;have hg : wr.grownBy w11 (some go9) := (by rw [hw];exact HP10.2);have hp_ : Kd.R Kd.string 9 w11 w.heap.size (fun _ => True) (.slice (some ⟨go9, 0, none⟩) x3_1.length co9) y151 := (by rw [hw, Ny151.out];exact HP10.1);clear HP10;have n0_ := Aside0.mk (hp_);have n1_ := Aside0.mk ((by rw [hw];exact below_set (HB.out) GB9.out : Below w.heap.size w w11));clear HO_3;clear HB;have HO_3 := n0_;have HB := n1_;clear n0_ n1_;clear hg hw hp_))
        go_roundg k1
        case measure => have := HK1.out;omega
        case rel => exact ⟨(y151), (wrap64 (x4_1 + 1)), ls_, H', ⟨by have := HK1.out;omega⟩, ⟨rr_ HO_3.out⟩, ⟨bw_ HB.out⟩⟩
       ·rw [if_neg c8] at H
        exact absurd H (by simp)
      ·rw [if_neg c7] at H
       exact absurd H (by simp)
     ·rw [if_neg c6] at H
      have c6b0 : decide (x4_1 < (l0.length : Int)) = false := decide_eq_false c6
      clear c6
      obtain rfl := Option.some.inj H
      go_wp2
      go_ret
      exact ⟨_, by first | rfl | (simp [errW_none, errW_some] <;> rfl) | (simp [*, errW_none, errW_some] <;> rfl), rr_ HO_3.out, bw_ HB.out⟩
  ·rw [if_neg c3] at H;exact absurd H (by simp)
 ·rw [if_neg c2] at H;exact absurd H (by simp)
end Go.Proofs.Ytjngmhngedecdaa.P
end
section
namespace Go.Proofs.Ytjngmhngedecdaa.P
open Go.RowKit Go.Proofs.YtjngmhngedecdaaW.PrintWords Go.Proofs.YtjngmhngedecdaaW.PrintLast Go.Proofs.YtjngmhngedecdaaW.PrintMore
attribute [local go_sem] max2_int min2_int max_two min_two max_three min_three max_four min_four
set_option linter.unusedVariables false
set_option linter.unusedSimpArgs false
def laws_eqStringS.l0 : Nat → List ByteArray → List ByteArray → Int → Option (Bool)
 | 0, _, _, _ => none
 | k + 1, x0, x1, x5 => if x5 < (x0.length : Int) then (if 0 ≤ x5 then (if x5 < (x1.length : Int) then (if (rdOf ByteArray.empty x0 x5).toList = (rdOf ByteArray.empty x1 x5).toList then (laws_eqStringS.l0 k x0 x1 (wrap64 (x5 + 1))) else (some false)) else (none)) else (none)) else (some true)
def laws_eqStringS.f (k : Nat) (l0 : List ByteArray) (l1 : List ByteArray) : Option (Bool) := if (l0.length : Int) = (l1.length : Int) then (laws_eqStringS.l0 k l0 l1 0) else (some false)
set_option maxHeartbeats 8000000 in
set_option maxRecDepth 100000 in
theorem laws_eqStringS.calls (k : Nat) (A0 : Option Addr) (c0 : Nat) (l0 : List ByteArray) (A1 : Option Addr) (c1 : Nat) (l1 : List ByteArray) (r : Bool) (w : World) (hr0 : Kd.C Kd.string w A0 l0.length l0) (hc0 : l0.length ≤ c0) (hr1 : Kd.C Kd.string w A1 l1.length l1) (hc1 : l1.length ≤ c1) (h : laws_eqStringS.f k l0 l1 = some r) :
  Calls Try.prog 27 #[.slice A0 l0.length c0, .slice A1 l1.length c1] w fun e w' => e = .returned (.bool r) ∧ Drawn0 w w' := by
 have HR0 := Aside0.mk hr0;have HC0 := Aside0.mk hc0;clear hr0 hc0;have HR1 := Aside0.mk hr1;have HC1 := Aside0.mk hc1;clear hr1 hc1;have H : (if (l0.length : Int) = (l1.length : Int) then (laws_eqStringS.l0 k l0 l1 0) else (some false)) = some r := h;clear h;by_cases c3 : (l0.length : Int) = (l1.length : Int)
 ·rw [if_pos c3] at H;have c3b0 : ((l0.length : Int) == (l1.length : Int)) = true := beq_iff_eq.mpr c3;have c3b1 : ((l0.length : Int) != (l1.length : Int)) = false := bne_eq_false_iff_eq.mpr c3;(have c3b2 : (l0.length == l1.length) = true := by first | simpa using c3 | (simp at c3 ⊢;omega));clear c3;have H' := Aside0.mk H;clear H;go_enter Try.func27, Try.ntmps27;go_wp2;(repeat (go_quiet (fail);try go_wp2));go_loopg [5] k (fun kq v5 w' => ∃ (x5_1 : Int), v5 = .int .i64 x5_1 ∧ Aside0 (laws_eqStringS.l0 kq l0 l1 x5_1 = some r) ∧ Aside0 (kq ≤ k) ∧ Drawn0 w w');(case atStart => exact ⟨(0), ls_, H', ⟨Nat.le_refl _⟩, by repeat (first | exact Drawn0.refl _ | apply Drawn0.step)⟩)
  case round =>
   clear H'
   try clear c1
   try clear c2
   try clear p2
   try clear c3
   try clear c3b0
   try clear c3b1
   try clear c3b2
   obtain ⟨x5_1, rfl, HA, HK1, ⟨m1, rfl⟩⟩ := hrel
   cases gk with
   | zero => exact absurd HA.out (by simp [laws_eqStringS.l0])
   | succ k1 =>
    have H := HA.out
    clear HA
    simp only [laws_eqStringS.l0] at H
    by_cases c4 : x5_1 < (l0.length : Int)
    ·rw [if_pos c4] at H
     have c4b0 : decide (x5_1 < (l0.length : Int)) = true := decide_eq_true c4
     clear c4
     by_cases c5 : 0 ≤ x5_1
     ·rw [if_pos c5] at H
      have c5b0 : decide (0 ≤ x5_1) = true := decide_eq_true c5
      clear c5
      by_cases c6 : x5_1 < (l1.length : Int)
      ·rw [if_pos c6] at H
       have c6b0 : decide (x5_1 < (l1.length : Int)) = true := decide_eq_true c6
       clear c6
       by_cases c7 : (rdOf ByteArray.empty l0 x5_1).toList = (rdOf ByteArray.empty l1 x5_1).toList
       ·rw [if_pos c7] at H
        have c7b0 : ((rdOf ByteArray.empty l0 x5_1).toList == (rdOf ByteArray.empty l1 x5_1).toList) = true := beq_iff_eq.mpr c7
        have c7b1 : ((rdOf ByteArray.empty l0 x5_1).toList != (rdOf ByteArray.empty l1 x5_1).toList) = false := bne_eq_false_iff_eq.mpr c7
        clear c7
        have H' := Aside0.mk H
        clear H
        have p203 : 0 ≤ (x5_1 : Int) := od_
        have q203 : x5_1 < (l0.length : Int) := od_
        obtain ⟨ad203, e203, hx203_0⟩ := Kd.at_string HR0.out x5_1 p203 q203
        cases e203
        replace p203 := eq_true p203
        replace q203 := eq_true q203
        have p204 : 0 ≤ (x5_1 : Int) := od_
        have q204 : x5_1 < (l1.length : Int) := od_
        obtain ⟨ad204, e204, hx204_0⟩ := Kd.at_string HR1.out x5_1 p204 q204
        cases e204
        replace p204 := eq_true p204
        replace q204 := eq_true q204
        go_wp2
        repeat (go_quiet (fail);try go_wp2)
        go_roundg k1
        case measure => have := HK1.out;omega
        case rel => exact ⟨(wrap64 (x5_1 + 1)), ls_, H', ⟨by have := HK1.out;omega⟩, by repeat (first | exact Drawn0.refl _ | apply Drawn0.step)⟩
       ·rw [if_neg c7] at H
        have c7b0 : ((rdOf ByteArray.empty l0 x5_1).toList == (rdOf ByteArray.empty l1 x5_1).toList) = false := beq_eq_false_iff_ne.mpr c7
        have c7b1 : ((rdOf ByteArray.empty l0 x5_1).toList != (rdOf ByteArray.empty l1 x5_1).toList) = true := bne_iff_ne.mpr c7
        obtain rfl := Option.some.inj H
        have p203 : 0 ≤ (x5_1 : Int) := od_
        have q203 : x5_1 < (l0.length : Int) := od_
        obtain ⟨ad203, e203, hx203_0⟩ := Kd.at_string HR0.out x5_1 p203 q203
        cases e203
        replace p203 := eq_true p203
        replace q203 := eq_true q203
        have p204 : 0 ≤ (x5_1 : Int) := od_
        have q204 : x5_1 < (l1.length : Int) := od_
        obtain ⟨ad204, e204, hx204_0⟩ := Kd.at_string HR1.out x5_1 p204 q204
        cases e204
        replace p204 := eq_true p204
        replace q204 := eq_true q204
        go_wp2
        repeat (go_quiet (fail);try go_wp2)
        go_ret
        exact ⟨by first | rfl | (simp;done) | (simp [*];done), by repeat (first | exact Drawn0.refl _ | apply Drawn0.step)⟩
      ·rw [if_neg c6] at H
       exact absurd H (by simp)
     ·rw [if_neg c5] at H
      exact absurd H (by simp)
    ·rw [if_neg c4] at H
     have c4b0 : decide (x5_1 < (l0.length : Int)) = false := decide_eq_false c4
     clear c4
     obtain rfl := Option.some.inj H
     go_wp2
     repeat (go_quiet (fail);try go_wp2)
     go_ret
     exact ⟨by first | rfl | (simp;done) | (simp [*];done), by repeat (first | exact Drawn0.refl _ | apply Drawn0.step)⟩
 ·rw [if_neg c3] at H;have c3b0 : ((l0.length : Int) == (l1.length : Int)) = false := beq_eq_false_iff_ne.mpr c3;have c3b1 : ((l0.length : Int) != (l1.length : Int)) = true := bne_iff_ne.mpr c3;(have c3b2 : (l0.length == l1.length) = false := by first | simpa using c3 | (simp at c3 ⊢;omega));obtain rfl := Option.some.inj H;go_enter Try.func27, Try.ntmps27;go_wp2;(repeat (go_quiet (fail);try go_wp2));go_ret;exact ⟨by first | rfl | (simp;done) | (simp [*];done), by repeat (first | exact Drawn0.refl _ | apply Drawn0.step)⟩
end Go.Proofs.Ytjngmhngedecdaa.P
end
section
namespace Go.Proofs.Ytjngmhngedecdaa.P
open Go.RowKit Go.Proofs.YtjngmhngedecdaaW.PrintWords Go.Proofs.YtjngmhngedecdaaW.PrintLast Go.Proofs.YtjngmhngedecdaaW.PrintMore
attribute [local go_sem] max2_int min2_int max_two min_two max_three min_three max_four min_four
set_option linter.unusedVariables false
set_option linter.unusedSimpArgs false
def laws_markText.l0 : Nat → Int → ByteArray → Option (ByteArray)
 | 0, _, _ => none
 | k + 1, x0, x3 => if x0 > 0 then ((some (([(wrap64 (48 + (Int.tmod x0 10))) % 256] : List Int) : List Int)).bind fun y214 => (if (strOfNums y214).size + x3.size ≤ 9223372036854775807 then (laws_markText.l0 k (wrap64 (Int.tdiv x0 10)) ((strOfNums y214) ++ x3)) else (none))) else (if 1 + x3.size ≤ 9223372036854775807 then (some ((⟨#[109]⟩ : ByteArray) ++ x3)) else (none))
def laws_markText.f (k : Nat) (a0 : Int) : Option (ByteArray) := if a0 ≤ 0 then (some (⟨#[109, 48]⟩ : ByteArray)) else (laws_markText.l0 k a0 (⟨#[]⟩ : ByteArray))
theorem laws_markText.mono_l : ∀ k, (∀ y0 y1, LeO (laws_markText.l0 k y0 y1) (laws_markText.l0 (k + 1) y0 y1))
 | 0 => fun _ _ r h => by simp [laws_markText.l0] at h
 | k + 1 => by
  have ih0 := laws_markText.mono_l k
  ·intro y0 y1
   unfold laws_markText.l0
   repeat' first
   | (with_reducible exact ih0 _ _)
   | (with_reducible exact LeO.refl _)
   | (with_reducible exact LeO.none _)
   | (with_reducible refine LeO.ite ?_ ?_)
   | (with_reducible refine LeO.bind ?_ (fun _ => ?_))
   | exact ih0 _ _
   | exact LeO.none _
   | refine LeO.ite ?_ ?_
   | refine LeO.bind ?_ (fun _ => ?_)
theorem laws_markText.mono : ∀ a0 k, LeO (laws_markText.f k a0) (laws_markText.f (k + 1) a0) := by
 intro a0 k;have ih0 := laws_markText.mono_l k;unfold laws_markText.f
 repeat' first
   | (with_reducible exact ih0 _ _)
   | (with_reducible exact LeO.refl _)
   | (with_reducible exact LeO.none _)
   | (with_reducible refine LeO.ite ?_ ?_)
   | (with_reducible refine LeO.bind ?_ (fun _ => ?_))
   | exact ih0 _ _
   | exact LeO.none _
   | refine LeO.ite ?_ ?_
   | refine LeO.bind ?_ (fun _ => ?_)
set_option maxHeartbeats 8000000 in
set_option maxRecDepth 100000 in
theorem laws_markText.calls (k : Nat) (a0 : Int) (r : ByteArray) (w : World) (h : laws_markText.f k a0 = some r) :
  Calls Try.prog 69 #[.int .i64 a0] w fun e w' => e = .returned (.string r) ∧ Below w.heap.size w w' := by
 have HB := Aside0.mk (Below.refl w.heap.size w);have H : (if a0 ≤ 0 then (some (⟨#[109, 48]⟩ : ByteArray)) else (laws_markText.l0 k a0 (⟨#[]⟩ : ByteArray))) = some r := h;clear h;by_cases c2 : a0 ≤ 0;(·rw [if_pos c2] at H;have c2b0 : decide (a0 ≤ 0) = true := decide_eq_true c2;clear c2;obtain rfl := Option.some.inj H;go_enter Try.func69, Try.ntmps69;go_wp2;go_ret;exact ⟨by first | rfl | (simp [errW_none, errW_some] <;> rfl) | (simp [*, errW_none, errW_some] <;> rfl), bw_ HB.out⟩)
 ·rw [if_neg c2] at H;have c2b0 : decide (a0 ≤ 0) = false := decide_eq_false c2;clear c2;have H' := Aside0.mk H;clear H;go_enter Try.func69, Try.ntmps69;go_wp2;go_loopg [0, 3] k (fun kq v0 v3 w' => ∃ (x0_1 : Int) (x3_1 : ByteArray), v0 = .int .i64 x0_1 ∧ v3 = .string x3_1 ∧ Aside0 (laws_markText.l0 kq x0_1 x3_1 = some r) ∧ Aside0 (kq ≤ k) ∧ Aside0 (Below w.heap.size w w'));(case atStart => exact ⟨(a0), ((⟨#[]⟩ : ByteArray)), ls_, ls_, H', ⟨Nat.le_refl _⟩, ⟨bw_ HB.out⟩⟩)
  case round =>
   clear H'
   try clear c2
   try clear c2b0
   try clear p2
   obtain ⟨x0_1, x3_1, rfl, rfl, HA, HK1, HB⟩ := hrel
   cases gk with
   | zero => exact absurd HA.out (by simp [laws_markText.l0])
   | succ k1 =>
    have H := HA.out
    clear HA
    simp only [laws_markText.l0] at H
    by_cases c3 : x0_1 > 0
    ·rw [if_pos c3] at H
     have c3b0 : decide (0 < x0_1) = true := decide_eq_true c3
     clear c3
     obtain ⟨y214, hy214⟩ : ∃ y_ : List Int, y_ = (([(wrap64 (48 + (Int.tmod x0_1 10))) % 256] : List Int)) := ⟨_, rfl⟩
     replace H : (if (strOfNums y214).size + x3_1.size ≤ 9223372036854775807 then (laws_markText.l0 k1 (wrap64 (Int.tdiv x0_1 10)) ((strOfNums y214) ++ x3_1)) else (none)) = some r := by first | (rw [hy214];with_reducible exact H) | (have H2_ := (Option.bind_some _ _).symm.trans H;rw [hy214];with_reducible exact H2_) | (have H2_ := (Option.bind_some _ _).symm.trans H;with_reducible exact H2_) | with_reducible exact H | (rw [hy214];exact H) | exact H
     have Ny214 := Aside0.mk hy214
     clear hy214
     by_cases c4 : (strOfNums y214).size + x3_1.size ≤ 9223372036854775807
     ·rw [if_pos c4] at H
      have c4b0 := eq_true c4
      have c4b1 : decide ((strOfNums y214).size + x3_1.size ≤ 9223372036854775807) = true := decide_eq_true c4
      try have c4b2 : (9223372036854775807 < (strOfNums y214).size + x3_1.size) = False := eq_false (Nat.not_lt.2 c4)
      have H' := Aside0.mk H
      clear H
      go_wp2_with (first | ((with_reducible refine gate_dst (N := 12) rfl ?_);refine Kd.R_lit (Kd.int .u8) _ 5 ?hg (N := 12) ?hd (xs := ([(wrap64 (48 + (Int.tmod x0_1 10))) % 256] : List Int)) (inner := [.int .u8 ((wrap64 (48 + (Int.tmod x0_1 10))) % 256)]) (ok := fun _ => True) (okp := fun _ => True) ?hr ?hp (fun _ hk => hk) trivial (Below.refl _ _) (Nat.le_refl _) (by simp) ?_;(case hd => rfl);(case hg => rfl);(case hr => first | (go_simp;done) | (go_simp;rfl));(case hp => exact (Reps.one (show Kd.M (Kd.int .u8) _ _ _ ((wrap64 (48 + (Int.tmod x0_1 10))) % 256) [.int .u8 ((wrap64 (48 + (Int.tmod x0_1 10))) % 256)] from rfl) (Reps.none _ _)));intro v215 w5 ho6 hb hg_ hnew_;clear hg_ hnew_;(first | rw [← Ny214.out] at ho6 | (simp only [Int.reduceToNat] at ho6;rw [← Ny214.out] at ho6));have n0_ := Aside0.mk (Kd.R_lower ho6 (below_size (bw_ HB.out)));have n1_ := Aside0.mk (below_step (bw_ HB.out) hb);clear HB;have HO216 := n0_;have HB := n1_;clear n0_ n1_;clear hb ho6;have hcv7 := own_string (P := Try.prog) Try.underlying63 Try.underlying5 Try.underlying9 (Kd.own_of_R HO216.out)))
      go_roundg k1
      case measure => have := HK1.out;omega
      case rel => exact ⟨(wrap64 (Int.tdiv x0_1 10)), ((strOfNums y214) ++ x3_1), ls_, ls_, H', ⟨by have := HK1.out;omega⟩, ⟨bw_ HB.out⟩⟩
     ·rw [if_neg c4] at H
      exact absurd H (by simp)
    ·rw [if_neg c3] at H
     have c3b0 : decide (0 < x0_1) = false := decide_eq_false c3
     clear c3
     by_cases c8 : 1 + x3_1.size ≤ 9223372036854775807
     ·rw [if_pos c8] at H
      have c8b0 := eq_true c8
      have c8b1 : decide (1 + x3_1.size ≤ 9223372036854775807) = true := decide_eq_true c8
      try have c8b2 : (9223372036854775807 < 1 + x3_1.size) = False := eq_false (Nat.not_lt.2 c8)
      obtain rfl := Option.some.inj H
      go_wp2
      go_ret
      exact ⟨by first | rfl | (simp [errW_none, errW_some] <;> rfl) | (simp [*, errW_none, errW_some] <;> rfl), bw_ HB.out⟩
     ·rw [if_neg c8] at H
      exact absurd H (by simp)
end Go.Proofs.Ytjngmhngedecdaa.P
end
section
namespace Go.Proofs.Ytjngmhngedecdaa.P
open Go.RowKit Go.Proofs.YtjngmhngedecdaaW.PrintWords Go.Proofs.YtjngmhngedecdaaW.PrintLast Go.Proofs.YtjngmhngedecdaaW.PrintMore
attribute [local go_sem] max2_int min2_int max_two min_two max_three min_three max_four min_four
set_option linter.unusedVariables false
set_option linter.unusedSimpArgs false
def laws_markStringS.l0 : Nat → List ByteArray → Int → Int → Option (Int × List ByteArray)
 | 0, _, _, _ => none
 | k + 1, x0, x1, x5 => if x5 < (x0.length : Int) then ((laws_markText.f k x1).bind fun t343 => (if 0 ≤ x5 then (laws_markStringS.l0 k (x0.set (x5 : Int).toNat t343) (wrap64 (x1 + 1)) (wrap64 (x5 + 1))) else (none))) else (some (x1, x0))
def laws_markStringS.f (k : Nat) (l0 : List ByteArray) (a1 : Int) : Option (Int × List ByteArray) := laws_markStringS.l0 k l0 a1 0
theorem laws_markStringS.mono_l : ∀ k, (∀ y0 y1 y2, LeO (laws_markStringS.l0 k y0 y1 y2) (laws_markStringS.l0 (k + 1) y0 y1 y2))
 | 0 => fun _ _ _ r h => by simp [laws_markStringS.l0] at h
 | k + 1 => by
  have ih0 := laws_markStringS.mono_l k
  ·intro y0 y1 y2
   unfold laws_markStringS.l0
   repeat' first
   | (with_reducible exact ih0 _ _ _)
   | (with_reducible exact laws_markText.mono _ _)
   | (with_reducible exact LeO.refl _)
   | (with_reducible exact LeO.none _)
   | (with_reducible refine LeO.ite ?_ ?_)
   | (with_reducible refine LeO.bind ?_ (fun _ => ?_))
   | exact ih0 _ _ _
   | exact laws_markText.mono _ _
   | exact LeO.none _
   | refine LeO.ite ?_ ?_
   | refine LeO.bind ?_ (fun _ => ?_)
theorem laws_markStringS.mono : ∀ a0 a1 k, LeO (laws_markStringS.f k a0 a1) (laws_markStringS.f (k + 1) a0 a1) := by
 intro a0 a1 k;have ih0 := laws_markStringS.mono_l k;unfold laws_markStringS.f
 repeat' first
   | (with_reducible exact ih0 _ _ _)
   | (with_reducible exact laws_markText.mono _ _)
   | (with_reducible exact LeO.refl _)
   | (with_reducible exact LeO.none _)
   | (with_reducible refine LeO.ite ?_ ?_)
   | (with_reducible refine LeO.bind ?_ (fun _ => ?_))
   | exact ih0 _ _ _
   | exact laws_markText.mono _ _
   | exact LeO.none _
   | refine LeO.ite ?_ ?_
   | refine LeO.bind ?_ (fun _ => ?_)
set_option maxHeartbeats 8000000 in
set_option maxRecDepth 100000 in
theorem laws_markStringS.calls (k : Nat) (P0_ : Nat → Prop) (u9000_ : Value) (l0 : List ByteArray) (a1 : Int) (r1 : Int) (r2 : List ByteArray) (w0 w : World) (hB : Below w0.heap.size w0 w) (ho0 : Kd.R Kd.string 9 w w0.heap.size P0_ u9000_ l0) (h : laws_markStringS.f k l0 a1 = some (r1, r2)) :
  Calls Try.prog 28 #[u9000_, .int .i64 a1] w fun e w' => e = .returned (.int .i64 r1) ∧ Kd.R Kd.string 9 w' w0.heap.size (fun k_ => (P0_ k_ ∨ w.heap.size ≤ k_)) u9000_ r2 ∧ Below w0.heap.size w0 w' ∧ Kept w w' (fun k_ => P0_ k_) := by
 have HO0 := Aside0.mk (show Kd.R Kd.string 9 w w0.heap.size (fun k_ => (P0_ k_ ∨ w.heap.size ≤ k_)) u9000_ l0 from Kd.R_mono ho0 (fun k_ hk => (.inl hk)));have HK := Aside0.mk (Kept.refl w (fun k_ => P0_ k_));have HW0 := Aside0.mk hB.size;have HB := Aside0.mk hB;clear hB;have H : (laws_markStringS.l0 k l0 a1 0) = some (r1, r2) := h;clear h;have H' := Aside0.mk H;clear H;go_enter Try.func28, Try.ntmps28;go_wp2;go_loopg [1, 5] k (fun kq v1 v5 w' => ∃ (x0_1 : List ByteArray) (x1_1 : Int) (x5_1 : Int), v1 = .int .i64 x1_1 ∧ v5 = .int .i64 x5_1 ∧ Aside0 (laws_markStringS.l0 kq x0_1 x1_1 x5_1 = some (r1, r2)) ∧ Aside0 (kq ≤ k) ∧ Aside0 (Kd.R Kd.string 9 w' w0.heap.size (fun k_ => (P0_ k_ ∨ w.heap.size ≤ k_)) u9000_ x0_1) ∧ Aside0 (Kept w w' (fun k_ => P0_ k_)) ∧ Aside0 (Below w0.heap.size w0 w'));(case atStart => exact ⟨(l0), (a1), (0), ls_, ls_, H', ⟨Nat.le_refl _⟩, ⟨rr_ HO0.out⟩, ⟨by repeat (first | (with_reducible first | exact HK.out | apply Kept.alloc | apply Kept.drewN | apply Kept.drew) | exact HK.out)⟩, ⟨bw_ HB.out⟩⟩)
 case round =>
  clear H'
  try clear c2
  try clear p2
  obtain ⟨x0_1, x1_1, x5_1, rfl, rfl, HA, HK1, HO_0, HK, HB⟩ := hrel
  cases gk with
  | zero => exact absurd HA.out (by simp [laws_markStringS.l0])
  | succ k1 =>
   have H := HA.out
   clear HA
   simp only [laws_markStringS.l0] at H
   by_cases c3 : x5_1 < (x0_1.length : Int)
   ·rw [if_pos c3] at H
    have c3b0 : decide (x5_1 < (x0_1.length : Int)) = true := decide_eq_true c3
    clear c3
    replace H := Option.bind_eq_some_iff.mp H
    obtain ⟨t343, A40, H⟩ := H
    replace H : (if 0 ≤ x5_1 then (laws_markStringS.l0 k1 (x0_1.set (x5_1 : Int).toNat t343) (wrap64 (x1_1 + 1)) (wrap64 (x5_1 + 1))) else (none)) = some (r1, r2) := H
    have A4 := Aside0.mk A40
    clear A40
    by_cases c5 : 0 ≤ x5_1
    ·rw [if_pos c5] at H
     have c5b0 : decide (0 ≤ x5_1) = true := decide_eq_true c5
     clear c5
     obtain ⟨y344, hy344⟩ : ∃ y_ : List ByteArray, y_ = (x0_1.set (x5_1 : Int).toNat t343) := ⟨_, rfl⟩
     replace H : (laws_markStringS.l0 k1 y344 (wrap64 (x1_1 + 1)) (wrap64 (x5_1 + 1))) = some (r1, r2) := by first | (rw [hy344];with_reducible exact H) | (have H2_ := (Option.bind_some _ _).symm.trans H;rw [hy344];with_reducible exact H2_) | (have H2_ := (Option.bind_some _ _).symm.trans H;with_reducible exact H2_) | with_reducible exact H | (rw [hy344];exact H) | exact H
     have Ny344 := Aside0.mk hy344
     clear hy344
     have H' := Aside0.mk H
     clear H
     obtain ⟨Ao7, co7, eo7⟩ := Kd.R_slice HO_0.out
     subst eo7
     go_wp2_with (first | ((with_reducible refine gate_callee (f := 69) rfl ?_);refine goesL_ (some 15) rfl rfl Try.func69 (by kernel_rfl) rfl #[.int .i64 x1_1] rfl lf_ ?_;(with_reducible refine (laws_markText.calls k1 x1_1 t343 _ A4.out).mono ?_);rintro e w8 ⟨rfl, hb⟩;refine ⟨_, rfl, ?_⟩;have n0_ := Aside0.mk (Kd.R_below (rr_ HO_0.out) hb);have n1_ := Aside0.mk (Kept.below (S := (fun k_ => P0_ k_)) (by repeat (first | (with_reducible first | exact HK.out | apply Kept.alloc | apply Kept.drewN | apply Kept.drew) | exact HK.out)) hb);have n2_ := Aside0.mk (below_step (bw_ HB.out) hb);clear HO_0;clear HK;clear HB;have HO_0 := n0_;have HK := n1_;have HB := n2_;clear n0_ n1_ n2_;(try clear hb);(try clear hb2);(try clear hk);(try clear hi);have p6 : 0 ≤ (x5_1 : Int) := od_;have q6 : (x5_1 : Int) < ((x0_1.length : Int) : Int) := od_;obtain ⟨go6, co6, eo6, gb6, gl6, cl6, HG6⟩ := Kd.R_form HO_0.out (by omega);(first | cases eo6 | (injection eo6 with ea_ en_ ec_;(first | subst ea_ | (injection ea_ with ea_;subst ea_));subst ec_;clear en_));have GB6 := Aside0.mk gb6;have GG6 := Aside0.mk HG6;clear gb6 gl6 HG6;have HMgo6 := Aside0.mk (show (P0_ go6 ∨ w.heap.size ≤ go6) from (HO_0.out.1 _ rfl));obtain ⟨hx6_0, hf6_0⟩ := Kd.R_celln (⟨#[]⟩ : ByteArray) HO_0.out (x5_1 : Int) p6 q6;replace p6 := eq_true p6;replace q6 := eq_true q6;obtain ⟨hy9_, hz9_⟩ := Kd.R_celln (⟨#[]⟩ : ByteArray) HO_0.out (x5_1 : Int) od_ od_;have HP9 := Kd.R_putg HO_0.out (x5_1 : Int) t343) | ((with_reducible refine gate_store (t := 9) (p := 16) rfl ?_);refine store_event (t := 9) (p := 16) (v := ?vo_w10) (w1 := (w8.setCell ⟨go6, (x5_1 : Int).toNat, none⟩ (.string t343))) ?hg ?ho ?hn ?hr ?_;(case ho => rfl);(case hg => rfl);(case hn => rfl);(case hr => first | (go_simp;done) | (go_simp;rfl));intro w10 hw;have hg : w8.grownBy w10 (some go6) := (by rw [hw];exact HP9.2);have hp_ : Kd.R Kd.string 9 w10 w0.heap.size (fun k_ => (P0_ k_ ∨ w.heap.size ≤ k_)) (.slice (some ⟨go6, 0, none⟩) x0_1.length co7) y344 := (by rw [hw, Ny344.out];exact HP9.1);clear HP9;have n0_ := Aside0.mk (hp_);have n1_ := Aside0.mk ((by rw [hw];exact below_set (HB.out) GB6.out : Below w0.heap.size w0 w10));have n2_ := Aside0.mk (Kept.of_grown (S := (fun k_ => P0_ k_)) hg (by repeat (first | (with_reducible first | exact HK.out | apply Kept.alloc | apply Kept.drewN | apply Kept.drew) | exact HK.out)) (fun k_ e_ => (HO_0.out.1 k_ e_)));clear HO_0;clear HB;clear HK;have HO_0 := n0_;have HB := n1_;have HK := n2_;clear n0_ n1_ n2_;clear hg hw hp_))
     go_roundg k1
     case measure => have := HK1.out;omega
     case rel => exact ⟨(y344), (wrap64 (x1_1 + 1)), (wrap64 (x5_1 + 1)), ls_, ls_, H', ⟨by have := HK1.out;omega⟩, ⟨rr_ HO_0.out⟩, ⟨by repeat (first | (with_reducible first | exact HK.out | apply Kept.alloc | apply Kept.drewN | apply Kept.drew) | exact HK.out)⟩, ⟨bw_ HB.out⟩⟩
    ·rw [if_neg c5] at H
     exact absurd H (by simp)
   ·rw [if_neg c3] at H
    have c3b0 : decide (x5_1 < (x0_1.length : Int)) = false := decide_eq_false c3
    clear c3
    simp only [Option.some.injEq, Prod.mk.injEq] at H
    obtain ⟨rfl, rfl⟩ := H
    obtain ⟨Ao11, co11, eo11⟩ := Kd.R_slice HO_0.out
    subst eo11
    go_wp2
    go_ret
    exact ⟨by first | rfl | (simp [errW_none, errW_some] <;> rfl) | (simp [*, errW_none, errW_some] <;> rfl), rr_ HO_0.out, bw_ HB.out, by repeat (first | (with_reducible first | exact HK.out | apply Kept.alloc | apply Kept.drewN | apply Kept.drew) | exact HK.out)⟩
end Go.Proofs.Ytjngmhngedecdaa.P
end
section
namespace Go.Proofs.Ytjngmhngedecdaa.P
open Go.RowKit Go.Proofs.YtjngmhngedecdaaW.PrintWords Go.Proofs.YtjngmhngedecdaaW.PrintLast Go.Proofs.YtjngmhngedecdaaW.PrintMore
attribute [local go_sem] max2_int min2_int max_two min_two max_three min_three max_four min_four
set_option linter.unusedVariables false
set_option linter.unusedSimpArgs false
def laws_eqChunk.f (k : Nat) (a0_0 : Int) (l0_1 : List ByteArray) (l0_2 : List ByteArray) (l0_3 : List ByteArray) (a1_0 : Int) (l1_1 : List ByteArray) (l1_2 : List ByteArray) (l1_3 : List ByteArray) : Option (Bool) := if a0_0 = a1_0 then ((laws_eqStringS.f k l0_1 l1_1).bind fun t523 => (if t523 = true then ((laws_eqStringS.f k l0_2 l1_2).bind fun t524 => (if t524 = true then ((laws_eqStringS.f k l0_3 l1_3).bind fun t525 => (if t525 = true then (some true) else (some false))) else (some false))) else (some false))) else (some false)
set_option maxHeartbeats 8000000 in
set_option maxRecDepth 100000 in
theorem laws_eqChunk.calls (k : Nat) (a0_0 : Int) (A0_1 : Option Addr) (c0_1 : Nat) (l0_1 : List ByteArray) (A0_2 : Option Addr) (c0_2 : Nat) (l0_2 : List ByteArray) (A0_3 : Option Addr) (c0_3 : Nat) (l0_3 : List ByteArray) (a1_0 : Int) (A1_1 : Option Addr) (c1_1 : Nat) (l1_1 : List ByteArray) (A1_2 : Option Addr) (c1_2 : Nat) (l1_2 : List ByteArray) (A1_3 : Option Addr) (c1_3 : Nat) (l1_3 : List ByteArray) (r : Bool) (w : World) (hr0_1 : Kd.C Kd.string w A0_1 l0_1.length l0_1) (hc0_1 : l0_1.length ≤ c0_1) (hr0_2 : Kd.C Kd.string w A0_2 l0_2.length l0_2) (hc0_2 : l0_2.length ≤ c0_2) (hr0_3 : Kd.C Kd.string w A0_3 l0_3.length l0_3) (hc0_3 : l0_3.length ≤ c0_3) (hr1_1 : Kd.C Kd.string w A1_1 l1_1.length l1_1) (hc1_1 : l1_1.length ≤ c1_1) (hr1_2 : Kd.C Kd.string w A1_2 l1_2.length l1_2) (hc1_2 : l1_2.length ≤ c1_2) (hr1_3 : Kd.C Kd.string w A1_3 l1_3.length l1_3) (hc1_3 : l1_3.length ≤ c1_3) (h : laws_eqChunk.f k a0_0 l0_1 l0_2 l0_3 a1_0 l1_1 l1_2 l1_3 = some r) :
  Calls Try.prog 42 #[.agg #[.int .i64 a0_0, .slice A0_1 l0_1.length c0_1, .slice A0_2 l0_2.length c0_2, .slice A0_3 l0_3.length c0_3], .agg #[.int .i64 a1_0, .slice A1_1 l1_1.length c1_1, .slice A1_2 l1_2.length c1_2, .slice A1_3 l1_3.length c1_3]] w fun e w' => e = .returned (.bool r) ∧ Below w.heap.size w w' := by
 have hu58 := Try.underlying58;have HR0_1 := Aside0.mk hr0_1;have HC0_1 := Aside0.mk hc0_1;clear hr0_1 hc0_1;have HR0_2 := Aside0.mk hr0_2;have HC0_2 := Aside0.mk hc0_2;clear hr0_2 hc0_2;have HR0_3 := Aside0.mk hr0_3;have HC0_3 := Aside0.mk hc0_3;clear hr0_3 hc0_3;have HR1_1 := Aside0.mk hr1_1;have HC1_1 := Aside0.mk hc1_1;clear hr1_1 hc1_1;have HR1_2 := Aside0.mk hr1_2;have HC1_2 := Aside0.mk hc1_2;clear hr1_2 hc1_2;have HR1_3 := Aside0.mk hr1_3;have HC1_3 := Aside0.mk hc1_3;clear hr1_3 hc1_3;have HB := Aside0.mk (Below.refl w.heap.size w);have H : (if a0_0 = a1_0 then ((laws_eqStringS.f k l0_1 l1_1).bind fun t523 => (if t523 = true then ((laws_eqStringS.f k l0_2 l1_2).bind fun t524 => (if t524 = true then ((laws_eqStringS.f k l0_3 l1_3).bind fun t525 => (if t525 = true then (some true) else (some false))) else (some false))) else (some false))) else (some false)) = some r := h;clear h;by_cases c3 : a0_0 = a1_0;(·rw [if_pos c3] at H;have c3b0 : (a0_0 == a1_0) = true := beq_iff_eq.mpr c3;have c3b1 : (a0_0 != a1_0) = false := bne_eq_false_iff_eq.mpr c3;clear c3;replace H := Option.bind_eq_some_iff.mp H;obtain ⟨t523, A40, H⟩ := H;replace H : (if t523 = true then ((laws_eqStringS.f k l0_2 l1_2).bind fun t524 => (if t524 = true then ((laws_eqStringS.f k l0_3 l1_3).bind fun t525 => (if t525 = true then (some true) else (some false))) else (some false))) else (some false)) = some r := H;have A4 := Aside0.mk A40;clear A40;by_cases c5 : t523 = true;(·subst c5;(have H1 : ((laws_eqStringS.f k l0_2 l1_2).bind fun t524 => (if t524 = true then ((laws_eqStringS.f k l0_3 l1_3).bind fun t525 => (if t525 = true then (some true) else (some false))) else (some false))) = some r := by rw [if_pos rfl] at H;exact H);clear H;have H := H1;clear H1;replace H := Option.bind_eq_some_iff.mp H;obtain ⟨t524, A60, H⟩ := H;replace H : (if t524 = true then ((laws_eqStringS.f k l0_3 l1_3).bind fun t525 => (if t525 = true then (some true) else (some false))) else (some false)) = some r := H;have A6 := Aside0.mk A60;clear A60;by_cases c7 : t524 = true;(·subst c7;(have H1 : ((laws_eqStringS.f k l0_3 l1_3).bind fun t525 => (if t525 = true then (some true) else (some false))) = some r := by rw [if_pos rfl] at H;exact H);clear H;have H := H1;clear H1;replace H := Option.bind_eq_some_iff.mp H;obtain ⟨t525, A80, H⟩ := H;replace H : (if t525 = true then (some true) else (some false)) = some r := H;have A8 := Aside0.mk A80;clear A80;by_cases c9 : t525 = true;(·subst c9;(have H1 : (some true) = some r := by rw [if_pos rfl] at H;exact H);clear H;have H := H1;clear H1;obtain rfl := Option.some.inj H;go_enter Try.func42, Try.ntmps42;go_wp2_with (first | ((with_reducible refine gate_dst (N := 2) rfl ?_);refine box_event ?hg (N := 2) ?hd (cs := #[.int .i64 a0_0, .slice A0_1 l0_1.length c0_1, .slice A0_2 l0_2.length c0_2, .slice A0_3 l0_3.length c0_3]) (t := 58) ?hr ?_;(case hd => rfl);(case hg => rfl);(case hr => first | (go_simp;done) | (go_simp;rfl));intro gb521 hg w10 hbox hb;have n0_ := Aside0.mk (below_step (bw_ HB.out) hb);have n1_ := Aside0.mk (hbox);have n2_ := Aside0.mk ((by rw [hg];exact (below_size (bw_ HB.out)) : w.heap.size ≤ gb521));have n3_ := Aside0.mk ((by rw [hg];exact (below_size (bw_ HB.out)) : w.heap.size ≤ gb521));clear HB;have HB := n0_;have BK521 := n1_;have GW521 := n2_;have GE521 := n3_;clear n0_ n1_ n2_ n3_;clear hb hbox hg) | ((with_reducible refine gate_dst (N := 3) rfl ?_);refine box_event ?hg (N := 3) ?hd (cs := #[.int .i64 a1_0, .slice A1_1 l1_1.length c1_1, .slice A1_2 l1_2.length c1_2, .slice A1_3 l1_3.length c1_3]) (t := 58) ?hr ?_;(case hd => rfl);(case hg => rfl);(case hr => first | (go_simp;done) | (go_simp;rfl));intro gb522 hg w11 hbox hb;have n0_ := Aside0.mk (blk_below (g := gb521) (o := .cells #[.int .i64 a0_0, .slice A0_1 l0_1.length c0_1, .slice A0_2 l0_2.length c0_2, .slice A0_3 l0_3.length c0_3] 58 (0, 0)) (rb_ BK521.out) hb);have n1_ := Aside0.mk (below_step (bw1_ HB.out GE521.out) hb);have n2_ := Aside0.mk (hbox);have n3_ := Aside0.mk ((by rw [hg];exact (below_size (bw1_ HB.out GE521.out)) : w.heap.size ≤ gb522));have n4_ := Aside0.mk ((by rw [hg];exact (below_size (bw1_ HB.out GE521.out)) : w.heap.size ≤ gb522));have n5_ := Aside0.mk ((by rw [hg];exact Nat.ne_of_lt (blk_lt (g := gb521) (o := .cells #[.int .i64 a0_0, .slice A0_1 l0_1.length c0_1, .slice A0_2 l0_2.length c0_2, .slice A0_3 l0_3.length c0_3] 58 (0, 0)) (rb_ BK521.out)) : gb521 ≠ gb522));have n6_ := Aside0.mk ((by rw [hg];exact Nat.ne_of_gt (blk_lt (g := gb521) (o := .cells #[.int .i64 a0_0, .slice A0_1 l0_1.length c0_1, .slice A0_2 l0_2.length c0_2, .slice A0_3 l0_3.length c0_3] 58 (0, 0)) (rb_ BK521.out)) : gb522 ≠ gb521));clear BK521;clear HB;have BK521 := n0_;have HB := n1_;have BK522 := n2_;have GW522 := n3_;have GE522 := n4_;have NB521_522 := n5_;have NB522_521 := n6_;clear n0_ n1_ n2_ n3_ n4_ n5_ n6_;clear hb hbox hg;have hnb12 := NB521_522.out;have hnc12 := NB522_521.out;have hcz13_0 : w11.cell? ⟨gb521, 0, none⟩ = some (.int .i64 a0_0) := (blk_cell BK521.out 0).trans rfl;have hcz13_1 : w11.cell? ⟨gb521, 1, none⟩ = some (.slice A0_1 l0_1.length c0_1) := (blk_cell BK521.out 1).trans rfl;have hcz13_2 : w11.cell? ⟨gb521, 2, none⟩ = some (.slice A0_2 l0_2.length c0_2) := (blk_cell BK521.out 2).trans rfl;have hcz13_3 : w11.cell? ⟨gb521, 3, none⟩ = some (.slice A0_3 l0_3.length c0_3) := (blk_cell BK521.out 3).trans rfl;have hfz13_0 := blk_frozen BK521.out 0;have hfz13_1 := blk_frozen BK521.out 1;have hfz13_2 := blk_frozen BK521.out 2;have hfz13_3 := blk_frozen BK521.out 3;have hcz14_0 : w11.cell? ⟨gb522, 0, none⟩ = some (.int .i64 a1_0) := (blk_cell BK522.out 0).trans rfl;have hcz14_1 : w11.cell? ⟨gb522, 1, none⟩ = some (.slice A1_1 l1_1.length c1_1) := (blk_cell BK522.out 1).trans rfl;have hcz14_2 : w11.cell? ⟨gb522, 2, none⟩ = some (.slice A1_2 l1_2.length c1_2) := (blk_cell BK522.out 2).trans rfl;have hcz14_3 : w11.cell? ⟨gb522, 3, none⟩ = some (.slice A1_3 l1_3.length c1_3) := (blk_cell BK522.out 3).trans rfl;have hfz14_0 := blk_frozen BK522.out 0;have hfz14_1 := blk_frozen BK522.out 1;have hfz14_2 := blk_frozen BK522.out 2;have hfz14_3 := blk_frozen BK522.out 3) | ((with_reducible refine gate_callee (f := 27) rfl ?_);refine goesL_ (some 14) rfl rfl Try.func27 (by kernel_rfl) rfl #[.slice A0_1 l0_1.length c0_1, .slice A1_1 l1_1.length c1_1] rfl lf_ ?_;(with_reducible refine (laws_eqStringS.calls k _ _ l0_1 _ _ l1_1 true _ ?side1 ?side2 ?side3 ?side4 A4.out).mono ?_);(case side1 => exact rc_ (Kd.C_below HR0_1.out HB.out));(case side2 => exact HC0_1.out);(case side3 => exact rc_ (Kd.C_below HR1_1.out HB.out));(case side4 => exact HC1_1.out);rintro e w' ⟨rfl, ⟨nd, rfl⟩⟩;refine ⟨_, rfl, ?_⟩) | ((with_reducible refine gate_callee (f := 27) rfl ?_);refine goesL_ (some 20) rfl rfl Try.func27 (by kernel_rfl) rfl #[.slice A0_2 l0_2.length c0_2, .slice A1_2 l1_2.length c1_2] rfl lf_ ?_;(with_reducible refine (laws_eqStringS.calls k _ _ l0_2 _ _ l1_2 true _ ?side1 ?side2 ?side3 ?side4 A6.out).mono ?_);(case side1 => exact rc_ (Kd.C_below HR0_2.out (bw2_ HB.out GE521.out GE522.out)));(case side2 => exact HC0_2.out);(case side3 => exact rc_ (Kd.C_below HR1_2.out (bw2_ HB.out GE521.out GE522.out)));(case side4 => exact HC1_2.out);rintro e w' ⟨rfl, ⟨nd, rfl⟩⟩;refine ⟨_, rfl, ?_⟩) | ((with_reducible refine gate_callee (f := 27) rfl ?_);refine goesL_ (some 26) rfl rfl Try.func27 (by kernel_rfl) rfl #[.slice A0_3 l0_3.length c0_3, .slice A1_3 l1_3.length c1_3] rfl lf_ ?_;(with_reducible refine (laws_eqStringS.calls k _ _ l0_3 _ _ l1_3 true _ ?side1 ?side2 ?side3 ?side4 A8.out).mono ?_);(case side1 => exact rc_ (Kd.C_below HR0_3.out (bw2_ HB.out GE521.out GE522.out)));(case side2 => exact HC0_3.out);(case side3 => exact rc_ (Kd.C_below HR1_3.out (bw2_ HB.out GE521.out GE522.out)));(case side4 => exact HC1_3.out);rintro e w' ⟨rfl, ⟨nd, rfl⟩⟩;refine ⟨_, rfl, ?_⟩));go_ret;exact ⟨by first | rfl | (simp [errW_none, errW_some] <;> rfl) | (simp [*, errW_none, errW_some] <;> rfl), bw2_ HB.out GE521.out GE522.out⟩);·replace c9 := Bool.eq_false_iff.mpr c9;subst c9;(have H1 : (some false) = some r := by rw [if_neg (show ¬ (false = true) by decide)] at H;exact H);clear H;have H := H1;clear H1;obtain rfl := Option.some.inj H;go_enter Try.func42, Try.ntmps42;go_wp2_with (first | ((with_reducible refine gate_dst (N := 2) rfl ?_);refine box_event ?hg (N := 2) ?hd (cs := #[.int .i64 a0_0, .slice A0_1 l0_1.length c0_1, .slice A0_2 l0_2.length c0_2, .slice A0_3 l0_3.length c0_3]) (t := 58) ?hr ?_;(case hd => rfl);(case hg => rfl);(case hr => first | (go_simp;done) | (go_simp;rfl));intro gb521 hg w15 hbox hb;have n0_ := Aside0.mk (below_step (bw_ HB.out) hb);have n1_ := Aside0.mk (hbox);have n2_ := Aside0.mk ((by rw [hg];exact (below_size (bw_ HB.out)) : w.heap.size ≤ gb521));have n3_ := Aside0.mk ((by rw [hg];exact (below_size (bw_ HB.out)) : w.heap.size ≤ gb521));clear HB;have HB := n0_;have BK521 := n1_;have GW521 := n2_;have GE521 := n3_;clear n0_ n1_ n2_ n3_;clear hb hbox hg) | ((with_reducible refine gate_dst (N := 3) rfl ?_);refine box_event ?hg (N := 3) ?hd (cs := #[.int .i64 a1_0, .slice A1_1 l1_1.length c1_1, .slice A1_2 l1_2.length c1_2, .slice A1_3 l1_3.length c1_3]) (t := 58) ?hr ?_;(case hd => rfl);(case hg => rfl);(case hr => first | (go_simp;done) | (go_simp;rfl));intro gb522 hg w16 hbox hb;have n0_ := Aside0.mk (blk_below (g := gb521) (o := .cells #[.int .i64 a0_0, .slice A0_1 l0_1.length c0_1, .slice A0_2 l0_2.length c0_2, .slice A0_3 l0_3.length c0_3] 58 (0, 0)) (rb_ BK521.out) hb);have n1_ := Aside0.mk (below_step (bw1_ HB.out GE521.out) hb);have n2_ := Aside0.mk (hbox);have n3_ := Aside0.mk ((by rw [hg];exact (below_size (bw1_ HB.out GE521.out)) : w.heap.size ≤ gb522));have n4_ := Aside0.mk ((by rw [hg];exact (below_size (bw1_ HB.out GE521.out)) : w.heap.size ≤ gb522));have n5_ := Aside0.mk ((by rw [hg];exact Nat.ne_of_lt (blk_lt (g := gb521) (o := .cells #[.int .i64 a0_0, .slice A0_1 l0_1.length c0_1, .slice A0_2 l0_2.length c0_2, .slice A0_3 l0_3.length c0_3] 58 (0, 0)) (rb_ BK521.out)) : gb521 ≠ gb522));have n6_ := Aside0.mk ((by rw [hg];exact Nat.ne_of_gt (blk_lt (g := gb521) (o := .cells #[.int .i64 a0_0, .slice A0_1 l0_1.length c0_1, .slice A0_2 l0_2.length c0_2, .slice A0_3 l0_3.length c0_3] 58 (0, 0)) (rb_ BK521.out)) : gb522 ≠ gb521));clear BK521;clear HB;have BK521 := n0_;have HB := n1_;have BK522 := n2_;have GW522 := n3_;have GE522 := n4_;have NB521_522 := n5_;have NB522_521 := n6_;clear n0_ n1_ n2_ n3_ n4_ n5_ n6_;clear hb hbox hg;have hnb17 := NB521_522.out;have hnc17 := NB522_521.out;have hcz18_0 : w16.cell? ⟨gb521, 0, none⟩ = some (.int .i64 a0_0) := (blk_cell BK521.out 0).trans rfl;have hcz18_1 : w16.cell? ⟨gb521, 1, none⟩ = some (.slice A0_1 l0_1.length c0_1) := (blk_cell BK521.out 1).trans rfl;have hcz18_2 : w16.cell? ⟨gb521, 2, none⟩ = some (.slice A0_2 l0_2.length c0_2) := (blk_cell BK521.out 2).trans rfl;have hcz18_3 : w16.cell? ⟨gb521, 3, none⟩ = some (.slice A0_3 l0_3.length c0_3) := (blk_cell BK521.out 3).trans rfl;have hfz18_0 := blk_frozen BK521.out 0;have hfz18_1 := blk_frozen BK521.out 1;have hfz18_2 := blk_frozen BK521.out 2;have hfz18_3 := blk_frozen BK521.out 3;have hcz19_0 : w16.cell? ⟨gb522, 0, none⟩ = some (.int .i64 a1_0) := (blk_cell BK522.out 0).trans rfl;have hcz19_1 : w16.cell? ⟨gb522, 1, none⟩ = some (.slice A1_1 l1_1.length c1_1) := (blk_cell BK522.out 1).trans rfl;have hcz19_2 : w16.cell? ⟨gb522, 2, none⟩ = some (.slice A1_2 l1_2.length c1_2) := (blk_cell BK522.out 2).trans rfl;have hcz19_3 : w16.cell? ⟨gb522, 3, none⟩ = some (.slice A1_3 l1_3.length c1_3) := (blk_cell BK522.out 3).trans rfl;have hfz19_0 := blk_frozen BK522.out 0;have hfz19_1 := blk_frozen BK522.out 1;have hfz19_2 := blk_frozen BK522.out 2;have hfz19_3 := blk_frozen BK522.out 3) | ((with_reducible refine gate_callee (f := 27) rfl ?_);refine goesL_ (some 14) rfl rfl Try.func27 (by kernel_rfl) rfl #[.slice A0_1 l0_1.length c0_1, .slice A1_1 l1_1.length c1_1] rfl lf_ ?_;(with_reducible refine (laws_eqStringS.calls k _ _ l0_1 _ _ l1_1 true _ ?side1 ?side2 ?side3 ?side4 A4.out).mono ?_);(case side1 => exact rc_ (Kd.C_below HR0_1.out HB.out));(case side2 => exact HC0_1.out);(case side3 => exact rc_ (Kd.C_below HR1_1.out HB.out));(case side4 => exact HC1_1.out);rintro e w' ⟨rfl, ⟨nd, rfl⟩⟩;refine ⟨_, rfl, ?_⟩) | ((with_reducible refine gate_callee (f := 27) rfl ?_);refine goesL_ (some 20) rfl rfl Try.func27 (by kernel_rfl) rfl #[.slice A0_2 l0_2.length c0_2, .slice A1_2 l1_2.length c1_2] rfl lf_ ?_;(with_reducible refine (laws_eqStringS.calls k _ _ l0_2 _ _ l1_2 true _ ?side1 ?side2 ?side3 ?side4 A6.out).mono ?_);(case side1 => exact rc_ (Kd.C_below HR0_2.out (bw2_ HB.out GE521.out GE522.out)));(case side2 => exact HC0_2.out);(case side3 => exact rc_ (Kd.C_below HR1_2.out (bw2_ HB.out GE521.out GE522.out)));(case side4 => exact HC1_2.out);rintro e w' ⟨rfl, ⟨nd, rfl⟩⟩;refine ⟨_, rfl, ?_⟩) | ((with_reducible refine gate_callee (f := 27) rfl ?_);refine goesL_ (some 26) rfl rfl Try.func27 (by kernel_rfl) rfl #[.slice A0_3 l0_3.length c0_3, .slice A1_3 l1_3.length c1_3] rfl lf_ ?_;(with_reducible refine (laws_eqStringS.calls k _ _ l0_3 _ _ l1_3 false _ ?side1 ?side2 ?side3 ?side4 A8.out).mono ?_);(case side1 => exact rc_ (Kd.C_below HR0_3.out (bw2_ HB.out GE521.out GE522.out)));(case side2 => exact HC0_3.out);(case side3 => exact rc_ (Kd.C_below HR1_3.out (bw2_ HB.out GE521.out GE522.out)));(case side4 => exact HC1_3.out);rintro e w' ⟨rfl, ⟨nd, rfl⟩⟩;refine ⟨_, rfl, ?_⟩));go_ret;exact ⟨by first | rfl | (simp [errW_none, errW_some] <;> rfl) | (simp [*, errW_none, errW_some] <;> rfl), bw2_ HB.out GE521.out GE522.out⟩);·replace c7 := Bool.eq_false_iff.mpr c7;subst c7;(have H1 : (some false) = some r := by rw [if_neg (show ¬ (false = true) by decide)] at H;exact H);clear H;have H := H1;clear H1;obtain rfl := Option.some.inj H;go_enter Try.func42, Try.ntmps42;go_wp2_with (first | ((with_reducible refine gate_dst (N := 2) rfl ?_);refine box_event ?hg (N := 2) ?hd (cs := #[.int .i64 a0_0, .slice A0_1 l0_1.length c0_1, .slice A0_2 l0_2.length c0_2, .slice A0_3 l0_3.length c0_3]) (t := 58) ?hr ?_;(case hd => rfl);(case hg => rfl);(case hr => first | (go_simp;done) | (go_simp;rfl));intro gb521 hg w20 hbox hb;have n0_ := Aside0.mk (below_step (bw_ HB.out) hb);have n1_ := Aside0.mk (hbox);have n2_ := Aside0.mk ((by rw [hg];exact (below_size (bw_ HB.out)) : w.heap.size ≤ gb521));have n3_ := Aside0.mk ((by rw [hg];exact (below_size (bw_ HB.out)) : w.heap.size ≤ gb521));clear HB;have HB := n0_;have BK521 := n1_;have GW521 := n2_;have GE521 := n3_;clear n0_ n1_ n2_ n3_;clear hb hbox hg) | ((with_reducible refine gate_dst (N := 3) rfl ?_);refine box_event ?hg (N := 3) ?hd (cs := #[.int .i64 a1_0, .slice A1_1 l1_1.length c1_1, .slice A1_2 l1_2.length c1_2, .slice A1_3 l1_3.length c1_3]) (t := 58) ?hr ?_;(case hd => rfl);(case hg => rfl);(case hr => first | (go_simp;done) | (go_simp;rfl));intro gb522 hg w21 hbox hb;have n0_ := Aside0.mk (blk_below (g := gb521) (o := .cells #[.int .i64 a0_0, .slice A0_1 l0_1.length c0_1, .slice A0_2 l0_2.length c0_2, .slice A0_3 l0_3.length c0_3] 58 (0, 0)) (rb_ BK521.out) hb);have n1_ := Aside0.mk (below_step (bw1_ HB.out GE521.out) hb);have n2_ := Aside0.mk (hbox);have n3_ := Aside0.mk ((by rw [hg];exact (below_size (bw1_ HB.out GE521.out)) : w.heap.size ≤ gb522));have n4_ := Aside0.mk ((by rw [hg];exact (below_size (bw1_ HB.out GE521.out)) : w.heap.size ≤ gb522));have n5_ := Aside0.mk ((by rw [hg];exact Nat.ne_of_lt (blk_lt (g := gb521) (o := .cells #[.int .i64 a0_0, .slice A0_1 l0_1.length c0_1, .slice A0_2 l0_2.length c0_2, .slice A0_3 l0_3.length c0_3] 58 (0, 0)) (rb_ BK521.out)) : gb521 ≠ gb522));have n6_ := Aside0.mk ((by rw [hg];exact Nat.ne_of_gt (blk_lt (g := gb521) (o := .cells #[.int .i64 a0_0, .slice A0_1 l0_1.length c0_1, .slice A0_2 l0_2.length c0_2, .slice A0_3 l0_3.length c0_3] 58 (0, 0)) (rb_ BK521.out)) : gb522 ≠ gb521));clear BK521;clear HB;have BK521 := n0_;have HB := n1_;have BK522 := n2_;have GW522 := n3_;have GE522 := n4_;have NB521_522 := n5_;have NB522_521 := n6_;clear n0_ n1_ n2_ n3_ n4_ n5_ n6_;clear hb hbox hg;have hnb22 := NB521_522.out;have hnc22 := NB522_521.out;have hcz23_0 : w21.cell? ⟨gb521, 0, none⟩ = some (.int .i64 a0_0) := (blk_cell BK521.out 0).trans rfl;have hcz23_1 : w21.cell? ⟨gb521, 1, none⟩ = some (.slice A0_1 l0_1.length c0_1) := (blk_cell BK521.out 1).trans rfl;have hcz23_2 : w21.cell? ⟨gb521, 2, none⟩ = some (.slice A0_2 l0_2.length c0_2) := (blk_cell BK521.out 2).trans rfl;have hcz23_3 : w21.cell? ⟨gb521, 3, none⟩ = some (.slice A0_3 l0_3.length c0_3) := (blk_cell BK521.out 3).trans rfl;have hfz23_0 := blk_frozen BK521.out 0;have hfz23_1 := blk_frozen BK521.out 1;have hfz23_2 := blk_frozen BK521.out 2;have hfz23_3 := blk_frozen BK521.out 3;have hcz24_0 : w21.cell? ⟨gb522, 0, none⟩ = some (.int .i64 a1_0) := (blk_cell BK522.out 0).trans rfl;have hcz24_1 : w21.cell? ⟨gb522, 1, none⟩ = some (.slice A1_1 l1_1.length c1_1) := (blk_cell BK522.out 1).trans rfl;have hcz24_2 : w21.cell? ⟨gb522, 2, none⟩ = some (.slice A1_2 l1_2.length c1_2) := (blk_cell BK522.out 2).trans rfl;have hcz24_3 : w21.cell? ⟨gb522, 3, none⟩ = some (.slice A1_3 l1_3.length c1_3) := (blk_cell BK522.out 3).trans rfl;have hfz24_0 := blk_frozen BK522.out 0;have hfz24_1 := blk_frozen BK522.out 1;have hfz24_2 := blk_frozen BK522.out 2;have hfz24_3 := blk_frozen BK522.out 3) | ((with_reducible refine gate_callee (f := 27) rfl ?_);refine goesL_ (some 14) rfl rfl Try.func27 (by kernel_rfl) rfl #[.slice A0_1 l0_1.length c0_1, .slice A1_1 l1_1.length c1_1] rfl lf_ ?_;(with_reducible refine (laws_eqStringS.calls k _ _ l0_1 _ _ l1_1 true _ ?side1 ?side2 ?side3 ?side4 A4.out).mono ?_);(case side1 => exact rc_ (Kd.C_below HR0_1.out HB.out));(case side2 => exact HC0_1.out);(case side3 => exact rc_ (Kd.C_below HR1_1.out HB.out));(case side4 => exact HC1_1.out);rintro e w' ⟨rfl, ⟨nd, rfl⟩⟩;refine ⟨_, rfl, ?_⟩) | ((with_reducible refine gate_callee (f := 27) rfl ?_);refine goesL_ (some 20) rfl rfl Try.func27 (by kernel_rfl) rfl #[.slice A0_2 l0_2.length c0_2, .slice A1_2 l1_2.length c1_2] rfl lf_ ?_;(with_reducible refine (laws_eqStringS.calls k _ _ l0_2 _ _ l1_2 false _ ?side1 ?side2 ?side3 ?side4 A6.out).mono ?_);(case side1 => exact rc_ (Kd.C_below HR0_2.out (bw2_ HB.out GE521.out GE522.out)));(case side2 => exact HC0_2.out);(case side3 => exact rc_ (Kd.C_below HR1_2.out (bw2_ HB.out GE521.out GE522.out)));(case side4 => exact HC1_2.out);rintro e w' ⟨rfl, ⟨nd, rfl⟩⟩;refine ⟨_, rfl, ?_⟩));go_ret;exact ⟨by first | rfl | (simp [errW_none, errW_some] <;> rfl) | (simp [*, errW_none, errW_some] <;> rfl), bw2_ HB.out GE521.out GE522.out⟩);·replace c5 := Bool.eq_false_iff.mpr c5;subst c5;(have H1 : (some false) = some r := by rw [if_neg (show ¬ (false = true) by decide)] at H;exact H);clear H;have H := H1;clear H1;obtain rfl := Option.some.inj H;go_enter Try.func42, Try.ntmps42;go_wp2_with (first | ((with_reducible refine gate_dst (N := 2) rfl ?_);refine box_event ?hg (N := 2) ?hd (cs := #[.int .i64 a0_0, .slice A0_1 l0_1.length c0_1, .slice A0_2 l0_2.length c0_2, .slice A0_3 l0_3.length c0_3]) (t := 58) ?hr ?_;(case hd => rfl);(case hg => rfl);(case hr => first | (go_simp;done) | (go_simp;rfl));intro gb521 hg w25 hbox hb;have n0_ := Aside0.mk (below_step (bw_ HB.out) hb);have n1_ := Aside0.mk (hbox);have n2_ := Aside0.mk ((by rw [hg];exact (below_size (bw_ HB.out)) : w.heap.size ≤ gb521));have n3_ := Aside0.mk ((by rw [hg];exact (below_size (bw_ HB.out)) : w.heap.size ≤ gb521));clear HB;have HB := n0_;have BK521 := n1_;have GW521 := n2_;have GE521 := n3_;clear n0_ n1_ n2_ n3_;clear hb hbox hg) | ((with_reducible refine gate_dst (N := 3) rfl ?_);refine box_event ?hg (N := 3) ?hd (cs := #[.int .i64 a1_0, .slice A1_1 l1_1.length c1_1, .slice A1_2 l1_2.length c1_2, .slice A1_3 l1_3.length c1_3]) (t := 58) ?hr ?_;(case hd => rfl);(case hg => rfl);(case hr => first | (go_simp;done) | (go_simp;rfl));intro gb522 hg w26 hbox hb;have n0_ := Aside0.mk (blk_below (g := gb521) (o := .cells #[.int .i64 a0_0, .slice A0_1 l0_1.length c0_1, .slice A0_2 l0_2.length c0_2, .slice A0_3 l0_3.length c0_3] 58 (0, 0)) (rb_ BK521.out) hb);have n1_ := Aside0.mk (below_step (bw1_ HB.out GE521.out) hb);have n2_ := Aside0.mk (hbox);have n3_ := Aside0.mk ((by rw [hg];exact (below_size (bw1_ HB.out GE521.out)) : w.heap.size ≤ gb522));have n4_ := Aside0.mk ((by rw [hg];exact (below_size (bw1_ HB.out GE521.out)) : w.heap.size ≤ gb522));have n5_ := Aside0.mk ((by rw [hg];exact Nat.ne_of_lt (blk_lt (g := gb521) (o := .cells #[.int .i64 a0_0, .slice A0_1 l0_1.length c0_1, .slice A0_2 l0_2.length c0_2, .slice A0_3 l0_3.length c0_3] 58 (0, 0)) (rb_ BK521.out)) : gb521 ≠ gb522));have n6_ := Aside0.mk ((by rw [hg];exact Nat.ne_of_gt (blk_lt (g := gb521) (o := .cells #[.int .i64 a0_0, .slice A0_1 l0_1.length c0_1, .slice A0_2 l0_2.length c0_2, .slice A0_3 l0_3.length c0_3] 58 (0, 0)) (rb_ BK521.out)) : gb522 ≠ gb521));clear BK521;clear HB;have BK521 := n0_;have HB := n1_;have BK522 := n2_;have GW522 := n3_;have GE522 := n4_;have NB521_522 := n5_;have NB522_521 := n6_;clear n0_ n1_ n2_ n3_ n4_ n5_ n6_;clear hb hbox hg;have hnb27 := NB521_522.out;have hnc27 := NB522_521.out;have hcz28_0 : w26.cell? ⟨gb521, 0, none⟩ = some (.int .i64 a0_0) := (blk_cell BK521.out 0).trans rfl;have hcz28_1 : w26.cell? ⟨gb521, 1, none⟩ = some (.slice A0_1 l0_1.length c0_1) := (blk_cell BK521.out 1).trans rfl;have hcz28_2 : w26.cell? ⟨gb521, 2, none⟩ = some (.slice A0_2 l0_2.length c0_2) := (blk_cell BK521.out 2).trans rfl;have hcz28_3 : w26.cell? ⟨gb521, 3, none⟩ = some (.slice A0_3 l0_3.length c0_3) := (blk_cell BK521.out 3).trans rfl;have hfz28_0 := blk_frozen BK521.out 0;have hfz28_1 := blk_frozen BK521.out 1;have hfz28_2 := blk_frozen BK521.out 2;have hfz28_3 := blk_frozen BK521.out 3;have hcz29_0 : w26.cell? ⟨gb522, 0, none⟩ = some (.int .i64 a1_0) := (blk_cell BK522.out 0).trans rfl;have hcz29_1 : w26.cell? ⟨gb522, 1, none⟩ = some (.slice A1_1 l1_1.length c1_1) := (blk_cell BK522.out 1).trans rfl;have hcz29_2 : w26.cell? ⟨gb522, 2, none⟩ = some (.slice A1_2 l1_2.length c1_2) := (blk_cell BK522.out 2).trans rfl;have hcz29_3 : w26.cell? ⟨gb522, 3, none⟩ = some (.slice A1_3 l1_3.length c1_3) := (blk_cell BK522.out 3).trans rfl;have hfz29_0 := blk_frozen BK522.out 0;have hfz29_1 := blk_frozen BK522.out 1;have hfz29_2 := blk_frozen BK522.out 2;have hfz29_3 := blk_frozen BK522.out 3) | ((with_reducible refine gate_callee (f := 27) rfl ?_);refine goesL_ (some 14) rfl rfl Try.func27 (by kernel_rfl) rfl #[.slice A0_1 l0_1.length c0_1, .slice A1_1 l1_1.length c1_1] rfl lf_ ?_;(with_reducible refine (laws_eqStringS.calls k _ _ l0_1 _ _ l1_1 false _ ?side1 ?side2 ?side3 ?side4 A4.out).mono ?_);(case side1 => exact rc_ (Kd.C_below HR0_1.out HB.out));(case side2 => exact HC0_1.out);(case side3 => exact rc_ (Kd.C_below HR1_1.out HB.out));(case side4 => exact HC1_1.out);rintro e w' ⟨rfl, ⟨nd, rfl⟩⟩;refine ⟨_, rfl, ?_⟩));go_ret;exact ⟨by first | rfl | (simp [errW_none, errW_some] <;> rfl) | (simp [*, errW_none, errW_some] <;> rfl), bw2_ HB.out GE521.out GE522.out⟩);·rw [if_neg c3] at H;have c3b0 : (a0_0 == a1_0) = false := beq_eq_false_iff_ne.mpr c3;have c3b1 : (a0_0 != a1_0) = true := bne_iff_ne.mpr c3;obtain rfl := Option.some.inj H;go_enter Try.func42, Try.ntmps42;go_wp2_with (first | ((with_reducible refine gate_dst (N := 2) rfl ?_);refine box_event ?hg (N := 2) ?hd (cs := #[.int .i64 a0_0, .slice A0_1 l0_1.length c0_1, .slice A0_2 l0_2.length c0_2, .slice A0_3 l0_3.length c0_3]) (t := 58) ?hr ?_;(case hd => rfl);(case hg => rfl);(case hr => first | (go_simp;done) | (go_simp;rfl));intro gb521 hg w30 hbox hb;have n0_ := Aside0.mk (below_step (bw_ HB.out) hb);have n1_ := Aside0.mk (hbox);have n2_ := Aside0.mk ((by rw [hg];exact (below_size (bw_ HB.out)) : w.heap.size ≤ gb521));have n3_ := Aside0.mk ((by rw [hg];exact (below_size (bw_ HB.out)) : w.heap.size ≤ gb521));clear HB;have HB := n0_;have BK521 := n1_;have GW521 := n2_;have GE521 := n3_;clear n0_ n1_ n2_ n3_;clear hb hbox hg) | ((with_reducible refine gate_dst (N := 3) rfl ?_);refine box_event ?hg (N := 3) ?hd (cs := #[.int .i64 a1_0, .slice A1_1 l1_1.length c1_1, .slice A1_2 l1_2.length c1_2, .slice A1_3 l1_3.length c1_3]) (t := 58) ?hr ?_;(case hd => rfl);(case hg => rfl);(case hr => first | (go_simp;done) | (go_simp;rfl));intro gb522 hg w31 hbox hb;have n0_ := Aside0.mk (blk_below (g := gb521) (o := .cells #[.int .i64 a0_0, .slice A0_1 l0_1.length c0_1, .slice A0_2 l0_2.length c0_2, .slice A0_3 l0_3.length c0_3] 58 (0, 0)) (rb_ BK521.out) hb);have n1_ := Aside0.mk (below_step (bw1_ HB.out GE521.out) hb);have n2_ := Aside0.mk (hbox);have n3_ := Aside0.mk ((by rw [hg];exact (below_size (bw1_ HB.out GE521.out)) : w.heap.size ≤ gb522));have n4_ := Aside0.mk ((by rw [hg];exact (below_size (bw1_ HB.out GE521.out)) : w.heap.size ≤ gb522));have n5_ := Aside0.mk ((by rw [hg];exact Nat.ne_of_lt (blk_lt (g := gb521) (o := .cells #[.int .i64 a0_0, .slice A0_1 l0_1.length c0_1, .slice A0_2 l0_2.length c0_2, .slice A0_3 l0_3.length c0_3] 58 (0, 0)) (rb_ BK521.out)) : gb521 ≠ gb522));have n6_ := Aside0.mk ((by rw [hg];exact Nat.ne_of_gt (blk_lt (g := gb521) (o := .cells #[.int .i64 a0_0, .slice A0_1 l0_1.length c0_1, .slice A0_2 l0_2.length c0_2, .slice A0_3 l0_3.length c0_3] 58 (0, 0)) (rb_ BK521.out)) : gb522 ≠ gb521));clear BK521;clear HB;have BK521 := n0_;have HB := n1_;have BK522 := n2_;have GW522 := n3_;have GE522 := n4_;have NB521_522 := n5_;have NB522_521 := n6_;clear n0_ n1_ n2_ n3_ n4_ n5_ n6_;clear hb hbox hg;have hnb32 := NB521_522.out;have hnc32 := NB522_521.out;have hcz33_0 : w31.cell? ⟨gb521, 0, none⟩ = some (.int .i64 a0_0) := (blk_cell BK521.out 0).trans rfl;have hcz33_1 : w31.cell? ⟨gb521, 1, none⟩ = some (.slice A0_1 l0_1.length c0_1) := (blk_cell BK521.out 1).trans rfl;have hcz33_2 : w31.cell? ⟨gb521, 2, none⟩ = some (.slice A0_2 l0_2.length c0_2) := (blk_cell BK521.out 2).trans rfl;have hcz33_3 : w31.cell? ⟨gb521, 3, none⟩ = some (.slice A0_3 l0_3.length c0_3) := (blk_cell BK521.out 3).trans rfl;have hfz33_0 := blk_frozen BK521.out 0;have hfz33_1 := blk_frozen BK521.out 1;have hfz33_2 := blk_frozen BK521.out 2;have hfz33_3 := blk_frozen BK521.out 3;have hcz34_0 : w31.cell? ⟨gb522, 0, none⟩ = some (.int .i64 a1_0) := (blk_cell BK522.out 0).trans rfl;have hcz34_1 : w31.cell? ⟨gb522, 1, none⟩ = some (.slice A1_1 l1_1.length c1_1) := (blk_cell BK522.out 1).trans rfl;have hcz34_2 : w31.cell? ⟨gb522, 2, none⟩ = some (.slice A1_2 l1_2.length c1_2) := (blk_cell BK522.out 2).trans rfl;have hcz34_3 : w31.cell? ⟨gb522, 3, none⟩ = some (.slice A1_3 l1_3.length c1_3) := (blk_cell BK522.out 3).trans rfl;have hfz34_0 := blk_frozen BK522.out 0;have hfz34_1 := blk_frozen BK522.out 1;have hfz34_2 := blk_frozen BK522.out 2;have hfz34_3 := blk_frozen BK522.out 3));go_ret;exact ⟨by first | rfl | (simp [errW_none, errW_some] <;> rfl) | (simp [*, errW_none, errW_some] <;> rfl), bw2_ HB.out GE521.out GE522.out⟩
end Go.Proofs.Ytjngmhngedecdaa.P
end
section
namespace Go.Proofs.Ytjngmhngedecdaa.P
open Go.RowKit Go.Proofs.YtjngmhngedecdaaW.PrintWords Go.Proofs.YtjngmhngedecdaaW.PrintLast Go.Proofs.YtjngmhngedecdaaW.PrintMore
attribute [local go_sem] max2_int min2_int max_two min_two max_three min_three max_four min_four
set_option linter.unusedVariables false
set_option linter.unusedSimpArgs false
def laws_eqChunkS.l0 : Nat → List (S58) → List (S58) → Int → Option (Bool)
 | 0, _, _, _ => none
 | k + 1, x0, x1, x5 => if x5 < (x0.length : Int) then (if 0 ≤ x5 then (if x5 < (x1.length : Int) then ((laws_eqChunk.f k ((rd_T58 x0 x5).f0) ((rd_T58 x0 x5).f1) ((rd_T58 x0 x5).f2) ((rd_T58 x0 x5).f3) ((rd_T58 x1 x5).f0) ((rd_T58 x1 x5).f1) ((rd_T58 x1 x5).f2) ((rd_T58 x1 x5).f3)).bind fun t528 => (if t528 = true then (laws_eqChunkS.l0 k x0 x1 (wrap64 (x5 + 1))) else (some false))) else (none)) else (none)) else (some true)
def laws_eqChunkS.f (k : Nat) (l0 : List (S58)) (l1 : List (S58)) : Option (Bool) := if (l0.length : Int) = (l1.length : Int) then (laws_eqChunkS.l0 k l0 l1 0) else (some false)
def laws_eqChunkS.T6 : Bool × List (List Nat × List Nat) := (true, [([], []), ([], []), ([0, 1], [0, 1]), ([2], [2]), ([], []), ([], []), ([4, 5], [4, 5]), ([6], [6]), ([3, 7], [3, 7]), ([8], [8])])
def laws_eqChunkS.B6 : List Nat := [0, 0, 3, 7, 0, 0, 48, 112, 255, 511]
theorem laws_eqChunkS.tab6 : rtab .any (opsOf Try.f35 6) = laws_eqChunkS.T6 := by kernel_rfl
theorem laws_eqChunkS.bits6 : waitsOk laws_eqChunkS.T6.2 laws_eqChunkS.B6 = true := by kernel_rfl
set_option maxHeartbeats 8000000 in
set_option maxRecDepth 100000 in
theorem laws_eqChunkS.calls (k : Nat) (A0 : Option Addr) (c0 : Nat) (l0 : List (S58)) (A1 : Option Addr) (c1 : Nat) (l1 : List (S58)) (r : Bool) (w : World) (hr0 : Kd.C k58 w A0 l0.length l0) (hc0 : l0.length ≤ c0) (hr1 : Kd.C k58 w A1 l1.length l1) (hc1 : l1.length ≤ c1) (h : laws_eqChunkS.f k l0 l1 = some r) :
  Calls Try.prog 35 #[.slice A0 l0.length c0, .slice A1 l1.length c1] w fun e w' => e = .returned (.bool r) ∧ Below w.heap.size w w' := by
 have hu58 := Try.underlying58;have HR0 := Aside0.mk hr0;have HC0 := Aside0.mk hc0;clear hr0 hc0;have HR1 := Aside0.mk hr1;have HC1 := Aside0.mk hc1;clear hr1 hc1;have HB := Aside0.mk (Below.refl w.heap.size w);have H : (if (l0.length : Int) = (l1.length : Int) then (laws_eqChunkS.l0 k l0 l1 0) else (some false)) = some r := h;clear h;by_cases c3 : (l0.length : Int) = (l1.length : Int)
 ·rw [if_pos c3] at H;have c3b0 : ((l0.length : Int) == (l1.length : Int)) = true := beq_iff_eq.mpr c3;have c3b1 : ((l0.length : Int) != (l1.length : Int)) = false := bne_eq_false_iff_eq.mpr c3;(have c3b2 : (l0.length == l1.length) = true := by first | simpa using c3 | (simp at c3 ⊢;omega));clear c3;have H' := Aside0.mk H;clear H;go_enter Try.func35, Try.ntmps35;go_wp2;go_loopg [5] k (fun kq v5 w' => ∃ (x5_1 : Int), v5 = .int .i64 x5_1 ∧ Aside0 (laws_eqChunkS.l0 kq l0 l1 x5_1 = some r) ∧ Aside0 (kq ≤ k) ∧ Aside0 (Below w.heap.size w w'));(case atStart => exact ⟨(0), ls_, H', ⟨Nat.le_refl _⟩, ⟨bw_ HB.out⟩⟩)
  case round =>
   clear H'
   try clear c1
   try clear p2
   try clear c3
   try clear c3b0
   try clear c3b1
   try clear c3b2
   obtain ⟨x5_1, rfl, HA, HK1, HB⟩ := hrel
   cases gk with
   | zero => exact absurd HA.out (by simp [laws_eqChunkS.l0])
   | succ k1 =>
    have H := HA.out
    clear HA
    simp only [laws_eqChunkS.l0] at H
    by_cases c4 : x5_1 < (l0.length : Int)
    ·rw [if_pos c4] at H
     have c4b0 : decide (x5_1 < (l0.length : Int)) = true := decide_eq_true c4
     clear c4
     by_cases c5 : 0 ≤ x5_1
     ·rw [if_pos c5] at H
      have c5b0 : decide (0 ≤ x5_1) = true := decide_eq_true c5
      clear c5
      by_cases c6 : x5_1 < (l1.length : Int)
      ·rw [if_pos c6] at H
       have c6b0 : decide (x5_1 < (l1.length : Int)) = true := decide_eq_true c6
       clear c6
       replace H := Option.bind_eq_some_iff.mp H
       obtain ⟨t528, A70, H⟩ := H
       replace H : (if t528 = true then (laws_eqChunkS.l0 k1 l0 l1 (wrap64 (x5_1 + 1))) else (some false)) = some r := H
       have A7 := Aside0.mk A70
       clear A70
       by_cases c8 : t528 = true
       ·subst c8
        have H1 : (laws_eqChunkS.l0 k1 l0 l1 (wrap64 (x5_1 + 1))) = some r := by rw [if_pos rfl] at H;exact H
        clear H
        have H := H1
        clear H1
        have H' := Aside0.mk H
        clear H
        try go_wp2
        have n0_ := Aside0.mk (below_drew1 HB.out)
        clear HB
        have HB := n0_
        clear n0_
        have p526 : 0 ≤ (x5_1 : Int) := od_
        have q526 : x5_1 < (l0.length : Int) := od_
        obtain ⟨ad526, A526_1, c526_1, A526_2, c526_2, A526_3, c526_3, e526, hx526_0, hx526_1, hx526_2, hx526_3, hl526_1, hi526_1, hl526_2, hi526_2, hl526_3, hi526_3⟩ := at_T58 HR0.out x5_1 p526 q526
        have hw526_3 := hx526_3
        have hw526_2 := hx526_2
        have hw526_1 := hx526_1
        have hw526_0 := hx526_0
        cases e526
        replace hx526_0 := hc_ HB.out hx526_0
        replace hx526_1 := hc_ HB.out hx526_1
        replace hx526_2 := hc_ HB.out hx526_2
        replace hx526_3 := hc_ HB.out hx526_3
        have HR526_1 := Aside0.mk hi526_1
        have HC526_1 := Aside0.mk hl526_1
        clear hi526_1 hl526_1
        have HR526_2 := Aside0.mk hi526_2
        have HC526_2 := Aside0.mk hl526_2
        clear hi526_2 hl526_2
        have HR526_3 := Aside0.mk hi526_3
        have HC526_3 := Aside0.mk hl526_3
        clear hi526_3 hl526_3
        replace p526 := eq_true p526
        replace q526 := eq_true q526
        have p527 : 0 ≤ (x5_1 : Int) := od_
        have q527 : x5_1 < (l1.length : Int) := od_
        obtain ⟨ad527, A527_1, c527_1, A527_2, c527_2, A527_3, c527_3, e527, hx527_0, hx527_1, hx527_2, hx527_3, hl527_1, hi527_1, hl527_2, hi527_2, hl527_3, hi527_3⟩ := at_T58 HR1.out x5_1 p527 q527
        have hw527_3 := hx527_3
        have hw527_2 := hx527_2
        have hw527_1 := hx527_1
        have hw527_0 := hx527_0
        cases e527
        replace hx527_0 := hc_ HB.out hx527_0
        replace hx527_1 := hc_ HB.out hx527_1
        replace hx527_2 := hc_ HB.out hx527_2
        replace hx527_3 := hc_ HB.out hx527_3
        have HR527_1 := Aside0.mk hi527_1
        have HC527_1 := Aside0.mk hl527_1
        clear hi527_1 hl527_1
        have HR527_2 := Aside0.mk hi527_2
        have HC527_2 := Aside0.mk hl527_2
        clear hi527_2 hl527_2
        have HR527_3 := Aside0.mk hi527_3
        have HC527_3 := Aside0.mk hl527_3
        clear hi527_3 hl527_3
        replace p527 := eq_true p527
        replace q527 := eq_true q527
        refine start_ (n := 10) (S := fun w' => w'.cell? (ad526.add ((x5_1).toNat * 4)) = some (.int .i64 ((rd_T58 l0 x5_1).f0)) ∧ w'.cell? ⟨(ad526.add ((x5_1).toNat * 4)).block, (ad526.add ((x5_1).toNat * 4)).off + 1, none⟩ = some (.slice A526_1 ((rd_T58 l0 x5_1).f1).length c526_1) ∧ w'.cell? ⟨(ad526.add ((x5_1).toNat * 4)).block, (ad526.add ((x5_1).toNat * 4)).off + 2, none⟩ = some (.slice A526_2 ((rd_T58 l0 x5_1).f2).length c526_2) ∧ w'.cell? ⟨(ad526.add ((x5_1).toNat * 4)).block, (ad526.add ((x5_1).toNat * 4)).off + 3, none⟩ = some (.slice A526_3 ((rd_T58 l0 x5_1).f3).length c526_3) ∧ w'.cell? (ad527.add ((x5_1).toNat * 4)) = some (.int .i64 ((rd_T58 l1 x5_1).f0)) ∧ w'.cell? ⟨(ad527.add ((x5_1).toNat * 4)).block, (ad527.add ((x5_1).toNat * 4)).off + 1, none⟩ = some (.slice A527_1 ((rd_T58 l1 x5_1).f1).length c527_1) ∧ w'.cell? ⟨(ad527.add ((x5_1).toNat * 4)).block, (ad527.add ((x5_1).toNat * 4)).off + 2, none⟩ = some (.slice A527_2 ((rd_T58 l1 x5_1).f2).length c527_2) ∧ w'.cell? ⟨(ad527.add ((x5_1).toNat * 4)).block, (ad527.add ((x5_1).toNat * 4)).off + 3, none⟩ = some (.slice A527_3 ((rd_T58 l1 x5_1).f3).length c527_3)) (ds := []) (mb_ 10 0) (by kernel_rfl) rfl rfl ⟨(hc_ HB.out hw526_0), (hc_ HB.out hw526_1), (hc_ HB.out hw526_2), (hc_ HB.out hw526_3), (hc_ HB.out hw527_0), (hc_ HB.out hw527_1), (hc_ HB.out hw527_2), (hc_ HB.out hw527_3)⟩ (fun hHeld => ?_);refine with_tabW laws_eqChunkS.tab6 laws_eqChunkS.bits6 (fun HT_ HW_ => ?_)
        generalize wr.drew = w9 at HB HR526_1 HR526_2 HR526_3 HR527_1 HR527_2 HR527_3 hx526_0 hx526_1 hx526_2 hx526_3 hx527_0 hx527_1 hx527_2 hx527_3 hHeld ⊢
        refine pure_ (i := 0) (N := some 17) (v := ?_) (a' := ?_) (mb_ 10 1) rfl rfl (any_of HT_.out (by kernel_rfl)) (fun _ _ _ h => h) (Or.inl ⟨by rfl, ?_⟩) ?_ ?_
        rotate_left
        ·intro w'
         go_simp
         with_reducible rfl
        rotate_left
        ·simp only [Act.put, s0_, s1_, s2_, i64_w, i32_w]
         rfl
        refine pure_ (i := 1) (N := some 18) (v := ?_) (a' := ?_) (mb_ 10 3) rfl rfl (any_of HT_.out (by kernel_rfl)) (fun _ _ _ h => h) (Or.inl ⟨by rfl, ?_⟩) ?_ ?_
        rotate_left
        ·intro w'
         go_simp
         with_reducible rfl
        rotate_left
        ·simp only [Act.put, s0_, s1_, s2_, i64_w, i32_w]
         rfl
        refine pure_ (i := 2) (N := some 19) (v := ?_) (a' := ?_) (mb_ 10 7) rfl rfl (any_of HT_.out (by kernel_rfl)) (fun _ _ _ h => h) (Or.inl ⟨by rfl, ?_⟩) ?_ ?_
        rotate_left
        ·intro w'
         go_simp
         with_reducible rfl
        rotate_left
        ·simp only [Act.put, s0_, s1_, s2_, i64_w, i32_w]
         rfl
        refine pure_ (i := 4) (N := some 21) (v := ?_) (a' := ?_) (mb_ 10 23) rfl rfl (any_of HT_.out (by kernel_rfl)) (fun _ _ _ h => h) (Or.inl ⟨by rfl, ?_⟩) ?_ ?_
        rotate_left
        ·intro w'
         go_simp
         with_reducible rfl
        rotate_left
        ·simp only [Act.put, s0_, s1_, s2_, i64_w, i32_w]
         rfl
        refine pure_ (i := 5) (N := some 22) (v := ?_) (a' := ?_) (mb_ 10 55) rfl rfl (any_of HT_.out (by kernel_rfl)) (fun _ _ _ h => h) (Or.inl ⟨by rfl, ?_⟩) ?_ ?_
        rotate_left
        ·intro w'
         go_simp
         with_reducible rfl
        rotate_left
        ·simp only [Act.put, s0_, s1_, s2_, i64_w, i32_w]
         rfl
        refine pure_ (i := 6) (N := some 23) (v := ?_) (a' := ?_) (mb_ 10 119) rfl rfl (any_of HT_.out (by kernel_rfl)) (fun _ _ _ h => h) (Or.inl ⟨by rfl, ?_⟩) ?_ ?_
        rotate_left
        ·intro w'
         go_simp
         with_reducible rfl
        rotate_left
        ·simp only [Act.put, s0_, s1_, s2_, i64_w, i32_w]
         rfl
        refine take_ (i := 3) (N := some 20) (v := ?_) (a' := ?_) (mb_ 10 127) rfl rfl (take_ofW HT_.out HW_.out (by kernel_rfl)) (fun _ _ _ h => h) (Or.inl ⟨by rfl, ?_⟩) hHeld ?_ ?_
        rotate_left
        ·rintro w' ⟨s0, s1, s2, s3, s4, s5, s6, s7⟩
         go_simp
         with_reducible rfl
        rotate_left
        ·simp only [Act.put, s0_, s1_, s2_, i64_w, i32_w]
         rfl
        refine take_ (i := 7) (N := some 24) (v := ?_) (a' := ?_) (mb_ 10 255) rfl rfl (take_ofW HT_.out HW_.out (by kernel_rfl)) (fun _ _ _ h => h) (Or.inl ⟨by rfl, ?_⟩) hHeld ?_ ?_
        rotate_left
        ·rintro w' ⟨s0, s1, s2, s3, s4, s5, s6, s7⟩
         go_simp
         with_reducible rfl
        rotate_left
        ·simp only [Act.put, s0_, s1_, s2_, i64_w, i32_w]
         rfl
        refine one_ (i := 8) (N := some 25) (mb_ 10 511) rfl rfl (one_of HT_.out (by kernel_rfl)) (by decide) (fun K hK => ?_)
        refine goes_ Try.func42 (by kernel_rfl) rfl #[.agg #[.int .i64 ((rd_T58 l0 x5_1).f0), .slice A526_1 ((rd_T58 l0 x5_1).f1).length c526_1, .slice A526_2 ((rd_T58 l0 x5_1).f2).length c526_2, .slice A526_3 ((rd_T58 l0 x5_1).f3).length c526_3], .agg #[.int .i64 ((rd_T58 l1 x5_1).f0), .slice A527_1 ((rd_T58 l1 x5_1).f1).length c527_1, .slice A527_2 ((rd_T58 l1 x5_1).f2).length c527_2, .slice A527_3 ((rd_T58 l1 x5_1).f3).length c527_3]] (by rfl) rfl rfl lf_ ?_
        with_reducible refine (laws_eqChunk.calls k1 ((rd_T58 l0 x5_1).f0) _ _ ((rd_T58 l0 x5_1).f1) _ _ ((rd_T58 l0 x5_1).f2) _ _ ((rd_T58 l0 x5_1).f3) ((rd_T58 l1 x5_1).f0) _ _ ((rd_T58 l1 x5_1).f1) _ _ ((rd_T58 l1 x5_1).f2) _ _ ((rd_T58 l1 x5_1).f3) true _ ?side1 ?side2 ?side3 ?side4 ?side5 ?side6 ?side7 ?side8 ?side9 ?side10 ?side11 ?side12 A7.out).mono ?_
        (case side1 => exact rc_ (Kd.C_below HR526_1.out HB.out))
        (case side2 => exact HC526_1.out)
        (case side3 => exact rc_ (Kd.C_below HR526_2.out HB.out))
        (case side4 => exact HC526_2.out)
        (case side5 => exact rc_ (Kd.C_below HR526_3.out HB.out))
        (case side6 => exact HC526_3.out)
        (case side7 => exact rc_ (Kd.C_below HR527_1.out HB.out))
        (case side8 => exact HC527_1.out)
        (case side9 => exact rc_ (Kd.C_below HR527_2.out HB.out))
        (case side10 => exact HC527_2.out)
        (case side11 => exact rc_ (Kd.C_below HR527_3.out HB.out))
        (case side12 => exact HC527_3.out)
        rintro e w10 ⟨rfl, hb⟩
        refine ⟨_, rfl, ?_⟩
        have n0_ := Aside0.mk (below_step (bw_ HB.out) hb)
        clear HB
        have HB := n0_
        clear n0_
        (try clear hb)
        (try clear hb2)
        (try clear hk)
        (try clear hi)
        refine hK.out _ _ ⟨(hc_ HB.out hw526_0), (hc_ HB.out hw526_1), (hc_ HB.out hw526_2), (hc_ HB.out hw526_3), (hc_ HB.out hw527_0), (hc_ HB.out hw527_1), (hc_ HB.out hw527_2), (hc_ HB.out hw527_3)⟩ (fun hHeld => ?_)
        clear hK K
        refine norm_ (a' := ?_) ?_ ?_
        rotate_left
        ·show Act.put _ (some 25) _ = _
         simp only [Act.put, s0_, s1_, s2_, i64_w, i32_w]
         rfl
        refine pure_ (i := 9) (N := some 26) (v := ?_) (a' := ?_) (mb_ 10 1023) rfl rfl (any_of HT_.out (by kernel_rfl)) (fun _ _ _ h => h) (Or.inl ⟨by rfl, ?_⟩) ?_ ?_
        rotate_left
        ·intro w'
         go_simp
         with_reducible rfl
        rotate_left
        ·simp only [Act.put, s0_, s1_, s2_, i64_w, i32_w]
         rfl
        refine done_ (done_of HT_.out (by kernel_rfl)) ?_
        try go_wp2
        go_roundg k1
        case measure => have := HK1.out;omega
        case rel => exact ⟨(wrap64 (x5_1 + 1)), ls_, H', ⟨by have := HK1.out;omega⟩, ⟨bw_ HB.out⟩⟩
       ·replace c8 := Bool.eq_false_iff.mpr c8
        subst c8
        have H1 : (some false) = some r := by rw [if_neg (show ¬ (false = true) by decide)] at H;exact H
        clear H
        have H := H1
        clear H1
        obtain rfl := Option.some.inj H
        try go_wp2
        have n0_ := Aside0.mk (below_drew1 HB.out)
        clear HB
        have HB := n0_
        clear n0_
        have p526 : 0 ≤ (x5_1 : Int) := od_
        have q526 : x5_1 < (l0.length : Int) := od_
        obtain ⟨ad526, A526_1, c526_1, A526_2, c526_2, A526_3, c526_3, e526, hx526_0, hx526_1, hx526_2, hx526_3, hl526_1, hi526_1, hl526_2, hi526_2, hl526_3, hi526_3⟩ := at_T58 HR0.out x5_1 p526 q526
        have hw526_3 := hx526_3
        have hw526_2 := hx526_2
        have hw526_1 := hx526_1
        have hw526_0 := hx526_0
        cases e526
        replace hx526_0 := hc_ HB.out hx526_0
        replace hx526_1 := hc_ HB.out hx526_1
        replace hx526_2 := hc_ HB.out hx526_2
        replace hx526_3 := hc_ HB.out hx526_3
        have HR526_1 := Aside0.mk hi526_1
        have HC526_1 := Aside0.mk hl526_1
        clear hi526_1 hl526_1
        have HR526_2 := Aside0.mk hi526_2
        have HC526_2 := Aside0.mk hl526_2
        clear hi526_2 hl526_2
        have HR526_3 := Aside0.mk hi526_3
        have HC526_3 := Aside0.mk hl526_3
        clear hi526_3 hl526_3
        replace p526 := eq_true p526
        replace q526 := eq_true q526
        have p527 : 0 ≤ (x5_1 : Int) := od_
        have q527 : x5_1 < (l1.length : Int) := od_
        obtain ⟨ad527, A527_1, c527_1, A527_2, c527_2, A527_3, c527_3, e527, hx527_0, hx527_1, hx527_2, hx527_3, hl527_1, hi527_1, hl527_2, hi527_2, hl527_3, hi527_3⟩ := at_T58 HR1.out x5_1 p527 q527
        have hw527_3 := hx527_3
        have hw527_2 := hx527_2
        have hw527_1 := hx527_1
        have hw527_0 := hx527_0
        cases e527
        replace hx527_0 := hc_ HB.out hx527_0
        replace hx527_1 := hc_ HB.out hx527_1
        replace hx527_2 := hc_ HB.out hx527_2
        replace hx527_3 := hc_ HB.out hx527_3
        have HR527_1 := Aside0.mk hi527_1
        have HC527_1 := Aside0.mk hl527_1
        clear hi527_1 hl527_1
        have HR527_2 := Aside0.mk hi527_2
        have HC527_2 := Aside0.mk hl527_2
        clear hi527_2 hl527_2
        have HR527_3 := Aside0.mk hi527_3
        have HC527_3 := Aside0.mk hl527_3
        clear hi527_3 hl527_3
        replace p527 := eq_true p527
        replace q527 := eq_true q527
        refine start_ (n := 10) (S := fun w' => w'.cell? (ad526.add ((x5_1).toNat * 4)) = some (.int .i64 ((rd_T58 l0 x5_1).f0)) ∧ w'.cell? ⟨(ad526.add ((x5_1).toNat * 4)).block, (ad526.add ((x5_1).toNat * 4)).off + 1, none⟩ = some (.slice A526_1 ((rd_T58 l0 x5_1).f1).length c526_1) ∧ w'.cell? ⟨(ad526.add ((x5_1).toNat * 4)).block, (ad526.add ((x5_1).toNat * 4)).off + 2, none⟩ = some (.slice A526_2 ((rd_T58 l0 x5_1).f2).length c526_2) ∧ w'.cell? ⟨(ad526.add ((x5_1).toNat * 4)).block, (ad526.add ((x5_1).toNat * 4)).off + 3, none⟩ = some (.slice A526_3 ((rd_T58 l0 x5_1).f3).length c526_3) ∧ w'.cell? (ad527.add ((x5_1).toNat * 4)) = some (.int .i64 ((rd_T58 l1 x5_1).f0)) ∧ w'.cell? ⟨(ad527.add ((x5_1).toNat * 4)).block, (ad527.add ((x5_1).toNat * 4)).off + 1, none⟩ = some (.slice A527_1 ((rd_T58 l1 x5_1).f1).length c527_1) ∧ w'.cell? ⟨(ad527.add ((x5_1).toNat * 4)).block, (ad527.add ((x5_1).toNat * 4)).off + 2, none⟩ = some (.slice A527_2 ((rd_T58 l1 x5_1).f2).length c527_2) ∧ w'.cell? ⟨(ad527.add ((x5_1).toNat * 4)).block, (ad527.add ((x5_1).toNat * 4)).off + 3, none⟩ = some (.slice A527_3 ((rd_T58 l1 x5_1).f3).length c527_3)) (ds := []) (mb_ 10 0) (by kernel_rfl) rfl rfl ⟨(hc_ HB.out hw526_0), (hc_ HB.out hw526_1), (hc_ HB.out hw526_2), (hc_ HB.out hw526_3), (hc_ HB.out hw527_0), (hc_ HB.out hw527_1), (hc_ HB.out hw527_2), (hc_ HB.out hw527_3)⟩ (fun hHeld => ?_);refine with_tabW laws_eqChunkS.tab6 laws_eqChunkS.bits6 (fun HT_ HW_ => ?_)
        generalize wr.drew = w11 at HB HR526_1 HR526_2 HR526_3 HR527_1 HR527_2 HR527_3 hx526_0 hx526_1 hx526_2 hx526_3 hx527_0 hx527_1 hx527_2 hx527_3 hHeld ⊢
        refine pure_ (i := 0) (N := some 17) (v := ?_) (a' := ?_) (mb_ 10 1) rfl rfl (any_of HT_.out (by kernel_rfl)) (fun _ _ _ h => h) (Or.inl ⟨by rfl, ?_⟩) ?_ ?_
        rotate_left
        ·intro w'
         go_simp
         with_reducible rfl
        rotate_left
        ·simp only [Act.put, s0_, s1_, s2_, i64_w, i32_w]
         rfl
        refine pure_ (i := 1) (N := some 18) (v := ?_) (a' := ?_) (mb_ 10 3) rfl rfl (any_of HT_.out (by kernel_rfl)) (fun _ _ _ h => h) (Or.inl ⟨by rfl, ?_⟩) ?_ ?_
        rotate_left
        ·intro w'
         go_simp
         with_reducible rfl
        rotate_left
        ·simp only [Act.put, s0_, s1_, s2_, i64_w, i32_w]
         rfl
        refine pure_ (i := 2) (N := some 19) (v := ?_) (a' := ?_) (mb_ 10 7) rfl rfl (any_of HT_.out (by kernel_rfl)) (fun _ _ _ h => h) (Or.inl ⟨by rfl, ?_⟩) ?_ ?_
        rotate_left
        ·intro w'
         go_simp
         with_reducible rfl
        rotate_left
        ·simp only [Act.put, s0_, s1_, s2_, i64_w, i32_w]
         rfl
        refine pure_ (i := 4) (N := some 21) (v := ?_) (a' := ?_) (mb_ 10 23) rfl rfl (any_of HT_.out (by kernel_rfl)) (fun _ _ _ h => h) (Or.inl ⟨by rfl, ?_⟩) ?_ ?_
        rotate_left
        ·intro w'
         go_simp
         with_reducible rfl
        rotate_left
        ·simp only [Act.put, s0_, s1_, s2_, i64_w, i32_w]
         rfl
        refine pure_ (i := 5) (N := some 22) (v := ?_) (a' := ?_) (mb_ 10 55) rfl rfl (any_of HT_.out (by kernel_rfl)) (fun _ _ _ h => h) (Or.inl ⟨by rfl, ?_⟩) ?_ ?_
        rotate_left
        ·intro w'
         go_simp
         with_reducible rfl
        rotate_left
        ·simp only [Act.put, s0_, s1_, s2_, i64_w, i32_w]
         rfl
        refine pure_ (i := 6) (N := some 23) (v := ?_) (a' := ?_) (mb_ 10 119) rfl rfl (any_of HT_.out (by kernel_rfl)) (fun _ _ _ h => h) (Or.inl ⟨by rfl, ?_⟩) ?_ ?_
        rotate_left
        ·intro w'
         go_simp
         with_reducible rfl
        rotate_left
        ·simp only [Act.put, s0_, s1_, s2_, i64_w, i32_w]
         rfl
        refine take_ (i := 3) (N := some 20) (v := ?_) (a' := ?_) (mb_ 10 127) rfl rfl (take_ofW HT_.out HW_.out (by kernel_rfl)) (fun _ _ _ h => h) (Or.inl ⟨by rfl, ?_⟩) hHeld ?_ ?_
        rotate_left
        ·rintro w' ⟨s0, s1, s2, s3, s4, s5, s6, s7⟩
         go_simp
         with_reducible rfl
        rotate_left
        ·simp only [Act.put, s0_, s1_, s2_, i64_w, i32_w]
         rfl
        refine take_ (i := 7) (N := some 24) (v := ?_) (a' := ?_) (mb_ 10 255) rfl rfl (take_ofW HT_.out HW_.out (by kernel_rfl)) (fun _ _ _ h => h) (Or.inl ⟨by rfl, ?_⟩) hHeld ?_ ?_
        rotate_left
        ·rintro w' ⟨s0, s1, s2, s3, s4, s5, s6, s7⟩
         go_simp
         with_reducible rfl
        rotate_left
        ·simp only [Act.put, s0_, s1_, s2_, i64_w, i32_w]
         rfl
        refine one_ (i := 8) (N := some 25) (mb_ 10 511) rfl rfl (one_of HT_.out (by kernel_rfl)) (by decide) (fun K hK => ?_)
        refine goes_ Try.func42 (by kernel_rfl) rfl #[.agg #[.int .i64 ((rd_T58 l0 x5_1).f0), .slice A526_1 ((rd_T58 l0 x5_1).f1).length c526_1, .slice A526_2 ((rd_T58 l0 x5_1).f2).length c526_2, .slice A526_3 ((rd_T58 l0 x5_1).f3).length c526_3], .agg #[.int .i64 ((rd_T58 l1 x5_1).f0), .slice A527_1 ((rd_T58 l1 x5_1).f1).length c527_1, .slice A527_2 ((rd_T58 l1 x5_1).f2).length c527_2, .slice A527_3 ((rd_T58 l1 x5_1).f3).length c527_3]] (by rfl) rfl rfl lf_ ?_
        with_reducible refine (laws_eqChunk.calls k1 ((rd_T58 l0 x5_1).f0) _ _ ((rd_T58 l0 x5_1).f1) _ _ ((rd_T58 l0 x5_1).f2) _ _ ((rd_T58 l0 x5_1).f3) ((rd_T58 l1 x5_1).f0) _ _ ((rd_T58 l1 x5_1).f1) _ _ ((rd_T58 l1 x5_1).f2) _ _ ((rd_T58 l1 x5_1).f3) false _ ?side1 ?side2 ?side3 ?side4 ?side5 ?side6 ?side7 ?side8 ?side9 ?side10 ?side11 ?side12 A7.out).mono ?_
        (case side1 => exact rc_ (Kd.C_below HR526_1.out HB.out))
        (case side2 => exact HC526_1.out)
        (case side3 => exact rc_ (Kd.C_below HR526_2.out HB.out))
        (case side4 => exact HC526_2.out)
        (case side5 => exact rc_ (Kd.C_below HR526_3.out HB.out))
        (case side6 => exact HC526_3.out)
        (case side7 => exact rc_ (Kd.C_below HR527_1.out HB.out))
        (case side8 => exact HC527_1.out)
        (case side9 => exact rc_ (Kd.C_below HR527_2.out HB.out))
        (case side10 => exact HC527_2.out)
        (case side11 => exact rc_ (Kd.C_below HR527_3.out HB.out))
        (case side12 => exact HC527_3.out)
        rintro e w12 ⟨rfl, hb⟩
        refine ⟨_, rfl, ?_⟩
        have n0_ := Aside0.mk (below_step (bw_ HB.out) hb)
        clear HB
        have HB := n0_
        clear n0_
        (try clear hb)
        (try clear hb2)
        (try clear hk)
        (try clear hi)
        refine hK.out _ _ ⟨(hc_ HB.out hw526_0), (hc_ HB.out hw526_1), (hc_ HB.out hw526_2), (hc_ HB.out hw526_3), (hc_ HB.out hw527_0), (hc_ HB.out hw527_1), (hc_ HB.out hw527_2), (hc_ HB.out hw527_3)⟩ (fun hHeld => ?_)
        clear hK K
        refine norm_ (a' := ?_) ?_ ?_
        rotate_left
        ·show Act.put _ (some 25) _ = _
         simp only [Act.put, s0_, s1_, s2_, i64_w, i32_w]
         rfl
        refine pure_ (i := 9) (N := some 26) (v := ?_) (a' := ?_) (mb_ 10 1023) rfl rfl (any_of HT_.out (by kernel_rfl)) (fun _ _ _ h => h) (Or.inl ⟨by rfl, ?_⟩) ?_ ?_
        rotate_left
        ·intro w'
         go_simp
         with_reducible rfl
        rotate_left
        ·simp only [Act.put, s0_, s1_, s2_, i64_w, i32_w]
         rfl
        refine done_ (done_of HT_.out (by kernel_rfl)) ?_
        try go_wp2
        go_ret
        exact ⟨by first | rfl | (simp [errW_none, errW_some] <;> rfl) | (simp [*, errW_none, errW_some] <;> rfl), bw_ HB.out⟩
      ·rw [if_neg c6] at H
       exact absurd H (by simp)
     ·rw [if_neg c5] at H
      exact absurd H (by simp)
    ·rw [if_neg c4] at H
     have c4b0 : decide (x5_1 < (l0.length : Int)) = false := decide_eq_false c4
     clear c4
     obtain rfl := Option.some.inj H
     go_wp2
     go_ret
     exact ⟨by first | rfl | (simp [errW_none, errW_some] <;> rfl) | (simp [*, errW_none, errW_some] <;> rfl), bw_ HB.out⟩
 ·rw [if_neg c3] at H;have c3b0 : ((l0.length : Int) == (l1.length : Int)) = false := beq_eq_false_iff_ne.mpr c3;have c3b1 : ((l0.length : Int) != (l1.length : Int)) = true := bne_iff_ne.mpr c3;(have c3b2 : (l0.length == l1.length) = false := by first | simpa using c3 | (simp at c3 ⊢;omega));obtain rfl := Option.some.inj H;go_enter Try.func35, Try.ntmps35;go_wp2;go_ret;exact ⟨by first | rfl | (simp [errW_none, errW_some] <;> rfl) | (simp [*, errW_none, errW_some] <;> rfl), bw_ HB.out⟩
end Go.Proofs.Ytjngmhngedecdaa.P
end
section
namespace Go.Proofs.Ytjngmhngedecdaa.P
open Go.RowKit Go.Proofs.YtjngmhngedecdaaW.PrintWords Go.Proofs.YtjngmhngedecdaaW.PrintLast Go.Proofs.YtjngmhngedecdaaW.PrintMore
attribute [local go_sem] max2_int min2_int max_two min_two max_three min_three max_four min_four
set_option linter.unusedVariables false
set_option linter.unusedSimpArgs false
def laws_eqChunksResult.f (k : Nat) (a0_0 : Int) (l0_1 : List (S58)) (a1_0 : Int) (l1_1 : List (S58)) : Option (Bool) := if a0_0 = a1_0 then ((laws_eqChunkS.f k l0_1 l1_1).bind fun t1106 => (if t1106 = true then (some true) else (some false))) else (some false)
set_option maxHeartbeats 8000000 in
set_option maxRecDepth 100000 in
theorem laws_eqChunksResult.calls (k : Nat) (a0_0 : Int) (A0_1 : Option Addr) (c0_1 : Nat) (l0_1 : List (S58)) (a1_0 : Int) (A1_1 : Option Addr) (c1_1 : Nat) (l1_1 : List (S58)) (r : Bool) (w : World) (hr0_1 : Kd.C k58 w A0_1 l0_1.length l0_1) (hc0_1 : l0_1.length ≤ c0_1) (hr1_1 : Kd.C k58 w A1_1 l1_1.length l1_1) (hc1_1 : l1_1.length ≤ c1_1) (h : laws_eqChunksResult.f k a0_0 l0_1 a1_0 l1_1 = some r) :
  Calls Try.prog 51 #[.agg #[.int .i64 a0_0, .slice A0_1 l0_1.length c0_1], .agg #[.int .i64 a1_0, .slice A1_1 l1_1.length c1_1]] w fun e w' => e = .returned (.bool r) ∧ Below w.heap.size w w' := by
 have hu71 := Try.underlying71;have HR0_1 := Aside0.mk hr0_1;have HC0_1 := Aside0.mk hc0_1;clear hr0_1 hc0_1;have HR1_1 := Aside0.mk hr1_1;have HC1_1 := Aside0.mk hc1_1;clear hr1_1 hc1_1;have HB := Aside0.mk (Below.refl w.heap.size w);have H : (if a0_0 = a1_0 then ((laws_eqChunkS.f k l0_1 l1_1).bind fun t1106 => (if t1106 = true then (some true) else (some false))) else (some false)) = some r := h;clear h;by_cases c3 : a0_0 = a1_0;(·rw [if_pos c3] at H;have c3b0 : (a0_0 == a1_0) = true := beq_iff_eq.mpr c3;have c3b1 : (a0_0 != a1_0) = false := bne_eq_false_iff_eq.mpr c3;clear c3;replace H := Option.bind_eq_some_iff.mp H;obtain ⟨t1106, A40, H⟩ := H;replace H : (if t1106 = true then (some true) else (some false)) = some r := H;have A4 := Aside0.mk A40;clear A40;by_cases c5 : t1106 = true;(·subst c5;(have H1 : (some true) = some r := by rw [if_pos rfl] at H;exact H);clear H;have H := H1;clear H1;obtain rfl := Option.some.inj H;go_enter Try.func51, Try.ntmps51;go_wp2_with (first | ((with_reducible refine gate_dst (N := 2) rfl ?_);refine box_event ?hg (N := 2) ?hd (cs := #[.int .i64 a0_0, .slice A0_1 l0_1.length c0_1]) (t := 71) ?hr ?_;(case hd => rfl);(case hg => rfl);(case hr => first | (go_simp;done) | (go_simp;rfl));intro gb1104 hg w6 hbox hb;have n0_ := Aside0.mk (below_step (bw_ HB.out) hb);have n1_ := Aside0.mk (hbox);have n2_ := Aside0.mk ((by rw [hg];exact (below_size (bw_ HB.out)) : w.heap.size ≤ gb1104));have n3_ := Aside0.mk ((by rw [hg];exact (below_size (bw_ HB.out)) : w.heap.size ≤ gb1104));clear HB;have HB := n0_;have BK1104 := n1_;have GW1104 := n2_;have GE1104 := n3_;clear n0_ n1_ n2_ n3_;clear hb hbox hg) | ((with_reducible refine gate_dst (N := 3) rfl ?_);refine box_event ?hg (N := 3) ?hd (cs := #[.int .i64 a1_0, .slice A1_1 l1_1.length c1_1]) (t := 71) ?hr ?_;(case hd => rfl);(case hg => rfl);(case hr => first | (go_simp;done) | (go_simp;rfl));intro gb1105 hg w7 hbox hb;have n0_ := Aside0.mk (blk_below (g := gb1104) (o := .cells #[.int .i64 a0_0, .slice A0_1 l0_1.length c0_1] 71 (0, 0)) (rb_ BK1104.out) hb);have n1_ := Aside0.mk (below_step (bw1_ HB.out GE1104.out) hb);have n2_ := Aside0.mk (hbox);have n3_ := Aside0.mk ((by rw [hg];exact (below_size (bw1_ HB.out GE1104.out)) : w.heap.size ≤ gb1105));have n4_ := Aside0.mk ((by rw [hg];exact (below_size (bw1_ HB.out GE1104.out)) : w.heap.size ≤ gb1105));have n5_ := Aside0.mk ((by rw [hg];exact Nat.ne_of_lt (blk_lt (g := gb1104) (o := .cells #[.int .i64 a0_0, .slice A0_1 l0_1.length c0_1] 71 (0, 0)) (rb_ BK1104.out)) : gb1104 ≠ gb1105));have n6_ := Aside0.mk ((by rw [hg];exact Nat.ne_of_gt (blk_lt (g := gb1104) (o := .cells #[.int .i64 a0_0, .slice A0_1 l0_1.length c0_1] 71 (0, 0)) (rb_ BK1104.out)) : gb1105 ≠ gb1104));clear BK1104;clear HB;have BK1104 := n0_;have HB := n1_;have BK1105 := n2_;have GW1105 := n3_;have GE1105 := n4_;have NB1104_1105 := n5_;have NB1105_1104 := n6_;clear n0_ n1_ n2_ n3_ n4_ n5_ n6_;clear hb hbox hg;have hnb8 := NB1104_1105.out;have hnc8 := NB1105_1104.out;have hcz9_0 : w7.cell? ⟨gb1104, 0, none⟩ = some (.int .i64 a0_0) := (blk_cell BK1104.out 0).trans rfl;have hcz9_1 : w7.cell? ⟨gb1104, 1, none⟩ = some (.slice A0_1 l0_1.length c0_1) := (blk_cell BK1104.out 1).trans rfl;have hfz9_0 := blk_frozen BK1104.out 0;have hfz9_1 := blk_frozen BK1104.out 1;have hcz10_0 : w7.cell? ⟨gb1105, 0, none⟩ = some (.int .i64 a1_0) := (blk_cell BK1105.out 0).trans rfl;have hcz10_1 : w7.cell? ⟨gb1105, 1, none⟩ = some (.slice A1_1 l1_1.length c1_1) := (blk_cell BK1105.out 1).trans rfl;have hfz10_0 := blk_frozen BK1105.out 0;have hfz10_1 := blk_frozen BK1105.out 1) | ((with_reducible refine gate_callee (f := 35) rfl ?_);refine goesL_ (some 14) rfl rfl Try.func35 (by kernel_rfl) rfl #[.slice A0_1 l0_1.length c0_1, .slice A1_1 l1_1.length c1_1] rfl lf_ ?_;(with_reducible refine (laws_eqChunkS.calls k _ _ l0_1 _ _ l1_1 true _ ?side1 ?side2 ?side3 ?side4 A4.out).mono ?_);(case side1 => exact rc_ (Kd.C_below HR0_1.out HB.out));(case side2 => exact HC0_1.out);(case side3 => exact rc_ (Kd.C_below HR1_1.out HB.out));(case side4 => exact HC1_1.out);rintro e w11 ⟨rfl, hb⟩;refine ⟨_, rfl, ?_⟩;have n0_ := Aside0.mk (blk_below (g := gb1104) (o := .cells #[.int .i64 a0_0, .slice A0_1 l0_1.length c0_1] 71 (0, 0)) (rb_ BK1104.out) hb);have n1_ := Aside0.mk (blk_below (g := gb1105) (o := .cells #[.int .i64 a1_0, .slice A1_1 l1_1.length c1_1] 71 (0, 0)) (rb_ BK1105.out) hb);have n2_ := Aside0.mk (below_step (bw2_ HB.out GE1104.out GE1105.out) hb);clear BK1104;clear BK1105;clear HB;have BK1104 := n0_;have BK1105 := n1_;have HB := n2_;clear n0_ n1_ n2_;(try clear hb);(try clear hb2);(try clear hk);(try clear hi)));go_ret;exact ⟨by first | rfl | (simp [errW_none, errW_some] <;> rfl) | (simp [*, errW_none, errW_some] <;> rfl), bw2_ HB.out GE1104.out GE1105.out⟩);·replace c5 := Bool.eq_false_iff.mpr c5;subst c5;(have H1 : (some false) = some r := by rw [if_neg (show ¬ (false = true) by decide)] at H;exact H);clear H;have H := H1;clear H1;obtain rfl := Option.some.inj H;go_enter Try.func51, Try.ntmps51;go_wp2_with (first | ((with_reducible refine gate_dst (N := 2) rfl ?_);refine box_event ?hg (N := 2) ?hd (cs := #[.int .i64 a0_0, .slice A0_1 l0_1.length c0_1]) (t := 71) ?hr ?_;(case hd => rfl);(case hg => rfl);(case hr => first | (go_simp;done) | (go_simp;rfl));intro gb1104 hg w12 hbox hb;have n0_ := Aside0.mk (below_step (bw_ HB.out) hb);have n1_ := Aside0.mk (hbox);have n2_ := Aside0.mk ((by rw [hg];exact (below_size (bw_ HB.out)) : w.heap.size ≤ gb1104));have n3_ := Aside0.mk ((by rw [hg];exact (below_size (bw_ HB.out)) : w.heap.size ≤ gb1104));clear HB;have HB := n0_;have BK1104 := n1_;have GW1104 := n2_;have GE1104 := n3_;clear n0_ n1_ n2_ n3_;clear hb hbox hg) | ((with_reducible refine gate_dst (N := 3) rfl ?_);refine box_event ?hg (N := 3) ?hd (cs := #[.int .i64 a1_0, .slice A1_1 l1_1.length c1_1]) (t := 71) ?hr ?_;(case hd => rfl);(case hg => rfl);(case hr => first | (go_simp;done) | (go_simp;rfl));intro gb1105 hg w13 hbox hb;have n0_ := Aside0.mk (blk_below (g := gb1104) (o := .cells #[.int .i64 a0_0, .slice A0_1 l0_1.length c0_1] 71 (0, 0)) (rb_ BK1104.out) hb);have n1_ := Aside0.mk (below_step (bw1_ HB.out GE1104.out) hb);have n2_ := Aside0.mk (hbox);have n3_ := Aside0.mk ((by rw [hg];exact (below_size (bw1_ HB.out GE1104.out)) : w.heap.size ≤ gb1105));have n4_ := Aside0.mk ((by rw [hg];exact (below_size (bw1_ HB.out GE1104.out)) : w.heap.size ≤ gb1105));have n5_ := Aside0.mk ((by rw [hg];exact Nat.ne_of_lt (blk_lt (g := gb1104) (o := .cells #[.int .i64 a0_0, .slice A0_1 l0_1.length c0_1] 71 (0, 0)) (rb_ BK1104.out)) : gb1104 ≠ gb1105));have n6_ := Aside0.mk ((by rw [hg];exact Nat.ne_of_gt (blk_lt (g := gb1104) (o := .cells #[.int .i64 a0_0, .slice A0_1 l0_1.length c0_1] 71 (0, 0)) (rb_ BK1104.out)) : gb1105 ≠ gb1104));clear BK1104;clear HB;have BK1104 := n0_;have HB := n1_;have BK1105 := n2_;have GW1105 := n3_;have GE1105 := n4_;have NB1104_1105 := n5_;have NB1105_1104 := n6_;clear n0_ n1_ n2_ n3_ n4_ n5_ n6_;clear hb hbox hg;have hnb14 := NB1104_1105.out;have hnc14 := NB1105_1104.out;have hcz15_0 : w13.cell? ⟨gb1104, 0, none⟩ = some (.int .i64 a0_0) := (blk_cell BK1104.out 0).trans rfl;have hcz15_1 : w13.cell? ⟨gb1104, 1, none⟩ = some (.slice A0_1 l0_1.length c0_1) := (blk_cell BK1104.out 1).trans rfl;have hfz15_0 := blk_frozen BK1104.out 0;have hfz15_1 := blk_frozen BK1104.out 1;have hcz16_0 : w13.cell? ⟨gb1105, 0, none⟩ = some (.int .i64 a1_0) := (blk_cell BK1105.out 0).trans rfl;have hcz16_1 : w13.cell? ⟨gb1105, 1, none⟩ = some (.slice A1_1 l1_1.length c1_1) := (blk_cell BK1105.out 1).trans rfl;have hfz16_0 := blk_frozen BK1105.out 0;have hfz16_1 := blk_frozen BK1105.out 1) | ((with_reducible refine gate_callee (f := 35) rfl ?_);refine goesL_ (some 14) rfl rfl Try.func35 (by kernel_rfl) rfl #[.slice A0_1 l0_1.length c0_1, .slice A1_1 l1_1.length c1_1] rfl lf_ ?_;(with_reducible refine (laws_eqChunkS.calls k _ _ l0_1 _ _ l1_1 false _ ?side1 ?side2 ?side3 ?side4 A4.out).mono ?_);(case side1 => exact rc_ (Kd.C_below HR0_1.out HB.out));(case side2 => exact HC0_1.out);(case side3 => exact rc_ (Kd.C_below HR1_1.out HB.out));(case side4 => exact HC1_1.out);rintro e w17 ⟨rfl, hb⟩;refine ⟨_, rfl, ?_⟩;have n0_ := Aside0.mk (blk_below (g := gb1104) (o := .cells #[.int .i64 a0_0, .slice A0_1 l0_1.length c0_1] 71 (0, 0)) (rb_ BK1104.out) hb);have n1_ := Aside0.mk (blk_below (g := gb1105) (o := .cells #[.int .i64 a1_0, .slice A1_1 l1_1.length c1_1] 71 (0, 0)) (rb_ BK1105.out) hb);have n2_ := Aside0.mk (below_step (bw2_ HB.out GE1104.out GE1105.out) hb);clear BK1104;clear BK1105;clear HB;have BK1104 := n0_;have BK1105 := n1_;have HB := n2_;clear n0_ n1_ n2_;(try clear hb);(try clear hb2);(try clear hk);(try clear hi)));go_ret;exact ⟨by first | rfl | (simp [errW_none, errW_some] <;> rfl) | (simp [*, errW_none, errW_some] <;> rfl), bw2_ HB.out GE1104.out GE1105.out⟩);·rw [if_neg c3] at H;have c3b0 : (a0_0 == a1_0) = false := beq_eq_false_iff_ne.mpr c3;have c3b1 : (a0_0 != a1_0) = true := bne_iff_ne.mpr c3;obtain rfl := Option.some.inj H;go_enter Try.func51, Try.ntmps51;go_wp2_with (first | ((with_reducible refine gate_dst (N := 2) rfl ?_);refine box_event ?hg (N := 2) ?hd (cs := #[.int .i64 a0_0, .slice A0_1 l0_1.length c0_1]) (t := 71) ?hr ?_;(case hd => rfl);(case hg => rfl);(case hr => first | (go_simp;done) | (go_simp;rfl));intro gb1104 hg w18 hbox hb;have n0_ := Aside0.mk (below_step (bw_ HB.out) hb);have n1_ := Aside0.mk (hbox);have n2_ := Aside0.mk ((by rw [hg];exact (below_size (bw_ HB.out)) : w.heap.size ≤ gb1104));have n3_ := Aside0.mk ((by rw [hg];exact (below_size (bw_ HB.out)) : w.heap.size ≤ gb1104));clear HB;have HB := n0_;have BK1104 := n1_;have GW1104 := n2_;have GE1104 := n3_;clear n0_ n1_ n2_ n3_;clear hb hbox hg) | ((with_reducible refine gate_dst (N := 3) rfl ?_);refine box_event ?hg (N := 3) ?hd (cs := #[.int .i64 a1_0, .slice A1_1 l1_1.length c1_1]) (t := 71) ?hr ?_;(case hd => rfl);(case hg => rfl);(case hr => first | (go_simp;done) | (go_simp;rfl));intro gb1105 hg w19 hbox hb;have n0_ := Aside0.mk (blk_below (g := gb1104) (o := .cells #[.int .i64 a0_0, .slice A0_1 l0_1.length c0_1] 71 (0, 0)) (rb_ BK1104.out) hb);have n1_ := Aside0.mk (below_step (bw1_ HB.out GE1104.out) hb);have n2_ := Aside0.mk (hbox);have n3_ := Aside0.mk ((by rw [hg];exact (below_size (bw1_ HB.out GE1104.out)) : w.heap.size ≤ gb1105));have n4_ := Aside0.mk ((by rw [hg];exact (below_size (bw1_ HB.out GE1104.out)) : w.heap.size ≤ gb1105));have n5_ := Aside0.mk ((by rw [hg];exact Nat.ne_of_lt (blk_lt (g := gb1104) (o := .cells #[.int .i64 a0_0, .slice A0_1 l0_1.length c0_1] 71 (0, 0)) (rb_ BK1104.out)) : gb1104 ≠ gb1105));have n6_ := Aside0.mk ((by rw [hg];exact Nat.ne_of_gt (blk_lt (g := gb1104) (o := .cells #[.int .i64 a0_0, .slice A0_1 l0_1.length c0_1] 71 (0, 0)) (rb_ BK1104.out)) : gb1105 ≠ gb1104));clear BK1104;clear HB;have BK1104 := n0_;have HB := n1_;have BK1105 := n2_;have GW1105 := n3_;have GE1105 := n4_;have NB1104_1105 := n5_;have NB1105_1104 := n6_;clear n0_ n1_ n2_ n3_ n4_ n5_ n6_;clear hb hbox hg;have hnb20 := NB1104_1105.out;have hnc20 := NB1105_1104.out;have hcz21_0 : w19.cell? ⟨gb1104, 0, none⟩ = some (.int .i64 a0_0) := (blk_cell BK1104.out 0).trans rfl;have hcz21_1 : w19.cell? ⟨gb1104, 1, none⟩ = some (.slice A0_1 l0_1.length c0_1) := (blk_cell BK1104.out 1).trans rfl;have hfz21_0 := blk_frozen BK1104.out 0;have hfz21_1 := blk_frozen BK1104.out 1;have hcz22_0 : w19.cell? ⟨gb1105, 0, none⟩ = some (.int .i64 a1_0) := (blk_cell BK1105.out 0).trans rfl;have hcz22_1 : w19.cell? ⟨gb1105, 1, none⟩ = some (.slice A1_1 l1_1.length c1_1) := (blk_cell BK1105.out 1).trans rfl;have hfz22_0 := blk_frozen BK1105.out 0;have hfz22_1 := blk_frozen BK1105.out 1));go_ret;exact ⟨by first | rfl | (simp [errW_none, errW_some] <;> rfl) | (simp [*, errW_none, errW_some] <;> rfl), bw2_ HB.out GE1104.out GE1105.out⟩
end Go.Proofs.Ytjngmhngedecdaa.P
end
section
namespace Go.Proofs.Ytjngmhngedecdaa.P
open Go.RowKit Go.Proofs.YtjngmhngedecdaaW.PrintWords Go.Proofs.YtjngmhngedecdaaW.PrintLast Go.Proofs.YtjngmhngedecdaaW.PrintMore
attribute [local go_sem] max2_int min2_int max_two min_two max_three min_three max_four min_four
set_option linter.unusedVariables false
set_option linter.unusedSimpArgs false
def laws_heldStringS.l0 : Nat → List ByteArray → Int → Int → Option (Int)
 | 0, _, _, _ => none
 | k + 1, x0, x1, x5 => if x5 < (x0.length : Int) then (if 0 ≤ x5 then ((laws_markText.f k x1).bind fun t218 => (if (rdOf ByteArray.empty x0 x5).toList = t218.toList then (laws_heldStringS.l0 k x0 (wrap64 (x1 + 1)) (wrap64 (x5 + 1))) else (some (-1)))) else (none)) else (some x1)
def laws_heldStringS.f (k : Nat) (l0 : List ByteArray) (a1 : Int) : Option (Int) := laws_heldStringS.l0 k l0 a1 0
set_option maxHeartbeats 8000000 in
set_option maxRecDepth 100000 in
theorem laws_heldStringS.calls (k : Nat) (A0 : Option Addr) (c0 : Nat) (l0 : List ByteArray) (a1 : Int) (r : Int) (w : World) (hr0 : Kd.C Kd.string w A0 l0.length l0) (hc0 : l0.length ≤ c0) (h : laws_heldStringS.f k l0 a1 = some r) :
  Calls Try.prog 70 #[.slice A0 l0.length c0, .int .i64 a1] w fun e w' => e = .returned (.int .i64 r) ∧ Below w.heap.size w w' := by
 have HR0 := Aside0.mk hr0;have HC0 := Aside0.mk hc0;clear hr0 hc0;have HB := Aside0.mk (Below.refl w.heap.size w);have H : (laws_heldStringS.l0 k l0 a1 0) = some r := h;clear h;have H' := Aside0.mk H;clear H;go_enter Try.func70, Try.ntmps70;go_wp2;go_loopg [1, 5] k (fun kq v1 v5 w' => ∃ (x1_1 : Int) (x5_1 : Int), v1 = .int .i64 x1_1 ∧ v5 = .int .i64 x5_1 ∧ Aside0 (laws_heldStringS.l0 kq l0 x1_1 x5_1 = some r) ∧ Aside0 (kq ≤ k) ∧ Aside0 (Below w.heap.size w w'));(case atStart => exact ⟨(a1), (0), ls_, ls_, H', ⟨Nat.le_refl _⟩, ⟨bw_ HB.out⟩⟩)
 case round =>
  clear H'
  try clear p2
  obtain ⟨x1_1, x5_1, rfl, rfl, HA, HK1, HB⟩ := hrel
  cases gk with
  | zero => exact absurd HA.out (by simp [laws_heldStringS.l0])
  | succ k1 =>
   have H := HA.out
   clear HA
   simp only [laws_heldStringS.l0] at H
   by_cases c3 : x5_1 < (l0.length : Int)
   ·rw [if_pos c3] at H
    have c3b0 : decide (x5_1 < (l0.length : Int)) = true := decide_eq_true c3
    clear c3
    by_cases c4 : 0 ≤ x5_1
    ·rw [if_pos c4] at H
     have c4b0 : decide (0 ≤ x5_1) = true := decide_eq_true c4
     clear c4
     replace H := Option.bind_eq_some_iff.mp H
     obtain ⟨t218, A50, H⟩ := H
     replace H : (if (rdOf ByteArray.empty l0 x5_1).toList = t218.toList then (laws_heldStringS.l0 k1 l0 (wrap64 (x1_1 + 1)) (wrap64 (x5_1 + 1))) else (some (-1))) = some r := H
     have A5 := Aside0.mk A50
     clear A50
     by_cases c6 : (rdOf ByteArray.empty l0 x5_1).toList = t218.toList
     ·rw [if_pos c6] at H
      have c6b0 : ((rdOf ByteArray.empty l0 x5_1).toList == t218.toList) = true := beq_iff_eq.mpr c6
      have c6b1 : ((rdOf ByteArray.empty l0 x5_1).toList != t218.toList) = false := bne_eq_false_iff_eq.mpr c6
      clear c6
      have H' := Aside0.mk H
      clear H
      try go_wp2
      have n0_ := Aside0.mk (below_drew1 HB.out)
      clear HB
      have HB := n0_
      clear n0_
      have p217 : 0 ≤ (x5_1 : Int) := od_
      have q217 : x5_1 < (l0.length : Int) := od_
      obtain ⟨ad217, e217, hx217_0⟩ := Kd.at_string HR0.out x5_1 p217 q217
      have hw217_0 := hx217_0
      cases e217
      replace hx217_0 := hc_ HB.out hx217_0
      replace p217 := eq_true p217
      replace q217 := eq_true q217
      refine start_ (n := 7) (S := fun w' => w'.cell? (ad217.add (x5_1).toNat) = some (.string (rdOf ByteArray.empty l0 x5_1))) (ds := []) (mb_ 7 0) (by kernel_rfl) rfl rfl ((hc_ HB.out hw217_0)) (fun hHeld => ?_)
      generalize wr.drew = w7 at HB hx217_0 hHeld ⊢
      refine pure_ (i := 0) (N := some 12) (v := ?_) (a' := ?_) (mb_ 7 1) rfl rfl (by kernel_rfl) (fun _ _ _ h => h) (Or.inl ⟨by rfl, ?_⟩) ?_ ?_
      rotate_left
      ·intro w'
       go_simp
       with_reducible rfl
      rotate_left
      ·simp only [Act.put, s0_, s1_, s2_, i64_w, i32_w]
       rfl
      refine pure_ (i := 1) (N := some 13) (v := ?_) (a' := ?_) (mb_ 7 3) rfl rfl (by kernel_rfl) (fun _ _ _ h => h) (Or.inl ⟨by rfl, ?_⟩) ?_ ?_
      rotate_left
      ·intro w'
       go_simp
       with_reducible rfl
      rotate_left
      ·simp only [Act.put, s0_, s1_, s2_, i64_w, i32_w]
       rfl
      refine pure_ (i := 2) (N := some 14) (v := ?_) (a' := ?_) (mb_ 7 7) rfl rfl (by kernel_rfl) (fun _ _ _ h => h) (Or.inl ⟨by rfl, ?_⟩) ?_ ?_
      rotate_left
      ·intro w'
       go_simp
       with_reducible rfl
      rotate_left
      ·simp only [Act.put, s0_, s1_, s2_, i64_w, i32_w]
       rfl
      refine pure_ (i := 4) (N := some 16) (v := ?_) (a' := ?_) (mb_ 7 23) rfl rfl (by kernel_rfl) (fun _ _ _ h => h) (Or.inl ⟨by rfl, ?_⟩) ?_ ?_
      rotate_left
      ·intro w'
       go_simp
       with_reducible rfl
      rotate_left
      ·simp only [Act.put, s0_, s1_, s2_, i64_w, i32_w]
       rfl
      refine take_ (i := 3) (N := some 15) (v := ?_) (a' := ?_) (mb_ 7 31) rfl rfl (by kernel_rfl) (fun _ _ _ h => h) (Or.inl ⟨by rfl, ?_⟩) hHeld ?_ ?_
      rotate_left
      ·intro w' s0
       go_simp
       with_reducible rfl
      rotate_left
      ·simp only [Act.put, s0_, s1_, s2_, i64_w, i32_w]
       rfl
      refine one_ (i := 5) (N := some 17) (mb_ 7 63) rfl rfl (by kernel_rfl) (by decide) (fun K hK => ?_)
      refine goes_ Try.func69 (by kernel_rfl) rfl #[.int .i64 x1_1] (by rfl) rfl rfl lf_ ?_
      with_reducible refine (laws_markText.calls k1 x1_1 t218 _ A5.out).mono ?_
      rintro e w8 ⟨rfl, hb⟩
      refine ⟨_, rfl, ?_⟩
      have n0_ := Aside0.mk (below_step (bw_ HB.out) hb)
      clear HB
      have HB := n0_
      clear n0_
      (try clear hb)
      (try clear hb2)
      (try clear hk)
      (try clear hi)
      refine hK.out _ _ ((hc_ HB.out hw217_0)) (fun hHeld => ?_)
      clear hK K
      refine norm_ (a' := ?_) ?_ ?_
      rotate_left
      ·show Act.put _ (some 17) _ = _
       simp only [Act.put, s0_, s1_, s2_, i64_w, i32_w]
       rfl
      refine pure_ (i := 6) (N := some 18) (v := ?_) (a' := ?_) (mb_ 7 127) rfl rfl (by kernel_rfl) (fun _ _ _ h => h) (Or.inl ⟨by rfl, ?_⟩) ?_ ?_
      rotate_left
      ·intro w'
       go_simp
       with_reducible rfl
      rotate_left
      ·simp only [Act.put, s0_, s1_, s2_, i64_w, i32_w]
       rfl
      refine done_ (by kernel_rfl) ?_
      try go_wp2
      go_roundg k1
      case measure => have := HK1.out;omega
      case rel => exact ⟨(wrap64 (x1_1 + 1)), (wrap64 (x5_1 + 1)), ls_, ls_, H', ⟨by have := HK1.out;omega⟩, ⟨bw_ HB.out⟩⟩
     ·rw [if_neg c6] at H
      have c6b0 : ((rdOf ByteArray.empty l0 x5_1).toList == t218.toList) = false := beq_eq_false_iff_ne.mpr c6
      have c6b1 : ((rdOf ByteArray.empty l0 x5_1).toList != t218.toList) = true := bne_iff_ne.mpr c6
      obtain rfl := Option.some.inj H
      try go_wp2
      have n0_ := Aside0.mk (below_drew1 HB.out)
      clear HB
      have HB := n0_
      clear n0_
      have p217 : 0 ≤ (x5_1 : Int) := od_
      have q217 : x5_1 < (l0.length : Int) := od_
      obtain ⟨ad217, e217, hx217_0⟩ := Kd.at_string HR0.out x5_1 p217 q217
      have hw217_0 := hx217_0
      cases e217
      replace hx217_0 := hc_ HB.out hx217_0
      replace p217 := eq_true p217
      replace q217 := eq_true q217
      refine start_ (n := 7) (S := fun w' => w'.cell? (ad217.add (x5_1).toNat) = some (.string (rdOf ByteArray.empty l0 x5_1))) (ds := []) (mb_ 7 0) (by kernel_rfl) rfl rfl ((hc_ HB.out hw217_0)) (fun hHeld => ?_)
      generalize wr.drew = w9 at HB hx217_0 hHeld ⊢
      refine pure_ (i := 0) (N := some 12) (v := ?_) (a' := ?_) (mb_ 7 1) rfl rfl (by kernel_rfl) (fun _ _ _ h => h) (Or.inl ⟨by rfl, ?_⟩) ?_ ?_
      rotate_left
      ·intro w'
       go_simp
       with_reducible rfl
      rotate_left
      ·simp only [Act.put, s0_, s1_, s2_, i64_w, i32_w]
       rfl
      refine pure_ (i := 1) (N := some 13) (v := ?_) (a' := ?_) (mb_ 7 3) rfl rfl (by kernel_rfl) (fun _ _ _ h => h) (Or.inl ⟨by rfl, ?_⟩) ?_ ?_
      rotate_left
      ·intro w'
       go_simp
       with_reducible rfl
      rotate_left
      ·simp only [Act.put, s0_, s1_, s2_, i64_w, i32_w]
       rfl
      refine pure_ (i := 2) (N := some 14) (v := ?_) (a' := ?_) (mb_ 7 7) rfl rfl (by kernel_rfl) (fun _ _ _ h => h) (Or.inl ⟨by rfl, ?_⟩) ?_ ?_
      rotate_left
      ·intro w'
       go_simp
       with_reducible rfl
      rotate_left
      ·simp only [Act.put, s0_, s1_, s2_, i64_w, i32_w]
       rfl
      refine pure_ (i := 4) (N := some 16) (v := ?_) (a' := ?_) (mb_ 7 23) rfl rfl (by kernel_rfl) (fun _ _ _ h => h) (Or.inl ⟨by rfl, ?_⟩) ?_ ?_
      rotate_left
      ·intro w'
       go_simp
       with_reducible rfl
      rotate_left
      ·simp only [Act.put, s0_, s1_, s2_, i64_w, i32_w]
       rfl
      refine take_ (i := 3) (N := some 15) (v := ?_) (a' := ?_) (mb_ 7 31) rfl rfl (by kernel_rfl) (fun _ _ _ h => h) (Or.inl ⟨by rfl, ?_⟩) hHeld ?_ ?_
      rotate_left
      ·intro w' s0
       go_simp
       with_reducible rfl
      rotate_left
      ·simp only [Act.put, s0_, s1_, s2_, i64_w, i32_w]
       rfl
      refine one_ (i := 5) (N := some 17) (mb_ 7 63) rfl rfl (by kernel_rfl) (by decide) (fun K hK => ?_)
      refine goes_ Try.func69 (by kernel_rfl) rfl #[.int .i64 x1_1] (by rfl) rfl rfl lf_ ?_
      with_reducible refine (laws_markText.calls k1 x1_1 t218 _ A5.out).mono ?_
      rintro e w10 ⟨rfl, hb⟩
      refine ⟨_, rfl, ?_⟩
      have n0_ := Aside0.mk (below_step (bw_ HB.out) hb)
      clear HB
      have HB := n0_
      clear n0_
      (try clear hb)
      (try clear hb2)
      (try clear hk)
      (try clear hi)
      refine hK.out _ _ ((hc_ HB.out hw217_0)) (fun hHeld => ?_)
      clear hK K
      refine norm_ (a' := ?_) ?_ ?_
      rotate_left
      ·show Act.put _ (some 17) _ = _
       simp only [Act.put, s0_, s1_, s2_, i64_w, i32_w]
       rfl
      refine pure_ (i := 6) (N := some 18) (v := ?_) (a' := ?_) (mb_ 7 127) rfl rfl (by kernel_rfl) (fun _ _ _ h => h) (Or.inl ⟨by rfl, ?_⟩) ?_ ?_
      rotate_left
      ·intro w'
       go_simp
       with_reducible rfl
      rotate_left
      ·simp only [Act.put, s0_, s1_, s2_, i64_w, i32_w]
       rfl
      refine done_ (by kernel_rfl) ?_
      try go_wp2
      go_ret
      exact ⟨by first | rfl | (simp [errW_none, errW_some] <;> rfl) | (simp [*, errW_none, errW_some] <;> rfl), bw_ HB.out⟩
    ·rw [if_neg c4] at H
     exact absurd H (by simp)
   ·rw [if_neg c3] at H
    have c3b0 : decide (x5_1 < (l0.length : Int)) = false := decide_eq_false c3
    clear c3
    obtain rfl := Option.some.inj H
    go_wp2
    go_ret
    exact ⟨by first | rfl | (simp [errW_none, errW_some] <;> rfl) | (simp [*, errW_none, errW_some] <;> rfl), bw_ HB.out⟩
end Go.Proofs.Ytjngmhngedecdaa.P
end
section
namespace Go.Proofs.Ytjngmhngedecdaa.P
open Go.RowKit Go.Proofs.YtjngmhngedecdaaW.PrintWords Go.Proofs.YtjngmhngedecdaaW.PrintLast Go.Proofs.YtjngmhngedecdaaW.PrintMore
attribute [local go_sem] max2_int min2_int max_two min_two max_three min_three max_four min_four
set_option linter.unusedVariables false
set_option linter.unusedSimpArgs false
def laws_heldChunkS.l0 : Nat → List (S58) → Int → Int → Option (Int)
 | 0, _, _, _ => none
 | k + 1, x0, x1, x5 => if x5 < (x0.length : Int) then (if 0 ≤ x5 then (if ((rd_T58 x0 x5).f0) = x1 then ((laws_heldStringS.f k ((rd_T58 x0 x5).f1) (wrap64 (x1 + 1))).bind fun t1109 => (if t1109 < 0 then (some (-1)) else ((laws_heldStringS.f k ((rd_T58 x0 x5).f2) t1109).bind fun t1111 => (if t1111 < 0 then (some (-1)) else ((laws_heldStringS.f k ((rd_T58 x0 x5).f3) t1111).bind fun t1113 => (if t1113 < 0 then (some (-1)) else (laws_heldChunkS.l0 k x0 t1113 (wrap64 (x5 + 1))))))))) else (some (-1))) else (none)) else (some x1)
def laws_heldChunkS.f (k : Nat) (l0 : List (S58)) (a1 : Int) : Option (Int) := laws_heldChunkS.l0 k l0 a1 0
set_option maxHeartbeats 8000000 in
set_option maxRecDepth 100000 in
theorem laws_heldChunkS.calls (k : Nat) (A0 : Option Addr) (c0 : Nat) (l0 : List (S58)) (a1 : Int) (r : Int) (w : World) (hr0 : Kd.C k58 w A0 l0.length l0) (hc0 : l0.length ≤ c0) (h : laws_heldChunkS.f k l0 a1 = some r) :
  Calls Try.prog 98 #[.slice A0 l0.length c0, .int .i64 a1] w fun e w' => e = .returned (.int .i64 r) ∧ Below w.heap.size w w' := by
 have HR0 := Aside0.mk hr0;have HC0 := Aside0.mk hc0;clear hr0 hc0;have HB := Aside0.mk (Below.refl w.heap.size w);have H : (laws_heldChunkS.l0 k l0 a1 0) = some r := h;clear h;have H' := Aside0.mk H;clear H;go_enter Try.func98, Try.ntmps98;go_wp2;go_loopg [1, 5] k (fun kq v1 v5 w' => ∃ (x1_1 : Int) (x5_1 : Int), v1 = .int .i64 x1_1 ∧ v5 = .int .i64 x5_1 ∧ Aside0 (laws_heldChunkS.l0 kq l0 x1_1 x5_1 = some r) ∧ Aside0 (kq ≤ k) ∧ Aside0 (Below w.heap.size w w'));(case atStart => exact ⟨(a1), (0), ls_, ls_, H', ⟨Nat.le_refl _⟩, ⟨bw_ HB.out⟩⟩)
 case round =>
  clear H'
  try clear p2
  obtain ⟨x1_1, x5_1, rfl, rfl, HA, HK1, HB⟩ := hrel
  cases gk with
  | zero => exact absurd HA.out (by simp [laws_heldChunkS.l0])
  | succ k1 =>
   have H := HA.out
   clear HA
   simp only [laws_heldChunkS.l0] at H
   by_cases c3 : x5_1 < (l0.length : Int)
   ·rw [if_pos c3] at H
    have c3b0 : decide (x5_1 < (l0.length : Int)) = true := decide_eq_true c3
    clear c3
    by_cases c4 : 0 ≤ x5_1
    ·rw [if_pos c4] at H
     have c4b0 : decide (0 ≤ x5_1) = true := decide_eq_true c4
     clear c4
     by_cases c5 : ((rd_T58 l0 x5_1).f0) = x1_1
     ·rw [if_pos c5] at H
      have c5b0 : (((rd_T58 l0 x5_1).f0) == x1_1) = true := beq_iff_eq.mpr c5
      have c5b1 : (((rd_T58 l0 x5_1).f0) != x1_1) = false := bne_eq_false_iff_eq.mpr c5
      clear c5
      replace H := Option.bind_eq_some_iff.mp H
      obtain ⟨t1109, A60, H⟩ := H
      replace H : (if t1109 < 0 then (some (-1)) else ((laws_heldStringS.f k1 ((rd_T58 l0 x5_1).f2) t1109).bind fun t1111 => (if t1111 < 0 then (some (-1)) else ((laws_heldStringS.f k1 ((rd_T58 l0 x5_1).f3) t1111).bind fun t1113 => (if t1113 < 0 then (some (-1)) else (laws_heldChunkS.l0 k1 l0 t1113 (wrap64 (x5_1 + 1)))))))) = some r := H
      have A6 := Aside0.mk A60
      clear A60
      by_cases c7 : t1109 < 0
      ·rw [if_pos c7] at H
       have c7b0 : decide (t1109 < 0) = true := decide_eq_true c7
       clear c7
       obtain rfl := Option.some.inj H
       have p1107 : 0 ≤ (x5_1 : Int) := od_
       have q1107 : x5_1 < (l0.length : Int) := od_
       obtain ⟨ad1107, A1107_1, c1107_1, A1107_2, c1107_2, A1107_3, c1107_3, e1107, hx1107_0, hx1107_1, hx1107_2, hx1107_3, hl1107_1, hi1107_1, hl1107_2, hi1107_2, hl1107_3, hi1107_3⟩ := at_T58 HR0.out x5_1 p1107 q1107
       cases e1107
       replace hx1107_0 := hc_ HB.out hx1107_0
       replace hx1107_1 := hc_ HB.out hx1107_1
       replace hx1107_2 := hc_ HB.out hx1107_2
       replace hx1107_3 := hc_ HB.out hx1107_3
       have HR1107_1 := Aside0.mk hi1107_1
       have HC1107_1 := Aside0.mk hl1107_1
       clear hi1107_1 hl1107_1
       have HR1107_2 := Aside0.mk hi1107_2
       have HC1107_2 := Aside0.mk hl1107_2
       clear hi1107_2 hl1107_2
       have HR1107_3 := Aside0.mk hi1107_3
       have HC1107_3 := Aside0.mk hl1107_3
       clear hi1107_3 hl1107_3
       replace p1107 := eq_true p1107
       replace q1107 := eq_true q1107
       have p1108 : 0 ≤ (x5_1 : Int) := od_
       have q1108 : x5_1 < (l0.length : Int) := od_
       obtain ⟨ad1108, A1108_1, c1108_1, A1108_2, c1108_2, A1108_3, c1108_3, e1108, hx1108_0, hx1108_1, hx1108_2, hx1108_3, hl1108_1, hi1108_1, hl1108_2, hi1108_2, hl1108_3, hi1108_3⟩ := at_T58 HR0.out x5_1 p1108 q1108
       obtain rfl : ad1107 = ad1108 := (by injection e1108)
       replace hx1108_0 := hc_ HB.out hx1108_0
       replace hx1108_1 := hc_ HB.out hx1108_1
       replace hx1108_2 := hc_ HB.out hx1108_2
       replace hx1108_3 := hc_ HB.out hx1108_3
       have HR1108_1 := Aside0.mk hi1108_1
       have HC1108_1 := Aside0.mk hl1108_1
       clear hi1108_1 hl1108_1
       have HR1108_2 := Aside0.mk hi1108_2
       have HC1108_2 := Aside0.mk hl1108_2
       clear hi1108_2 hl1108_2
       have HR1108_3 := Aside0.mk hi1108_3
       have HC1108_3 := Aside0.mk hl1108_3
       clear hi1108_3 hl1108_3
       replace p1108 := eq_true p1108
       replace q1108 := eq_true q1108
       have ea_ := Option.some.inj (hx1107_1.symm.trans hx1108_1)
       injection ea_ with ea_ en_ ec_
       subst ea_
       subst ec_
       clear en_
       have ea_ := Option.some.inj (hx1107_2.symm.trans hx1108_2)
       injection ea_ with ea_ en_ ec_
       subst ea_
       subst ec_
       clear en_
       have ea_ := Option.some.inj (hx1107_3.symm.trans hx1108_3)
       injection ea_ with ea_ en_ ec_
       subst ea_
       subst ec_
       clear en_
       go_wp2_with (first | ((with_reducible refine gate_callee (f := 70) rfl ?_);refine goesL_ (some 27) rfl rfl Try.func70 (by kernel_rfl) rfl #[.slice A1107_1 ((rd_T58 l0 x5_1).f1).length c1107_1, .int .i64 (wrap64 (x1_1 + 1))] rfl lf_ ?_;(with_reducible refine (laws_heldStringS.calls k1 _ _ ((rd_T58 l0 x5_1).f1) (wrap64 (x1_1 + 1)) t1109 _ ?side1 ?side2 A6.out).mono ?_);(case side1 => exact rc_ (Kd.C_below HR1108_1.out HB.out));(case side2 => exact HC1108_1.out);rintro e w8 ⟨rfl, hb⟩;refine ⟨_, rfl, ?_⟩;have n0_ := Aside0.mk (below_step (bw_ HB.out) hb);clear HB;have HB := n0_;clear n0_;(try clear hb);(try clear hb2);(try clear hk);(try clear hi)))
       go_ret
       exact ⟨by first | rfl | (simp [errW_none, errW_some] <;> rfl) | (simp [*, errW_none, errW_some] <;> rfl), bw_ HB.out⟩
      ·rw [if_neg c7] at H
       have c7b0 : decide (t1109 < 0) = false := decide_eq_false c7
       clear c7
       replace H := Option.bind_eq_some_iff.mp H
       obtain ⟨t1111, A90, H⟩ := H
       replace H : (if t1111 < 0 then (some (-1)) else ((laws_heldStringS.f k1 ((rd_T58 l0 x5_1).f3) t1111).bind fun t1113 => (if t1113 < 0 then (some (-1)) else (laws_heldChunkS.l0 k1 l0 t1113 (wrap64 (x5_1 + 1)))))) = some r := H
       have A9 := Aside0.mk A90
       clear A90
       by_cases c10 : t1111 < 0
       ·rw [if_pos c10] at H
        have c10b0 : decide (t1111 < 0) = true := decide_eq_true c10
        clear c10
        obtain rfl := Option.some.inj H
        have p1107 : 0 ≤ (x5_1 : Int) := od_
        have q1107 : x5_1 < (l0.length : Int) := od_
        obtain ⟨ad1107, A1107_1, c1107_1, A1107_2, c1107_2, A1107_3, c1107_3, e1107, hx1107_0, hx1107_1, hx1107_2, hx1107_3, hl1107_1, hi1107_1, hl1107_2, hi1107_2, hl1107_3, hi1107_3⟩ := at_T58 HR0.out x5_1 p1107 q1107
        cases e1107
        replace hx1107_0 := hc_ HB.out hx1107_0
        replace hx1107_1 := hc_ HB.out hx1107_1
        replace hx1107_2 := hc_ HB.out hx1107_2
        replace hx1107_3 := hc_ HB.out hx1107_3
        have HR1107_1 := Aside0.mk hi1107_1
        have HC1107_1 := Aside0.mk hl1107_1
        clear hi1107_1 hl1107_1
        have HR1107_2 := Aside0.mk hi1107_2
        have HC1107_2 := Aside0.mk hl1107_2
        clear hi1107_2 hl1107_2
        have HR1107_3 := Aside0.mk hi1107_3
        have HC1107_3 := Aside0.mk hl1107_3
        clear hi1107_3 hl1107_3
        replace p1107 := eq_true p1107
        replace q1107 := eq_true q1107
        have p1108 : 0 ≤ (x5_1 : Int) := od_
        have q1108 : x5_1 < (l0.length : Int) := od_
        obtain ⟨ad1108, A1108_1, c1108_1, A1108_2, c1108_2, A1108_3, c1108_3, e1108, hx1108_0, hx1108_1, hx1108_2, hx1108_3, hl1108_1, hi1108_1, hl1108_2, hi1108_2, hl1108_3, hi1108_3⟩ := at_T58 HR0.out x5_1 p1108 q1108
        obtain rfl : ad1107 = ad1108 := (by injection e1108)
        replace hx1108_0 := hc_ HB.out hx1108_0
        replace hx1108_1 := hc_ HB.out hx1108_1
        replace hx1108_2 := hc_ HB.out hx1108_2
        replace hx1108_3 := hc_ HB.out hx1108_3
        have HR1108_1 := Aside0.mk hi1108_1
        have HC1108_1 := Aside0.mk hl1108_1
        clear hi1108_1 hl1108_1
        have HR1108_2 := Aside0.mk hi1108_2
        have HC1108_2 := Aside0.mk hl1108_2
        clear hi1108_2 hl1108_2
        have HR1108_3 := Aside0.mk hi1108_3
        have HC1108_3 := Aside0.mk hl1108_3
        clear hi1108_3 hl1108_3
        replace p1108 := eq_true p1108
        replace q1108 := eq_true q1108
        have ea_ := Option.some.inj (hx1107_1.symm.trans hx1108_1)
        injection ea_ with ea_ en_ ec_
        subst ea_
        subst ec_
        clear en_
        have ea_ := Option.some.inj (hx1107_2.symm.trans hx1108_2)
        injection ea_ with ea_ en_ ec_
        subst ea_
        subst ec_
        clear en_
        have ea_ := Option.some.inj (hx1107_3.symm.trans hx1108_3)
        injection ea_ with ea_ en_ ec_
        subst ea_
        subst ec_
        clear en_
        go_wp2_with (first | ((with_reducible refine gate_callee (f := 70) rfl ?_);refine goesL_ (some 27) rfl rfl Try.func70 (by kernel_rfl) rfl #[.slice A1107_1 ((rd_T58 l0 x5_1).f1).length c1107_1, .int .i64 (wrap64 (x1_1 + 1))] rfl lf_ ?_;(with_reducible refine (laws_heldStringS.calls k1 _ _ ((rd_T58 l0 x5_1).f1) (wrap64 (x1_1 + 1)) t1109 _ ?side1 ?side2 A6.out).mono ?_);(case side1 => exact rc_ (Kd.C_below HR1108_1.out HB.out));(case side2 => exact HC1108_1.out);rintro e w11 ⟨rfl, hb⟩;refine ⟨_, rfl, ?_⟩;have n0_ := Aside0.mk (below_step (bw_ HB.out) hb);clear HB;have HB := n0_;clear n0_;(try clear hb);(try clear hb2);(try clear hk);(try clear hi);have p1110 : 0 ≤ (x5_1 : Int) := od_;have q1110 : x5_1 < (l0.length : Int) := od_;obtain ⟨ad1110, A1110_1, c1110_1, A1110_2, c1110_2, A1110_3, c1110_3, e1110, hx1110_0, hx1110_1, hx1110_2, hx1110_3, hl1110_1, hi1110_1, hl1110_2, hi1110_2, hl1110_3, hi1110_3⟩ := at_T58 HR0.out x5_1 p1110 q1110;obtain rfl : ad1107 = ad1110 := (by injection e1110);replace hx1110_0 := hc_ HB.out hx1110_0;replace hx1110_1 := hc_ HB.out hx1110_1;replace hx1110_2 := hc_ HB.out hx1110_2;replace hx1110_3 := hc_ HB.out hx1110_3;have HR1110_1 := Aside0.mk hi1110_1;have HC1110_1 := Aside0.mk hl1110_1;clear hi1110_1 hl1110_1;have HR1110_2 := Aside0.mk hi1110_2;have HC1110_2 := Aside0.mk hl1110_2;clear hi1110_2 hl1110_2;have HR1110_3 := Aside0.mk hi1110_3;have HC1110_3 := Aside0.mk hl1110_3;clear hi1110_3 hl1110_3;replace p1110 := eq_true p1110;replace q1110 := eq_true q1110) | ((with_reducible refine gate_callee (f := 70) rfl ?_);refine goesL_ (some 36) rfl rfl Try.func70 (by kernel_rfl) rfl #[.slice A1110_2 ((rd_T58 l0 x5_1).f2).length c1110_2, .int .i64 t1109] rfl lf_ ?_;(with_reducible refine (laws_heldStringS.calls k1 _ _ ((rd_T58 l0 x5_1).f2) t1109 t1111 _ ?side1 ?side2 A9.out).mono ?_);(case side1 => exact rc_ (Kd.C_below HR1110_2.out HB.out));(case side2 => exact HC1110_2.out);rintro e w12 ⟨rfl, hb⟩;refine ⟨_, rfl, ?_⟩;have n0_ := Aside0.mk (below_step (bw_ HB.out) hb);clear HB;have HB := n0_;clear n0_;(try clear hb);(try clear hb2);(try clear hk);(try clear hi)))
        go_ret
        exact ⟨by first | rfl | (simp [errW_none, errW_some] <;> rfl) | (simp [*, errW_none, errW_some] <;> rfl), bw_ HB.out⟩
       ·rw [if_neg c10] at H
        have c10b0 : decide (t1111 < 0) = false := decide_eq_false c10
        clear c10
        replace H := Option.bind_eq_some_iff.mp H
        obtain ⟨t1113, A130, H⟩ := H
        replace H : (if t1113 < 0 then (some (-1)) else (laws_heldChunkS.l0 k1 l0 t1113 (wrap64 (x5_1 + 1)))) = some r := H
        have A13 := Aside0.mk A130
        clear A130
        by_cases c14 : t1113 < 0
        ·rw [if_pos c14] at H
         have c14b0 : decide (t1113 < 0) = true := decide_eq_true c14
         clear c14
         obtain rfl := Option.some.inj H
         have p1107 : 0 ≤ (x5_1 : Int) := od_
         have q1107 : x5_1 < (l0.length : Int) := od_
         obtain ⟨ad1107, A1107_1, c1107_1, A1107_2, c1107_2, A1107_3, c1107_3, e1107, hx1107_0, hx1107_1, hx1107_2, hx1107_3, hl1107_1, hi1107_1, hl1107_2, hi1107_2, hl1107_3, hi1107_3⟩ := at_T58 HR0.out x5_1 p1107 q1107
         cases e1107
         replace hx1107_0 := hc_ HB.out hx1107_0
         replace hx1107_1 := hc_ HB.out hx1107_1
         replace hx1107_2 := hc_ HB.out hx1107_2
         replace hx1107_3 := hc_ HB.out hx1107_3
         have HR1107_1 := Aside0.mk hi1107_1
         have HC1107_1 := Aside0.mk hl1107_1
         clear hi1107_1 hl1107_1
         have HR1107_2 := Aside0.mk hi1107_2
         have HC1107_2 := Aside0.mk hl1107_2
         clear hi1107_2 hl1107_2
         have HR1107_3 := Aside0.mk hi1107_3
         have HC1107_3 := Aside0.mk hl1107_3
         clear hi1107_3 hl1107_3
         replace p1107 := eq_true p1107
         replace q1107 := eq_true q1107
         have p1108 : 0 ≤ (x5_1 : Int) := od_
         have q1108 : x5_1 < (l0.length : Int) := od_
         obtain ⟨ad1108, A1108_1, c1108_1, A1108_2, c1108_2, A1108_3, c1108_3, e1108, hx1108_0, hx1108_1, hx1108_2, hx1108_3, hl1108_1, hi1108_1, hl1108_2, hi1108_2, hl1108_3, hi1108_3⟩ := at_T58 HR0.out x5_1 p1108 q1108
         obtain rfl : ad1107 = ad1108 := (by injection e1108)
         replace hx1108_0 := hc_ HB.out hx1108_0
         replace hx1108_1 := hc_ HB.out hx1108_1
         replace hx1108_2 := hc_ HB.out hx1108_2
         replace hx1108_3 := hc_ HB.out hx1108_3
         have HR1108_1 := Aside0.mk hi1108_1
         have HC1108_1 := Aside0.mk hl1108_1
         clear hi1108_1 hl1108_1
         have HR1108_2 := Aside0.mk hi1108_2
         have HC1108_2 := Aside0.mk hl1108_2
         clear hi1108_2 hl1108_2
         have HR1108_3 := Aside0.mk hi1108_3
         have HC1108_3 := Aside0.mk hl1108_3
         clear hi1108_3 hl1108_3
         replace p1108 := eq_true p1108
         replace q1108 := eq_true q1108
         have ea_ := Option.some.inj (hx1107_1.symm.trans hx1108_1)
         injection ea_ with ea_ en_ ec_
         subst ea_
         subst ec_
         clear en_
         have ea_ := Option.some.inj (hx1107_2.symm.trans hx1108_2)
         injection ea_ with ea_ en_ ec_
         subst ea_
         subst ec_
         clear en_
         have ea_ := Option.some.inj (hx1107_3.symm.trans hx1108_3)
         injection ea_ with ea_ en_ ec_
         subst ea_
         subst ec_
         clear en_
         go_wp2_with (first | ((with_reducible refine gate_callee (f := 70) rfl ?_);refine goesL_ (some 27) rfl rfl Try.func70 (by kernel_rfl) rfl #[.slice A1107_1 ((rd_T58 l0 x5_1).f1).length c1107_1, .int .i64 (wrap64 (x1_1 + 1))] rfl lf_ ?_;(with_reducible refine (laws_heldStringS.calls k1 _ _ ((rd_T58 l0 x5_1).f1) (wrap64 (x1_1 + 1)) t1109 _ ?side1 ?side2 A6.out).mono ?_);(case side1 => exact rc_ (Kd.C_below HR1108_1.out HB.out));(case side2 => exact HC1108_1.out);rintro e w15 ⟨rfl, hb⟩;refine ⟨_, rfl, ?_⟩;have n0_ := Aside0.mk (below_step (bw_ HB.out) hb);clear HB;have HB := n0_;clear n0_;(try clear hb);(try clear hb2);(try clear hk);(try clear hi);have p1110 : 0 ≤ (x5_1 : Int) := od_;have q1110 : x5_1 < (l0.length : Int) := od_;obtain ⟨ad1110, A1110_1, c1110_1, A1110_2, c1110_2, A1110_3, c1110_3, e1110, hx1110_0, hx1110_1, hx1110_2, hx1110_3, hl1110_1, hi1110_1, hl1110_2, hi1110_2, hl1110_3, hi1110_3⟩ := at_T58 HR0.out x5_1 p1110 q1110;obtain rfl : ad1107 = ad1110 := (by injection e1110);replace hx1110_0 := hc_ HB.out hx1110_0;replace hx1110_1 := hc_ HB.out hx1110_1;replace hx1110_2 := hc_ HB.out hx1110_2;replace hx1110_3 := hc_ HB.out hx1110_3;have HR1110_1 := Aside0.mk hi1110_1;have HC1110_1 := Aside0.mk hl1110_1;clear hi1110_1 hl1110_1;have HR1110_2 := Aside0.mk hi1110_2;have HC1110_2 := Aside0.mk hl1110_2;clear hi1110_2 hl1110_2;have HR1110_3 := Aside0.mk hi1110_3;have HC1110_3 := Aside0.mk hl1110_3;clear hi1110_3 hl1110_3;replace p1110 := eq_true p1110;replace q1110 := eq_true q1110) | ((with_reducible refine gate_callee (f := 70) rfl ?_);refine goesL_ (some 36) rfl rfl Try.func70 (by kernel_rfl) rfl #[.slice A1110_2 ((rd_T58 l0 x5_1).f2).length c1110_2, .int .i64 t1109] rfl lf_ ?_;(with_reducible refine (laws_heldStringS.calls k1 _ _ ((rd_T58 l0 x5_1).f2) t1109 t1111 _ ?side1 ?side2 A9.out).mono ?_);(case side1 => exact rc_ (Kd.C_below HR1110_2.out HB.out));(case side2 => exact HC1110_2.out);rintro e w16 ⟨rfl, hb⟩;refine ⟨_, rfl, ?_⟩;have n0_ := Aside0.mk (below_step (bw_ HB.out) hb);clear HB;have HB := n0_;clear n0_;(try clear hb);(try clear hb2);(try clear hk);(try clear hi);have p1112 : 0 ≤ (x5_1 : Int) := od_;have q1112 : x5_1 < (l0.length : Int) := od_;obtain ⟨ad1112, A1112_1, c1112_1, A1112_2, c1112_2, A1112_3, c1112_3, e1112, hx1112_0, hx1112_1, hx1112_2, hx1112_3, hl1112_1, hi1112_1, hl1112_2, hi1112_2, hl1112_3, hi1112_3⟩ := at_T58 HR0.out x5_1 p1112 q1112;obtain rfl : ad1107 = ad1112 := (by injection e1112);replace hx1112_0 := hc_ HB.out hx1112_0;replace hx1112_1 := hc_ HB.out hx1112_1;replace hx1112_2 := hc_ HB.out hx1112_2;replace hx1112_3 := hc_ HB.out hx1112_3;have HR1112_1 := Aside0.mk hi1112_1;have HC1112_1 := Aside0.mk hl1112_1;clear hi1112_1 hl1112_1;have HR1112_2 := Aside0.mk hi1112_2;have HC1112_2 := Aside0.mk hl1112_2;clear hi1112_2 hl1112_2;have HR1112_3 := Aside0.mk hi1112_3;have HC1112_3 := Aside0.mk hl1112_3;clear hi1112_3 hl1112_3;replace p1112 := eq_true p1112;replace q1112 := eq_true q1112) | ((with_reducible refine gate_callee (f := 70) rfl ?_);refine goesL_ (some 45) rfl rfl Try.func70 (by kernel_rfl) rfl #[.slice A1112_3 ((rd_T58 l0 x5_1).f3).length c1112_3, .int .i64 t1111] rfl lf_ ?_;(with_reducible refine (laws_heldStringS.calls k1 _ _ ((rd_T58 l0 x5_1).f3) t1111 t1113 _ ?side1 ?side2 A13.out).mono ?_);(case side1 => exact rc_ (Kd.C_below HR1112_3.out HB.out));(case side2 => exact HC1112_3.out);rintro e w17 ⟨rfl, hb⟩;refine ⟨_, rfl, ?_⟩;have n0_ := Aside0.mk (below_step (bw_ HB.out) hb);clear HB;have HB := n0_;clear n0_;(try clear hb);(try clear hb2);(try clear hk);(try clear hi)))
         go_ret
         exact ⟨by first | rfl | (simp [errW_none, errW_some] <;> rfl) | (simp [*, errW_none, errW_some] <;> rfl), bw_ HB.out⟩
        ·rw [if_neg c14] at H
         have c14b0 : decide (t1113 < 0) = false := decide_eq_false c14
         clear c14
         have H' := Aside0.mk H
         clear H
         have p1107 : 0 ≤ (x5_1 : Int) := od_
         have q1107 : x5_1 < (l0.length : Int) := od_
         obtain ⟨ad1107, A1107_1, c1107_1, A1107_2, c1107_2, A1107_3, c1107_3, e1107, hx1107_0, hx1107_1, hx1107_2, hx1107_3, hl1107_1, hi1107_1, hl1107_2, hi1107_2, hl1107_3, hi1107_3⟩ := at_T58 HR0.out x5_1 p1107 q1107
         cases e1107
         replace hx1107_0 := hc_ HB.out hx1107_0
         replace hx1107_1 := hc_ HB.out hx1107_1
         replace hx1107_2 := hc_ HB.out hx1107_2
         replace hx1107_3 := hc_ HB.out hx1107_3
         have HR1107_1 := Aside0.mk hi1107_1
         have HC1107_1 := Aside0.mk hl1107_1
         clear hi1107_1 hl1107_1
         have HR1107_2 := Aside0.mk hi1107_2
         have HC1107_2 := Aside0.mk hl1107_2
         clear hi1107_2 hl1107_2
         have HR1107_3 := Aside0.mk hi1107_3
         have HC1107_3 := Aside0.mk hl1107_3
         clear hi1107_3 hl1107_3
         replace p1107 := eq_true p1107
         replace q1107 := eq_true q1107
         have p1108 : 0 ≤ (x5_1 : Int) := od_
         have q1108 : x5_1 < (l0.length : Int) := od_
         obtain ⟨ad1108, A1108_1, c1108_1, A1108_2, c1108_2, A1108_3, c1108_3, e1108, hx1108_0, hx1108_1, hx1108_2, hx1108_3, hl1108_1, hi1108_1, hl1108_2, hi1108_2, hl1108_3, hi1108_3⟩ := at_T58 HR0.out x5_1 p1108 q1108
         obtain rfl : ad1107 = ad1108 := (by injection e1108)
         replace hx1108_0 := hc_ HB.out hx1108_0
         replace hx1108_1 := hc_ HB.out hx1108_1
         replace hx1108_2 := hc_ HB.out hx1108_2
         replace hx1108_3 := hc_ HB.out hx1108_3
         have HR1108_1 := Aside0.mk hi1108_1
         have HC1108_1 := Aside0.mk hl1108_1
         clear hi1108_1 hl1108_1
         have HR1108_2 := Aside0.mk hi1108_2
         have HC1108_2 := Aside0.mk hl1108_2
         clear hi1108_2 hl1108_2
         have HR1108_3 := Aside0.mk hi1108_3
         have HC1108_3 := Aside0.mk hl1108_3
         clear hi1108_3 hl1108_3
         replace p1108 := eq_true p1108
         replace q1108 := eq_true q1108
         have ea_ := Option.some.inj (hx1107_1.symm.trans hx1108_1)
         injection ea_ with ea_ en_ ec_
         subst ea_
         subst ec_
         clear en_
         have ea_ := Option.some.inj (hx1107_2.symm.trans hx1108_2)
         injection ea_ with ea_ en_ ec_
         subst ea_
         subst ec_
         clear en_
         have ea_ := Option.some.inj (hx1107_3.symm.trans hx1108_3)
         injection ea_ with ea_ en_ ec_
         subst ea_
         subst ec_
         clear en_
         go_wp2_with (first | ((with_reducible refine gate_callee (f := 70) rfl ?_);refine goesL_ (some 27) rfl rfl Try.func70 (by kernel_rfl) rfl #[.slice A1107_1 ((rd_T58 l0 x5_1).f1).length c1107_1, .int .i64 (wrap64 (x1_1 + 1))] rfl lf_ ?_;(with_reducible refine (laws_heldStringS.calls k1 _ _ ((rd_T58 l0 x5_1).f1) (wrap64 (x1_1 + 1)) t1109 _ ?side1 ?side2 A6.out).mono ?_);(case side1 => exact rc_ (Kd.C_below HR1108_1.out HB.out));(case side2 => exact HC1108_1.out);rintro e w18 ⟨rfl, hb⟩;refine ⟨_, rfl, ?_⟩;have n0_ := Aside0.mk (below_step (bw_ HB.out) hb);clear HB;have HB := n0_;clear n0_;(try clear hb);(try clear hb2);(try clear hk);(try clear hi);have p1110 : 0 ≤ (x5_1 : Int) := od_;have q1110 : x5_1 < (l0.length : Int) := od_;obtain ⟨ad1110, A1110_1, c1110_1, A1110_2, c1110_2, A1110_3, c1110_3, e1110, hx1110_0, hx1110_1, hx1110_2, hx1110_3, hl1110_1, hi1110_1, hl1110_2, hi1110_2, hl1110_3, hi1110_3⟩ := at_T58 HR0.out x5_1 p1110 q1110;obtain rfl : ad1107 = ad1110 := (by injection e1110);replace hx1110_0 := hc_ HB.out hx1110_0;replace hx1110_1 := hc_ HB.out hx1110_1;replace hx1110_2 := hc_ HB.out hx1110_2;replace hx1110_3 := hc_ HB.out hx1110_3;have HR1110_1 := Aside0.mk hi1110_1;have HC1110_1 := Aside0.mk hl1110_1;clear hi1110_1 hl1110_1;have HR1110_2 := Aside0.mk hi1110_2;have HC1110_2 := Aside0.mk hl1110_2;clear hi1110_2 hl1110_2;have HR1110_3 := Aside0.mk hi1110_3;have HC1110_3 := Aside0.mk hl1110_3;clear hi1110_3 hl1110_3;replace p1110 := eq_true p1110;replace q1110 := eq_true q1110) | ((with_reducible refine gate_callee (f := 70) rfl ?_);refine goesL_ (some 36) rfl rfl Try.func70 (by kernel_rfl) rfl #[.slice A1110_2 ((rd_T58 l0 x5_1).f2).length c1110_2, .int .i64 t1109] rfl lf_ ?_;(with_reducible refine (laws_heldStringS.calls k1 _ _ ((rd_T58 l0 x5_1).f2) t1109 t1111 _ ?side1 ?side2 A9.out).mono ?_);(case side1 => exact rc_ (Kd.C_below HR1110_2.out HB.out));(case side2 => exact HC1110_2.out);rintro e w19 ⟨rfl, hb⟩;refine ⟨_, rfl, ?_⟩;have n0_ := Aside0.mk (below_step (bw_ HB.out) hb);clear HB;have HB := n0_;clear n0_;(try clear hb);(try clear hb2);(try clear hk);(try clear hi);have p1112 : 0 ≤ (x5_1 : Int) := od_;have q1112 : x5_1 < (l0.length : Int) := od_;obtain ⟨ad1112, A1112_1, c1112_1, A1112_2, c1112_2, A1112_3, c1112_3, e1112, hx1112_0, hx1112_1, hx1112_2, hx1112_3, hl1112_1, hi1112_1, hl1112_2, hi1112_2, hl1112_3, hi1112_3⟩ := at_T58 HR0.out x5_1 p1112 q1112;obtain rfl : ad1107 = ad1112 := (by injection e1112);replace hx1112_0 := hc_ HB.out hx1112_0;replace hx1112_1 := hc_ HB.out hx1112_1;replace hx1112_2 := hc_ HB.out hx1112_2;replace hx1112_3 := hc_ HB.out hx1112_3;have HR1112_1 := Aside0.mk hi1112_1;have HC1112_1 := Aside0.mk hl1112_1;clear hi1112_1 hl1112_1;have HR1112_2 := Aside0.mk hi1112_2;have HC1112_2 := Aside0.mk hl1112_2;clear hi1112_2 hl1112_2;have HR1112_3 := Aside0.mk hi1112_3;have HC1112_3 := Aside0.mk hl1112_3;clear hi1112_3 hl1112_3;replace p1112 := eq_true p1112;replace q1112 := eq_true q1112) | ((with_reducible refine gate_callee (f := 70) rfl ?_);refine goesL_ (some 45) rfl rfl Try.func70 (by kernel_rfl) rfl #[.slice A1112_3 ((rd_T58 l0 x5_1).f3).length c1112_3, .int .i64 t1111] rfl lf_ ?_;(with_reducible refine (laws_heldStringS.calls k1 _ _ ((rd_T58 l0 x5_1).f3) t1111 t1113 _ ?side1 ?side2 A13.out).mono ?_);(case side1 => exact rc_ (Kd.C_below HR1112_3.out HB.out));(case side2 => exact HC1112_3.out);rintro e w20 ⟨rfl, hb⟩;refine ⟨_, rfl, ?_⟩;have n0_ := Aside0.mk (below_step (bw_ HB.out) hb);clear HB;have HB := n0_;clear n0_;(try clear hb);(try clear hb2);(try clear hk);(try clear hi)))
         go_roundg k1
         case measure => have := HK1.out;omega
         case rel => exact ⟨(t1113), (wrap64 (x5_1 + 1)), ls_, ls_, H', ⟨by have := HK1.out;omega⟩, ⟨bw_ HB.out⟩⟩
     ·rw [if_neg c5] at H
      have c5b0 : (((rd_T58 l0 x5_1).f0) == x1_1) = false := beq_eq_false_iff_ne.mpr c5
      have c5b1 : (((rd_T58 l0 x5_1).f0) != x1_1) = true := bne_iff_ne.mpr c5
      obtain rfl := Option.some.inj H
      have p1107 : 0 ≤ (x5_1 : Int) := od_
      have q1107 : x5_1 < (l0.length : Int) := od_
      obtain ⟨ad1107, A1107_1, c1107_1, A1107_2, c1107_2, A1107_3, c1107_3, e1107, hx1107_0, hx1107_1, hx1107_2, hx1107_3, hl1107_1, hi1107_1, hl1107_2, hi1107_2, hl1107_3, hi1107_3⟩ := at_T58 HR0.out x5_1 p1107 q1107
      cases e1107
      replace hx1107_0 := hc_ HB.out hx1107_0
      replace hx1107_1 := hc_ HB.out hx1107_1
      replace hx1107_2 := hc_ HB.out hx1107_2
      replace hx1107_3 := hc_ HB.out hx1107_3
      have HR1107_1 := Aside0.mk hi1107_1
      have HC1107_1 := Aside0.mk hl1107_1
      clear hi1107_1 hl1107_1
      have HR1107_2 := Aside0.mk hi1107_2
      have HC1107_2 := Aside0.mk hl1107_2
      clear hi1107_2 hl1107_2
      have HR1107_3 := Aside0.mk hi1107_3
      have HC1107_3 := Aside0.mk hl1107_3
      clear hi1107_3 hl1107_3
      replace p1107 := eq_true p1107
      replace q1107 := eq_true q1107
      go_wp2
      go_ret
      exact ⟨by first | rfl | (simp [errW_none, errW_some] <;> rfl) | (simp [*, errW_none, errW_some] <;> rfl), bw_ HB.out⟩
    ·rw [if_neg c4] at H
     exact absurd H (by simp)
   ·rw [if_neg c3] at H
    have c3b0 : decide (x5_1 < (l0.length : Int)) = false := decide_eq_false c3
    clear c3
    obtain rfl := Option.some.inj H
    go_wp2
    go_ret
    exact ⟨by first | rfl | (simp [errW_none, errW_some] <;> rfl) | (simp [*, errW_none, errW_some] <;> rfl), bw_ HB.out⟩
end Go.Proofs.Ytjngmhngedecdaa.P
end
section
namespace Go.Proofs.Ytjngmhngedecdaa.P
open Go.RowKit Go.Proofs.YtjngmhngedecdaaW.PrintWords Go.Proofs.YtjngmhngedecdaaW.PrintLast Go.Proofs.YtjngmhngedecdaaW.PrintMore
attribute [local go_sem] max2_int min2_int max_two min_two max_three min_three max_four min_four
set_option linter.unusedVariables false
set_option linter.unusedSimpArgs false
def laws_heldChunksResult.f (k : Nat) (a0_0 : Int) (l0_1 : List (S58)) (a1 : Int) : Option (Int) := (laws_heldChunkS.f k l0_1 a1).bind fun t1115 => (if t1115 < 0 then (some (-1)) else (some t1115))
set_option maxHeartbeats 8000000 in
set_option maxRecDepth 100000 in
theorem laws_heldChunksResult.calls (k : Nat) (a0_0 : Int) (A0_1 : Option Addr) (c0_1 : Nat) (l0_1 : List (S58)) (a1 : Int) (r : Int) (w : World) (hr0_1 : Kd.C k58 w A0_1 l0_1.length l0_1) (hc0_1 : l0_1.length ≤ c0_1) (h : laws_heldChunksResult.f k a0_0 l0_1 a1 = some r) :
  Calls Try.prog 53 #[.agg #[.int .i64 a0_0, .slice A0_1 l0_1.length c0_1], .int .i64 a1] w fun e w' => e = .returned (.int .i64 r) ∧ Below w.heap.size w w' := by
 have hu71 := Try.underlying71;have HR0_1 := Aside0.mk hr0_1;have HC0_1 := Aside0.mk hc0_1;clear hr0_1 hc0_1;have HB := Aside0.mk (Below.refl w.heap.size w);have H : ((laws_heldChunkS.f k l0_1 a1).bind fun t1115 => (if t1115 < 0 then (some (-1)) else (some t1115))) = some r := h;clear h;replace H := Option.bind_eq_some_iff.mp H;obtain ⟨t1115, A30, H⟩ := H;replace H : (if t1115 < 0 then (some (-1)) else (some t1115)) = some r := H;have A3 := Aside0.mk A30;clear A30;by_cases c4 : t1115 < 0;(·rw [if_pos c4] at H;have c4b0 : decide (t1115 < 0) = true := decide_eq_true c4;clear c4;obtain rfl := Option.some.inj H;go_enter Try.func53, Try.ntmps53;go_wp2_with (first | ((with_reducible refine gate_dst (N := 2) rfl ?_);refine box_event ?hg (N := 2) ?hd (cs := #[.int .i64 a0_0, .slice A0_1 l0_1.length c0_1]) (t := 71) ?hr ?_;(case hd => rfl);(case hg => rfl);(case hr => first | (go_simp;done) | (go_simp;rfl));intro gb1114 hg w5 hbox hb;have n0_ := Aside0.mk (below_step (bw_ HB.out) hb);have n1_ := Aside0.mk (hbox);have n2_ := Aside0.mk ((by rw [hg];exact (below_size (bw_ HB.out)) : w.heap.size ≤ gb1114));have n3_ := Aside0.mk ((by rw [hg];exact (below_size (bw_ HB.out)) : w.heap.size ≤ gb1114));clear HB;have HB := n0_;have BK1114 := n1_;have GW1114 := n2_;have GE1114 := n3_;clear n0_ n1_ n2_ n3_;clear hb hbox hg;have hcz6_0 : w5.cell? ⟨gb1114, 0, none⟩ = some (.int .i64 a0_0) := (blk_cell BK1114.out 0).trans rfl;have hcz6_1 : w5.cell? ⟨gb1114, 1, none⟩ = some (.slice A0_1 l0_1.length c0_1) := (blk_cell BK1114.out 1).trans rfl;have hfz6_0 := blk_frozen BK1114.out 0;have hfz6_1 := blk_frozen BK1114.out 1) | ((with_reducible refine gate_callee (f := 98) rfl ?_);refine goesL_ (some 8) rfl rfl Try.func98 (by kernel_rfl) rfl #[.slice A0_1 l0_1.length c0_1, .int .i64 a1] rfl lf_ ?_;(with_reducible refine (laws_heldChunkS.calls k _ _ l0_1 a1 t1115 _ ?side1 ?side2 A3.out).mono ?_);(case side1 => exact rc_ (Kd.C_below HR0_1.out HB.out));(case side2 => exact HC0_1.out);rintro e w7 ⟨rfl, hb⟩;refine ⟨_, rfl, ?_⟩;have n0_ := Aside0.mk (blk_below (g := gb1114) (o := .cells #[.int .i64 a0_0, .slice A0_1 l0_1.length c0_1] 71 (0, 0)) (rb_ BK1114.out) hb);have n1_ := Aside0.mk (below_step (bw1_ HB.out GE1114.out) hb);clear BK1114;clear HB;have BK1114 := n0_;have HB := n1_;clear n0_ n1_;(try clear hb);(try clear hb2);(try clear hk);(try clear hi)));go_ret;exact ⟨by first | rfl | (simp [errW_none, errW_some] <;> rfl) | (simp [*, errW_none, errW_some] <;> rfl), bw1_ HB.out GE1114.out⟩);·rw [if_neg c4] at H;have c4b0 : decide (t1115 < 0) = false := decide_eq_false c4;clear c4;obtain rfl := Option.some.inj H;go_enter Try.func53, Try.ntmps53;go_wp2_with (first | ((with_reducible refine gate_dst (N := 2) rfl ?_);refine box_event ?hg (N := 2) ?hd (cs := #[.int .i64 a0_0, .slice A0_1 l0_1.length c0_1]) (t := 71) ?hr ?_;(case hd => rfl);(case hg => rfl);(case hr => first | (go_simp;done) | (go_simp;rfl));intro gb1114 hg w8 hbox hb;have n0_ := Aside0.mk (below_step (bw_ HB.out) hb);have n1_ := Aside0.mk (hbox);have n2_ := Aside0.mk ((by rw [hg];exact (below_size (bw_ HB.out)) : w.heap.size ≤ gb1114));have n3_ := Aside0.mk ((by rw [hg];exact (below_size (bw_ HB.out)) : w.heap.size ≤ gb1114));clear HB;have HB := n0_;have BK1114 := n1_;have GW1114 := n2_;have GE1114 := n3_;clear n0_ n1_ n2_ n3_;clear hb hbox hg;have hcz9_0 : w8.cell? ⟨gb1114, 0, none⟩ = some (.int .i64 a0_0) := (blk_cell BK1114.out 0).trans rfl;have hcz9_1 : w8.cell? ⟨gb1114, 1, none⟩ = some (.slice A0_1 l0_1.length c0_1) := (blk_cell BK1114.out 1).trans rfl;have hfz9_0 := blk_frozen BK1114.out 0;have hfz9_1 := blk_frozen BK1114.out 1) | ((with_reducible refine gate_callee (f := 98) rfl ?_);refine goesL_ (some 8) rfl rfl Try.func98 (by kernel_rfl) rfl #[.slice A0_1 l0_1.length c0_1, .int .i64 a1] rfl lf_ ?_;(with_reducible refine (laws_heldChunkS.calls k _ _ l0_1 a1 t1115 _ ?side1 ?side2 A3.out).mono ?_);(case side1 => exact rc_ (Kd.C_below HR0_1.out HB.out));(case side2 => exact HC0_1.out);rintro e w10 ⟨rfl, hb⟩;refine ⟨_, rfl, ?_⟩;have n0_ := Aside0.mk (blk_below (g := gb1114) (o := .cells #[.int .i64 a0_0, .slice A0_1 l0_1.length c0_1] 71 (0, 0)) (rb_ BK1114.out) hb);have n1_ := Aside0.mk (below_step (bw1_ HB.out GE1114.out) hb);clear BK1114;clear HB;have BK1114 := n0_;have HB := n1_;clear n0_ n1_;(try clear hb);(try clear hb2);(try clear hk);(try clear hi)));go_ret;exact ⟨by first | rfl | (simp [errW_none, errW_some] <;> rfl) | (simp [*, errW_none, errW_some] <;> rfl), bw1_ HB.out GE1114.out⟩
end Go.Proofs.Ytjngmhngedecdaa.P
end
section
namespace Go.Proofs.Ytjngmhngedecdaa.P
open Go.RowKit Go.Proofs.YtjngmhngedecdaaW.PrintWords Go.Proofs.YtjngmhngedecdaaW.PrintLast Go.Proofs.YtjngmhngedecdaaW.PrintMore
attribute [local go_sem] max2_int min2_int max_two min_two max_three min_three max_four min_four
set_option linter.unusedVariables false
set_option linter.unusedSimpArgs false
def spec_l1Ended.l0 : Nat → ByteArray → Int → Option (Int)
 | 0, _, _ => none
 | k + 1, x0, x3 => if x3 < (x0.size : Int) then (if 0 ≤ x3 then (if (bt x0 x3) = 10 then (some x3) else (spec_l1Ended.l0 k x0 (wrap64 (x3 + 1)))) else (none)) else (some (x0.size : Int))
def spec_l1Ended.f (k : Nat) (a0 : ByteArray) : Option (Int) := spec_l1Ended.l0 k a0 0
set_option maxHeartbeats 8000000 in
set_option maxRecDepth 100000 in
theorem spec_l1Ended.calls (k : Nat) (a0 : ByteArray) (r : Int) (w : World) (h : spec_l1Ended.f k a0 = some r) :
  Calls Try.prog 109 #[.string a0] w fun e w' => e = .returned (.int .i64 r) ∧ Drawn0 w w' := by
 have H : (spec_l1Ended.l0 k a0 0) = some r := h;clear h;have H' := Aside0.mk H;clear H;go_enter Try.func109, Try.ntmps109;go_wp2;go_loopg [3] k (fun kq v3 w' => ∃ (x3_1 : Int), v3 = .int .i64 x3_1 ∧ Aside0 (spec_l1Ended.l0 kq a0 x3_1 = some r) ∧ Aside0 (kq ≤ k) ∧ Drawn0 w w');(case atStart => exact ⟨(0), ls_, H', ⟨Nat.le_refl _⟩, by repeat (first | exact Drawn0.refl _ | apply Drawn0.step)⟩)
 case round =>
  clear H'
  try clear c1
  obtain ⟨x3_1, rfl, HA, HK1, ⟨m1, rfl⟩⟩ := hrel
  cases gk with
  | zero => exact absurd HA.out (by simp [spec_l1Ended.l0])
  | succ k1 =>
   have H := HA.out
   clear HA
   simp only [spec_l1Ended.l0] at H
   by_cases c2 : x3_1 < (a0.size : Int)
   ·rw [if_pos c2] at H
    have c2b0 : decide (x3_1 < (a0.size : Int)) = true := decide_eq_true c2
    clear c2
    by_cases c3 : 0 ≤ x3_1
    ·rw [if_pos c3] at H
     have c3b0 : decide (0 ≤ x3_1) = true := decide_eq_true c3
     clear c3
     by_cases c5 : (bt a0 x3_1) = 10
     ·rw [if_pos c5] at H
      have c5b0 : ((bt a0 x3_1) == 10) = true := beq_iff_eq.mpr c5
      have c5b1 : ((bt a0 x3_1) != 10) = false := bne_eq_false_iff_eq.mpr c5
      clear c5
      obtain rfl := Option.some.inj H
      have p4 : 0 ≤ (x3_1 : Int) := od_
      have q4 : x3_1 < (a0.size : Int) := od_
      have hx4 := bt_at a0 x3_1
      replace p4 := eq_true p4
      replace q4 := eq_true q4
      go_wp2
      go_ret
      exact ⟨by first | rfl | (simp;done) | (simp [*];done), by repeat (first | exact Drawn0.refl _ | apply Drawn0.step)⟩
     ·rw [if_neg c5] at H
      have c5b0 : ((bt a0 x3_1) == 10) = false := beq_eq_false_iff_ne.mpr c5
      have c5b1 : ((bt a0 x3_1) != 10) = true := bne_iff_ne.mpr c5
      have H' := Aside0.mk H
      clear H
      have p4 : 0 ≤ (x3_1 : Int) := od_
      have q4 : x3_1 < (a0.size : Int) := od_
      have hx4 := bt_at a0 x3_1
      replace p4 := eq_true p4
      replace q4 := eq_true q4
      go_wp2
      go_roundg k1
      case measure => have := HK1.out;omega
      case rel => exact ⟨(wrap64 (x3_1 + 1)), ls_, H', ⟨by have := HK1.out;omega⟩, by repeat (first | exact Drawn0.refl _ | apply Drawn0.step)⟩
    ·rw [if_neg c3] at H
     exact absurd H (by simp)
   ·rw [if_neg c2] at H
    have c2b0 : decide (x3_1 < (a0.size : Int)) = false := decide_eq_false c2
    clear c2
    obtain rfl := Option.some.inj H
    go_wp2
    go_ret
    exact ⟨by first | rfl | (simp;done) | (simp [*];done), by repeat (first | exact Drawn0.refl _ | apply Drawn0.step)⟩
end Go.Proofs.Ytjngmhngedecdaa.P
end
section
namespace Go.Proofs.Ytjngmhngedecdaa.P
open Go.RowKit Go.Proofs.YtjngmhngedecdaaW.PrintWords Go.Proofs.YtjngmhngedecdaaW.PrintLast Go.Proofs.YtjngmhngedecdaaW.PrintMore
attribute [local go_sem] max2_int min2_int max_two min_two max_three min_three max_four min_four
set_option linter.unusedVariables false
set_option linter.unusedSimpArgs false
mutual
def spec_LinesFault.l0 : Nat → List ByteArray → Int → Int → Option (Int)
 | 0, _, _, _ => none
 | k + 1, x0, x3, x4 => if x4 < (x0.length : Int) then (if 0 ≤ x4 then (spec_LinesFault.l0 k x0 (wrap64 (x3 + ((rdOf ByteArray.empty x0 x4).size : Int))) (wrap64 (x4 + 1))) else (none)) else (if (x0.length : Int) > 100 then (spec_LinesFault.j1 k x0 true) else (spec_LinesFault.j1 k x0 (decide (x3 > 2000))))
def spec_LinesFault.j1 : Nat → List ByteArray → Bool → Option (Int)
 | 0, _, _ => none
 | k + 1, x0, x26 => if x26 = true then (some 2) else (spec_LinesFault.l1 k x0 0)
def spec_LinesFault.l1 : Nat → List ByteArray → Int → Option (Int)
 | 0, _, _ => none
 | k + 1, x0, x5 => if x5 < (x0.length : Int) then (if 0 ≤ x5 then ((spec_l1Ended.f k (rdOf ByteArray.empty x0 x5)).bind fun t268 => (if (rdOf ByteArray.empty x0 x5).toList = ([] : List UInt8) then (some 1) else (if t268 < (wrap64 (((rdOf ByteArray.empty x0 x5).size : Int) - 1)) then (some 1) else (if t268 = ((rdOf ByteArray.empty x0 x5).size : Int) then (if x5 < (wrap64 ((x0.length : Int) - 1)) then (some 1) else (spec_LinesFault.l1 k x0 (wrap64 (x5 + 1)))) else (spec_LinesFault.l1 k x0 (wrap64 (x5 + 1))))))) else (none)) else (some 0)
end
def spec_LinesFault.f (k : Nat) (l0 : List ByteArray) : Option (Int) := spec_LinesFault.l0 k l0 0 0
set_option maxHeartbeats 8000000 in
set_option maxRecDepth 100000 in
theorem spec_LinesFault.calls (k : Nat) (A0 : Option Addr) (c0 : Nat) (l0 : List ByteArray) (r : Int) (w : World) (hr0 : Kd.C Kd.string w A0 l0.length l0) (hc0 : l0.length ≤ c0) (h : spec_LinesFault.f k l0 = some r) :
  Calls Try.prog 66 #[.slice A0 l0.length c0] w fun e w' => e = .returned (.int .i64 r) ∧ Drawn0 w w' := by
 have HR0 := Aside0.mk hr0;have HC0 := Aside0.mk hc0;clear hr0 hc0;have H : (spec_LinesFault.l0 k l0 0 0) = some r := h;clear h;have H' := Aside0.mk H;clear H;go_enter Try.func66, Try.ntmps66;go_wp2;go_loopg [3, 4] k (fun kq v3 v4 w' => ∃ (x3_1 : Int) (x4_1 : Int), v3 = .int .i64 x3_1 ∧ v4 = .int .i64 x4_1 ∧ Aside0 (spec_LinesFault.l0 kq l0 x3_1 x4_1 = some r) ∧ Aside0 (kq ≤ k) ∧ Drawn0 w w');(case atStart => exact ⟨(0), (0), ls_, ls_, H', ⟨Nat.le_refl _⟩, by repeat (first | exact Drawn0.refl _ | apply Drawn0.step)⟩)
 case round =>
  clear H'
  obtain ⟨x3_1, x4_1, rfl, rfl, HA, HK1, ⟨m1, rfl⟩⟩ := hrel
  cases gk with
  | zero => exact absurd HA.out (by simp [spec_LinesFault.l0])
  | succ k1 =>
   have H := HA.out
   clear HA
   simp only [spec_LinesFault.l0] at H
   by_cases c2 : x4_1 < (l0.length : Int)
   ·rw [if_pos c2] at H
    have c2b0 : decide (x4_1 < (l0.length : Int)) = true := decide_eq_true c2
    clear c2
    by_cases c3 : 0 ≤ x4_1
    ·rw [if_pos c3] at H
     have c3b0 : decide (0 ≤ x4_1) = true := decide_eq_true c3
     clear c3
     have H' := Aside0.mk H
     clear H
     have p266 : 0 ≤ (x4_1 : Int) := od_
     have q266 : x4_1 < (l0.length : Int) := od_
     obtain ⟨ad266, e266, hx266_0⟩ := Kd.at_string HR0.out x4_1 p266 q266
     cases e266
     replace p266 := eq_true p266
     replace q266 := eq_true q266
     go_wp2
     go_roundg k1
     case measure => have := HK1.out;omega
     case rel => exact ⟨(wrap64 (x3_1 + ((rdOf ByteArray.empty l0 x4_1).size : Int))), (wrap64 (x4_1 + 1)), ls_, ls_, H', ⟨by have := HK1.out;omega⟩, by repeat (first | exact Drawn0.refl _ | apply Drawn0.step)⟩
    ·rw [if_neg c3] at H
     exact absurd H (by simp)
   ·rw [if_neg c2] at H
    have c2b0 : decide (x4_1 < (l0.length : Int)) = false := decide_eq_false c2
    clear c2
    have HC4 := Aside0.mk H
    clear H
    go_upto_region 6 with (fail)
    go_cut [26] (fun v26 wc => ∃ (kq : Nat) (x26_3 : Bool), v26 = .bool x26_3 ∧ Aside0 (spec_LinesFault.j1 kq l0 x26_3 = some r) ∧ Aside0 (kq ≤ k1) ∧ Drawn0 w wc)
    case first =>
     have H := HC4.out
     clear HC4
     by_cases c5 : (l0.length : Int) > 100
     ·rw [if_pos c5] at H
      have c5b0 : decide (100 < (l0.length : Int)) = true := decide_eq_true c5
      have c5b1 : decide (100 < l0.length) = true := decide_eq_true (by omega)
      clear c5
      (first | rw [c5b0] | (simp only [i64_w, i32_w];rw [c5b0]) | skip)
      have H' := Aside0.mk H
      clear H
      go_wp2
      go_meet
      case rel => exact ⟨_, (true), ls_, H', ⟨by have := HK1.out;first | omega | exact Nat.le_refl _⟩, by repeat (first | exact Drawn0.refl _ | apply Drawn0.step)⟩
     ·rw [if_neg c5] at H
      have c5b0 : decide (100 < (l0.length : Int)) = false := decide_eq_false c5
      have c5b1 : decide (100 < l0.length) = false := decide_eq_false (by omega)
      clear c5
      (first | rw [c5b0] | (simp only [i64_w, i32_w];rw [c5b0]) | skip)
      have H' := Aside0.mk H
      clear H
      go_wp2
      go_meet
      case rel => exact ⟨_, (decide (x3_1 > 2000)), ls_, H', ⟨by have := HK1.out;first | omega | exact Nat.le_refl _⟩, by repeat (first | exact Drawn0.refl _ | apply Drawn0.step)⟩
    case rest =>
     clear HC4
     try clear c2
     try clear c2b0
     try clear p2
     try clear q2
     try clear hx2
     try clear c3
     try clear c3b0
     try clear c5
     try clear c5b0
     try clear c5b1
     try clear hx266_0
     try clear p266
     try clear q266
     obtain ⟨kq, x26_3, rfl, HA, HJ3, ⟨mc3, rfl⟩⟩ := hcut
     cases kq with
     | zero => exact absurd HA.out (by simp [spec_LinesFault.j1])
     | succ kj3 =>
      have H := HA.out
      clear HA
      simp only [spec_LinesFault.j1] at H
      by_cases c6 : x26_3 = true
      ·subst c6
       have H1 : (some 2) = some r := by rw [if_pos rfl] at H;exact H
       clear H
       have H := H1
       clear H1
       obtain rfl := Option.some.inj H
       go_wp2
       go_ret
       exact ⟨by first | rfl | (simp;done) | (simp [*];done), by repeat (first | exact Drawn0.refl _ | apply Drawn0.step)⟩
      ·replace c6 := Bool.eq_false_iff.mpr c6
       subst c6
       have H1 : (spec_LinesFault.l1 kj3 l0 0) = some r := by rw [if_neg (show ¬ (false = true) by decide)] at H;exact H
       clear H
       have H := H1
       clear H1
       have H' := Aside0.mk H
       clear H
       go_wp2
       go_loopg [5] kj3 (fun kq v5 w' => ∃ (x5_3 : Int), v5 = .int .i64 x5_3 ∧ Aside0 (spec_LinesFault.l1 kq l0 x5_3 = some r) ∧ Aside0 (kq ≤ kj3) ∧ Drawn0 w w')
       case atStart => exact ⟨(0), ls_, H', ⟨Nat.le_refl _⟩, by repeat (first | exact Drawn0.refl _ | apply Drawn0.step)⟩
       case round =>
        clear H'
        try clear c2
        try clear c2b0
        try clear p2
        try clear q2
        try clear hx2
        try clear c3
        try clear c3b0
        try clear c5
        try clear c5b0
        try clear c5b1
        try clear c6
        try clear p6
        try clear hx266_0
        try clear p2
        try clear p266
        try clear q2
        try clear q266
        obtain ⟨x5_3, rfl, HA, HK3, ⟨m3, rfl⟩⟩ := hrel
        cases gk with
        | zero => exact absurd HA.out (by simp [spec_LinesFault.l1])
        | succ k3 =>
         have H := HA.out
         clear HA
         simp only [spec_LinesFault.l1] at H
         by_cases c7 : x5_3 < (l0.length : Int)
         ·rw [if_pos c7] at H
          have c7b0 : decide (x5_3 < (l0.length : Int)) = true := decide_eq_true c7
          clear c7
          by_cases c8 : 0 ≤ x5_3
          ·rw [if_pos c8] at H
           have c8b0 : decide (0 ≤ x5_3) = true := decide_eq_true c8
           clear c8
           replace H := Option.bind_eq_some_iff.mp H
           obtain ⟨t268, A90, H⟩ := H
           replace H : (if (rdOf ByteArray.empty l0 x5_3).toList = ([] : List UInt8) then (some 1) else (if t268 < (wrap64 (((rdOf ByteArray.empty l0 x5_3).size : Int) - 1)) then (some 1) else (if t268 = ((rdOf ByteArray.empty l0 x5_3).size : Int) then (if x5_3 < (wrap64 ((l0.length : Int) - 1)) then (some 1) else (spec_LinesFault.l1 k3 l0 (wrap64 (x5_3 + 1)))) else (spec_LinesFault.l1 k3 l0 (wrap64 (x5_3 + 1)))))) = some r := H
           have A9 := Aside0.mk A90
           clear A90
           by_cases c10 : (rdOf ByteArray.empty l0 x5_3).toList = ([] : List UInt8)
           ·rw [if_pos c10] at H
            have c10b0 : ((rdOf ByteArray.empty l0 x5_3).toList == ([] : List UInt8)) = true := beq_iff_eq.mpr c10
            have c10b1 : ((rdOf ByteArray.empty l0 x5_3).toList != ([] : List UInt8)) = false := bne_eq_false_iff_eq.mpr c10
            clear c10
            obtain rfl := Option.some.inj H
            have p267 : 0 ≤ (x5_3 : Int) := od_
            have q267 : x5_3 < (l0.length : Int) := od_
            obtain ⟨ad267, e267, hx267_0⟩ := Kd.at_string HR0.out x5_3 p267 q267
            cases e267
            replace p267 := eq_true p267
            replace q267 := eq_true q267
            go_wp2_with (first | ((with_reducible refine gate_callee (f := 109) rfl ?_);refine goesL_ (some 37) rfl rfl Try.func109 (by kernel_rfl) rfl #[.string (rdOf ByteArray.empty l0 x5_3)] rfl lf_ ?_;(with_reducible refine (spec_l1Ended.calls k3 (rdOf ByteArray.empty l0 x5_3) t268 _ A9.out).mono ?_);rintro e w' ⟨rfl, ⟨nd, rfl⟩⟩;refine ⟨_, rfl, ?_⟩;have p269 : 0 ≤ (x5_3 : Int) := od_;have q269 : x5_3 < (l0.length : Int) := od_;obtain ⟨ad269, e269, hx269_0⟩ := Kd.at_string HR0.out x5_3 p269 q269;obtain rfl : ad267 = ad269 := (by injection e269);replace p269 := eq_true p269;replace q269 := eq_true q269))
            go_ret
            exact ⟨by first | rfl | (simp;done) | (simp [*];done), by repeat (first | exact Drawn0.refl _ | apply Drawn0.step)⟩
           ·rw [if_neg c10] at H
            have c10b0 : ((rdOf ByteArray.empty l0 x5_3).toList == ([] : List UInt8)) = false := beq_eq_false_iff_ne.mpr c10
            have c10b1 : ((rdOf ByteArray.empty l0 x5_3).toList != ([] : List UInt8)) = true := bne_iff_ne.mpr c10
            by_cases c11 : t268 < (wrap64 (((rdOf ByteArray.empty l0 x5_3).size : Int) - 1))
            ·rw [if_pos c11] at H
             have c11b0 : decide (t268 < (wrap64 (((rdOf ByteArray.empty l0 x5_3).size : Int) - 1))) = true := decide_eq_true c11
             clear c11
             obtain rfl := Option.some.inj H
             have p267 : 0 ≤ (x5_3 : Int) := od_
             have q267 : x5_3 < (l0.length : Int) := od_
             obtain ⟨ad267, e267, hx267_0⟩ := Kd.at_string HR0.out x5_3 p267 q267
             cases e267
             replace p267 := eq_true p267
             replace q267 := eq_true q267
             go_wp2_with (first | ((with_reducible refine gate_callee (f := 109) rfl ?_);refine goesL_ (some 37) rfl rfl Try.func109 (by kernel_rfl) rfl #[.string (rdOf ByteArray.empty l0 x5_3)] rfl lf_ ?_;(with_reducible refine (spec_l1Ended.calls k3 (rdOf ByteArray.empty l0 x5_3) t268 _ A9.out).mono ?_);rintro e w' ⟨rfl, ⟨nd, rfl⟩⟩;refine ⟨_, rfl, ?_⟩;have p269 : 0 ≤ (x5_3 : Int) := od_;have q269 : x5_3 < (l0.length : Int) := od_;obtain ⟨ad269, e269, hx269_0⟩ := Kd.at_string HR0.out x5_3 p269 q269;obtain rfl : ad267 = ad269 := (by injection e269);replace p269 := eq_true p269;replace q269 := eq_true q269;have p270 : 0 ≤ (x5_3 : Int) := od_;have q270 : x5_3 < (l0.length : Int) := od_;obtain ⟨ad270, e270, hx270_0⟩ := Kd.at_string HR0.out x5_3 p270 q270;obtain rfl : ad267 = ad270 := (by injection e270);replace p270 := eq_true p270;replace q270 := eq_true q270))
             go_ret
             exact ⟨by first | rfl | (simp;done) | (simp [*];done), by repeat (first | exact Drawn0.refl _ | apply Drawn0.step)⟩
            ·rw [if_neg c11] at H
             have c11b0 : decide (t268 < (wrap64 (((rdOf ByteArray.empty l0 x5_3).size : Int) - 1))) = false := decide_eq_false c11
             clear c11
             by_cases c12 : t268 = ((rdOf ByteArray.empty l0 x5_3).size : Int)
             ·rw [if_pos c12] at H
              have c12b0 : (t268 == ((rdOf ByteArray.empty l0 x5_3).size : Int)) = true := beq_iff_eq.mpr c12
              have c12b1 : (t268 != ((rdOf ByteArray.empty l0 x5_3).size : Int)) = false := bne_eq_false_iff_eq.mpr c12
              clear c12
              by_cases c13 : x5_3 < (wrap64 ((l0.length : Int) - 1))
              ·rw [if_pos c13] at H
               have c13b0 : decide (x5_3 < (wrap64 ((l0.length : Int) - 1))) = true := decide_eq_true c13
               clear c13
               obtain rfl := Option.some.inj H
               have p267 : 0 ≤ (x5_3 : Int) := od_
               have q267 : x5_3 < (l0.length : Int) := od_
               obtain ⟨ad267, e267, hx267_0⟩ := Kd.at_string HR0.out x5_3 p267 q267
               cases e267
               replace p267 := eq_true p267
               replace q267 := eq_true q267
               go_wp2_with (first | ((with_reducible refine gate_callee (f := 109) rfl ?_);refine goesL_ (some 37) rfl rfl Try.func109 (by kernel_rfl) rfl #[.string (rdOf ByteArray.empty l0 x5_3)] rfl lf_ ?_;(with_reducible refine (spec_l1Ended.calls k3 (rdOf ByteArray.empty l0 x5_3) t268 _ A9.out).mono ?_);rintro e w' ⟨rfl, ⟨nd, rfl⟩⟩;refine ⟨_, rfl, ?_⟩;have p269 : 0 ≤ (x5_3 : Int) := od_;have q269 : x5_3 < (l0.length : Int) := od_;obtain ⟨ad269, e269, hx269_0⟩ := Kd.at_string HR0.out x5_3 p269 q269;obtain rfl : ad267 = ad269 := (by injection e269);replace p269 := eq_true p269;replace q269 := eq_true q269;have p270 : 0 ≤ (x5_3 : Int) := od_;have q270 : x5_3 < (l0.length : Int) := od_;obtain ⟨ad270, e270, hx270_0⟩ := Kd.at_string HR0.out x5_3 p270 q270;obtain rfl : ad267 = ad270 := (by injection e270);replace p270 := eq_true p270;replace q270 := eq_true q270;have p271 : 0 ≤ (x5_3 : Int) := od_;have q271 : x5_3 < (l0.length : Int) := od_;obtain ⟨ad271, e271, hx271_0⟩ := Kd.at_string HR0.out x5_3 p271 q271;obtain rfl : ad267 = ad271 := (by injection e271);replace p271 := eq_true p271;replace q271 := eq_true q271))
               go_ret
               exact ⟨by first | rfl | (simp;done) | (simp [*];done), by repeat (first | exact Drawn0.refl _ | apply Drawn0.step)⟩
              ·rw [if_neg c13] at H
               have c13b0 : decide (x5_3 < (wrap64 ((l0.length : Int) - 1))) = false := decide_eq_false c13
               clear c13
               have H' := Aside0.mk H
               clear H
               have p267 : 0 ≤ (x5_3 : Int) := od_
               have q267 : x5_3 < (l0.length : Int) := od_
               obtain ⟨ad267, e267, hx267_0⟩ := Kd.at_string HR0.out x5_3 p267 q267
               cases e267
               replace p267 := eq_true p267
               replace q267 := eq_true q267
               go_wp2_with (first | ((with_reducible refine gate_callee (f := 109) rfl ?_);refine goesL_ (some 37) rfl rfl Try.func109 (by kernel_rfl) rfl #[.string (rdOf ByteArray.empty l0 x5_3)] rfl lf_ ?_;(with_reducible refine (spec_l1Ended.calls k3 (rdOf ByteArray.empty l0 x5_3) t268 _ A9.out).mono ?_);rintro e w' ⟨rfl, ⟨nd, rfl⟩⟩;refine ⟨_, rfl, ?_⟩;have p269 : 0 ≤ (x5_3 : Int) := od_;have q269 : x5_3 < (l0.length : Int) := od_;obtain ⟨ad269, e269, hx269_0⟩ := Kd.at_string HR0.out x5_3 p269 q269;obtain rfl : ad267 = ad269 := (by injection e269);replace p269 := eq_true p269;replace q269 := eq_true q269;have p270 : 0 ≤ (x5_3 : Int) := od_;have q270 : x5_3 < (l0.length : Int) := od_;obtain ⟨ad270, e270, hx270_0⟩ := Kd.at_string HR0.out x5_3 p270 q270;obtain rfl : ad267 = ad270 := (by injection e270);replace p270 := eq_true p270;replace q270 := eq_true q270;have p271 : 0 ≤ (x5_3 : Int) := od_;have q271 : x5_3 < (l0.length : Int) := od_;obtain ⟨ad271, e271, hx271_0⟩ := Kd.at_string HR0.out x5_3 p271 q271;obtain rfl : ad267 = ad271 := (by injection e271);replace p271 := eq_true p271;replace q271 := eq_true q271))
               go_roundg k3
               case measure => have := HK1.out;have := HJ3.out;have := HK3.out;omega
               case rel => exact ⟨(wrap64 (x5_3 + 1)), ls_, H', ⟨by have := HK1.out;have := HJ3.out;have := HK3.out;omega⟩, by repeat (first | exact Drawn0.refl _ | apply Drawn0.step)⟩
             ·rw [if_neg c12] at H
              have c12b0 : (t268 == ((rdOf ByteArray.empty l0 x5_3).size : Int)) = false := beq_eq_false_iff_ne.mpr c12
              have c12b1 : (t268 != ((rdOf ByteArray.empty l0 x5_3).size : Int)) = true := bne_iff_ne.mpr c12
              have H' := Aside0.mk H
              clear H
              have p267 : 0 ≤ (x5_3 : Int) := od_
              have q267 : x5_3 < (l0.length : Int) := od_
              obtain ⟨ad267, e267, hx267_0⟩ := Kd.at_string HR0.out x5_3 p267 q267
              cases e267
              replace p267 := eq_true p267
              replace q267 := eq_true q267
              go_wp2_with (first | ((with_reducible refine gate_callee (f := 109) rfl ?_);refine goesL_ (some 37) rfl rfl Try.func109 (by kernel_rfl) rfl #[.string (rdOf ByteArray.empty l0 x5_3)] rfl lf_ ?_;(with_reducible refine (spec_l1Ended.calls k3 (rdOf ByteArray.empty l0 x5_3) t268 _ A9.out).mono ?_);rintro e w' ⟨rfl, ⟨nd, rfl⟩⟩;refine ⟨_, rfl, ?_⟩;have p269 : 0 ≤ (x5_3 : Int) := od_;have q269 : x5_3 < (l0.length : Int) := od_;obtain ⟨ad269, e269, hx269_0⟩ := Kd.at_string HR0.out x5_3 p269 q269;obtain rfl : ad267 = ad269 := (by injection e269);replace p269 := eq_true p269;replace q269 := eq_true q269;have p270 : 0 ≤ (x5_3 : Int) := od_;have q270 : x5_3 < (l0.length : Int) := od_;obtain ⟨ad270, e270, hx270_0⟩ := Kd.at_string HR0.out x5_3 p270 q270;obtain rfl : ad267 = ad270 := (by injection e270);replace p270 := eq_true p270;replace q270 := eq_true q270;have p271 : 0 ≤ (x5_3 : Int) := od_;have q271 : x5_3 < (l0.length : Int) := od_;obtain ⟨ad271, e271, hx271_0⟩ := Kd.at_string HR0.out x5_3 p271 q271;obtain rfl : ad267 = ad271 := (by injection e271);replace p271 := eq_true p271;replace q271 := eq_true q271))
              go_roundg k3
              case measure => have := HK1.out;have := HJ3.out;have := HK3.out;omega
              case rel => exact ⟨(wrap64 (x5_3 + 1)), ls_, H', ⟨by have := HK1.out;have := HJ3.out;have := HK3.out;omega⟩, by repeat (first | exact Drawn0.refl _ | apply Drawn0.step)⟩
          ·rw [if_neg c8] at H
           exact absurd H (by simp)
         ·rw [if_neg c7] at H
          have c7b0 : decide (x5_3 < (l0.length : Int)) = false := decide_eq_false c7
          clear c7
          obtain rfl := Option.some.inj H
          go_wp2
          go_ret
          exact ⟨by first | rfl | (simp;done) | (simp [*];done), by repeat (first | exact Drawn0.refl _ | apply Drawn0.step)⟩
end Go.Proofs.Ytjngmhngedecdaa.P
end
section
namespace Go.Proofs.Ytjngmhngedecdaa.P
open Go.RowKit Go.Proofs.YtjngmhngedecdaaW.PrintWords Go.Proofs.YtjngmhngedecdaaW.PrintLast Go.Proofs.YtjngmhngedecdaaW.PrintMore
attribute [local go_sem] max2_int min2_int max_two min_two max_three min_three max_four min_four
set_option linter.unusedVariables false
set_option linter.unusedSimpArgs false
def spec_l2Asked.f (k : Nat) (l0 : List ByteArray) (l1 : List ByteArray) : Option (Int) := (spec_LinesFault.f k l0).bind fun t923 => (if t923 = 0 then ((spec_LinesFault.f k l1).bind fun t924 => (some t924)) else (some t923))
set_option maxHeartbeats 8000000 in
set_option maxRecDepth 100000 in
theorem spec_l2Asked.calls (k : Nat) (A0 : Option Addr) (c0 : Nat) (l0 : List ByteArray) (A1 : Option Addr) (c1 : Nat) (l1 : List ByteArray) (r : Int) (w : World) (hr0 : Kd.C Kd.string w A0 l0.length l0) (hc0 : l0.length ≤ c0) (hr1 : Kd.C Kd.string w A1 l1.length l1) (hc1 : l1.length ≤ c1) (h : spec_l2Asked.f k l0 l1 = some r) :
  Calls Try.prog 91 #[.slice A0 l0.length c0, .slice A1 l1.length c1] w fun e w' => e = .returned (.int .i64 r) ∧ Drawn0 w w' := by
 have HR0 := Aside0.mk hr0;have HC0 := Aside0.mk hc0;clear hr0 hc0;have HR1 := Aside0.mk hr1;have HC1 := Aside0.mk hc1;clear hr1 hc1;have H : ((spec_LinesFault.f k l0).bind fun t923 => (if t923 = 0 then ((spec_LinesFault.f k l1).bind fun t924 => (some t924)) else (some t923))) = some r := h;clear h;replace H := Option.bind_eq_some_iff.mp H;obtain ⟨t923, A30, H⟩ := H;replace H : (if t923 = 0 then ((spec_LinesFault.f k l1).bind fun t924 => (some t924)) else (some t923)) = some r := H;have A3 := Aside0.mk A30;clear A30;by_cases c4 : t923 = 0;(·rw [if_pos c4] at H;have c4b0 : (t923 == 0) = true := beq_iff_eq.mpr c4;have c4b1 : (t923 != 0) = false := bne_eq_false_iff_eq.mpr c4;clear c4;replace H := Option.bind_eq_some_iff.mp H;obtain ⟨t924, A50, H⟩ := H;replace H : (some t924) = some r := H;have A5 := Aside0.mk A50;clear A50;obtain rfl := Option.some.inj H;go_enter Try.func91, Try.ntmps91;go_wp2_with (first | ((with_reducible refine gate_callee (f := 66) rfl ?_);refine goesL_ (some 7) rfl rfl Try.func66 (by kernel_rfl) rfl #[.slice A0 l0.length c0] rfl lf_ ?_;(with_reducible refine (spec_LinesFault.calls k _ _ l0 t923 _ ?side1 ?side2 A3.out).mono ?_);(case side1 => exact rc_ HR0.out);(case side2 => exact HC0.out);rintro e w' ⟨rfl, ⟨nd, rfl⟩⟩;refine ⟨_, rfl, ?_⟩) | ((with_reducible refine gate_callee (f := 66) rfl ?_);refine goesL_ (some 12) rfl rfl Try.func66 (by kernel_rfl) rfl #[.slice A1 l1.length c1] rfl lf_ ?_;(with_reducible refine (spec_LinesFault.calls k _ _ l1 t924 _ ?side1 ?side2 A5.out).mono ?_);(case side1 => exact rc_ HR1.out);(case side2 => exact HC1.out);rintro e w' ⟨rfl, ⟨nd, rfl⟩⟩;refine ⟨_, rfl, ?_⟩));go_ret;exact ⟨by first | rfl | (simp;done) | (simp [*];done), by repeat (first | exact Drawn0.refl _ | apply Drawn0.step)⟩);·rw [if_neg c4] at H;have c4b0 : (t923 == 0) = false := beq_eq_false_iff_ne.mpr c4;have c4b1 : (t923 != 0) = true := bne_iff_ne.mpr c4;obtain rfl := Option.some.inj H;go_enter Try.func91, Try.ntmps91;go_wp2_with (first | ((with_reducible refine gate_callee (f := 66) rfl ?_);refine goesL_ (some 7) rfl rfl Try.func66 (by kernel_rfl) rfl #[.slice A0 l0.length c0] rfl lf_ ?_;(with_reducible refine (spec_LinesFault.calls k _ _ l0 t923 _ ?side1 ?side2 A3.out).mono ?_);(case side1 => exact rc_ HR0.out);(case side2 => exact HC0.out);rintro e w' ⟨rfl, ⟨nd, rfl⟩⟩;refine ⟨_, rfl, ?_⟩));go_ret;exact ⟨by first | rfl | (simp;done) | (simp [*];done), by repeat (first | exact Drawn0.refl _ | apply Drawn0.step)⟩
end Go.Proofs.Ytjngmhngedecdaa.P
end
section
namespace Go.Proofs.Ytjngmhngedecdaa.P
open Go.RowKit Go.Proofs.YtjngmhngedecdaaW.PrintWords Go.Proofs.YtjngmhngedecdaaW.PrintLast Go.Proofs.YtjngmhngedecdaaW.PrintMore
attribute [local go_sem] max2_int min2_int max_two min_two max_three min_three max_four min_four
set_option linter.unusedVariables false
set_option linter.unusedSimpArgs false
def spec_l1Max.f (a0 : Int) (a1 : Int) : Option (Int) := if a0 > a1 then (some a0) else (some a1)
set_option maxHeartbeats 8000000 in
set_option maxRecDepth 100000 in
theorem spec_l1Max.calls (a0 : Int) (a1 : Int) (r : Int) (w : World) (h : spec_l1Max.f a0 a1 = some r) :
  Calls Try.prog 153 #[.int .i64 a0, .int .i64 a1] w fun e w' => e = .returned (.int .i64 r) ∧ Drawn0 w w' := by
 have H : (if a0 > a1 then (some a0) else (some a1)) = some r := h;clear h;by_cases c3 : a0 > a1;(·rw [if_pos c3] at H;have c3b0 : decide (a1 < a0) = true := decide_eq_true c3;clear c3;obtain rfl := Option.some.inj H;go_enter Try.func153, Try.ntmps153;go_wp2;go_ret;exact ⟨by first | rfl | (simp;done) | (simp [*];done), by repeat (first | exact Drawn0.refl _ | apply Drawn0.step)⟩);·rw [if_neg c3] at H;have c3b0 : decide (a1 < a0) = false := decide_eq_false c3;clear c3;obtain rfl := Option.some.inj H;go_enter Try.func153, Try.ntmps153;go_wp2;go_ret;exact ⟨by first | rfl | (simp;done) | (simp [*];done), by repeat (first | exact Drawn0.refl _ | apply Drawn0.step)⟩
end Go.Proofs.Ytjngmhngedecdaa.P
end
section
namespace Go.Proofs.Ytjngmhngedecdaa.P
open Go.RowKit Go.Proofs.YtjngmhngedecdaaW.PrintWords Go.Proofs.YtjngmhngedecdaaW.PrintLast Go.Proofs.YtjngmhngedecdaaW.PrintMore
attribute [local go_sem] max2_int min2_int max_two min_two max_three min_three max_four min_four
set_option linter.unusedVariables false
set_option linter.unusedSimpArgs false
mutual
def spec_l2Table.l0 : Nat → List ByteArray → List ByteArray → List (List Int) → Int → Option ((List (List Int)))
 | 0, _, _, _, _ => none
 | k + 1, x0, x1, x5, x6 => if x6 ≤ (x0.length : Int) then (if 0 ≤ (wrap64 ((x1.length : Int) + 1)) then (if (wrap64 ((x1.length : Int) + 1) : Int).toNat ≤ 35184372088832 then (if x5.length < 5864062014805 then (spec_l2Table.l0 k x0 x1 (x5 ++ [(List.replicate (wrap64 ((x1.length : Int) + 1) : Int).toNat 0)]) (wrap64 (x6 + 1))) else (none)) else (none)) else (none)) else (spec_l2Table.l1 k x0 x1 x5 (wrap64 ((x0.length : Int) - 1)))
def spec_l2Table.l1 : Nat → List ByteArray → List ByteArray → List (List Int) → Int → Option ((List (List Int)))
 | 0, _, _, _, _ => none
 | k + 1, x0, x1, x5, x7 => if x7 ≥ 0 then (spec_l2Table.l2 k x0 x1 x5 x7 (wrap64 ((x1.length : Int) - 1))) else (some x5)
def spec_l2Table.l2 : Nat → List ByteArray → List ByteArray → List (List Int) → Int → Int → Option ((List (List Int)))
 | 0, _, _, _, _, _ => none
 | k + 1, x0, x1, x5, x7, x8 => if x8 ≥ 0 then (if 0 ≤ (wrap64 (x7 + 1)) then (if (wrap64 (x7 + 1)) < (x5.length : Int) then (if 0 ≤ x8 then (if x8 < ((rd_L13 x5 (wrap64 (x7 + 1))).length : Int) then (if 0 ≤ x7 then (if x7 < (x5.length : Int) then (if 0 ≤ (wrap64 (x8 + 1)) then (if (wrap64 (x8 + 1)) < ((rd_L13 x5 x7).length : Int) then ((spec_l1Max.f (rd (rd_L13 x5 (wrap64 (x7 + 1))) x8) (rd (rd_L13 x5 x7) (wrap64 (x8 + 1)))).bind fun t656 => (if x7 < (x0.length : Int) then (if x8 < (x1.length : Int) then (if (rdOf ByteArray.empty x0 x7).toList = (rdOf ByteArray.empty x1 x8).toList then (if (wrap64 (x8 + 1)) < ((rd_L13 x5 (wrap64 (x7 + 1))).length : Int) then ((spec_l1Max.f t656 (wrap64 (1 + (rd (rd_L13 x5 (wrap64 (x7 + 1))) (wrap64 (x8 + 1)))))).bind fun t661 => (if x8 < ((rd_L13 x5 x7).length : Int) then (spec_l2Table.l2 k x0 x1 (x5.set (x7 : Int).toNat ((rd_L13 x5 x7).set (x8 : Int).toNat t661)) x7 (wrap64 (x8 - 1))) else (none))) else (none)) else (if x8 < ((rd_L13 x5 x7).length : Int) then (spec_l2Table.l2 k x0 x1 (x5.set (x7 : Int).toNat ((rd_L13 x5 x7).set (x8 : Int).toNat t656)) x7 (wrap64 (x8 - 1))) else (none))) else (none)) else (none))) else (none)) else (none)) else (none)) else (none)) else (none)) else (none)) else (none)) else (none)) else (spec_l2Table.l1 k x0 x1 x5 (wrap64 (x7 - 1)))
end
def spec_l2Table.f (k : Nat) (l0 : List ByteArray) (l1 : List ByteArray) : Option ((List (List Int))) := spec_l2Table.l0 k l0 l1 (([] : List (List Int))) 0
set_option maxHeartbeats 8000000 in
set_option maxRecDepth 100000 in
theorem spec_l2Table.calls (k : Nat) (A0 : Option Addr) (c0 : Nat) (l0 : List ByteArray) (A1 : Option Addr) (c1 : Nat) (l1 : List ByteArray) (r : List (List Int)) (w : World) (hr0 : Kd.C Kd.string w A0 l0.length l0) (hc0 : l0.length ≤ c0) (hr1 : Kd.C Kd.string w A1 l1.length l1) (hc1 : l1.length ≤ c1) (h : spec_l2Table.f k l0 l1 = some r) :
  Calls Try.prog 148 #[.slice A0 l0.length c0, .slice A1 l1.length c1] w fun e w' => ∃ v0_ : Value, e = .returned (v0_) ∧ Kd.S (Kd.slice 2 (Kd.int .i64)) 130 w' w.heap.size (fun _ => True) v0_ r ∧ Below w.heap.size w w' := by
 have HR0 := Aside0.mk hr0;have HC0 := Aside0.mk hc0;clear hr0 hc0;have HR1 := Aside0.mk hr1;have HC1 := Aside0.mk hc1;clear hr1 hc1;have HB := Aside0.mk (Below.refl w.heap.size w);have H : (spec_l2Table.l0 k l0 l1 (([] : List (List Int))) 0) = some r := h;clear h;obtain ⟨y643, hy643⟩ : ∃ y_ : List (List Int), y_ = (([] : List (List Int))) := ⟨_, rfl⟩;(replace H : (spec_l2Table.l0 k l0 l1 y643 0) = some r := by first | (rw [hy643];with_reducible exact H) | (have H2_ := (Option.bind_some _ _).symm.trans H;rw [hy643];with_reducible exact H2_) | (have H2_ := (Option.bind_some _ _).symm.trans H;with_reducible exact H2_) | with_reducible exact H | (rw [hy643];exact H) | exact H);have Ny643 := Aside0.mk hy643;clear hy643;have H' := Aside0.mk H;clear H;go_enter Try.func148, Try.ntmps148;go_wp2_with (first | ((with_reducible refine gate_dst (N := 10) rfl ?_);refine Kd.S_lit (Kd.slice 2 (Kd.int .i64)) _ 130 ?hg (N := 10) ?hd (xs := ([] : List (List Int))) (inner := []) (ok := fun _ => True) (okp := fun _ => True) ?hr ?hp (fun _ hk => hk) trivial (Below.refl _ _) (Nat.le_refl _) (by simp) ?_;(case hd => rfl);(case hg => rfl);(case hr => first | (go_simp;done) | (go_simp;rfl));(case hp => exact (Reps.none _ _));intro v644 w3 ho4 hb hg_ hnew_;clear hg_ hnew_;(first | rw [← Ny643.out] at ho4 | (simp only [Int.reduceToNat] at ho4;rw [← Ny643.out] at ho4));have n0_ := Aside0.mk (Kd.S_lower ho4 (below_size (bw_ HB.out)));have n1_ := Aside0.mk (below_step (bw_ HB.out) hb);clear HB;have HO645 := n0_;have HB := n1_;clear n0_ n1_;clear hb ho4));(repeat (go_quiet (first | ((with_reducible refine gate_dst (N := 10) rfl ?_);refine Kd.S_lit (Kd.slice 2 (Kd.int .i64)) _ 130 ?hg (N := 10) ?hd (xs := ([] : List (List Int))) (inner := []) (ok := fun _ => True) (okp := fun _ => True) ?hr ?hp (fun _ hk => hk) trivial (Below.refl _ _) (Nat.le_refl _) (by simp) ?_;(case hd => rfl);(case hg => rfl);(case hr => first | (go_simp;done) | (go_simp;rfl));(case hp => exact (Reps.none _ _));intro v644 w3 ho4 hb hg_ hnew_;clear hg_ hnew_;(first | rw [← Ny643.out] at ho4 | (simp only [Int.reduceToNat] at ho4;rw [← Ny643.out] at ho4));have n0_ := Aside0.mk (Kd.S_lower ho4 (below_size (bw_ HB.out)));have n1_ := Aside0.mk (below_step (bw_ HB.out) hb);clear HB;have HO645 := n0_;have HB := n1_;clear n0_ n1_;clear hb ho4));try go_wp2_with (first | ((with_reducible refine gate_dst (N := 10) rfl ?_);refine Kd.S_lit (Kd.slice 2 (Kd.int .i64)) _ 130 ?hg (N := 10) ?hd (xs := ([] : List (List Int))) (inner := []) (ok := fun _ => True) (okp := fun _ => True) ?hr ?hp (fun _ hk => hk) trivial (Below.refl _ _) (Nat.le_refl _) (by simp) ?_;(case hd => rfl);(case hg => rfl);(case hr => first | (go_simp;done) | (go_simp;rfl));(case hp => exact (Reps.none _ _));intro v644 w3 ho4 hb hg_ hnew_;clear hg_ hnew_;(first | rw [← Ny643.out] at ho4 | (simp only [Int.reduceToNat] at ho4;rw [← Ny643.out] at ho4));have n0_ := Aside0.mk (Kd.S_lower ho4 (below_size (bw_ HB.out)));have n1_ := Aside0.mk (below_step (bw_ HB.out) hb);clear HB;have HO645 := n0_;have HB := n1_;clear n0_ n1_;clear hb ho4))));go_loopg [5, 6] k (fun kq v5 v6 w' => ∃ (x5_1 : List (List Int)) (x6_1 : Int), v6 = .int .i64 x6_1 ∧ Aside0 (spec_l2Table.l0 kq l0 l1 x5_1 x6_1 = some r) ∧ Aside0 (kq ≤ k) ∧ Aside0 (Kd.S (Kd.slice 2 (Kd.int .i64)) 130 w' w.heap.size (fun _ => True) v5 x5_1) ∧ Aside0 (Below w.heap.size w w'));(case atStart => exact ⟨(y643), (0), ls_, H', ⟨Nat.le_refl _⟩, ⟨rs_ HO645.out⟩, ⟨bw_ HB.out⟩⟩)
 case round =>
  clear H'
  try clear c1
  try clear p2
  obtain ⟨x5_1, x6_1, rfl, HA, HK1, HO_5, HB⟩ := hrel
  cases gk with
  | zero => exact absurd HA.out (by simp [spec_l2Table.l0])
  | succ k1 =>
   have H := HA.out
   clear HA
   simp only [spec_l2Table.l0] at H
   by_cases c5 : x6_1 ≤ (l0.length : Int)
   ·rw [if_pos c5] at H
    have c5b0 : decide (x6_1 ≤ (l0.length : Int)) = true := decide_eq_true c5
    clear c5
    obtain ⟨ji6, hji6⟩ : ∃ j_ : Int, (wrap64 ((l1.length : Int) + 1)) = j_ := ⟨_, rfl⟩
    replace H : (if 0 ≤ (ji6) then (if (ji6 : Int).toNat ≤ 35184372088832 then (if x5_1.length < 5864062014805 then (spec_l2Table.l0 k1 l0 l1 (x5_1 ++ [(List.replicate (ji6 : Int).toNat 0)]) (wrap64 (x6_1 + 1))) else (none)) else (none)) else (none)) = some r := by first | (rw [hji6] at H;exact H) | (simp only [hji6] at H ⊢;exact H)
    have hji6w : (IntKind.i64.wrap ((l1.length : Int) + 1)) = ji6 := (i64_w _).trans hji6
    by_cases c7 : 0 ≤ (ji6)
    ·rw [if_pos c7] at H
     have c7b0 := eq_true c7
     have c7b1 : decide (0 ≤ (ji6)) = true := decide_eq_true c7
     clear c7
     by_cases c8 : (ji6 : Int).toNat ≤ 35184372088832
     ·rw [if_pos c8] at H
      have c8b0 := eq_true c8
      have c8b1 : decide ((ji6 : Int).toNat ≤ 35184372088832) = true := decide_eq_true c8
      clear c8
      obtain ⟨y646, hy646⟩ : ∃ y_ : List Int, y_ = (List.replicate (ji6 : Int).toNat 0) := ⟨_, rfl⟩
      replace H : (if x5_1.length < 5864062014805 then (spec_l2Table.l0 k1 l0 l1 (x5_1 ++ [y646]) (wrap64 (x6_1 + 1))) else (none)) = some r := by first | (rw [hy646];with_reducible exact H) | (have H2_ := (Option.bind_some _ _).symm.trans H;rw [hy646];with_reducible exact H2_) | (have H2_ := (Option.bind_some _ _).symm.trans H;with_reducible exact H2_) | with_reducible exact H | (rw [hy646];exact H) | exact H
      have Ny646 := Aside0.mk hy646
      clear hy646
      by_cases c9 : x5_1.length < 5864062014805
      ·rw [if_pos c9] at H
       have LMc9 := Aside0.mk c9
       clear c9
       obtain ⟨y649, hy649⟩ : ∃ y_ : List (List Int), y_ = (x5_1 ++ [y646]) := ⟨_, rfl⟩
       replace H : (spec_l2Table.l0 k1 l0 l1 y649 (wrap64 (x6_1 + 1))) = some r := by first | (rw [hy649];with_reducible exact H) | (have H2_ := (Option.bind_some _ _).symm.trans H;rw [hy649];with_reducible exact H2_) | (have H2_ := (Option.bind_some _ _).symm.trans H;with_reducible exact H2_) | with_reducible exact H | (rw [hy649];exact H) | exact H
       have Ny649 := Aside0.mk hy649
       clear hy649
       have H' := Aside0.mk H
       clear H
       go_wp2_with (first | ((with_reducible refine gate_dst (N := 21) rfl ?_);refine Kd.R_make (Kd.int .i64) _ 2 rfl (N := 21) rfl 130 _ _ rfl ji6 rfl rfl Try.underlying130 (.int .i64 0) 8 info2 rfl (by decide) (by omega) 0 (ok := fun _ => True) (okp := fun _ => True) rfl (fun _ hk => hk) trivial od_ (Nat.le_trans (Nat.mul_le_mul_right _ (od_ : ji6.toNat ≤ 35184372088832)) (by omega)) (Below.refl _ _) (Nat.le_refl _) ?_;intro v647 w10 ho11 hb hg_ hnew_;clear hg_ hnew_;(first | rw [← Ny646.out] at ho11 | (simp only [Int.reduceToNat] at ho11;rw [← Ny646.out] at ho11));have n0_ := Aside0.mk (Kd.S_elder' (rs_ HO_5.out) (Kd.R_base ho11) hb);have n1_ := Aside0.mk (Kd.R_lower ho11 (below_size (bw_ HB.out)));have n2_ := Aside0.mk (below_step (bw_ HB.out) hb);clear HO_5;clear HB;have HO_5 := n0_;have HO648 := n1_;have HB := n2_;clear n0_ n1_ n2_;clear hb ho11;obtain ⟨Ao13, co13, eo13⟩ := Kd.R_slice HO648.out;subst eo13) | ((with_reducible refine gate_builtin (b := .append) (xs := #[.tmp 17, .tmp 22]) rfl ?_);at_builtin;refine Kd.S_append (Kd.slice 2 (Kd.int .i64)) (w0 := w) w.heap.size rfl (.tmp 17) (.tmp 22) 164 130 (.slice none 0 0) 24 rfl Try.underlying164 info130 rfl (by decide) (by omega) u5 x5_1 y646 [.slice Ao13 y646.length co13] (fun _ => True) (fun k_ => some k_ = (.slice Ao13 y646.length co13 : Value).ownBlock) rfl rfl ?aP (fun k_ hk_ => ((Kd.R_mono (ok' := fun k_ => ((fun _ => True)) k_ ∧ some k_ ≠ (u5 : Value).ownBlock) (Kd.R_apart' (HO648.out) (Kd.S_typed HO_5.out) (by decide)) (fun k_ hk => ⟨trivial, hk.2⟩))).1 k_ hk_.symm) ?aF ?aO ?aB ?aS ?aL ?_;(case aP => exact Kd.M_row (Kd.R_mono (Kd.R_tight rfl (Kd.R_mono (ok' := fun k_ => ((fun _ => True)) k_ ∧ some k_ ≠ (u5 : Value).ownBlock) (Kd.R_apart' (HO648.out) (Kd.S_typed HO_5.out) (by decide)) (fun k_ hk => ⟨trivial, hk.2⟩))) (fun _ h_ => h_)));(case aB => exact (bw_ HB.out));(case aF => exact (fun _ _ => trivial));(case aO => exact (by (with_reducible repeat (first | apply Kd.S_alloc | apply Kd.S_drewN | apply Kd.S_drew));exact Kd.S_mono HO_5.out (fun k_ hk => ⟨trivial, fun e_ => hk.2 e_⟩)));(case aS => exact (below_size (bw_ HB.out)));(case aL => have := LMc9.out;omega);intro v650 w12 ho hb hg hat;rw [← Ny649.out] at ho;have n0_ := Aside0.mk (hb);have n1_ := Aside0.mk (ho);clear HB;clear HO_5;clear HO648;have HB := n0_;have HO651 := n1_;clear n0_ n1_;clear ho hb hg hat))
       repeat (go_quiet (first | ((with_reducible refine gate_dst (N := 21) rfl ?_);refine Kd.R_make (Kd.int .i64) _ 2 rfl (N := 21) rfl 130 _ _ rfl ji6 rfl rfl Try.underlying130 (.int .i64 0) 8 info2 rfl (by decide) (by omega) 0 (ok := fun _ => True) (okp := fun _ => True) rfl (fun _ hk => hk) trivial od_ (Nat.le_trans (Nat.mul_le_mul_right _ (od_ : ji6.toNat ≤ 35184372088832)) (by omega)) (Below.refl _ _) (Nat.le_refl _) ?_;intro v647 w10 ho11 hb hg_ hnew_;clear hg_ hnew_;(first | rw [← Ny646.out] at ho11 | (simp only [Int.reduceToNat] at ho11;rw [← Ny646.out] at ho11));have n0_ := Aside0.mk (Kd.S_elder' (rs_ HO_5.out) (Kd.R_base ho11) hb);have n1_ := Aside0.mk (Kd.R_lower ho11 (below_size (bw_ HB.out)));have n2_ := Aside0.mk (below_step (bw_ HB.out) hb);clear HO_5;clear HB;have HO_5 := n0_;have HO648 := n1_;have HB := n2_;clear n0_ n1_ n2_;clear hb ho11;obtain ⟨Ao13, co13, eo13⟩ := Kd.R_slice HO648.out;subst eo13) | ((with_reducible refine gate_builtin (b := .append) (xs := #[.tmp 17, .tmp 22]) rfl ?_);at_builtin;refine Kd.S_append (Kd.slice 2 (Kd.int .i64)) (w0 := w) w.heap.size rfl (.tmp 17) (.tmp 22) 164 130 (.slice none 0 0) 24 rfl Try.underlying164 info130 rfl (by decide) (by omega) u5 x5_1 y646 [.slice Ao13 y646.length co13] (fun _ => True) (fun k_ => some k_ = (.slice Ao13 y646.length co13 : Value).ownBlock) rfl rfl ?aP (fun k_ hk_ => ((Kd.R_mono (ok' := fun k_ => ((fun _ => True)) k_ ∧ some k_ ≠ (u5 : Value).ownBlock) (Kd.R_apart' (HO648.out) (Kd.S_typed HO_5.out) (by decide)) (fun k_ hk => ⟨trivial, hk.2⟩))).1 k_ hk_.symm) ?aF ?aO ?aB ?aS ?aL ?_;(case aP => exact Kd.M_row (Kd.R_mono (Kd.R_tight rfl (Kd.R_mono (ok' := fun k_ => ((fun _ => True)) k_ ∧ some k_ ≠ (u5 : Value).ownBlock) (Kd.R_apart' (HO648.out) (Kd.S_typed HO_5.out) (by decide)) (fun k_ hk => ⟨trivial, hk.2⟩))) (fun _ h_ => h_)));(case aB => exact (bw_ HB.out));(case aF => exact (fun _ _ => trivial));(case aO => exact (by (with_reducible repeat (first | apply Kd.S_alloc | apply Kd.S_drewN | apply Kd.S_drew));exact Kd.S_mono HO_5.out (fun k_ hk => ⟨trivial, fun e_ => hk.2 e_⟩)));(case aS => exact (below_size (bw_ HB.out)));(case aL => have := LMc9.out;omega);intro v650 w12 ho hb hg hat;rw [← Ny649.out] at ho;have n0_ := Aside0.mk (hb);have n1_ := Aside0.mk (ho);clear HB;clear HO_5;clear HO648;have HB := n0_;have HO651 := n1_;clear n0_ n1_;clear ho hb hg hat));try go_wp2_with (first | ((with_reducible refine gate_dst (N := 21) rfl ?_);refine Kd.R_make (Kd.int .i64) _ 2 rfl (N := 21) rfl 130 _ _ rfl ji6 rfl rfl Try.underlying130 (.int .i64 0) 8 info2 rfl (by decide) (by omega) 0 (ok := fun _ => True) (okp := fun _ => True) rfl (fun _ hk => hk) trivial od_ (Nat.le_trans (Nat.mul_le_mul_right _ (od_ : ji6.toNat ≤ 35184372088832)) (by omega)) (Below.refl _ _) (Nat.le_refl _) ?_;intro v647 w10 ho11 hb hg_ hnew_;clear hg_ hnew_;(first | rw [← Ny646.out] at ho11 | (simp only [Int.reduceToNat] at ho11;rw [← Ny646.out] at ho11));have n0_ := Aside0.mk (Kd.S_elder' (rs_ HO_5.out) (Kd.R_base ho11) hb);have n1_ := Aside0.mk (Kd.R_lower ho11 (below_size (bw_ HB.out)));have n2_ := Aside0.mk (below_step (bw_ HB.out) hb);clear HO_5;clear HB;have HO_5 := n0_;have HO648 := n1_;have HB := n2_;clear n0_ n1_ n2_;clear hb ho11;obtain ⟨Ao13, co13, eo13⟩ := Kd.R_slice HO648.out;subst eo13) | ((with_reducible refine gate_builtin (b := .append) (xs := #[.tmp 17, .tmp 22]) rfl ?_);at_builtin;refine Kd.S_append (Kd.slice 2 (Kd.int .i64)) (w0 := w) w.heap.size rfl (.tmp 17) (.tmp 22) 164 130 (.slice none 0 0) 24 rfl Try.underlying164 info130 rfl (by decide) (by omega) u5 x5_1 y646 [.slice Ao13 y646.length co13] (fun _ => True) (fun k_ => some k_ = (.slice Ao13 y646.length co13 : Value).ownBlock) rfl rfl ?aP (fun k_ hk_ => ((Kd.R_mono (ok' := fun k_ => ((fun _ => True)) k_ ∧ some k_ ≠ (u5 : Value).ownBlock) (Kd.R_apart' (HO648.out) (Kd.S_typed HO_5.out) (by decide)) (fun k_ hk => ⟨trivial, hk.2⟩))).1 k_ hk_.symm) ?aF ?aO ?aB ?aS ?aL ?_;(case aP => exact Kd.M_row (Kd.R_mono (Kd.R_tight rfl (Kd.R_mono (ok' := fun k_ => ((fun _ => True)) k_ ∧ some k_ ≠ (u5 : Value).ownBlock) (Kd.R_apart' (HO648.out) (Kd.S_typed HO_5.out) (by decide)) (fun k_ hk => ⟨trivial, hk.2⟩))) (fun _ h_ => h_)));(case aB => exact (bw_ HB.out));(case aF => exact (fun _ _ => trivial));(case aO => exact (by (with_reducible repeat (first | apply Kd.S_alloc | apply Kd.S_drewN | apply Kd.S_drew));exact Kd.S_mono HO_5.out (fun k_ hk => ⟨trivial, fun e_ => hk.2 e_⟩)));(case aS => exact (below_size (bw_ HB.out)));(case aL => have := LMc9.out;omega);intro v650 w12 ho hb hg hat;rw [← Ny649.out] at ho;have n0_ := Aside0.mk (hb);have n1_ := Aside0.mk (ho);clear HB;clear HO_5;clear HO648;have HB := n0_;have HO651 := n1_;clear n0_ n1_;clear ho hb hg hat)))
       go_roundg k1
       case measure => have := HK1.out;omega
       case rel => exact ⟨(y649), (wrap64 (x6_1 + 1)), ls_, H', ⟨by have := HK1.out;omega⟩, ⟨rs_ HO651.out⟩, ⟨bw_ HB.out⟩⟩
      ·rw [if_neg c9] at H
       exact absurd H (by simp)
     ·rw [if_neg c8] at H
      exact absurd H (by simp)
    ·rw [if_neg c7] at H
     exact absurd H (by simp)
   ·rw [if_neg c5] at H
    have c5b0 : decide (x6_1 ≤ (l0.length : Int)) = false := decide_eq_false c5
    clear c5
    have H' := Aside0.mk H
    clear H
    go_wp2
    repeat (go_quiet (fail);try go_wp2)
    go_loopg [7] k1 (fun kq v7 w' => ∃ (x5_2 : List (List Int)) (x7_2 : Int), v7 = .int .i64 x7_2 ∧ Aside0 (spec_l2Table.l1 kq l0 l1 x5_2 x7_2 = some r) ∧ Aside0 (kq ≤ k1) ∧ Aside0 (Kd.S (Kd.slice 2 (Kd.int .i64)) 130 w' w.heap.size (fun _ => True) u5 x5_2) ∧ Aside0 (Below w.heap.size w w'))
    case atStart => exact ⟨(x5_1), (wrap64 ((l0.length : Int) - 1)), ls_, H', ⟨Nat.le_refl _⟩, ⟨rs_ HO_5.out⟩, ⟨bw_ HB.out⟩⟩
    case round =>
     clear H'
     try clear c1
     try clear p2
     try clear c5
     try clear c5b0
     try clear p6
     try clear c7
     try clear c7b0
     try clear c7b1
     try clear c8
     try clear c8b0
     try clear c8b1
     try clear c9
     try clear p2
     obtain ⟨x5_2, x7_2, rfl, HA, HK2, HO_5, HB⟩ := hrel
     cases gk with
     | zero => exact absurd HA.out (by simp [spec_l2Table.l1])
     | succ k2 =>
      have H := HA.out
      clear HA
      simp only [spec_l2Table.l1] at H
      by_cases c14 : x7_2 ≥ 0
      ·rw [if_pos c14] at H
       have c14b0 : decide (0 ≤ x7_2) = true := decide_eq_true c14
       clear c14
       have H' := Aside0.mk H
       clear H
       go_wp2
       repeat (go_quiet (fail);try go_wp2)
       go_loopg [8] k2 (fun kq v8 w' => ∃ (x5_3 : List (List Int)) (x8_3 : Int), v8 = .int .i64 x8_3 ∧ Aside0 (spec_l2Table.l2 kq l0 l1 x5_3 x7_2 x8_3 = some r) ∧ Aside0 (kq ≤ k2) ∧ Aside0 (Kd.S (Kd.slice 2 (Kd.int .i64)) 130 w' w.heap.size (fun _ => True) u5 x5_3) ∧ Aside0 (Below w.heap.size w w'))
       case atStart => exact ⟨(x5_2), (wrap64 ((l1.length : Int) - 1)), ls_, H', ⟨Nat.le_refl _⟩, ⟨rs_ HO_5.out⟩, ⟨bw_ HB.out⟩⟩
       case round =>
        clear H'
        try clear c1
        try clear p2
        try clear c5
        try clear c5b0
        try clear p6
        try clear c7
        try clear c7b0
        try clear c7b1
        try clear c8
        try clear c8b0
        try clear c8b1
        try clear c9
        try clear c14
        try clear c14b0
        try clear p2
        try clear p6
        obtain ⟨x5_3, x8_3, rfl, HA, HK3, HO_5, HB⟩ := hrel
        cases gk with
        | zero => exact absurd HA.out (by simp [spec_l2Table.l2])
        | succ k3 =>
         have H := HA.out
         clear HA
         simp only [spec_l2Table.l2] at H
         by_cases c15 : x8_3 ≥ 0
         ·rw [if_pos c15] at H
          have c15b0 : decide (0 ≤ x8_3) = true := decide_eq_true c15
          clear c15
          obtain ⟨ji16, hji16⟩ : ∃ j_ : Int, (wrap64 (x7_2 + 1)) = j_ := ⟨_, rfl⟩
          replace H : (if 0 ≤ (ji16) then (if (ji16) < (x5_3.length : Int) then (if 0 ≤ x8_3 then (if x8_3 < ((rd_L13 x5_3 (ji16)).length : Int) then (if 0 ≤ x7_2 then (if x7_2 < (x5_3.length : Int) then (if 0 ≤ (wrap64 (x8_3 + 1)) then (if (wrap64 (x8_3 + 1)) < ((rd_L13 x5_3 x7_2).length : Int) then ((spec_l1Max.f (rd (rd_L13 x5_3 (ji16)) x8_3) (rd (rd_L13 x5_3 x7_2) (wrap64 (x8_3 + 1)))).bind fun t656 => (if x7_2 < (l0.length : Int) then (if x8_3 < (l1.length : Int) then (if (rdOf ByteArray.empty l0 x7_2).toList = (rdOf ByteArray.empty l1 x8_3).toList then (if (wrap64 (x8_3 + 1)) < ((rd_L13 x5_3 (ji16)).length : Int) then ((spec_l1Max.f t656 (wrap64 (1 + (rd (rd_L13 x5_3 (ji16)) (wrap64 (x8_3 + 1)))))).bind fun t661 => (if x8_3 < ((rd_L13 x5_3 x7_2).length : Int) then (spec_l2Table.l2 k3 l0 l1 (x5_3.set (x7_2 : Int).toNat ((rd_L13 x5_3 x7_2).set (x8_3 : Int).toNat t661)) x7_2 (wrap64 (x8_3 - 1))) else (none))) else (none)) else (if x8_3 < ((rd_L13 x5_3 x7_2).length : Int) then (spec_l2Table.l2 k3 l0 l1 (x5_3.set (x7_2 : Int).toNat ((rd_L13 x5_3 x7_2).set (x8_3 : Int).toNat t656)) x7_2 (wrap64 (x8_3 - 1))) else (none))) else (none)) else (none))) else (none)) else (none)) else (none)) else (none)) else (none)) else (none)) else (none)) else (none)) = some r := by first | (rw [hji16] at H;exact H) | (simp only [hji16] at H ⊢;exact H)
          have hji16w : (IntKind.i64.wrap (x7_2 + 1)) = ji16 := (i64_w _).trans hji16
          by_cases c17 : 0 ≤ (ji16)
          ·rw [if_pos c17] at H
           have c17b0 : decide (0 ≤ (ji16)) = true := decide_eq_true c17
           clear c17
           by_cases c18 : (ji16) < (x5_3.length : Int)
           ·rw [if_pos c18] at H
            have c18b0 : decide ((ji16) < (x5_3.length : Int)) = true := decide_eq_true c18
            clear c18
            by_cases c19 : 0 ≤ x8_3
            ·rw [if_pos c19] at H
             have c19b0 : decide (0 ≤ x8_3) = true := decide_eq_true c19
             clear c19
             by_cases c20 : x8_3 < ((rd_L13 x5_3 (ji16)).length : Int)
             ·rw [if_pos c20] at H
              have c20b0 : decide (x8_3 < ((rd_L13 x5_3 (ji16)).length : Int)) = true := decide_eq_true c20
              clear c20
              by_cases c21 : 0 ≤ x7_2
              ·rw [if_pos c21] at H
               have c21b0 : decide (0 ≤ x7_2) = true := decide_eq_true c21
               clear c21
               by_cases c22 : x7_2 < (x5_3.length : Int)
               ·rw [if_pos c22] at H
                have c22b0 : decide (x7_2 < (x5_3.length : Int)) = true := decide_eq_true c22
                clear c22
                obtain ⟨ji23, hji23⟩ : ∃ j_ : Int, (wrap64 (x8_3 + 1)) = j_ := ⟨_, rfl⟩
                replace H : (if 0 ≤ (ji23) then (if (ji23) < ((rd_L13 x5_3 x7_2).length : Int) then ((spec_l1Max.f (rd (rd_L13 x5_3 (ji16)) x8_3) (rd (rd_L13 x5_3 x7_2) (ji23))).bind fun t656 => (if x7_2 < (l0.length : Int) then (if x8_3 < (l1.length : Int) then (if (rdOf ByteArray.empty l0 x7_2).toList = (rdOf ByteArray.empty l1 x8_3).toList then (if (ji23) < ((rd_L13 x5_3 (ji16)).length : Int) then ((spec_l1Max.f t656 (wrap64 (1 + (rd (rd_L13 x5_3 (ji16)) (ji23))))).bind fun t661 => (if x8_3 < ((rd_L13 x5_3 x7_2).length : Int) then (spec_l2Table.l2 k3 l0 l1 (x5_3.set (x7_2 : Int).toNat ((rd_L13 x5_3 x7_2).set (x8_3 : Int).toNat t661)) x7_2 (wrap64 (x8_3 - 1))) else (none))) else (none)) else (if x8_3 < ((rd_L13 x5_3 x7_2).length : Int) then (spec_l2Table.l2 k3 l0 l1 (x5_3.set (x7_2 : Int).toNat ((rd_L13 x5_3 x7_2).set (x8_3 : Int).toNat t656)) x7_2 (wrap64 (x8_3 - 1))) else (none))) else (none)) else (none))) else (none)) else (none)) = some r := by first | (rw [hji23] at H;exact H) | (simp only [hji23] at H ⊢;exact H)
                have hji23w : (IntKind.i64.wrap (x8_3 + 1)) = ji23 := (i64_w _).trans hji23
                by_cases c24 : 0 ≤ (ji23)
                ·rw [if_pos c24] at H
                 have c24b0 : decide (0 ≤ (ji23)) = true := decide_eq_true c24
                 clear c24
                 by_cases c25 : (ji23) < ((rd_L13 x5_3 x7_2).length : Int)
                 ·rw [if_pos c25] at H
                  have c25b0 : decide ((ji23) < ((rd_L13 x5_3 x7_2).length : Int)) = true := decide_eq_true c25
                  clear c25
                  replace H := Option.bind_eq_some_iff.mp H
                  obtain ⟨t656, A260, H⟩ := H
                  replace H : (if x7_2 < (l0.length : Int) then (if x8_3 < (l1.length : Int) then (if (rdOf ByteArray.empty l0 x7_2).toList = (rdOf ByteArray.empty l1 x8_3).toList then (if (ji23) < ((rd_L13 x5_3 (ji16)).length : Int) then ((spec_l1Max.f t656 (wrap64 (1 + (rd (rd_L13 x5_3 (ji16)) (ji23))))).bind fun t661 => (if x8_3 < ((rd_L13 x5_3 x7_2).length : Int) then (spec_l2Table.l2 k3 l0 l1 (x5_3.set (x7_2 : Int).toNat ((rd_L13 x5_3 x7_2).set (x8_3 : Int).toNat t661)) x7_2 (wrap64 (x8_3 - 1))) else (none))) else (none)) else (if x8_3 < ((rd_L13 x5_3 x7_2).length : Int) then (spec_l2Table.l2 k3 l0 l1 (x5_3.set (x7_2 : Int).toNat ((rd_L13 x5_3 x7_2).set (x8_3 : Int).toNat t656)) x7_2 (wrap64 (x8_3 - 1))) else (none))) else (none)) else (none)) = some r := H
                  have A26 := Aside0.mk A260
                  clear A260
                  by_cases c27 : x7_2 < (l0.length : Int)
                  ·rw [if_pos c27] at H
                   have c27b0 : decide (x7_2 < (l0.length : Int)) = true := decide_eq_true c27
                   clear c27
                   by_cases c28 : x8_3 < (l1.length : Int)
                   ·rw [if_pos c28] at H
                    have c28b0 : decide (x8_3 < (l1.length : Int)) = true := decide_eq_true c28
                    clear c28
                    by_cases c29 : (rdOf ByteArray.empty l0 x7_2).toList = (rdOf ByteArray.empty l1 x8_3).toList
                    ·rw [if_pos c29] at H
                     have c29b0 : ((rdOf ByteArray.empty l0 x7_2).toList == (rdOf ByteArray.empty l1 x8_3).toList) = true := beq_iff_eq.mpr c29
                     have c29b1 : ((rdOf ByteArray.empty l0 x7_2).toList != (rdOf ByteArray.empty l1 x8_3).toList) = false := bne_eq_false_iff_eq.mpr c29
                     clear c29
                     by_cases c30 : (ji23) < ((rd_L13 x5_3 (ji16)).length : Int)
                     ·rw [if_pos c30] at H
                      have c30b0 : decide ((ji23) < ((rd_L13 x5_3 (ji16)).length : Int)) = true := decide_eq_true c30
                      clear c30
                      replace H := Option.bind_eq_some_iff.mp H
                      obtain ⟨t661, A310, H⟩ := H
                      replace H : (if x8_3 < ((rd_L13 x5_3 x7_2).length : Int) then (spec_l2Table.l2 k3 l0 l1 (x5_3.set (x7_2 : Int).toNat ((rd_L13 x5_3 x7_2).set (x8_3 : Int).toNat t661)) x7_2 (wrap64 (x8_3 - 1))) else (none)) = some r := H
                      have A31 := Aside0.mk A310
                      clear A310
                      by_cases c32 : x8_3 < ((rd_L13 x5_3 x7_2).length : Int)
                      ·rw [if_pos c32] at H
                       have c32b0 : decide (x8_3 < ((rd_L13 x5_3 x7_2).length : Int)) = true := decide_eq_true c32
                       clear c32
                       obtain ⟨y663, hy663⟩ : ∃ y_ : List Int, y_ = ((rd_L13 x5_3 x7_2).set (x8_3 : Int).toNat t661) := ⟨_, rfl⟩
                       replace H : (spec_l2Table.l2 k3 l0 l1 (x5_3.set (x7_2 : Int).toNat y663) x7_2 (wrap64 (x8_3 - 1))) = some r := by first | (rw [hy663];with_reducible exact H) | (have H2_ := (Option.bind_some _ _).symm.trans H;rw [hy663];with_reducible exact H2_) | (have H2_ := (Option.bind_some _ _).symm.trans H;with_reducible exact H2_) | with_reducible exact H | (rw [hy663];exact H) | exact H
                       have Ny663 := Aside0.mk hy663
                       clear hy663
                       obtain ⟨y665, hy665⟩ : ∃ y_ : List (List Int), y_ = (x5_3.set (x7_2 : Int).toNat y663) := ⟨_, rfl⟩
                       replace H : (spec_l2Table.l2 k3 l0 l1 y665 x7_2 (wrap64 (x8_3 - 1))) = some r := by first | (rw [hy665];with_reducible exact H) | (have H2_ := (Option.bind_some _ _).symm.trans H;rw [hy665];with_reducible exact H2_) | (have H2_ := (Option.bind_some _ _).symm.trans H;with_reducible exact H2_) | with_reducible exact H | (rw [hy665];exact H) | exact H
                       have Ny665 := Aside0.mk hy665
                       clear hy665
                       have H' := Aside0.mk H
                       clear H
                       obtain ⟨Ao34, co34, eo34⟩ := Kd.S_slice HO_5.out
                       subst eo34
                       have p652 : 0 ≤ ((ji16) : Int) := od_
                       have q652 : (ji16) < (x5_3.length : Int) := od_
                       obtain ⟨ad652, A652_0, c652_0, e652, hx652_0, hl652_0, hi652_0⟩ := at_L13 (Kd.S_reads' HO_5.out).2.2 (ji16) p652 q652
                       cases e652
                       obtain ⟨ce652, hce652, hMe652, hcc652⟩ := Kd.S_get HO_5.out [] (ji16) p652 (by first | exact q652 | exact od_ | (have e_ := (Kd.S_reads' HO_5.out).1;omega))
                       obtain ⟨ve652_0, rfl, ge652_0⟩ := hMe652
                       have hv652_0 := hcc652 0 _ rfl
                       rw [Nat.add_zero, show ((Kd.slice 2 (Kd.int .i64))).sz = 1 from rfl, Nat.mul_one] at hv652_0
                       replace hv652_0 := Option.some.inj (hv652_0.symm.trans hx652_0)
                       rw [hv652_0] at ge652_0
                       have HL652_0 := Aside0.mk (show Kd.R (Kd.int .i64) 2 _ _ _ _ (rd_L13 x5_3 (ji16)) from ge652_0)
                       clear hv652_0 ge652_0
                       have HX652_0 := Aside0.mk hx652_0
                       clear hcc652 hce652
                       have HR652_0 := Aside0.mk hi652_0
                       have HC652_0 := Aside0.mk hl652_0
                       clear hi652_0 hl652_0
                       replace p652 := eq_true p652
                       replace q652 := eq_true q652
                       have p653 : 0 ≤ (x8_3 : Int) := od_
                       have q653 : x8_3 < ((rd_L13 x5_3 (ji16)).length : Int) := od_
                       obtain ⟨ad653, e653, hx653_0⟩ := Kd.at_int (by repeat (first | (with_reducible exact HR652_0.out) | (with_reducible refine Kd.C_alloc ?_ _) | (with_reducible refine Kd.C_drewN ?_ _) | (with_reducible refine Kd.C_drew ?_) | exact HR652_0.out)) x8_3 p653 q653
                       cases e653
                       replace p653 := eq_true p653
                       replace q653 := eq_true q653
                       have p654 : 0 ≤ (x7_2 : Int) := od_
                       have q654 : x7_2 < (x5_3.length : Int) := od_
                       obtain ⟨ad654, A654_0, c654_0, e654, hx654_0, hl654_0, hi654_0⟩ := at_L13 (Kd.S_reads' HO_5.out).2.2 x7_2 p654 q654
                       obtain rfl : ad652 = ad654 := (by injection e654)
                       obtain ⟨ce654, hce654, hMe654, hcc654⟩ := Kd.S_get HO_5.out [] x7_2 p654 (by first | exact q654 | exact od_ | (have e_ := (Kd.S_reads' HO_5.out).1;omega))
                       obtain ⟨ve654_0, rfl, ge654_0⟩ := hMe654
                       have hv654_0 := hcc654 0 _ rfl
                       rw [Nat.add_zero, show ((Kd.slice 2 (Kd.int .i64))).sz = 1 from rfl, Nat.mul_one] at hv654_0
                       replace hv654_0 := Option.some.inj (hv654_0.symm.trans hx654_0)
                       rw [hv654_0] at ge654_0
                       have HL654_0 := Aside0.mk (show Kd.R (Kd.int .i64) 2 _ _ _ _ (rd_L13 x5_3 x7_2) from ge654_0)
                       clear hv654_0 ge654_0
                       have HX654_0 := Aside0.mk hx654_0
                       clear hcc654 hce654
                       have HR654_0 := Aside0.mk hi654_0
                       have HC654_0 := Aside0.mk hl654_0
                       clear hi654_0 hl654_0
                       replace p654 := eq_true p654
                       replace q654 := eq_true q654
                       have p655 : 0 ≤ ((ji23) : Int) := od_
                       have q655 : (ji23) < ((rd_L13 x5_3 x7_2).length : Int) := od_
                       obtain ⟨ad655, e655, hx655_0⟩ := Kd.at_int (by repeat (first | (with_reducible exact HR654_0.out) | (with_reducible refine Kd.C_alloc ?_ _) | (with_reducible refine Kd.C_drewN ?_ _) | (with_reducible refine Kd.C_drew ?_) | exact HR654_0.out)) (ji23) p655 q655
                       cases e655
                       replace p655 := eq_true p655
                       replace q655 := eq_true q655
                       go_wp2_with (first | (go_at_call 153;(with_reducible refine (spec_l1Max.calls (rd (rd_L13 x5_3 (ji16)) x8_3) (rd (rd_L13 x5_3 x7_2) (ji23)) t656 _ A26.out).mono ?_);rintro e w' ⟨rfl, ⟨nd, rfl⟩⟩;(try first | exact ⟨rfl, _, World.drewN_drewN _ _ _⟩ | exact ⟨rfl, _, Eq.trans (World.drewN_drewN _ _ _) (congrArg (World.drewN _) (Nat.add_assoc _ _ _))⟩);have p657 : 0 ≤ (x7_2 : Int) := od_;have q657 : x7_2 < (l0.length : Int) := od_;obtain ⟨ad657, e657, hx657_0⟩ := Kd.at_string HR0.out x7_2 p657 q657;cases e657;replace hx657_0 := hc_ HB.out hx657_0;replace p657 := eq_true p657;replace q657 := eq_true q657;have p658 : 0 ≤ (x8_3 : Int) := od_;have q658 : x8_3 < (l1.length : Int) := od_;obtain ⟨ad658, e658, hx658_0⟩ := Kd.at_string HR1.out x8_3 p658 q658;cases e658;replace hx658_0 := hc_ HB.out hx658_0;replace p658 := eq_true p658;replace q658 := eq_true q658;have p659 : 0 ≤ ((ji16) : Int) := od_;have q659 : (ji16) < (x5_3.length : Int) := od_;obtain ⟨ad659, A659_0, c659_0, e659, hx659_0, hl659_0, hi659_0⟩ := at_L13 (Kd.S_reads' HO_5.out).2.2 (ji16) p659 q659;obtain rfl : ad652 = ad659 := (by injection e659);obtain ⟨ce659, hce659, hMe659, hcc659⟩ := Kd.S_get HO_5.out [] (ji16) p659 (by first | exact q659 | exact od_ | (have e_ := (Kd.S_reads' HO_5.out).1;omega));obtain ⟨ve659_0, rfl, ge659_0⟩ := hMe659;have hv659_0 := hcc659 0 _ rfl;rw [Nat.add_zero, show ((Kd.slice 2 (Kd.int .i64))).sz = 1 from rfl, Nat.mul_one] at hv659_0;replace hv659_0 := Option.some.inj (hv659_0.symm.trans hx659_0);rw [hv659_0] at ge659_0;have HL659_0 := Aside0.mk (show Kd.R (Kd.int .i64) 2 _ _ _ _ (rd_L13 x5_3 (ji16)) from ge659_0);clear hv659_0 ge659_0;have HX659_0 := Aside0.mk hx659_0;clear hcc659 hce659;have HR659_0 := Aside0.mk hi659_0;have HC659_0 := Aside0.mk hl659_0;clear hi659_0 hl659_0;replace p659 := eq_true p659;replace q659 := eq_true q659;have ea_ := Option.some.inj (hx652_0.symm.trans hx659_0);injection ea_ with ea_ en_ ec_;subst ea_;subst ec_;clear en_;have p660 : 0 ≤ ((ji23) : Int) := od_;have q660 : (ji23) < ((rd_L13 x5_3 (ji16)).length : Int) := od_;obtain ⟨ad660, e660, hx660_0⟩ := Kd.at_int (by repeat (first | (with_reducible exact HR659_0.out) | (with_reducible refine Kd.C_alloc ?_ _) | (with_reducible refine Kd.C_drewN ?_ _) | (with_reducible refine Kd.C_drew ?_) | exact HR659_0.out)) (ji23) p660 q660;cases e660;replace p660 := eq_true p660;replace q660 := eq_true q660) | (go_at_call 153;(with_reducible refine (spec_l1Max.calls t656 (wrap64 (1 + (rd (rd_L13 x5_3 (ji16)) (ji23)))) t661 _ A31.out).mono ?_);rintro e w' ⟨rfl, ⟨nd, rfl⟩⟩;(try first | exact ⟨rfl, _, World.drewN_drewN _ _ _⟩ | exact ⟨rfl, _, Eq.trans (World.drewN_drewN _ _ _) (congrArg (World.drewN _) (Nat.add_assoc _ _ _))⟩);have p662 : 0 ≤ (x7_2 : Int) := od_;have q662 : x7_2 < (x5_3.length : Int) := od_;obtain ⟨ad662, A662_0, c662_0, e662, hx662_0, hl662_0, hi662_0⟩ := at_L13 (Kd.S_reads' HO_5.out).2.2 x7_2 p662 q662;obtain rfl : ad652 = ad662 := (by injection e662);obtain ⟨ce662, hce662, hMe662, hcc662⟩ := Kd.S_get HO_5.out [] x7_2 p662 (by first | exact q662 | exact od_ | (have e_ := (Kd.S_reads' HO_5.out).1;omega));obtain ⟨ve662_0, rfl, ge662_0⟩ := hMe662;have hv662_0 := hcc662 0 _ rfl;rw [Nat.add_zero, show ((Kd.slice 2 (Kd.int .i64))).sz = 1 from rfl, Nat.mul_one] at hv662_0;replace hv662_0 := Option.some.inj (hv662_0.symm.trans hx662_0);rw [hv662_0] at ge662_0;have HL662_0 := Aside0.mk (show Kd.R (Kd.int .i64) 2 _ _ _ _ (rd_L13 x5_3 x7_2) from ge662_0);clear hv662_0 ge662_0;have HX662_0 := Aside0.mk hx662_0;clear hcc662 hce662;have HR662_0 := Aside0.mk hi662_0;have HC662_0 := Aside0.mk hl662_0;clear hi662_0 hl662_0;replace p662 := eq_true p662;replace q662 := eq_true q662;have ea_ := Option.some.inj (hx654_0.symm.trans hx662_0);injection ea_ with ea_ en_ ec_;subst ea_;subst ec_;clear en_;have p33 : 0 ≤ (x8_3 : Int) := od_;have q33 : (x8_3 : Int) < (((rd_L13 x5_3 x7_2).length : Int) : Int) := od_;obtain ⟨go33, co33, eo33, gb33, gl33, cl33, HG33⟩ := Kd.R_form HL662_0.out (by omega);(first | cases eo33 | (injection eo33 with ea_ en_ ec_;(first | subst ea_ | (injection ea_ with ea_;subst ea_));subst ec_;clear en_));have GB33 := Aside0.mk gb33;have GG33 := Aside0.mk HG33;clear gb33 gl33 HG33;(first | simp only [add_plain] at hx655_0 | skip);obtain ⟨hx33_0, hf33_0⟩ := Kd.R_celln 0 HL662_0.out (x8_3 : Int) p33 q33;replace p33 := eq_true p33;replace q33 := eq_true q33;have hq35 : (x7_2 : Int) < (x5_3.length : Int) := (by have h_ : (x7_2 : Int) < ((x5_3.length : Int) : Int) := od_;first | exact h_ | (have e_ := (Kd.S_reads' HO_5.out).1;omega) | simpa only [List.length_set, List.length_set] using h_);obtain ⟨oki35, ce35, hcl35, hM35, hcc35, hok35, hbk35⟩ := Kd.S_borrow HO_5.out [] (x7_2 : Int) od_ hq35;obtain ⟨ve35_0, rfl, ge35_0⟩ := hM35;have hv35 := hcc35 0 _ rfl;rw [Nat.add_zero, show ((Kd.slice 2 (Kd.int .i64))).sz = 1 from rfl, Nat.mul_one] at hv35;replace hv35 := Option.some.inj (hv35.symm.trans HX662_0.out);subst hv35;clear hcc35 hcl35;replace ge35_0 := (show Kd.R (Kd.int .i64) 2 _ _ _ _ (rd_L13 x5_3 x7_2) from ge35_0);have HP35 := Kd.R_putg ge35_0 (x8_3 : Int) t661) | ((with_reducible refine gate_store (t := 2) (p := 82) rfl ?_);(try (rw [drewN_self wr];generalize hq_ : World.drewN wr _ = wr;(try (have HX662_0 := Aside0.mk (cell_at hq_ HX662_0.out)));(try (have hx33_0 := cell_at hq_ hx33_0));(try (have hf33_0 := frozen_at_ hq_ hf33_0));have n0_ := Aside0.mk (Kd.S_at hq_ HO_5.out);have n2_ := Aside0.mk (below_at hq_ HB.out);(try clear hq_);(try clear HO_5);(try clear HB);have HO_5 := n0_;have HB := n2_;clear n0_ n2_;(try (have hq35 : (x7_2 : Int) < (x5_3.length : Int) := (by have h_ : (x7_2 : Int) < ((x5_3.length : Int) : Int) := od_;first | exact h_ | (have e_ := (Kd.S_reads' HO_5.out).1;omega) | simpa only [List.length_set, List.length_set] using h_)));(try (obtain ⟨oki35, ce35, hcl35, hM35, hcc35, hok35, hbk35⟩ := Kd.S_borrow HO_5.out [] (x7_2 : Int) od_ hq35));(try (obtain ⟨ve35_0, rfl, ge35_0⟩ := hM35));(try (have hv35 := hcc35 0 _ rfl));(try (rw [Nat.add_zero, show ((Kd.slice 2 (Kd.int .i64))).sz = 1 from rfl, Nat.mul_one] at hv35));(try (replace hv35 := Option.some.inj (hv35.symm.trans HX662_0.out)));(try (subst hv35));(try (clear hcc35 hcl35));(try (replace ge35_0 := (show Kd.R (Kd.int .i64) 2 _ _ _ _ (rd_L13 x5_3 x7_2) from ge35_0)));(try (have HP35 := Kd.R_putg ge35_0 (x8_3 : Int) t661))));refine store_event (t := 2) (p := 82) (v := ?vo_w36) (w1 := (wr.setCell ⟨go33, (x8_3 : Int).toNat, none⟩ (.int .i64 t661))) ?hg ?ho ?hn ?hr ?_;(case ho => rfl);(case hg => rfl);(case hn => rfl);(case hr => first | (go_simp;done) | (go_simp;rfl));intro w36 hw;have hg : wr.grownBy w36 (some go33) := (by rw [hw];exact HP35.2);have hz_ : Kd.R (Kd.int .i64) 2 w36 w.heap.size oki35 (.slice (some ⟨go33, 0, none⟩) (rd_L13 x5_3 x7_2).length c654_0) y663 := (by rw [hw, Ny663.out];exact HP35.1);have hp_ : Kd.S (Kd.slice 2 (Kd.int .i64)) 130 w36 w.heap.size (fun _ => True) (.slice (some ad652) x5_3.length co34) y665 := (by rw [Ny665.out];exact hbk35 hg (fun k_ e_ => by injection e_ with e_;subst e_;exact ge35_0.1 _ rfl) (Kd.M_row hz_));have hm_ := Kd.R_mono hz_ hok35;clear HP35 hbk35;have n0_ := Aside0.mk (hp_);have n1_ := Aside0.mk ((by rw [hw];exact below_set (HB.out) GB33.out : Below w.heap.size w w36));have n2_ := Aside0.mk (hm_);have n3_ := Aside0.mk ((Kd.R_reads' hm_).2.1);clear HO_5;clear HB;clear HL652_0;clear HL654_0;clear HL659_0;clear HL662_0;have HO_5 := n0_;have HB := n1_;have HL670 := n2_;have HC664 := n3_;clear n0_ n1_ n2_ n3_;clear hg hw hp_ hz_ hm_ hok35))
                       repeat (go_quiet (first | (go_at_call 153;(with_reducible refine (spec_l1Max.calls (rd (rd_L13 x5_3 (ji16)) x8_3) (rd (rd_L13 x5_3 x7_2) (ji23)) t656 _ A26.out).mono ?_);rintro e w' ⟨rfl, ⟨nd, rfl⟩⟩;(try first | exact ⟨rfl, _, World.drewN_drewN _ _ _⟩ | exact ⟨rfl, _, Eq.trans (World.drewN_drewN _ _ _) (congrArg (World.drewN _) (Nat.add_assoc _ _ _))⟩);have p657 : 0 ≤ (x7_2 : Int) := od_;have q657 : x7_2 < (l0.length : Int) := od_;obtain ⟨ad657, e657, hx657_0⟩ := Kd.at_string HR0.out x7_2 p657 q657;cases e657;replace hx657_0 := hc_ HB.out hx657_0;replace p657 := eq_true p657;replace q657 := eq_true q657;have p658 : 0 ≤ (x8_3 : Int) := od_;have q658 : x8_3 < (l1.length : Int) := od_;obtain ⟨ad658, e658, hx658_0⟩ := Kd.at_string HR1.out x8_3 p658 q658;cases e658;replace hx658_0 := hc_ HB.out hx658_0;replace p658 := eq_true p658;replace q658 := eq_true q658;have p659 : 0 ≤ ((ji16) : Int) := od_;have q659 : (ji16) < (x5_3.length : Int) := od_;obtain ⟨ad659, A659_0, c659_0, e659, hx659_0, hl659_0, hi659_0⟩ := at_L13 (Kd.S_reads' HO_5.out).2.2 (ji16) p659 q659;obtain rfl : ad652 = ad659 := (by injection e659);obtain ⟨ce659, hce659, hMe659, hcc659⟩ := Kd.S_get HO_5.out [] (ji16) p659 (by first | exact q659 | exact od_ | (have e_ := (Kd.S_reads' HO_5.out).1;omega));obtain ⟨ve659_0, rfl, ge659_0⟩ := hMe659;have hv659_0 := hcc659 0 _ rfl;rw [Nat.add_zero, show ((Kd.slice 2 (Kd.int .i64))).sz = 1 from rfl, Nat.mul_one] at hv659_0;replace hv659_0 := Option.some.inj (hv659_0.symm.trans hx659_0);rw [hv659_0] at ge659_0;have HL659_0 := Aside0.mk (show Kd.R (Kd.int .i64) 2 _ _ _ _ (rd_L13 x5_3 (ji16)) from ge659_0);clear hv659_0 ge659_0;have HX659_0 := Aside0.mk hx659_0;clear hcc659 hce659;have HR659_0 := Aside0.mk hi659_0;have HC659_0 := Aside0.mk hl659_0;clear hi659_0 hl659_0;replace p659 := eq_true p659;replace q659 := eq_true q659;have ea_ := Option.some.inj (hx652_0.symm.trans hx659_0);injection ea_ with ea_ en_ ec_;subst ea_;subst ec_;clear en_;have p660 : 0 ≤ ((ji23) : Int) := od_;have q660 : (ji23) < ((rd_L13 x5_3 (ji16)).length : Int) := od_;obtain ⟨ad660, e660, hx660_0⟩ := Kd.at_int (by repeat (first | (with_reducible exact HR659_0.out) | (with_reducible refine Kd.C_alloc ?_ _) | (with_reducible refine Kd.C_drewN ?_ _) | (with_reducible refine Kd.C_drew ?_) | exact HR659_0.out)) (ji23) p660 q660;cases e660;replace p660 := eq_true p660;replace q660 := eq_true q660) | (go_at_call 153;(with_reducible refine (spec_l1Max.calls t656 (wrap64 (1 + (rd (rd_L13 x5_3 (ji16)) (ji23)))) t661 _ A31.out).mono ?_);rintro e w' ⟨rfl, ⟨nd, rfl⟩⟩;(try first | exact ⟨rfl, _, World.drewN_drewN _ _ _⟩ | exact ⟨rfl, _, Eq.trans (World.drewN_drewN _ _ _) (congrArg (World.drewN _) (Nat.add_assoc _ _ _))⟩);have p662 : 0 ≤ (x7_2 : Int) := od_;have q662 : x7_2 < (x5_3.length : Int) := od_;obtain ⟨ad662, A662_0, c662_0, e662, hx662_0, hl662_0, hi662_0⟩ := at_L13 (Kd.S_reads' HO_5.out).2.2 x7_2 p662 q662;obtain rfl : ad652 = ad662 := (by injection e662);obtain ⟨ce662, hce662, hMe662, hcc662⟩ := Kd.S_get HO_5.out [] x7_2 p662 (by first | exact q662 | exact od_ | (have e_ := (Kd.S_reads' HO_5.out).1;omega));obtain ⟨ve662_0, rfl, ge662_0⟩ := hMe662;have hv662_0 := hcc662 0 _ rfl;rw [Nat.add_zero, show ((Kd.slice 2 (Kd.int .i64))).sz = 1 from rfl, Nat.mul_one] at hv662_0;replace hv662_0 := Option.some.inj (hv662_0.symm.trans hx662_0);rw [hv662_0] at ge662_0;have HL662_0 := Aside0.mk (show Kd.R (Kd.int .i64) 2 _ _ _ _ (rd_L13 x5_3 x7_2) from ge662_0);clear hv662_0 ge662_0;have HX662_0 := Aside0.mk hx662_0;clear hcc662 hce662;have HR662_0 := Aside0.mk hi662_0;have HC662_0 := Aside0.mk hl662_0;clear hi662_0 hl662_0;replace p662 := eq_true p662;replace q662 := eq_true q662;have ea_ := Option.some.inj (hx654_0.symm.trans hx662_0);injection ea_ with ea_ en_ ec_;subst ea_;subst ec_;clear en_;have p33 : 0 ≤ (x8_3 : Int) := od_;have q33 : (x8_3 : Int) < (((rd_L13 x5_3 x7_2).length : Int) : Int) := od_;obtain ⟨go33, co33, eo33, gb33, gl33, cl33, HG33⟩ := Kd.R_form HL662_0.out (by omega);(first | cases eo33 | (injection eo33 with ea_ en_ ec_;(first | subst ea_ | (injection ea_ with ea_;subst ea_));subst ec_;clear en_));have GB33 := Aside0.mk gb33;have GG33 := Aside0.mk HG33;clear gb33 gl33 HG33;(first | simp only [add_plain] at hx655_0 | skip);obtain ⟨hx33_0, hf33_0⟩ := Kd.R_celln 0 HL662_0.out (x8_3 : Int) p33 q33;replace p33 := eq_true p33;replace q33 := eq_true q33;have hq35 : (x7_2 : Int) < (x5_3.length : Int) := (by have h_ : (x7_2 : Int) < ((x5_3.length : Int) : Int) := od_;first | exact h_ | (have e_ := (Kd.S_reads' HO_5.out).1;omega) | simpa only [List.length_set, List.length_set] using h_);obtain ⟨oki35, ce35, hcl35, hM35, hcc35, hok35, hbk35⟩ := Kd.S_borrow HO_5.out [] (x7_2 : Int) od_ hq35;obtain ⟨ve35_0, rfl, ge35_0⟩ := hM35;have hv35 := hcc35 0 _ rfl;rw [Nat.add_zero, show ((Kd.slice 2 (Kd.int .i64))).sz = 1 from rfl, Nat.mul_one] at hv35;replace hv35 := Option.some.inj (hv35.symm.trans HX662_0.out);subst hv35;clear hcc35 hcl35;replace ge35_0 := (show Kd.R (Kd.int .i64) 2 _ _ _ _ (rd_L13 x5_3 x7_2) from ge35_0);have HP35 := Kd.R_putg ge35_0 (x8_3 : Int) t661) | ((with_reducible refine gate_store (t := 2) (p := 82) rfl ?_);(try (rw [drewN_self wr];generalize hq_ : World.drewN wr _ = wr;(try (have HX662_0 := Aside0.mk (cell_at hq_ HX662_0.out)));(try (have hx33_0 := cell_at hq_ hx33_0));(try (have hf33_0 := frozen_at_ hq_ hf33_0));have n0_ := Aside0.mk (Kd.S_at hq_ HO_5.out);have n2_ := Aside0.mk (below_at hq_ HB.out);(try clear hq_);(try clear HO_5);(try clear HB);have HO_5 := n0_;have HB := n2_;clear n0_ n2_;(try (have hq35 : (x7_2 : Int) < (x5_3.length : Int) := (by have h_ : (x7_2 : Int) < ((x5_3.length : Int) : Int) := od_;first | exact h_ | (have e_ := (Kd.S_reads' HO_5.out).1;omega) | simpa only [List.length_set, List.length_set] using h_)));(try (obtain ⟨oki35, ce35, hcl35, hM35, hcc35, hok35, hbk35⟩ := Kd.S_borrow HO_5.out [] (x7_2 : Int) od_ hq35));(try (obtain ⟨ve35_0, rfl, ge35_0⟩ := hM35));(try (have hv35 := hcc35 0 _ rfl));(try (rw [Nat.add_zero, show ((Kd.slice 2 (Kd.int .i64))).sz = 1 from rfl, Nat.mul_one] at hv35));(try (replace hv35 := Option.some.inj (hv35.symm.trans HX662_0.out)));(try (subst hv35));(try (clear hcc35 hcl35));(try (replace ge35_0 := (show Kd.R (Kd.int .i64) 2 _ _ _ _ (rd_L13 x5_3 x7_2) from ge35_0)));(try (have HP35 := Kd.R_putg ge35_0 (x8_3 : Int) t661))));refine store_event (t := 2) (p := 82) (v := ?vo_w36) (w1 := (wr.setCell ⟨go33, (x8_3 : Int).toNat, none⟩ (.int .i64 t661))) ?hg ?ho ?hn ?hr ?_;(case ho => rfl);(case hg => rfl);(case hn => rfl);(case hr => first | (go_simp;done) | (go_simp;rfl));intro w36 hw;have hg : wr.grownBy w36 (some go33) := (by rw [hw];exact HP35.2);have hz_ : Kd.R (Kd.int .i64) 2 w36 w.heap.size oki35 (.slice (some ⟨go33, 0, none⟩) (rd_L13 x5_3 x7_2).length c654_0) y663 := (by rw [hw, Ny663.out];exact HP35.1);have hp_ : Kd.S (Kd.slice 2 (Kd.int .i64)) 130 w36 w.heap.size (fun _ => True) (.slice (some ad652) x5_3.length co34) y665 := (by rw [Ny665.out];exact hbk35 hg (fun k_ e_ => by injection e_ with e_;subst e_;exact ge35_0.1 _ rfl) (Kd.M_row hz_));have hm_ := Kd.R_mono hz_ hok35;clear HP35 hbk35;have n0_ := Aside0.mk (hp_);have n1_ := Aside0.mk ((by rw [hw];exact below_set (HB.out) GB33.out : Below w.heap.size w w36));have n2_ := Aside0.mk (hm_);have n3_ := Aside0.mk ((Kd.R_reads' hm_).2.1);clear HO_5;clear HB;clear HL652_0;clear HL654_0;clear HL659_0;clear HL662_0;have HO_5 := n0_;have HB := n1_;have HL670 := n2_;have HC664 := n3_;clear n0_ n1_ n2_ n3_;clear hg hw hp_ hz_ hm_ hok35));try go_wp2_with (first | (go_at_call 153;(with_reducible refine (spec_l1Max.calls (rd (rd_L13 x5_3 (ji16)) x8_3) (rd (rd_L13 x5_3 x7_2) (ji23)) t656 _ A26.out).mono ?_);rintro e w' ⟨rfl, ⟨nd, rfl⟩⟩;(try first | exact ⟨rfl, _, World.drewN_drewN _ _ _⟩ | exact ⟨rfl, _, Eq.trans (World.drewN_drewN _ _ _) (congrArg (World.drewN _) (Nat.add_assoc _ _ _))⟩);have p657 : 0 ≤ (x7_2 : Int) := od_;have q657 : x7_2 < (l0.length : Int) := od_;obtain ⟨ad657, e657, hx657_0⟩ := Kd.at_string HR0.out x7_2 p657 q657;cases e657;replace hx657_0 := hc_ HB.out hx657_0;replace p657 := eq_true p657;replace q657 := eq_true q657;have p658 : 0 ≤ (x8_3 : Int) := od_;have q658 : x8_3 < (l1.length : Int) := od_;obtain ⟨ad658, e658, hx658_0⟩ := Kd.at_string HR1.out x8_3 p658 q658;cases e658;replace hx658_0 := hc_ HB.out hx658_0;replace p658 := eq_true p658;replace q658 := eq_true q658;have p659 : 0 ≤ ((ji16) : Int) := od_;have q659 : (ji16) < (x5_3.length : Int) := od_;obtain ⟨ad659, A659_0, c659_0, e659, hx659_0, hl659_0, hi659_0⟩ := at_L13 (Kd.S_reads' HO_5.out).2.2 (ji16) p659 q659;obtain rfl : ad652 = ad659 := (by injection e659);obtain ⟨ce659, hce659, hMe659, hcc659⟩ := Kd.S_get HO_5.out [] (ji16) p659 (by first | exact q659 | exact od_ | (have e_ := (Kd.S_reads' HO_5.out).1;omega));obtain ⟨ve659_0, rfl, ge659_0⟩ := hMe659;have hv659_0 := hcc659 0 _ rfl;rw [Nat.add_zero, show ((Kd.slice 2 (Kd.int .i64))).sz = 1 from rfl, Nat.mul_one] at hv659_0;replace hv659_0 := Option.some.inj (hv659_0.symm.trans hx659_0);rw [hv659_0] at ge659_0;have HL659_0 := Aside0.mk (show Kd.R (Kd.int .i64) 2 _ _ _ _ (rd_L13 x5_3 (ji16)) from ge659_0);clear hv659_0 ge659_0;have HX659_0 := Aside0.mk hx659_0;clear hcc659 hce659;have HR659_0 := Aside0.mk hi659_0;have HC659_0 := Aside0.mk hl659_0;clear hi659_0 hl659_0;replace p659 := eq_true p659;replace q659 := eq_true q659;have ea_ := Option.some.inj (hx652_0.symm.trans hx659_0);injection ea_ with ea_ en_ ec_;subst ea_;subst ec_;clear en_;have p660 : 0 ≤ ((ji23) : Int) := od_;have q660 : (ji23) < ((rd_L13 x5_3 (ji16)).length : Int) := od_;obtain ⟨ad660, e660, hx660_0⟩ := Kd.at_int (by repeat (first | (with_reducible exact HR659_0.out) | (with_reducible refine Kd.C_alloc ?_ _) | (with_reducible refine Kd.C_drewN ?_ _) | (with_reducible refine Kd.C_drew ?_) | exact HR659_0.out)) (ji23) p660 q660;cases e660;replace p660 := eq_true p660;replace q660 := eq_true q660) | (go_at_call 153;(with_reducible refine (spec_l1Max.calls t656 (wrap64 (1 + (rd (rd_L13 x5_3 (ji16)) (ji23)))) t661 _ A31.out).mono ?_);rintro e w' ⟨rfl, ⟨nd, rfl⟩⟩;(try first | exact ⟨rfl, _, World.drewN_drewN _ _ _⟩ | exact ⟨rfl, _, Eq.trans (World.drewN_drewN _ _ _) (congrArg (World.drewN _) (Nat.add_assoc _ _ _))⟩);have p662 : 0 ≤ (x7_2 : Int) := od_;have q662 : x7_2 < (x5_3.length : Int) := od_;obtain ⟨ad662, A662_0, c662_0, e662, hx662_0, hl662_0, hi662_0⟩ := at_L13 (Kd.S_reads' HO_5.out).2.2 x7_2 p662 q662;obtain rfl : ad652 = ad662 := (by injection e662);obtain ⟨ce662, hce662, hMe662, hcc662⟩ := Kd.S_get HO_5.out [] x7_2 p662 (by first | exact q662 | exact od_ | (have e_ := (Kd.S_reads' HO_5.out).1;omega));obtain ⟨ve662_0, rfl, ge662_0⟩ := hMe662;have hv662_0 := hcc662 0 _ rfl;rw [Nat.add_zero, show ((Kd.slice 2 (Kd.int .i64))).sz = 1 from rfl, Nat.mul_one] at hv662_0;replace hv662_0 := Option.some.inj (hv662_0.symm.trans hx662_0);rw [hv662_0] at ge662_0;have HL662_0 := Aside0.mk (show Kd.R (Kd.int .i64) 2 _ _ _ _ (rd_L13 x5_3 x7_2) from ge662_0);clear hv662_0 ge662_0;have HX662_0 := Aside0.mk hx662_0;clear hcc662 hce662;have HR662_0 := Aside0.mk hi662_0;have HC662_0 := Aside0.mk hl662_0;clear hi662_0 hl662_0;replace p662 := eq_true p662;replace q662 := eq_true q662;have ea_ := Option.some.inj (hx654_0.symm.trans hx662_0);injection ea_ with ea_ en_ ec_;subst ea_;subst ec_;clear en_;have p33 : 0 ≤ (x8_3 : Int) := od_;have q33 : (x8_3 : Int) < (((rd_L13 x5_3 x7_2).length : Int) : Int) := od_;obtain ⟨go33, co33, eo33, gb33, gl33, cl33, HG33⟩ := Kd.R_form HL662_0.out (by omega);(first | cases eo33 | (injection eo33 with ea_ en_ ec_;(first | subst ea_ | (injection ea_ with ea_;subst ea_));subst ec_;clear en_));have GB33 := Aside0.mk gb33;have GG33 := Aside0.mk HG33;clear gb33 gl33 HG33;(first | simp only [add_plain] at hx655_0 | skip);obtain ⟨hx33_0, hf33_0⟩ := Kd.R_celln 0 HL662_0.out (x8_3 : Int) p33 q33;replace p33 := eq_true p33;replace q33 := eq_true q33;have hq35 : (x7_2 : Int) < (x5_3.length : Int) := (by have h_ : (x7_2 : Int) < ((x5_3.length : Int) : Int) := od_;first | exact h_ | (have e_ := (Kd.S_reads' HO_5.out).1;omega) | simpa only [List.length_set, List.length_set] using h_);obtain ⟨oki35, ce35, hcl35, hM35, hcc35, hok35, hbk35⟩ := Kd.S_borrow HO_5.out [] (x7_2 : Int) od_ hq35;obtain ⟨ve35_0, rfl, ge35_0⟩ := hM35;have hv35 := hcc35 0 _ rfl;rw [Nat.add_zero, show ((Kd.slice 2 (Kd.int .i64))).sz = 1 from rfl, Nat.mul_one] at hv35;replace hv35 := Option.some.inj (hv35.symm.trans HX662_0.out);subst hv35;clear hcc35 hcl35;replace ge35_0 := (show Kd.R (Kd.int .i64) 2 _ _ _ _ (rd_L13 x5_3 x7_2) from ge35_0);have HP35 := Kd.R_putg ge35_0 (x8_3 : Int) t661) | ((with_reducible refine gate_store (t := 2) (p := 82) rfl ?_);(try (rw [drewN_self wr];generalize hq_ : World.drewN wr _ = wr;(try (have HX662_0 := Aside0.mk (cell_at hq_ HX662_0.out)));(try (have hx33_0 := cell_at hq_ hx33_0));(try (have hf33_0 := frozen_at_ hq_ hf33_0));have n0_ := Aside0.mk (Kd.S_at hq_ HO_5.out);have n2_ := Aside0.mk (below_at hq_ HB.out);(try clear hq_);(try clear HO_5);(try clear HB);have HO_5 := n0_;have HB := n2_;clear n0_ n2_;(try (have hq35 : (x7_2 : Int) < (x5_3.length : Int) := (by have h_ : (x7_2 : Int) < ((x5_3.length : Int) : Int) := od_;first | exact h_ | (have e_ := (Kd.S_reads' HO_5.out).1;omega) | simpa only [List.length_set, List.length_set] using h_)));(try (obtain ⟨oki35, ce35, hcl35, hM35, hcc35, hok35, hbk35⟩ := Kd.S_borrow HO_5.out [] (x7_2 : Int) od_ hq35));(try (obtain ⟨ve35_0, rfl, ge35_0⟩ := hM35));(try (have hv35 := hcc35 0 _ rfl));(try (rw [Nat.add_zero, show ((Kd.slice 2 (Kd.int .i64))).sz = 1 from rfl, Nat.mul_one] at hv35));(try (replace hv35 := Option.some.inj (hv35.symm.trans HX662_0.out)));(try (subst hv35));(try (clear hcc35 hcl35));(try (replace ge35_0 := (show Kd.R (Kd.int .i64) 2 _ _ _ _ (rd_L13 x5_3 x7_2) from ge35_0)));(try (have HP35 := Kd.R_putg ge35_0 (x8_3 : Int) t661))));refine store_event (t := 2) (p := 82) (v := ?vo_w36) (w1 := (wr.setCell ⟨go33, (x8_3 : Int).toNat, none⟩ (.int .i64 t661))) ?hg ?ho ?hn ?hr ?_;(case ho => rfl);(case hg => rfl);(case hn => rfl);(case hr => first | (go_simp;done) | (go_simp;rfl));intro w36 hw;have hg : wr.grownBy w36 (some go33) := (by rw [hw];exact HP35.2);have hz_ : Kd.R (Kd.int .i64) 2 w36 w.heap.size oki35 (.slice (some ⟨go33, 0, none⟩) (rd_L13 x5_3 x7_2).length c654_0) y663 := (by rw [hw, Ny663.out];exact HP35.1);have hp_ : Kd.S (Kd.slice 2 (Kd.int .i64)) 130 w36 w.heap.size (fun _ => True) (.slice (some ad652) x5_3.length co34) y665 := (by rw [Ny665.out];exact hbk35 hg (fun k_ e_ => by injection e_ with e_;subst e_;exact ge35_0.1 _ rfl) (Kd.M_row hz_));have hm_ := Kd.R_mono hz_ hok35;clear HP35 hbk35;have n0_ := Aside0.mk (hp_);have n1_ := Aside0.mk ((by rw [hw];exact below_set (HB.out) GB33.out : Below w.heap.size w w36));have n2_ := Aside0.mk (hm_);have n3_ := Aside0.mk ((Kd.R_reads' hm_).2.1);clear HO_5;clear HB;clear HL652_0;clear HL654_0;clear HL659_0;clear HL662_0;have HO_5 := n0_;have HB := n1_;have HL670 := n2_;have HC664 := n3_;clear n0_ n1_ n2_ n3_;clear hg hw hp_ hz_ hm_ hok35)))
                       go_roundg k3
                       case measure => have := HK1.out;have := HK2.out;have := HK3.out;omega
                       case rel => exact ⟨(y665), (wrap64 (x8_3 - 1)), ls_, H', ⟨by have := HK1.out;have := HK2.out;have := HK3.out;omega⟩, ⟨rs_ HO_5.out⟩, ⟨bw_ HB.out⟩⟩
                      ·rw [if_neg c32] at H
                       exact absurd H (by simp)
                     ·rw [if_neg c30] at H
                      exact absurd H (by simp)
                    ·rw [if_neg c29] at H
                     have c29b0 : ((rdOf ByteArray.empty l0 x7_2).toList == (rdOf ByteArray.empty l1 x8_3).toList) = false := beq_eq_false_iff_ne.mpr c29
                     have c29b1 : ((rdOf ByteArray.empty l0 x7_2).toList != (rdOf ByteArray.empty l1 x8_3).toList) = true := bne_iff_ne.mpr c29
                     by_cases c37 : x8_3 < ((rd_L13 x5_3 x7_2).length : Int)
                     ·rw [if_pos c37] at H
                      have c37b0 : decide (x8_3 < ((rd_L13 x5_3 x7_2).length : Int)) = true := decide_eq_true c37
                      clear c37
                      obtain ⟨y667, hy667⟩ : ∃ y_ : List Int, y_ = ((rd_L13 x5_3 x7_2).set (x8_3 : Int).toNat t656) := ⟨_, rfl⟩
                      replace H : (spec_l2Table.l2 k3 l0 l1 (x5_3.set (x7_2 : Int).toNat y667) x7_2 (wrap64 (x8_3 - 1))) = some r := by first | (rw [hy667];with_reducible exact H) | (have H2_ := (Option.bind_some _ _).symm.trans H;rw [hy667];with_reducible exact H2_) | (have H2_ := (Option.bind_some _ _).symm.trans H;with_reducible exact H2_) | with_reducible exact H | (rw [hy667];exact H) | exact H
                      have Ny667 := Aside0.mk hy667
                      clear hy667
                      obtain ⟨y669, hy669⟩ : ∃ y_ : List (List Int), y_ = (x5_3.set (x7_2 : Int).toNat y667) := ⟨_, rfl⟩
                      replace H : (spec_l2Table.l2 k3 l0 l1 y669 x7_2 (wrap64 (x8_3 - 1))) = some r := by first | (rw [hy669];with_reducible exact H) | (have H2_ := (Option.bind_some _ _).symm.trans H;rw [hy669];with_reducible exact H2_) | (have H2_ := (Option.bind_some _ _).symm.trans H;with_reducible exact H2_) | with_reducible exact H | (rw [hy669];exact H) | exact H
                      have Ny669 := Aside0.mk hy669
                      clear hy669
                      have H' := Aside0.mk H
                      clear H
                      obtain ⟨Ao39, co39, eo39⟩ := Kd.S_slice HO_5.out
                      subst eo39
                      have p652 : 0 ≤ ((ji16) : Int) := od_
                      have q652 : (ji16) < (x5_3.length : Int) := od_
                      obtain ⟨ad652, A652_0, c652_0, e652, hx652_0, hl652_0, hi652_0⟩ := at_L13 (Kd.S_reads' HO_5.out).2.2 (ji16) p652 q652
                      cases e652
                      obtain ⟨ce652, hce652, hMe652, hcc652⟩ := Kd.S_get HO_5.out [] (ji16) p652 (by first | exact q652 | exact od_ | (have e_ := (Kd.S_reads' HO_5.out).1;omega))
                      obtain ⟨ve652_0, rfl, ge652_0⟩ := hMe652
                      have hv652_0 := hcc652 0 _ rfl
                      rw [Nat.add_zero, show ((Kd.slice 2 (Kd.int .i64))).sz = 1 from rfl, Nat.mul_one] at hv652_0
                      replace hv652_0 := Option.some.inj (hv652_0.symm.trans hx652_0)
                      rw [hv652_0] at ge652_0
                      have HL652_0 := Aside0.mk (show Kd.R (Kd.int .i64) 2 _ _ _ _ (rd_L13 x5_3 (ji16)) from ge652_0)
                      clear hv652_0 ge652_0
                      have HX652_0 := Aside0.mk hx652_0
                      clear hcc652 hce652
                      have HR652_0 := Aside0.mk hi652_0
                      have HC652_0 := Aside0.mk hl652_0
                      clear hi652_0 hl652_0
                      replace p652 := eq_true p652
                      replace q652 := eq_true q652
                      have p653 : 0 ≤ (x8_3 : Int) := od_
                      have q653 : x8_3 < ((rd_L13 x5_3 (ji16)).length : Int) := od_
                      obtain ⟨ad653, e653, hx653_0⟩ := Kd.at_int (by repeat (first | (with_reducible exact HR652_0.out) | (with_reducible refine Kd.C_alloc ?_ _) | (with_reducible refine Kd.C_drewN ?_ _) | (with_reducible refine Kd.C_drew ?_) | exact HR652_0.out)) x8_3 p653 q653
                      cases e653
                      replace p653 := eq_true p653
                      replace q653 := eq_true q653
                      have p654 : 0 ≤ (x7_2 : Int) := od_
                      have q654 : x7_2 < (x5_3.length : Int) := od_
                      obtain ⟨ad654, A654_0, c654_0, e654, hx654_0, hl654_0, hi654_0⟩ := at_L13 (Kd.S_reads' HO_5.out).2.2 x7_2 p654 q654
                      obtain rfl : ad652 = ad654 := (by injection e654)
                      obtain ⟨ce654, hce654, hMe654, hcc654⟩ := Kd.S_get HO_5.out [] x7_2 p654 (by first | exact q654 | exact od_ | (have e_ := (Kd.S_reads' HO_5.out).1;omega))
                      obtain ⟨ve654_0, rfl, ge654_0⟩ := hMe654
                      have hv654_0 := hcc654 0 _ rfl
                      rw [Nat.add_zero, show ((Kd.slice 2 (Kd.int .i64))).sz = 1 from rfl, Nat.mul_one] at hv654_0
                      replace hv654_0 := Option.some.inj (hv654_0.symm.trans hx654_0)
                      rw [hv654_0] at ge654_0
                      have HL654_0 := Aside0.mk (show Kd.R (Kd.int .i64) 2 _ _ _ _ (rd_L13 x5_3 x7_2) from ge654_0)
                      clear hv654_0 ge654_0
                      have HX654_0 := Aside0.mk hx654_0
                      clear hcc654 hce654
                      have HR654_0 := Aside0.mk hi654_0
                      have HC654_0 := Aside0.mk hl654_0
                      clear hi654_0 hl654_0
                      replace p654 := eq_true p654
                      replace q654 := eq_true q654
                      have p655 : 0 ≤ ((ji23) : Int) := od_
                      have q655 : (ji23) < ((rd_L13 x5_3 x7_2).length : Int) := od_
                      obtain ⟨ad655, e655, hx655_0⟩ := Kd.at_int (by repeat (first | (with_reducible exact HR654_0.out) | (with_reducible refine Kd.C_alloc ?_ _) | (with_reducible refine Kd.C_drewN ?_ _) | (with_reducible refine Kd.C_drew ?_) | exact HR654_0.out)) (ji23) p655 q655
                      cases e655
                      replace p655 := eq_true p655
                      replace q655 := eq_true q655
                      go_wp2_with (first | (go_at_call 153;(with_reducible refine (spec_l1Max.calls (rd (rd_L13 x5_3 (ji16)) x8_3) (rd (rd_L13 x5_3 x7_2) (ji23)) t656 _ A26.out).mono ?_);rintro e w' ⟨rfl, ⟨nd, rfl⟩⟩;(try first | exact ⟨rfl, _, World.drewN_drewN _ _ _⟩ | exact ⟨rfl, _, Eq.trans (World.drewN_drewN _ _ _) (congrArg (World.drewN _) (Nat.add_assoc _ _ _))⟩);have p657 : 0 ≤ (x7_2 : Int) := od_;have q657 : x7_2 < (l0.length : Int) := od_;obtain ⟨ad657, e657, hx657_0⟩ := Kd.at_string HR0.out x7_2 p657 q657;cases e657;replace hx657_0 := hc_ HB.out hx657_0;replace p657 := eq_true p657;replace q657 := eq_true q657;have p658 : 0 ≤ (x8_3 : Int) := od_;have q658 : x8_3 < (l1.length : Int) := od_;obtain ⟨ad658, e658, hx658_0⟩ := Kd.at_string HR1.out x8_3 p658 q658;cases e658;replace hx658_0 := hc_ HB.out hx658_0;replace p658 := eq_true p658;replace q658 := eq_true q658;have p666 : 0 ≤ (x7_2 : Int) := od_;have q666 : x7_2 < (x5_3.length : Int) := od_;obtain ⟨ad666, A666_0, c666_0, e666, hx666_0, hl666_0, hi666_0⟩ := at_L13 (Kd.S_reads' HO_5.out).2.2 x7_2 p666 q666;obtain rfl : ad652 = ad666 := (by injection e666);obtain ⟨ce666, hce666, hMe666, hcc666⟩ := Kd.S_get HO_5.out [] x7_2 p666 (by first | exact q666 | exact od_ | (have e_ := (Kd.S_reads' HO_5.out).1;omega));obtain ⟨ve666_0, rfl, ge666_0⟩ := hMe666;have hv666_0 := hcc666 0 _ rfl;rw [Nat.add_zero, show ((Kd.slice 2 (Kd.int .i64))).sz = 1 from rfl, Nat.mul_one] at hv666_0;replace hv666_0 := Option.some.inj (hv666_0.symm.trans hx666_0);rw [hv666_0] at ge666_0;have HL666_0 := Aside0.mk (show Kd.R (Kd.int .i64) 2 _ _ _ _ (rd_L13 x5_3 x7_2) from ge666_0);clear hv666_0 ge666_0;have HX666_0 := Aside0.mk hx666_0;clear hcc666 hce666;have HR666_0 := Aside0.mk hi666_0;have HC666_0 := Aside0.mk hl666_0;clear hi666_0 hl666_0;replace p666 := eq_true p666;replace q666 := eq_true q666;have ea_ := Option.some.inj (hx654_0.symm.trans hx666_0);injection ea_ with ea_ en_ ec_;subst ea_;subst ec_;clear en_;have p38 : 0 ≤ (x8_3 : Int) := od_;have q38 : (x8_3 : Int) < (((rd_L13 x5_3 x7_2).length : Int) : Int) := od_;obtain ⟨go38, co38, eo38, gb38, gl38, cl38, HG38⟩ := Kd.R_form HL666_0.out (by omega);(first | cases eo38 | (injection eo38 with ea_ en_ ec_;(first | subst ea_ | (injection ea_ with ea_;subst ea_));subst ec_;clear en_));have GB38 := Aside0.mk gb38;have GG38 := Aside0.mk HG38;clear gb38 gl38 HG38;(first | simp only [add_plain] at hx655_0 | skip);obtain ⟨hx38_0, hf38_0⟩ := Kd.R_celln 0 HL666_0.out (x8_3 : Int) p38 q38;replace p38 := eq_true p38;replace q38 := eq_true q38;have hq40 : (x7_2 : Int) < (x5_3.length : Int) := (by have h_ : (x7_2 : Int) < ((x5_3.length : Int) : Int) := od_;first | exact h_ | (have e_ := (Kd.S_reads' HO_5.out).1;omega) | simpa only [List.length_set, List.length_set] using h_);obtain ⟨oki40, ce40, hcl40, hM40, hcc40, hok40, hbk40⟩ := Kd.S_borrow HO_5.out [] (x7_2 : Int) od_ hq40;obtain ⟨ve40_0, rfl, ge40_0⟩ := hM40;have hv40 := hcc40 0 _ rfl;rw [Nat.add_zero, show ((Kd.slice 2 (Kd.int .i64))).sz = 1 from rfl, Nat.mul_one] at hv40;replace hv40 := Option.some.inj (hv40.symm.trans HX666_0.out);subst hv40;clear hcc40 hcl40;replace ge40_0 := (show Kd.R (Kd.int .i64) 2 _ _ _ _ (rd_L13 x5_3 x7_2) from ge40_0);have HP40 := Kd.R_putg ge40_0 (x8_3 : Int) t656) | ((with_reducible refine gate_store (t := 2) (p := 82) rfl ?_);(try (rw [drewN_self wr];generalize hq_ : World.drewN wr _ = wr;(try (have HX666_0 := Aside0.mk (cell_at hq_ HX666_0.out)));(try (have hx38_0 := cell_at hq_ hx38_0));(try (have hf38_0 := frozen_at_ hq_ hf38_0));have n0_ := Aside0.mk (Kd.S_at hq_ HO_5.out);have n2_ := Aside0.mk (below_at hq_ HB.out);(try clear hq_);(try clear HO_5);(try clear HB);have HO_5 := n0_;have HB := n2_;clear n0_ n2_;(try (have hq40 : (x7_2 : Int) < (x5_3.length : Int) := (by have h_ : (x7_2 : Int) < ((x5_3.length : Int) : Int) := od_;first | exact h_ | (have e_ := (Kd.S_reads' HO_5.out).1;omega) | simpa only [List.length_set, List.length_set] using h_)));(try (obtain ⟨oki40, ce40, hcl40, hM40, hcc40, hok40, hbk40⟩ := Kd.S_borrow HO_5.out [] (x7_2 : Int) od_ hq40));(try (obtain ⟨ve40_0, rfl, ge40_0⟩ := hM40));(try (have hv40 := hcc40 0 _ rfl));(try (rw [Nat.add_zero, show ((Kd.slice 2 (Kd.int .i64))).sz = 1 from rfl, Nat.mul_one] at hv40));(try (replace hv40 := Option.some.inj (hv40.symm.trans HX666_0.out)));(try (subst hv40));(try (clear hcc40 hcl40));(try (replace ge40_0 := (show Kd.R (Kd.int .i64) 2 _ _ _ _ (rd_L13 x5_3 x7_2) from ge40_0)));(try (have HP40 := Kd.R_putg ge40_0 (x8_3 : Int) t656))));refine store_event (t := 2) (p := 82) (v := ?vo_w41) (w1 := (wr.setCell ⟨go38, (x8_3 : Int).toNat, none⟩ (.int .i64 t656))) ?hg ?ho ?hn ?hr ?_;(case ho => rfl);(case hg => rfl);(case hn => rfl);(case hr => first | (go_simp;done) | (go_simp;rfl));intro w41 hw;have hg : wr.grownBy w41 (some go38) := (by rw [hw];exact HP40.2);have hz_ : Kd.R (Kd.int .i64) 2 w41 w.heap.size oki40 (.slice (some ⟨go38, 0, none⟩) (rd_L13 x5_3 x7_2).length c654_0) y667 := (by rw [hw, Ny667.out];exact HP40.1);have hp_ : Kd.S (Kd.slice 2 (Kd.int .i64)) 130 w41 w.heap.size (fun _ => True) (.slice (some ad652) x5_3.length co39) y669 := (by rw [Ny669.out];exact hbk40 hg (fun k_ e_ => by injection e_ with e_;subst e_;exact ge40_0.1 _ rfl) (Kd.M_row hz_));have hm_ := Kd.R_mono hz_ hok40;clear HP40 hbk40;have n0_ := Aside0.mk (hp_);have n1_ := Aside0.mk ((by rw [hw];exact below_set (HB.out) GB38.out : Below w.heap.size w w41));have n2_ := Aside0.mk (hm_);have n3_ := Aside0.mk ((Kd.R_reads' hm_).2.1);clear HO_5;clear HB;clear HL652_0;clear HL654_0;clear HL666_0;have HO_5 := n0_;have HB := n1_;have HL671 := n2_;have HC668 := n3_;clear n0_ n1_ n2_ n3_;clear hg hw hp_ hz_ hm_ hok40))
                      repeat (go_quiet (first | (go_at_call 153;(with_reducible refine (spec_l1Max.calls (rd (rd_L13 x5_3 (ji16)) x8_3) (rd (rd_L13 x5_3 x7_2) (ji23)) t656 _ A26.out).mono ?_);rintro e w' ⟨rfl, ⟨nd, rfl⟩⟩;(try first | exact ⟨rfl, _, World.drewN_drewN _ _ _⟩ | exact ⟨rfl, _, Eq.trans (World.drewN_drewN _ _ _) (congrArg (World.drewN _) (Nat.add_assoc _ _ _))⟩);have p657 : 0 ≤ (x7_2 : Int) := od_;have q657 : x7_2 < (l0.length : Int) := od_;obtain ⟨ad657, e657, hx657_0⟩ := Kd.at_string HR0.out x7_2 p657 q657;cases e657;replace hx657_0 := hc_ HB.out hx657_0;replace p657 := eq_true p657;replace q657 := eq_true q657;have p658 : 0 ≤ (x8_3 : Int) := od_;have q658 : x8_3 < (l1.length : Int) := od_;obtain ⟨ad658, e658, hx658_0⟩ := Kd.at_string HR1.out x8_3 p658 q658;cases e658;replace hx658_0 := hc_ HB.out hx658_0;replace p658 := eq_true p658;replace q658 := eq_true q658;have p666 : 0 ≤ (x7_2 : Int) := od_;have q666 : x7_2 < (x5_3.length : Int) := od_;obtain ⟨ad666, A666_0, c666_0, e666, hx666_0, hl666_0, hi666_0⟩ := at_L13 (Kd.S_reads' HO_5.out).2.2 x7_2 p666 q666;obtain rfl : ad652 = ad666 := (by injection e666);obtain ⟨ce666, hce666, hMe666, hcc666⟩ := Kd.S_get HO_5.out [] x7_2 p666 (by first | exact q666 | exact od_ | (have e_ := (Kd.S_reads' HO_5.out).1;omega));obtain ⟨ve666_0, rfl, ge666_0⟩ := hMe666;have hv666_0 := hcc666 0 _ rfl;rw [Nat.add_zero, show ((Kd.slice 2 (Kd.int .i64))).sz = 1 from rfl, Nat.mul_one] at hv666_0;replace hv666_0 := Option.some.inj (hv666_0.symm.trans hx666_0);rw [hv666_0] at ge666_0;have HL666_0 := Aside0.mk (show Kd.R (Kd.int .i64) 2 _ _ _ _ (rd_L13 x5_3 x7_2) from ge666_0);clear hv666_0 ge666_0;have HX666_0 := Aside0.mk hx666_0;clear hcc666 hce666;have HR666_0 := Aside0.mk hi666_0;have HC666_0 := Aside0.mk hl666_0;clear hi666_0 hl666_0;replace p666 := eq_true p666;replace q666 := eq_true q666;have ea_ := Option.some.inj (hx654_0.symm.trans hx666_0);injection ea_ with ea_ en_ ec_;subst ea_;subst ec_;clear en_;have p38 : 0 ≤ (x8_3 : Int) := od_;have q38 : (x8_3 : Int) < (((rd_L13 x5_3 x7_2).length : Int) : Int) := od_;obtain ⟨go38, co38, eo38, gb38, gl38, cl38, HG38⟩ := Kd.R_form HL666_0.out (by omega);(first | cases eo38 | (injection eo38 with ea_ en_ ec_;(first | subst ea_ | (injection ea_ with ea_;subst ea_));subst ec_;clear en_));have GB38 := Aside0.mk gb38;have GG38 := Aside0.mk HG38;clear gb38 gl38 HG38;(first | simp only [add_plain] at hx655_0 | skip);obtain ⟨hx38_0, hf38_0⟩ := Kd.R_celln 0 HL666_0.out (x8_3 : Int) p38 q38;replace p38 := eq_true p38;replace q38 := eq_true q38;have hq40 : (x7_2 : Int) < (x5_3.length : Int) := (by have h_ : (x7_2 : Int) < ((x5_3.length : Int) : Int) := od_;first | exact h_ | (have e_ := (Kd.S_reads' HO_5.out).1;omega) | simpa only [List.length_set, List.length_set] using h_);obtain ⟨oki40, ce40, hcl40, hM40, hcc40, hok40, hbk40⟩ := Kd.S_borrow HO_5.out [] (x7_2 : Int) od_ hq40;obtain ⟨ve40_0, rfl, ge40_0⟩ := hM40;have hv40 := hcc40 0 _ rfl;rw [Nat.add_zero, show ((Kd.slice 2 (Kd.int .i64))).sz = 1 from rfl, Nat.mul_one] at hv40;replace hv40 := Option.some.inj (hv40.symm.trans HX666_0.out);subst hv40;clear hcc40 hcl40;replace ge40_0 := (show Kd.R (Kd.int .i64) 2 _ _ _ _ (rd_L13 x5_3 x7_2) from ge40_0);have HP40 := Kd.R_putg ge40_0 (x8_3 : Int) t656) | ((with_reducible refine gate_store (t := 2) (p := 82) rfl ?_);(try (rw [drewN_self wr];generalize hq_ : World.drewN wr _ = wr;(try (have HX666_0 := Aside0.mk (cell_at hq_ HX666_0.out)));(try (have hx38_0 := cell_at hq_ hx38_0));(try (have hf38_0 := frozen_at_ hq_ hf38_0));have n0_ := Aside0.mk (Kd.S_at hq_ HO_5.out);have n2_ := Aside0.mk (below_at hq_ HB.out);(try clear hq_);(try clear HO_5);(try clear HB);have HO_5 := n0_;have HB := n2_;clear n0_ n2_;(try (have hq40 : (x7_2 : Int) < (x5_3.length : Int) := (by have h_ : (x7_2 : Int) < ((x5_3.length : Int) : Int) := od_;first | exact h_ | (have e_ := (Kd.S_reads' HO_5.out).1;omega) | simpa only [List.length_set, List.length_set] using h_)));(try (obtain ⟨oki40, ce40, hcl40, hM40, hcc40, hok40, hbk40⟩ := Kd.S_borrow HO_5.out [] (x7_2 : Int) od_ hq40));(try (obtain ⟨ve40_0, rfl, ge40_0⟩ := hM40));(try (have hv40 := hcc40 0 _ rfl));(try (rw [Nat.add_zero, show ((Kd.slice 2 (Kd.int .i64))).sz = 1 from rfl, Nat.mul_one] at hv40));(try (replace hv40 := Option.some.inj (hv40.symm.trans HX666_0.out)));(try (subst hv40));(try (clear hcc40 hcl40));(try (replace ge40_0 := (show Kd.R (Kd.int .i64) 2 _ _ _ _ (rd_L13 x5_3 x7_2) from ge40_0)));(try (have HP40 := Kd.R_putg ge40_0 (x8_3 : Int) t656))));refine store_event (t := 2) (p := 82) (v := ?vo_w41) (w1 := (wr.setCell ⟨go38, (x8_3 : Int).toNat, none⟩ (.int .i64 t656))) ?hg ?ho ?hn ?hr ?_;(case ho => rfl);(case hg => rfl);(case hn => rfl);(case hr => first | (go_simp;done) | (go_simp;rfl));intro w41 hw;have hg : wr.grownBy w41 (some go38) := (by rw [hw];exact HP40.2);have hz_ : Kd.R (Kd.int .i64) 2 w41 w.heap.size oki40 (.slice (some ⟨go38, 0, none⟩) (rd_L13 x5_3 x7_2).length c654_0) y667 := (by rw [hw, Ny667.out];exact HP40.1);have hp_ : Kd.S (Kd.slice 2 (Kd.int .i64)) 130 w41 w.heap.size (fun _ => True) (.slice (some ad652) x5_3.length co39) y669 := (by rw [Ny669.out];exact hbk40 hg (fun k_ e_ => by injection e_ with e_;subst e_;exact ge40_0.1 _ rfl) (Kd.M_row hz_));have hm_ := Kd.R_mono hz_ hok40;clear HP40 hbk40;have n0_ := Aside0.mk (hp_);have n1_ := Aside0.mk ((by rw [hw];exact below_set (HB.out) GB38.out : Below w.heap.size w w41));have n2_ := Aside0.mk (hm_);have n3_ := Aside0.mk ((Kd.R_reads' hm_).2.1);clear HO_5;clear HB;clear HL652_0;clear HL654_0;clear HL666_0;have HO_5 := n0_;have HB := n1_;have HL671 := n2_;have HC668 := n3_;clear n0_ n1_ n2_ n3_;clear hg hw hp_ hz_ hm_ hok40));try go_wp2_with (first | (go_at_call 153;(with_reducible refine (spec_l1Max.calls (rd (rd_L13 x5_3 (ji16)) x8_3) (rd (rd_L13 x5_3 x7_2) (ji23)) t656 _ A26.out).mono ?_);rintro e w' ⟨rfl, ⟨nd, rfl⟩⟩;(try first | exact ⟨rfl, _, World.drewN_drewN _ _ _⟩ | exact ⟨rfl, _, Eq.trans (World.drewN_drewN _ _ _) (congrArg (World.drewN _) (Nat.add_assoc _ _ _))⟩);have p657 : 0 ≤ (x7_2 : Int) := od_;have q657 : x7_2 < (l0.length : Int) := od_;obtain ⟨ad657, e657, hx657_0⟩ := Kd.at_string HR0.out x7_2 p657 q657;cases e657;replace hx657_0 := hc_ HB.out hx657_0;replace p657 := eq_true p657;replace q657 := eq_true q657;have p658 : 0 ≤ (x8_3 : Int) := od_;have q658 : x8_3 < (l1.length : Int) := od_;obtain ⟨ad658, e658, hx658_0⟩ := Kd.at_string HR1.out x8_3 p658 q658;cases e658;replace hx658_0 := hc_ HB.out hx658_0;replace p658 := eq_true p658;replace q658 := eq_true q658;have p666 : 0 ≤ (x7_2 : Int) := od_;have q666 : x7_2 < (x5_3.length : Int) := od_;obtain ⟨ad666, A666_0, c666_0, e666, hx666_0, hl666_0, hi666_0⟩ := at_L13 (Kd.S_reads' HO_5.out).2.2 x7_2 p666 q666;obtain rfl : ad652 = ad666 := (by injection e666);obtain ⟨ce666, hce666, hMe666, hcc666⟩ := Kd.S_get HO_5.out [] x7_2 p666 (by first | exact q666 | exact od_ | (have e_ := (Kd.S_reads' HO_5.out).1;omega));obtain ⟨ve666_0, rfl, ge666_0⟩ := hMe666;have hv666_0 := hcc666 0 _ rfl;rw [Nat.add_zero, show ((Kd.slice 2 (Kd.int .i64))).sz = 1 from rfl, Nat.mul_one] at hv666_0;replace hv666_0 := Option.some.inj (hv666_0.symm.trans hx666_0);rw [hv666_0] at ge666_0;have HL666_0 := Aside0.mk (show Kd.R (Kd.int .i64) 2 _ _ _ _ (rd_L13 x5_3 x7_2) from ge666_0);clear hv666_0 ge666_0;have HX666_0 := Aside0.mk hx666_0;clear hcc666 hce666;have HR666_0 := Aside0.mk hi666_0;have HC666_0 := Aside0.mk hl666_0;clear hi666_0 hl666_0;replace p666 := eq_true p666;replace q666 := eq_true q666;have ea_ := Option.some.inj (hx654_0.symm.trans hx666_0);injection ea_ with ea_ en_ ec_;subst ea_;subst ec_;clear en_;have p38 : 0 ≤ (x8_3 : Int) := od_;have q38 : (x8_3 : Int) < (((rd_L13 x5_3 x7_2).length : Int) : Int) := od_;obtain ⟨go38, co38, eo38, gb38, gl38, cl38, HG38⟩ := Kd.R_form HL666_0.out (by omega);(first | cases eo38 | (injection eo38 with ea_ en_ ec_;(first | subst ea_ | (injection ea_ with ea_;subst ea_));subst ec_;clear en_));have GB38 := Aside0.mk gb38;have GG38 := Aside0.mk HG38;clear gb38 gl38 HG38;(first | simp only [add_plain] at hx655_0 | skip);obtain ⟨hx38_0, hf38_0⟩ := Kd.R_celln 0 HL666_0.out (x8_3 : Int) p38 q38;replace p38 := eq_true p38;replace q38 := eq_true q38;have hq40 : (x7_2 : Int) < (x5_3.length : Int) := (by have h_ : (x7_2 : Int) < ((x5_3.length : Int) : Int) := od_;first | exact h_ | (have e_ := (Kd.S_reads' HO_5.out).1;omega) | simpa only [List.length_set, List.length_set] using h_);obtain ⟨oki40, ce40, hcl40, hM40, hcc40, hok40, hbk40⟩ := Kd.S_borrow HO_5.out [] (x7_2 : Int) od_ hq40;obtain ⟨ve40_0, rfl, ge40_0⟩ := hM40;have hv40 := hcc40 0 _ rfl;rw [Nat.add_zero, show ((Kd.slice 2 (Kd.int .i64))).sz = 1 from rfl, Nat.mul_one] at hv40;replace hv40 := Option.some.inj (hv40.symm.trans HX666_0.out);subst hv40;clear hcc40 hcl40;replace ge40_0 := (show Kd.R (Kd.int .i64) 2 _ _ _ _ (rd_L13 x5_3 x7_2) from ge40_0);have HP40 := Kd.R_putg ge40_0 (x8_3 : Int) t656) | ((with_reducible refine gate_store (t := 2) (p := 82) rfl ?_);(try (rw [drewN_self wr];generalize hq_ : World.drewN wr _ = wr;(try (have HX666_0 := Aside0.mk (cell_at hq_ HX666_0.out)));(try (have hx38_0 := cell_at hq_ hx38_0));(try (have hf38_0 := frozen_at_ hq_ hf38_0));have n0_ := Aside0.mk (Kd.S_at hq_ HO_5.out);have n2_ := Aside0.mk (below_at hq_ HB.out);(try clear hq_);(try clear HO_5);(try clear HB);have HO_5 := n0_;have HB := n2_;clear n0_ n2_;(try (have hq40 : (x7_2 : Int) < (x5_3.length : Int) := (by have h_ : (x7_2 : Int) < ((x5_3.length : Int) : Int) := od_;first | exact h_ | (have e_ := (Kd.S_reads' HO_5.out).1;omega) | simpa only [List.length_set, List.length_set] using h_)));(try (obtain ⟨oki40, ce40, hcl40, hM40, hcc40, hok40, hbk40⟩ := Kd.S_borrow HO_5.out [] (x7_2 : Int) od_ hq40));(try (obtain ⟨ve40_0, rfl, ge40_0⟩ := hM40));(try (have hv40 := hcc40 0 _ rfl));(try (rw [Nat.add_zero, show ((Kd.slice 2 (Kd.int .i64))).sz = 1 from rfl, Nat.mul_one] at hv40));(try (replace hv40 := Option.some.inj (hv40.symm.trans HX666_0.out)));(try (subst hv40));(try (clear hcc40 hcl40));(try (replace ge40_0 := (show Kd.R (Kd.int .i64) 2 _ _ _ _ (rd_L13 x5_3 x7_2) from ge40_0)));(try (have HP40 := Kd.R_putg ge40_0 (x8_3 : Int) t656))));refine store_event (t := 2) (p := 82) (v := ?vo_w41) (w1 := (wr.setCell ⟨go38, (x8_3 : Int).toNat, none⟩ (.int .i64 t656))) ?hg ?ho ?hn ?hr ?_;(case ho => rfl);(case hg => rfl);(case hn => rfl);(case hr => first | (go_simp;done) | (go_simp;rfl));intro w41 hw;have hg : wr.grownBy w41 (some go38) := (by rw [hw];exact HP40.2);have hz_ : Kd.R (Kd.int .i64) 2 w41 w.heap.size oki40 (.slice (some ⟨go38, 0, none⟩) (rd_L13 x5_3 x7_2).length c654_0) y667 := (by rw [hw, Ny667.out];exact HP40.1);have hp_ : Kd.S (Kd.slice 2 (Kd.int .i64)) 130 w41 w.heap.size (fun _ => True) (.slice (some ad652) x5_3.length co39) y669 := (by rw [Ny669.out];exact hbk40 hg (fun k_ e_ => by injection e_ with e_;subst e_;exact ge40_0.1 _ rfl) (Kd.M_row hz_));have hm_ := Kd.R_mono hz_ hok40;clear HP40 hbk40;have n0_ := Aside0.mk (hp_);have n1_ := Aside0.mk ((by rw [hw];exact below_set (HB.out) GB38.out : Below w.heap.size w w41));have n2_ := Aside0.mk (hm_);have n3_ := Aside0.mk ((Kd.R_reads' hm_).2.1);clear HO_5;clear HB;clear HL652_0;clear HL654_0;clear HL666_0;have HO_5 := n0_;have HB := n1_;have HL671 := n2_;have HC668 := n3_;clear n0_ n1_ n2_ n3_;clear hg hw hp_ hz_ hm_ hok40)))
                      go_roundg k3
                      case measure => have := HK1.out;have := HK2.out;have := HK3.out;omega
                      case rel => exact ⟨(y669), (wrap64 (x8_3 - 1)), ls_, H', ⟨by have := HK1.out;have := HK2.out;have := HK3.out;omega⟩, ⟨rs_ HO_5.out⟩, ⟨bw_ HB.out⟩⟩
                     ·rw [if_neg c37] at H
                      exact absurd H (by simp)
                   ·rw [if_neg c28] at H
                    exact absurd H (by simp)
                  ·rw [if_neg c27] at H
                   exact absurd H (by simp)
                 ·rw [if_neg c25] at H
                  exact absurd H (by simp)
                ·rw [if_neg c24] at H
                 exact absurd H (by simp)
               ·rw [if_neg c22] at H
                exact absurd H (by simp)
              ·rw [if_neg c21] at H
               exact absurd H (by simp)
             ·rw [if_neg c20] at H
              exact absurd H (by simp)
            ·rw [if_neg c19] at H
             exact absurd H (by simp)
           ·rw [if_neg c18] at H
            exact absurd H (by simp)
          ·rw [if_neg c17] at H
           exact absurd H (by simp)
         ·rw [if_neg c15] at H
          have c15b0 : decide (0 ≤ x8_3) = false := decide_eq_false c15
          clear c15
          have H' := Aside0.mk H
          clear H
          go_wp2
          repeat (go_quiet (fail);try go_wp2)
          go_roundg k3
          case measure => have := HK1.out;have := HK2.out;have := HK3.out;omega
          case rel => exact ⟨(x5_3), (wrap64 (x7_2 - 1)), ls_, H', ⟨by have := HK1.out;have := HK2.out;have := HK3.out;omega⟩, ⟨rs_ HO_5.out⟩, ⟨bw_ HB.out⟩⟩
      ·rw [if_neg c14] at H
       have c14b0 : decide (0 ≤ x7_2) = false := decide_eq_false c14
       clear c14
       obtain rfl := Option.some.inj H
       go_wp2
       repeat (go_quiet (fail);try go_wp2)
       go_ret
       exact ⟨_, by first | rfl | (simp [errW_none, errW_some] <;> rfl) | (simp [*, errW_none, errW_some] <;> rfl), rs_ HO_5.out, bw_ HB.out⟩
end Go.Proofs.Ytjngmhngedecdaa.P
end
