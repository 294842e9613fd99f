/- FnRejects: the law of the program holds at every input: the Go function returns true, and its arguments read afterwards as before.
Conditions: none beyond the given statement's own (what can be read as data, of a size that memory bears). -/
import Derived.SliceStrings
import Derived.DataReads
import Derived.DataElems
import Derived.Test.YtelngmkfjpcbgaaRows
import Derived.WalkKit
import Derived.ProofKit
import Derived.OpenShut
import Derived.ShutString
import Derived.ChangeOld
import Derived.Below
import Derived.SizedLaws
import Derived.Carry
import Derived.Test.YtelngmkfjpcbgaaCFnRejects1
import Derived.Test.YtelngmkfjpcbgaaCFnRejects2
import Derived.Test.YtelngmkfjpcbgaaCFnRejects3
import Derived.Test.YtelngmkfjpcbgaaCFnRejects4
import Derived.Test.YtelngmkfjpcbgaaCFnRejects5
import Derived.Test.YtelngmkfjpcbgaaCFnRejects6
section
set_option linter.unusedVariables false
set_option linter.unusedSimpArgs false
namespace Go.Proofs.Ytelngmkfjpcbgaa.P
open Go.RowKit Go.Proofs.YtelngmkfjpcbgaaW.PrintWords Go.Proofs.YtelngmkfjpcbgaaW.PrintLast Go.Proofs.YtelngmkfjpcbgaaW.PrintMore
theorem smin_tells (x y : Int) : spec_l1Min.f x y = some (min x y) := by
 unfold spec_l1Min.f;split <;> (congr 1;omega)
theorem one_size (m : UInt8) (s : ByteArray) (h : s.size ≤ 1048576) : (⟨#[m]⟩ : ByteArray).size + s.size ≤ 9223372036854775807 := by
 have : (⟨#[m]⟩ : ByteArray).size = 1 := rfl;omega
theorem mkd_at (m : UInt8) {l : List ByteArray} {i : Nat} (h : i < l.length) : mkd m (l.drop i) = ((⟨#[m]⟩ : ByteArray) ++ l[i]) :: mkd m (l.drop (i + 1)) := by
 unfold mkd;rw [drop_at h, List.map_cons]
theorem sput_loop (m : UInt8) {l : List ByteArray} (hz : Bd l) (hl : l.length ≤ 1000000) : ∀ (d i : Nat) (acc : List ByteArray), l.length - i = d → i ≤ l.length → acc.length + l.length ≤ 1000000 + i → Ev (fun k => spec_l3Put.l0 k acc (⟨#[m]⟩ : ByteArray) l (i : Int)) (acc ++ mkd m (l.drop i)) := by
 intro d
 induction d with
 | zero =>
  intro i acc hd hi ha;refine Ev.step (fun k => by rw [spec_l3Put.l0]) (Ev_neg (by omega) (Ev_val ?_));rw [List.drop_eq_nil_of_le (by omega)];simp [mkd]
 | succ d ih =>
  intro i acc hd hi ha;(have hlt : i < l.length := by omega);refine Ev.step (fun k => by rw [spec_l3Put.l0]) (Ev_pos (by omega) (Ev_pos (by omega) ?_));rw [rd_nat _ hlt, wsucc hlt (by omega), mkd_at m hlt];refine Ev_pos (one_size m _ (hz _ (List.getElem_mem hlt))) (Ev_pos (by omega) ?_);refine Ev_eq (ih (i + 1) _ (by omega) (by omega) (by rw [List.length_append, List.length_singleton];omega)) ?_;rw [List.append_assoc];rfl
theorem sput3 (m : UInt8) {l acc : List ByteArray} (hz : Bd l) (hl : l.length + acc.length ≤ 1000000) : Ev (fun k => spec_l3Put.f k acc (⟨#[m]⟩ : ByteArray) l) (acc ++ mkd m l) := by
 have := sput_loop m hz (by omega) _ 0 acc rfl (by omega) (by omega);rw [List.drop_zero] at this;exact this
def Okc (la lb : Int) : List CH → Int → Prop
  | [], x => 0 ≤ x ∧ x ≤ la
  | c :: l, x => 0 ≤ x ∧ x ≤ c.f0 ∧ 0 ≤ c.f1 ∧ c.f0 + c.f1 ≤ la ∧ 0 ≤ c.f2 ∧ 0 ≤ c.f3 ∧ c.f2 + c.f3 ≤ lb ∧ Okc la lb l (c.f0 + c.f1)
theorem okc_of {la lb : Int} : ∀ (l : List CH) (i j : Int) (fst : Bool), 0 ≤ i → i ≤ la → CF la lb l i j fst = 0 → Okc la lb l i := by
 intro l
 induction l with
 | nil => intro i j fst h0 h1 _;exact ⟨h0, h1⟩
 | cons c l ih =>
  intro i j fst h0 h1 h;obtain ⟨g1, g2, g3⟩ := CF_good h;unfold ChIn at g1;exact ⟨h0, g2, by omega, by omega, by omega, by omega, by omega, ih _ _ _ (by omega) (by omega) g3⟩
theorem okc_len {la lb : Int} {l : List CH} {x : Int} (h : Okc la lb l x) : 0 ≤ x ∧ x ≤ la := by
 cases l with
 | nil => exact h
 | cons c l => obtain ⟨a, b, c', d, _⟩ := h;omega
theorem sg_bd {l : List ByteArray} (h : Bd l) (i j : Nat) : Bd (sg l i j) := cut_bd h j i
theorem sg_le (l : List ByteArray) (i j : Nat) : (sg l i j).length ≤ l.length := cut_len l j i
def bod (a b : List ByteArray) : List CH → Int → List ByteArray
  | [], _ => []
  | c :: l, x => mkd 32 (sg a x.toNat c.f0.toNat) ++ pie a b c ++ bod a b l (c.f0 + c.f1)
def lst : List CH → Int → Int
  | [], e => e
  | c :: l, _ => lst l (c.f0 + c.f1)
theorem bod_app (a b : List ByteArray) (c : CH) : ∀ (l : List CH) (x : Int), bod a b (l ++ [c]) x = bod a b l x ++ (mkd 32 (sg a (lst l x).toNat c.f0.toNat) ++ pie a b c) := by
 intro l
 induction l with
 | nil => intro x;simp [bod, lst]
 | cons d l ih => intro x;simp only [List.cons_append, bod, lst, ih, List.append_assoc]
theorem lst_app (c : CH) : ∀ (l : List CH) (x : Int), lst (l ++ [c]) x = c.f0 + c.f1 := by
 intro l
 induction l with
 | nil => intro x;rfl
 | cons d l ih => intro x;simp only [List.cons_append, lst, ih]
theorem okc_app {la lb : Int} (c : CH) (r : List CH) : ∀ (l : List CH) (x : Int), Okc la lb l x → Okc la lb (c :: r) (lst l x) → Okc la lb (l ++ [c]) x ∧ Okc la lb r (c.f0 + c.f1) := by
 intro l
 induction l with
 | nil =>
  intro x h g;obtain ⟨g1, g2, g3, g4, g5, g6, g7, g8⟩ := g;exact ⟨⟨g1, g2, g3, g4, g5, g6, g7, okc_len g8⟩, g8⟩
 | cons d l ih =>
  intro x h g;obtain ⟨h1, h2, h3, h4, h5, h6, h7, h8⟩ := h;obtain ⟨i1, i2⟩ := ih _ h8 g;exact ⟨⟨h1, h2, h3, h4, h5, h6, h7, i1⟩, i2⟩
section
variable {a b : List ByteArray} (ha : a.length ≤ 100) (hb : b.length ≤ 100) (za : Bd a) (zb : Bd b) {ctx : Int} (c0 : 0 ≤ ctx) (c5 : ctx ≤ 5)
include ha hb za zb
include c0 c5
theorem shk_loop (L : List CH) (hL : L.length ≤ 1000) (e p q : Int) (e0 : 0 ≤ e) (e1 : e ≤ a.length) : ∀ (d i : Nat) (x : Int) (acc : List ByteArray), L.length - i = d → i ≤ L.length → Okc a.length b.length (L.drop i) x → acc.length ≤ 500 * i →
    Ev (fun k => spec_l3Hunk.l0 k a b L ctx e x (i : Int) p q acc) (p, q, acc ++ bod a b (L.drop i) x ++ endc a ctx e) := by
 intro d
 induction d with
 | zero =>
  intro i x acc hd hi hk hacc;refine Ev.step (fun k => by rw [spec_l3Hunk.l0]) (Ev_neg (by omega) (Ev_const (smin_tells _ _) ?_));rw [wid (by omega) (by omega), Int.min_comm];have hz := sg_le a e.toNat (min (e + ctx) (a.length : Int)).toNat;have hz' := hz;unfold sg at hz';refine Ev_pos e0 (Ev_pos (by omega) (Ev_pos (by omega) (Ev_call (sput3 32 (sg_bd za e.toNat (min (e + ctx) (a.length : Int)).toNat) (by omega)) (Ev_val ?_))));have e9 : L.drop i = [] := List.drop_eq_nil_of_le (by omega);rw [e9, bod, List.append_nil];rfl
 | succ d ih =>
  intro i x acc hd hi hk hacc;(have hlt : i < L.length := by omega);rw [drop_at hlt] at hk ⊢;obtain ⟨k1, k2, k3, k4, k5, k6, k7, k8⟩ := hk;have z1 := sg_le a x.toNat L[i].f0.toNat;have z1' := z1;unfold sg at z1';have z2 := sg_le a L[i].f0.toNat (L[i].f0 + L[i].f1).toNat;have z2' := z2;unfold sg at z2';have z3 := sg_le b L[i].f2.toNat (L[i].f2 + L[i].f3).toNat;have z3' := z3;unfold sg at z3';have nx := ih (i + 1) (L[i].f0 + L[i].f1) (acc ++ mkd 32 (sg a x.toNat L[i].f0.toNat) ++ mkd 45 (sg a L[i].f0.toNat (L[i].f0 + L[i].f1).toNat) ++ mkd 43 (sg b L[i].f2.toNat (L[i].f2 + L[i].f3).toNat)) (by omega) (by omega) k8 (by simp only [List.length_append, mkd_len];omega);have okl := okc_len k8;refine Ev.step (fun k => by rw [spec_l3Hunk.l0]) (Ev_pos (by omega) (Ev_pos (by omega) ?_));rw [rdc_nat hlt, wsucc hlt (by omega), wid (x := L[i].f0 + L[i].f1) (by omega) (by omega), wid (x := L[i].f2 + L[i].f3) (by omega) (by omega)];refine Ev_pos k1 (Ev_pos k2 (Ev_pos (by omega) (Ev_call (sput3 32 (sg_bd za x.toNat L[i].f0.toNat) (by omega)) ?_)));refine Ev_pos (by omega) (Ev_pos (by omega) (Ev_pos (by omega) (Ev_call (sput3 45 (sg_bd za L[i].f0.toNat (L[i].f0 + L[i].f1).toNat) (by simp only [List.length_append, mkd_len];omega)) ?_)));refine Ev_pos (by omega) (Ev_pos (by omega) (Ev_pos (by omega) (Ev_call (sput3 43 (sg_bd zb L[i].f2.toNat (L[i].f2 + L[i].f3).toNat) (by simp only [List.length_append, mkd_len];omega)) ?_)));refine Ev_eq nx ?_;simp only [bod, pie, List.append_assoc]
theorem shk_tells (c : CH) (L : List CH) (hL : (c :: L).length ≤ 1000) (hok : Okc a.length b.length (c :: L) (c.f0 - ahd ctx c)) (h2 : -1000 ≤ c.f2 ∧ c.f2 ≤ 1000) : Ev (fun k => spec_l3Hunk.f k a b (c :: L) ctx) (c.f0 - ahd ctx c, c.f2 - ahd ctx c, bod a b (c :: L) (c.f0 - ahd ctx c) ++ endc a ctx (lst (c :: L) 0)) := by
 obtain ⟨n, hn⟩ : ∃ n, (c :: L).length = n + 1 := ⟨L.length, rfl⟩;(have hlt : n < (c :: L).length := by omega);(have ew : wrap64 (((c :: L).length : Int) - 1) = (n : Int) := by rw [wid (by omega) (by omega)];omega);(have el : (c :: L)[n].f0 + (c :: L)[n].f1 = lst (c :: L) 0 := by (have e : c :: L = ((c :: L).take n) ++ [(c :: L)[n]] := by (conv => lhs;rw [← List.take_length (l := c :: L), hn]);exact List.take_succ_eq_append_getElem hlt);conv => rhs;rw [e, lst_app])
 have hend : 0 ≤ lst (c :: L) 0 ∧ lst (c :: L) 0 ≤ (a.length : Int) := by
  have : ∀ (l : List CH) (x : Int), Okc a.length b.length l x → 0 ≤ lst l x ∧ lst l x ≤ (a.length : Int) := by
   intro l
   induction l with
   | nil => intro x h;exact h
   | cons d l ih => intro x h;exact ih _ h.2.2.2.2.2.2.2
  exact this (c :: L) (c.f0 - ahd ctx c) hok
 have h0 : rd_T53 (c :: L) 0 = c := rdc_nat (l := c :: L) (i := 0) (by simp);obtain ⟨k1, k2, k3, k4, k5, k6, k7, k8⟩ := hok;have e1 : min ctx c.f0 = ahd ctx c := rfl;(have b0 : 0 ≤ c.f0 ∧ c.f0 ≤ a.length := by have := okc_len k8;omega);(have b1 : 0 ≤ ahd ctx c ∧ ahd ctx c ≤ 5 := by unfold ahd;omega);unfold spec_l3Hunk.f;refine Ev_pos (by omega) ?_;rw [ew];refine Ev_pos (by omega) (Ev_pos (by omega) (Ev_const (smin_tells _ _) ?_));rw [rdc_nat hlt, h0, e1, el, wid (x := c.f0 - ahd ctx c) (by omega) (by omega), wid (x := c.f2 - ahd ctx c) (by omega) (by omega)];rw [wid (by omega) (by omega)];have := shk_loop ha hb za zb c0 c5 (c :: L) hL (lst (c :: L) 0) (c.f0 - ahd ctx c) (c.f2 - ahd ctx c) hend.1 hend.2 _ 0 (c.f0 - ahd ctx c) [] rfl (by omega) ⟨k1, k2, k3, k4, k5, k6, k7, k8⟩ (by simp);rw [List.drop_zero, List.nil_append] at this;exact this
def bld (a b : List ByteArray) (ctx : Int) : List CH → HK
  | [] => ⟨0, 0, []⟩
  | c :: L => ⟨c.f0 - ahd ctx c, c.f2 - ahd ctx c, bod a b (c :: L) (c.f0 - ahd ctx c)⟩
omit ha hb za zb c0 c5 in
theorem bld_app (c d : CH) (L : List CH) : bld a b ctx (c :: L ++ [d]) = ⟨(bld a b ctx (c :: L)).f0, (bld a b ctx (c :: L)).f1, (bld a b ctx (c :: L)).f2 ++ (mkd 32 (sg a (lst (c :: L) 0).toNat d.f0.toNat) ++ pie a b d)⟩ := by
 show (⟨_, _, bod a b ((c :: L) ++ [d]) _⟩ : HK) = _;rw [bod_app];rfl
theorem shs_loop (l : List CH) (hl : l.length ≤ 500) (h2 : ∀ c ∈ l, -1000 ≤ c.f2 ∧ c.f2 ≤ 1000) : ∀ (d k : Nat) (m : Nat) (O : List HK) (c : CH) (L : List CH), l.length - k = d → 1 ≤ k → k ≤ l.length → m < k → (l.take k).drop m = c :: L → Okc a.length b.length (c :: L) (c.f0 - ahd ctx c) → Okc a.length b.length (l.drop k) (lst (c :: L) 0) → O.length ≤ k →
    Ev (fun n => spec_l3Hunks.l0 n a b ctx l O (m : Int) (k : Int)) (O ++ gos a b ctx (l.drop k) (lst (c :: L) 0) (bld a b ctx (c :: L))) := by
 intro d
 induction d with
 | zero =>
  intro k m O c L hd hk1 hk hm hs hok hokr hO;have hc : c ∈ l := List.mem_of_mem_take (List.mem_of_mem_drop (by rw [hs];simp));(have hLl : (c :: L).length ≤ 1000 := by rw [← hs, List.length_drop, List.length_take];omega);refine Ev.step (fun n => by rw [spec_l3Hunks.l0]) (Ev_pos (by omega) (Ev_neg (by omega) (Ev_pos (by omega) (Ev_pos (by omega) ?_))));rw [Int.toNat_natCast, Int.toNat_natCast, hs];refine Ev_call (shk_tells ha hb za zb c0 c5 c L hLl hok (h2 c hc)) (Ev_pos (by omega) ?_);rw [wsucc' (by omega)];refine Ev.step (fun n => by rw [spec_l3Hunks.l0]) (Ev_neg (by omega) (Ev_val ?_));rw [List.drop_eq_nil_of_le (by omega), gos];rfl
 | succ d ih =>
  intro k m O c L hd hk1 hk hm hs hok hokr hO;(have hlt : k < l.length := by omega);have hc : c ∈ l := List.mem_of_mem_take (List.mem_of_mem_drop (by rw [hs];simp));(have hLl : (c :: L).length ≤ 1000 := by rw [← hs, List.length_drop, List.length_take];omega);obtain ⟨j, rfl⟩ : ∃ j, k = j + 1 := ⟨k - 1, by omega⟩;(have hjl : j < l.length := by omega);(have hseg : (l.take (j + 1 + 1)).drop m = (c :: L) ++ [l[j + 1]] := by rw [List.take_succ_eq_append_getElem hlt, List.drop_append_of_le_length (by rw [List.length_take];omega), hs]);(have hlast : lst (c :: L) 0 = l[j].f0 + l[j].f1 := by (have e : (l.take (j + 1)).drop m = (l.take j).drop m ++ [l[j]] := by rw [List.take_succ_eq_append_getElem hjl, List.drop_append_of_le_length (by rw [List.length_take];omega)]);rw [← hs, e, lst_app]);rw [drop_at hlt] at hokr ⊢;have hok2 := okc_app l[j + 1] _ (c :: L) (c.f0 - ahd ctx c) hok hokr;obtain ⟨r1, r2, r3, r4, r5, r6, r7, r8⟩ := hokr;have bnd := okc_len r8;have hj : 0 ≤ lst (c :: L) 0 := r1;(have ew : wrap64 (((j + 1 : Nat) : Int) - 1) = (j : Int) := by rw [wid (by omega) (by omega)];omega)
  have hjf : Ev (fun n => spec_l3Hunks.l0 n a b ctx l O (m : Int) ((j + 1 : Nat) : Int)) (O ++ gos a b ctx (l[j + 1] :: l.drop (j + 1 + 1)) (lst (c :: L) 0) (bld a b ctx (c :: L))) := by
   refine Ev.step (fun n => by rw [spec_l3Hunks.l0]) (Ev_pos (by omega) (Ev_pos (by omega) (Ev_pos (by omega) ?_)));rw [ew, rdc_nat hlt, rdc_nat hjl, wsucc' (by omega)];have ei : l[j].f0 + l[j].f1 ≤ l[j + 1].f0 ∧ l[j + 1].f0 ≤ a.length := ⟨by omega, by omega⟩
   have hb1 : -1000000 ≤ l[j].f0 ∧ l[j].f0 ≤ 1000000 ∧ -1000000 ≤ l[j].f1 ∧ l[j].f1 ≤ 1000000 := by
    have : ∀ (x : List CH) (y : Int), Okc a.length b.length x y → ∀ z ∈ x, 0 ≤ z.f0 ∧ z.f0 ≤ a.length ∧ 0 ≤ z.f1 ∧ z.f1 ≤ a.length := by
     intro x
     induction x with
     | nil => intro y _ z hz;exact absurd hz (by simp)
     | cons u x ihx =>
      intro y hy z hz;obtain ⟨y1, y2, y3, y4, y5, y6, y7, y8⟩ := hy;(rcases List.mem_cons.1 hz with rfl | hz);(·omega);exact ihx _ y8 z hz
    (have hmem : l[j] ∈ c :: L := by rw [← hs];refine List.mem_iff_getElem.2 ⟨j - m, by rw [List.length_drop, List.length_take];omega, ?_⟩;rw [List.getElem_drop, List.getElem_take];congr 1;omega);have := this _ _ hok _ hmem;omega
   rw [wid (x := l[j + 1].f0 - l[j].f0) (by omega) (by omega), wid (x := l[j + 1].f0 - l[j].f0 - l[j].f1) (by omega) (by omega), wid (x := 2 * ctx) (by omega) (by omega)];refine Ev_pos (by omega) (Ev_pos (by omega) ?_);rw [gos];refine Ev_if (fun hcl => ?_) (fun hcl => ?_);(·rw [if_neg (by omega)];have := ih (j + 1 + 1) m O c (L ++ [l[j + 1]]) (by omega) (by omega) (by omega) (by omega) (by rw [hseg];rfl) hok2.1 (by rw [← List.cons_append, lst_app];exact r8) (by omega);rw [← List.cons_append, lst_app, bld_app] at this;exact this);rw [if_pos (by omega)];refine Ev_pos (by omega) (Ev_pos (by omega) ?_);rw [Int.toNat_natCast, Int.toNat_natCast, hs];refine Ev_call (shk_tells ha hb za zb c0 c5 c L hLl hok (h2 c hc)) (Ev_pos (by omega) ?_);(have hone : (l.take (j + 1 + 1)).drop (j + 1) = [l[j + 1]] := by rw [List.take_succ_eq_append_getElem hlt, List.drop_append_of_le_length (by rw [List.length_take];omega), List.drop_eq_nil_of_le (by rw [List.length_take];omega)];rfl);(have hah : 0 ≤ ahd ctx l[j + 1] ∧ ahd ctx l[j + 1] ≤ l[j + 1].f0 := by unfold ahd;omega);have := ih (j + 1 + 1) (j + 1) (O ++ [(⟨c.f0 - ahd ctx c, c.f2 - ahd ctx c, bod a b (c :: L) (c.f0 - ahd ctx c) ++ endc a ctx (lst (c :: L) 0)⟩ : HK)]) l[j + 1] [] (by omega) (by omega) (by omega) (by omega) hone ⟨by omega, by omega, r3, r4, r5, r6, r7, bnd⟩ r8 (by rw [List.length_append, List.length_singleton];omega);refine Ev_eq this ?_;rw [List.append_assoc];(have eb : bld a b ctx [l[j + 1]] = opn a b ctx l[j + 1] := by show (⟨_, _, _ ++ _ ++ []⟩ : HK) = ⟨_, _, _⟩;rw [List.append_nil]);rw [eb];rfl
  exact hjf
end
theorem okc_f2 {la lb : Int} (hb : 0 ≤ lb ∧ lb ≤ 1000) : ∀ (x : List CH) (y : Int), Okc la lb x y → ∀ z ∈ x, -1000 ≤ z.f2 ∧ z.f2 ≤ 1000 := by
 intro x
 induction x with
 | nil => intro y _ z hz;exact absurd hz (by simp)
 | cons u x ihx =>
  intro y hy z hz;obtain ⟨y1, y2, y3, y4, y5, y6, y7, y8⟩ := hy;(rcases List.mem_cons.1 hz with rfl | hz);(·omega);exact ihx _ y8 z hz
theorem shun_tells {a b : List ByteArray} (ha : a.length ≤ 100) (hb : b.length ≤ 100) (za : Bd a) (zb : Bd b) {ctx : Int} (c0 : 0 ≤ ctx) (c5 : ctx ≤ 5) : Ev (fun k => spec_l3Hunks.f k a b ctx) (HUN a b ctx (CHS a b)) := by
 have l2 := CHS_few a b;(have hl : (CHS a b).length ≤ 500 := by omega);have hok := okc_of (CHS a b) 0 0 true (by omega) (by omega) (CHS_right a b);have h2 := okc_f2 (lb := b.length) (by omega) (CHS a b) 0 hok;unfold spec_l3Hunks.f;refine Ev_call (sch_tells a b (by omega) (by omega)) ?_
 cases hL : CHS a b with
 | nil =>
  refine Ev.step (fun n => by rw [spec_l3Hunks.l0]) (Ev_neg (by simp) (Ev_val ?_));rfl
 | cons c l =>
  rw [hL] at hl hok h2;obtain ⟨k1, k2, k3, k4, k5, k6, k7, k8⟩ := hok;(have hah : 0 ≤ ahd ctx c ∧ ahd ctx c ≤ c.f0 := by unfold ahd;omega);have bn := okc_len k8;have := shs_loop ha hb za zb c0 c5 (c :: l) hl h2 _ 1 0 [] c [] rfl (by omega) (by simp) (by omega) rfl ⟨by omega, by omega, k3, k4, k5, k6, k7, bn⟩ k8 (by simp);refine Ev_eq this ?_;(have eb : bld a b ctx [c] = opn a b ctx c := by show (⟨_, _, _ ++ _ ++ []⟩ : HK) = ⟨_, _, _⟩;rw [List.append_nil]);rw [eb];rfl
end Go.Proofs.Ytelngmkfjpcbgaa.P
end
section
set_option linter.unusedVariables false
set_option linter.unusedSimpArgs false
namespace Go.Proofs.Ytelngmkfjpcbgaa.P
open Go.RowKit Go.Proofs.YtelngmkfjpcbgaaW.PrintWords Go.Proofs.YtelngmkfjpcbgaaW.PrintLast
theorem pick_tells {c : List Int} (hc : Code c) {p : Int} (h0 : 0 ≤ p) (h1 : p ≤ 1000000) {l : List Int} (hl : 1 ≤ l.length) (h2 : l.length ≤ 1000) : ∃ v, spec_l1Pick.f c p l = some (v, p + 1) := by
 obtain ⟨v, e, v0, v1⟩ := next_tells hc (p := p) (n := (l.length : Int)) h0 h1 (by omega);have v2 := v1 (by omega);refine ⟨rd l v, ?_⟩;unfold spec_l1Pick.f;rw [e];show (if 0 ≤ v then (if v < (l.length : Int) then some (rd l v, p + 1) else none) else none) = _;rw [if_pos v0, if_pos v2]
theorem lines_few {c : List Int} (hc : Code c) {p n : Int} (h0 : 0 ≤ p) (h1 : p ≤ 900000) (n0 : 0 ≤ n) (n1 : n ≤ 100) :
    ∃ r q, Ev (fun k => spec_l1Lines.f k c p n) (r, q) ∧ Lin 1 8 r ∧ (r.length : Int) ≤ n ∧ p ≤ q ∧ q ≤ p + 102 := by
 obtain ⟨m, rfl⟩ := Int.eq_ofNat_of_zero_le n0;obtain ⟨r, q, hr, g1, g2, g3, g4⟩ := lines_loop hc m p [] (by omega) h0 (by omega) (by simp only [List.length_nil];omega) (fun x hx => absurd hx (by simp));simp only [List.length_nil] at g2;exact ⟨r, q, hr, g1, by omega, g3, by omega⟩
theorem Lin.bd {lo hi : Nat} {l : List ByteArray} (h : Lin lo hi l) (hh : hi ≤ 1000) : Bd l := fun x hx => by have := (h x hx).2;omega
def Lt (x : List HK) (n m : Nat) : Prop := x.length ≤ n ∧ hw x ≤ m
theorem Lt.small {x : List HK} {n m : Nat} (h : Lt x n m) (hn : n ≤ 1048576) (hm : m ≤ 1048576) : SmallH x := small_of_hw (by have := h.1;omega) (by have := h.2;omega)
theorem lw_set0 (l : List ByteArray) (s : ByteArray) : lw (l.set 0 s) ≤ lw l + s.size := by
 cases l with
 | nil => simp [lw, total]
 | cons x l => simp only [List.set_cons_zero, lw, total, List.length_cons];omega
theorem lw_drop1 (l : List ByteArray) : lw (l.drop 1) ≤ lw l := by
 cases l with
 | nil => simp
 | cons x l => simp only [List.drop_succ_cons, List.drop_zero, lw, total, List.length_cons];omega
theorem hw_zero (n : Nat) : hw (List.replicate n z56) = 0 := by
 induction n with
 | zero => rfl
 | succ n ih =>
  rw [List.replicate_succ, hw, ih];rfl
theorem drawh {c : List Int} (hc : Code c) : ∃ a x q, Ev (fun k => spec_l3Draw.f k c 0) (a, x, q) ∧ Small a ∧ SmallH x := by
 obtain ⟨v, e, v0, v1⟩ := next_tells hc (p := 0) (n := 9) (by omega) (by omega) (by omega);have v2 := v1 (by omega);obtain ⟨a, p1, ha, a1, a2, a3, a4⟩ := lines_few hc (p := 0 + 1) (n := v) (by omega) (by omega) v0 (by omega);obtain ⟨b, p2, hb, b1, b2, b3, b4⟩ := near_tells hc (p := p1) (by omega) (by omega) (l := a) (by omega) a1;obtain ⟨u, e2, u0, u1⟩ := next_tells hc (p := p2) (n := 3) (by omega) (by omega) (by omega);have u2 := u1 (by omega);obtain ⟨n, rfl⟩ : ∃ n : Nat, u = (n : Int) := ⟨u.toNat, by omega⟩;have at1 := a1.total;have bt1 := b1.total;have hh := shun_tells (a := a) (b := b) (by omega) (by omega) (a1.bd (by omega)) (b1.bd (by omega)) (ctx := (n : Int)) (by omega) (by omega);obtain ⟨s1, s2, s3, s4⟩ := HUN_weigh (a := a) (b := b) (by omega) (by omega) (by omega) (by omega) n;generalize HUN a b (n : Int) (CHS a b) = H at hh s1 s2 s3 s4;have sa : Small a := a1.small (by omega) (by omega);obtain ⟨w, e3, w0, w1⟩ := next_tells hc (p := p2 + 1) (n := (H.length : Int)) (by omega) (by omega) (by omega);obtain ⟨z, e4, z0, z1⟩ := next_tells hc (p := p2 + 1 + 1) (n := 16) (by omega) (by omega) (by omega);by_cases hl : (H.length : Int) = 0;(·refine ⟨a, H, p2 + 1, ?_, sa, s1⟩;unfold spec_l3Draw.f;exact Ev_const e (Ev_call ha (Ev_call hb (Ev_const e2 (Ev_call hh (Ev_pos hl (Ev.now _)))))));have w2 := w1 (by omega);obtain ⟨i, rfl⟩ : ∃ i : Nat, w = (i : Int) := ⟨w.toNat, by omega⟩;(have hi : i < H.length := by omega);have hHi := s4 H[i] (List.getElem_mem hi);have hwi := hw_at H i hi;(have start : ∀ {r : List ByteArray × List HK × Int}, Ev (fun k => if z = 0 then (if 0 ≤ (i : Int) then (if (i : Int) < (H.length : Int) then ((spec_l1Pick.f c (p2 + 1 + 1 + 1) (([(-1), wrap64 (((rd_T56 H (i : Int)).f0) + 1), 100, 101] : List Int))).bind fun bt358 => (some (a, (H.set ((i : Int) : Int).toNat (⟨bt358.1, (rd_T56 H (i : Int)).f1, (rd_T56 H (i : Int)).f2⟩ : HK)), bt358.2))) else (none)) else (none)) else (if z = 1 then (if 0 ≤ (i : Int) then (if (i : Int) < (H.length : Int) then ((spec_l1Pick.f c (p2 + 1 + 1 + 1) (([(-1), wrap64 (((rd_T56 H (i : Int)).f1) + 1), 101] : List Int))).bind fun bt365 => (some (a, (H.set ((i : Int) : Int).toNat (⟨(rd_T56 H (i : Int)).f0, bt365.1, (rd_T56 H (i : Int)).f2⟩ : HK)), bt365.2))) else (none)) else (none)) else (if z = 2 then (if 0 ≤ (i : Int) then (if (i : Int) < (H.length : Int) then ((some (([(⟨#[]⟩ : ByteArray), (⟨#[120]⟩ : ByteArray), (⟨#[32]⟩ : ByteArray), (⟨#[42, 113, 10]⟩ : ByteArray), (⟨#[45, 97, 10, 98, 10]⟩ : ByteArray), (⟨#[32, 122, 122, 10]⟩ : ByteArray), (⟨#[43, 110, 10]⟩ : ByteArray)] : List ByteArray) : List ByteArray)).bind fun y369 => ((spec_l1Next.f c (p2 + 1 + 1 + 1) 7).bind fun bt372 => (if 0 ≤ bt372.1 then (if bt372.1 < (y369.length : Int) then ((spec_putLine.f H (i : Int) (rdOf ByteArray.empty y369 bt372.1)).bind fun t375 => (some (a, t375, bt372.2))) else (none)) else (none)))) else (none)) else (none)) else (if z = 3 then (if 0 ≤ (i : Int) then (if (i : Int) < (H.length : Int) then (if 1 ≤ (((rd_T56 H (i : Int)).f2).length : Int) then (some (a, (H.set ((i : Int) : Int).toNat (⟨(rd_T56 H (i : Int)).f0, (rd_T56 H (i : Int)).f1, ((rd_T56 H (i : Int)).f2).drop 1⟩ : HK)), p2 + 1 + 1 + 1)) else (none)) else (none)) else (none)) else (if z = 4 then (if 0 ≤ (i : Int) then (if (i : Int) < (H.length : Int) then (if H.length < 3518437208883 then (some (a, (H ++ [rd_T56 H (i : Int)]), p2 + 1 + 1 + 1)) else (none)) else (none)) else (none)) else (if z = 5 then ((spec_l1Near.f k c (p2 + 1 + 1 + 1) a).bind fun bt386 => (some (bt386.1, H, bt386.2))) else (if z = 6 then ((spec_l1Chance.f c (p2 + 1 + 1 + 1) 4).bind fun bt390 => (if bt390.1 = true then (if 101 ≤ 7036874417766 then (some (a, (List.replicate 101 z56), bt390.2)) else (none)) else (some (a, H, bt390.2)))) else (some (a, H, p2 + 1 + 1 + 1))))))))) r → Ev (fun k => spec_l3Draw.f k c 0) r := by intro r h;unfold spec_l3Draw.f;exact Ev_const e (Ev_call ha (Ev_call hb (Ev_const e2 (Ev_call hh (Ev_neg hl (Ev_const e3 (Ev_const e4 h))))))));(have one : ∀ y : HK, lw y.f2 ≤ hw H + 10 → SmallH (H.set i y) := fun y hy => by have := hw_set H i y hi;exact small_of_hw (by rw [List.length_set];omega) (by omega));have er : rd_T56 H (i : Int) = H[i] := rdh_nat hi;by_cases c0 : z = 0;(·obtain ⟨v', hv⟩ := pick_tells hc (p := p2 + 1 + 1 + 1) (by omega) (by omega) (l := [(-1), wrap64 (((rd_T56 H (i : Int)).f0) + 1), 100, 101]) (by simp) (by simp);refine ⟨_, _, _, start (Ev_pos c0 (Ev_pos (by omega) (Ev_pos (by omega) (Ev_const hv (Ev.now _))))), sa, ?_⟩;rw [er];exact one _ (by show lw H[i].f2 ≤ _;omega));by_cases c1 : z = 1;(·obtain ⟨v', hv⟩ := pick_tells hc (p := p2 + 1 + 1 + 1) (by omega) (by omega) (l := [(-1), wrap64 (((rd_T56 H (i : Int)).f1) + 1), 101]) (by simp) (by simp);refine ⟨_, _, _, start (Ev_neg c0 (Ev_pos c1 (Ev_pos (by omega) (Ev_pos (by omega) (Ev_const hv (Ev.now _)))))), sa, ?_⟩;rw [er];exact one _ (by show lw H[i].f2 ≤ _;omega));by_cases c2 : z = 2;(·obtain ⟨y, e5, y0, y1⟩ := next_tells hc (p := p2 + 1 + 1 + 1) (n := 7) (by omega) (by omega) (by omega);have y2 := y1 (by omega);generalize hY : ([(⟨#[]⟩ : ByteArray), (⟨#[120]⟩ : ByteArray), (⟨#[32]⟩ : ByteArray), (⟨#[42, 113, 10]⟩ : ByteArray), (⟨#[45, 97, 10, 98, 10]⟩ : ByteArray), (⟨#[32, 122, 122, 10]⟩ : ByteArray), (⟨#[43, 110, 10]⟩ : ByteArray)] : List ByteArray) = Y at start;(have hYl : Y.length = 7 := by rw [← hY];rfl);(have hYs : ∀ s ∈ Y, s.size ≤ 6 := by rw [← hY];intro s hs;simp only [List.mem_cons, List.not_mem_nil, or_false] at hs;rcases hs with rfl | rfl | rfl | rfl | rfl | rfl | rfl <;> decide);obtain ⟨m, rfl⟩ : ∃ m : Nat, y = (m : Int) := ⟨y.toNat, by omega⟩;(have hm : m < Y.length := by omega);have hs := hYs Y[m] (List.getElem_mem hm);(have hp : spec_putLine.f H (i : Int) (rdOf ByteArray.empty Y (m : Int)) = some (H.set i (⟨H[i].f0, H[i].f1, H[i].f2.set 0 Y[m]⟩ : HK)) := by unfold spec_putLine.f;rw [er, if_pos hHi, rd_nat _ hm, Int.toNat_natCast]);refine ⟨_, _, _, start (Ev_neg c0 (Ev_neg c1 (Ev_pos c2 (Ev_pos (by omega) (Ev_pos (by omega) (Ev_const rfl (Ev_const e5 (Ev_pos (by omega) (Ev_pos (by omega) (Ev_const hp (Ev.now _))))))))))), sa, ?_⟩;exact one _ (by have := lw_set0 H[i].f2 Y[m];show lw (H[i].f2.set 0 Y[m]) ≤ _;omega));by_cases c3 : z = 3;(·refine ⟨_, _, _, start (Ev_neg c0 (Ev_neg c1 (Ev_neg c2 (Ev_pos c3 (Ev_pos (by omega) (Ev_pos (by omega) (Ev_pos (by rw [er];omega) (Ev.now _)))))))), sa, ?_⟩;rw [er];exact one _ (by have := lw_drop1 H[i].f2;show lw (H[i].f2.drop 1) ≤ _;omega));by_cases c4 : z = 4;(·refine ⟨_, _, _, start (Ev_neg c0 (Ev_neg c1 (Ev_neg c2 (Ev_neg c3 (Ev_pos c4 (Ev_pos (by omega) (Ev_pos (by omega) (Ev_pos (by omega) (Ev.now _))))))))), sa, ?_⟩;rw [er];exact small_of_hw (by rw [List.length_append, List.length_singleton];omega) (by rw [hw_app];simp only [hw];omega));by_cases c5 : z = 5;(·obtain ⟨r, q, hr, g1, g2, g3, g4⟩ := near_tells hc (p := p2 + 1 + 1 + 1) (by omega) (by omega) (l := a) (by omega) a1;exact ⟨_, _, _, start (Ev_neg c0 (Ev_neg c1 (Ev_neg c2 (Ev_neg c3 (Ev_neg c4 (Ev_pos c5 (Ev_call hr (Ev.now _)))))))), g1.small (by omega) (by omega), s1⟩);by_cases c6 : z = 6;rotate_left;(·exact ⟨_, _, _, start (Ev_neg c0 (Ev_neg c1 (Ev_neg c2 (Ev_neg c3 (Ev_neg c4 (Ev_neg c5 (Ev_neg c6 (Ev.now _)))))))), sa, s1⟩);obtain ⟨t, e5⟩ := chance_tells hc (p := p2 + 1 + 1 + 1) (n := 4) (by omega) (by omega) (by omega)
 cases t with
 | false => exact ⟨_, _, _, start (Ev_neg c0 (Ev_neg c1 (Ev_neg c2 (Ev_neg c3 (Ev_neg c4 (Ev_neg c5 (Ev_pos c6 (Ev_const e5 (Ev_neg (by simp) (Ev.now _)))))))))), sa, s1⟩
 | true =>
  refine ⟨_, _, _, start (Ev_neg c0 (Ev_neg c1 (Ev_neg c2 (Ev_neg c3 (Ev_neg c4 (Ev_neg c5 (Ev_pos c6 (Ev_const e5 (Ev_pos rfl (Ev_pos (by omega) (Ev.now _))))))))))), sa, ?_⟩;exact small_of_hw (by rw [List.length_replicate];omega) (by rw [hw_zero];omega)
end Go.Proofs.Ytelngmkfjpcbgaa.P
end
section
set_option linter.unusedVariables false
set_option linter.unusedSimpArgs false
namespace Go.Proofs.Ytelngmkfjpcbgaa.P.VFnRejects
open Go.RowKit Go.Proofs.YtelngmkfjpcbgaaW.PrintWords Go.Proofs.YtelngmkfjpcbgaaW.PrintLast
theorem same (a : List ByteArray) (hl : a.length ≤ 1048576) : Ev (fun k => impl_SameLines.f k a a) true := by
 unfold impl_SameLines.f;exact Ev_call (isame_tells a a (by omega)) (Ev_val (by simp))
theorem RLh_code (y : List ByteArray) (h : (RLh y).1 ≠ 0) : (RLh y).2 = [] := by
 unfold RLh at h ⊢;split at h;(·exact absurd rfl h);rename_i e;rw [if_neg e]
theorem apH_code (a : List ByteArray) : ∀ (x : List HK) (o : List ByteArray) (n : Nat), (apH a x o n).1 ≠ 0 → (apH a x o n).2 = [] := by
 intro x
 induction x with
 | nil => intro o n h;exact RLh_code _ h
 | cons c x ih =>
  intro o n h;rw [apH] at h ⊢;split at h;(·rename_i e;rw [if_pos e]);rename_i e;rw [if_neg e];split at h;(·rfl);exact ih _ _ h
theorem APH_code (a : List ByteArray) (x : List HK) (h : (APH a x).1 ≠ 0) : (APH a x).2 = [] := by
 unfold APH at h ⊢;split at h;rotate_left;(·rename_i e;rw [if_neg e]);rename_i e;rw [if_pos e];split at h;rotate_left;(·rename_i e2;rw [if_neg e2]);rename_i e2;rw [if_pos e2];exact apH_code _ _ _ _ h
theorem small_LF {x : List ByteArray} (h : LF x = 0) : Small x := by
 obtain ⟨h1, h2, _⟩ := LF_zero h;exact ⟨fun s hs => by have := size_le_total x s hs;omega, by omega, by omega⟩
theorem proof : UFnRejects.Pure := by
 intro l0 g0;apply Ev.rounds;unfold laws_FnRejects.f;(have hc : Code l0 := fun x hx => by have := g0.2 x hx;simp [Lit.wf, IntKind.min, IntKind.max, IntKind.signed, IntKind.bits] at this;omega);refine Ev_const (by unfold laws_lwBig.f;rfl) ?_;by_cases hb : (l0.length : Int) > 1048576;(·exact Ev_pos (by simpa using hb) (Ev.now _));refine Ev_neg (by simpa using hb) ?_;obtain ⟨a, x, q, h, sa, sx⟩ := drawh hc;(have hd : Ev (fun k => spec_DrawApplyHunks.f k l0) (a, x) := by unfold spec_DrawApplyHunks.f;exact Ev_const (a := (l0, 0)) (by unfold spec_l1Source.f;rfl) (Ev_call h (Ev.now _)));refine Ev_call hd (Ev_call (iap_tells sa sx) ?_);by_cases e : (APH a x).1 = 0;rotate_left;(·refine Ev_neg e (Ev_call (sap_tells sa sx) ?_);rw [APH_code a x e];exact Ev_pos rfl (Ev_val (by simp)));obtain ⟨r, hr⟩ : ∃ r, APH a x = (0, r) := ⟨(APH a x).2, Prod.ext e rfl⟩;obtain ⟨u1, u2, u3, hu⟩ := APH_undone hr;have rv := irev_tells sx;(have erv : RVH x = (0, 0, x.map rvh) := by unfold RVH;rw [if_pos u2]);rw [erv] at rv;have sm2 := rvh_small sx u2;have sr := small_LF u3;have a2 := iap_tells sr sm2;rw [hu] at a2;have hf := sr.ilf;rw [u3] at hf;rw [hr];refine Ev_pos rfl (Ev_call rv (Ev_call a2 (Ev_call hf (Ev_pos rfl (Ev_pos rfl ?_)))));exact Ev_call (same a sa.2.1) (Ev.now _)
end Go.Proofs.Ytelngmkfjpcbgaa.P.VFnRejects
end
section
set_option linter.unusedVariables false
set_option linter.unusedSimpArgs false
namespace Go.Proofs.Ytelngmkfjpcbgaa.O
open Go.RowKit Go.ChangeShapes Go.WideShapes Go.Proofs.YtelngmkfjpcbgaaW.PrintWords
def Opens {α : Type} (P : Program) (t : TypeId) (d : Kd α) (G : α → Prop) : Prop :=
  P.cellsOf t = d.sz ∧ ∀ {H : Type} {enc : TypeId × Value → H} {w : World} {base : Nat} {spare : Nat → Bool} {held : Bool} {fuel : Nat} {cs : List Value} {x : DataW H × List MemPlace},
    DataW.trod enc P w base spare held fuel t cs = some x → ∃ a, d.K w a cs ∧ G a
theorem list_of {α : Type} {Q : Nat → α → Prop} : ∀ n : Nat, (∀ j, j < n → ∃ p, Q j p) → ∃ xs : List α, xs.length = n ∧ ∀ j p, xs[j]? = some p → Q j p
  | 0, _ => ⟨[], rfl, fun j p h => by simp at h⟩
  | n + 1, h => by
    obtain ⟨xs, hl, hx⟩ := list_of n (fun j hj => h j (Nat.lt_succ_of_lt hj))
    obtain ⟨p, hp⟩ := h n (Nat.lt_succ_self n)
    refine ⟨xs ++ [p], by simp [hl], fun j q hq => ?_⟩
    rcases Nat.lt_or_ge j xs.length with hj | hj
    · rw [List.getElem?_append_left hj] at hq
      exact hx j q hq
    · have hj' : j = xs.length := by
        have := (List.getElem?_eq_some_iff.1 hq).1
        rw [List.length_append, List.length_singleton] at this
        omega
      subst hj'
      have e : p = q := by simpa using hq
      subst e
      rw [hl]
      exact hp
theorem cells_get {w : World} {base : Nat} {a : Addr} {n : Nat} {cs : List Value} (h : w.cells? base a n = some cs) : cs.length = n ∧ ∀ i u, cs[i]? = some u → w.cell? (a.add i) = some u := by
 unfold World.cells? at h;split at h;rotate_left;(·simp at h);have hl := mapM_some_length h;rw [List.length_range] at hl;refine ⟨hl, fun i u hu => ?_⟩;(have hi : i < n := by have := (List.getElem?_eq_some_iff.1 hu).1;omega);have := mapM_some_get h i i (by simp [hi]);rw [this, hu]
theorem opens_int {P : Program} {t : TypeId} {k : IntKind} (ht : P.underlying t = some (.int k)) (hc : P.cellsOf t = 1) : Opens P t (Kd.int k) (fun x => (Lit.int k x).wf = true) :=
  ⟨hc, fun h => by
    obtain ⟨n, rfl, _, hw⟩ := DataW.trod_int ht h
    exact ⟨n, rfl, hw⟩⟩
theorem opens_slice {α : Type} {P : Program} {t e : TypeId} {d : Kd α} {G : α → Prop} (ht : P.underlying t = some (.slice e)) (hc : P.cellsOf t = 1) (he : Opens P e d G) :
    Opens P t (Kd.slice e d) (fun l => l.length ≤ 9223372036854775807 ∧ ∀ x ∈ l, G x) := by
 refine ⟨hc, fun {H enc w base spare held fuel cs x} h => ?_⟩;(rcases DataW.trod_slice ht h with ⟨rfl, _⟩ | ⟨a, len, cap, elems, rest, n, _, rfl, _, hb, hl, hm, hlen, hel, _, _⟩);(·exact ⟨[], ⟨none, 0, rfl, Nat.le_refl _, rfl, by simp, fun hp => absurd hp (by simp)⟩, by simp, by simp⟩);have hcap : cap ≤ 9223372036854775807 := hm
 obtain ⟨xs, hxl, hx⟩ := list_of (Q := fun j p => (∃ c : List Value, c.length = d.sz ∧ d.K w p c ∧ ∀ i u, c[i]? = some u → w.cell? (a.add (j * d.sz + i)) = some u) ∧ G p) len (fun j hj => by
   have h1 := hel j hj
   rw [List.getElem?_eq_getElem (by omega), Option.bind_eq_some_iff] at h1
   obtain ⟨cs', hcs, hy⟩ := h1
   obtain ⟨p, hK, hG⟩ := he.2 hy
   obtain ⟨hcl, hcell⟩ := cells_get hcs
   refine ⟨p, ⟨cs', by rw [hcl, he.1], hK, fun i u hu => ?_⟩, hG⟩
   have := hcell i u hu
   rw [he.1] at this
   rw [← Addr.add_add]
   exact this)
 (have hlen2 : xs.length ≤ cap := by omega);refine ⟨xs, ⟨some a, cap, ?_, hlen2, rfl, by omega, fun _ => ⟨a, rfl, fun j p hj => (hx j p hj).1⟩⟩, by omega, fun y hy => ?_⟩;(·rw [hxl]);obtain ⟨j, hj⟩ := List.getElem?_of_mem hy;exact (hx j y hj).2
end Go.Proofs.Ytelngmkfjpcbgaa.O
end
namespace Go.Proofs.Ytelngmkfjpcbgaa.fnRejects
open Go.ChangeShapes Go.WideShapes Go.ChangeAt Go.RowKit
open Go.ChangeMaps (open_string shut_string)
open Go.Proofs.Ytelngmkfjpcbgaa.P Go.Proofs.Ytelngmkfjpcbgaa.P.UFnRejects Go.Proofs.YtelngmkfjpcbgaaW.PrintWords
set_option linter.unusedVariables false
theorem own : ownKnob Try.prog.godebug = none := by kernel_rfl
theorem laidOut : laidOutB Try.prog = true := by kernel_rfl
set_option maxRecDepth 100000 in
theorem lifted (os : Os) (started : os.Started) (H : Type) (enc : TypeId × Value → H) :
    ReturnsInHanded {} Try.checked os 4 .any (Rows.fnRejectsSpec.pre6 enc Try.prog Try.f4 Rows.fnRejectsRow.domain false) (Rows.fnRejectsSpec.post enc Try.prog Try.f4 false true false false) := by
 refine returnsInHanded_of_change_sized (C := Try.checked) own started (by kernel_rfl) Try.func4
   (ChangeSpec.witness6 (enc := enc) (C := Try.checked) false ⟨#[], #[.slice none 0 0], []⟩ 8 (by kernel_rfl) (by kernel_rfl) (by kernel_rfl) (by kernel_rfl)) ?_
 intro W base args ds gs before hval0 hW hcnd hsz0 _;have hval : ∀ (j : Nat) t v, Try.f4.params[j]? = some t → args[j]? = some v → Value.okWide Try.prog W .any base t v := hval0;have hW' := hW;obtain ⟨p, q, hA0, hV, rfl, hfz, hnd⟩ := hW;have hA : DataW.TrodAll enc Try.prog W 0 (fun _ => true) true Try.f4.params.toList args.toList ds p := hA0;rw [Try.params4] at hA hval;obtain ⟨v0, vs0, d0, ds0, p0, q0, hargs, rfl, rfl, h0, r0⟩ := trodAll_cons hA;obtain ⟨rfl, rfl, rfl⟩ := trodAll_nil r0;(obtain rfl : args = #[v0] := by cases args;simp_all);obtain ⟨rfl, rfl⟩ := trodVars_none hV;have k0_ := h0;(have lt0 : ∀ x ∈ p0, x.block < W.heap.size := by obtain ⟨m, hm⟩ := k0_;exact DataW.trod_lt m _ _ _ hm);obtain ⟨b0, len0, cap0, rfl⟩ := okWide_slice Try.underlying33 (hval 0 33 v0 rfl rfl);obtain ⟨fuel0, hf0⟩ := h0;obtain ⟨l0, ⟨A0, c0, hcs0, hc0, hr0⟩, g0⟩ := (O.opens_slice Try.underlying33 (by kernel_rfl) (O.opens_int Try.underlying5 (by kernel_rfl))).2 hf0;simp [Value.cells] at hcs0;obtain ⟨rfl, rfl, rfl⟩ := hcs0;clear hA0 hval0 hsz0;obtain ⟨k, h⟩ := VFnRejects.proof l0 g0;(refine (laws_FnRejects.calls k _ _ l0 true W hr0 hc0 h rfl).mono fun e W' hend => ?_);obtain ⟨rfl, hbel⟩ := hend;have bel : Below W.heap.size W W' := hbel;exact ⟨_, rfl, _, _, _, [], _, [], hW', trodAll_mk1 (shut_bool Try.underlying4 _), (trodAll_cons_mk (Below.trod laidOut (by kernel_rfl) (of_decide_eq_true (by kernel_rfl)) k0_ bel lt0) trodAll_mk0), rfl, bel.frame _, fun h => by cases h⟩
theorem over : Rows.fnRejectsRow.holds Try.pinned (OpenSpec.ofChange Rows.fnRejectsSpec) :=
  OpenClaim.holds_of_wide 4 Try.f4 rfl rfl rfl rfl rfl rfl rfl ⟨rfl, rfl, rfl, rfl, rfl⟩ rfl rfl rfl rfl rfl (by kernel_rfl) Try.func4 (by kernel_rfl)
    (of_decide_eq_true (by kernel_rfl)) (by unfold Func.isWrapper;first | (rw [if_pos (by decide +kernel)];kernel_rfl) | (rw [if_neg (by decide +kernel)];exact ⟨rfl, rfl⟩))
    (fun os started H enc _ => lifted os started H enc)
theorem proved : Rows.FnRejectsSaid := over
#print axioms proved
end Go.Proofs.Ytelngmkfjpcbgaa.fnRejects
namespace Go.Proofs.Ytelngmkfjpcbgaa
theorem fnRejects_holds : Rows.FnRejectsSaid := fnRejects.proved
end Go.Proofs.Ytelngmkfjpcbgaa
