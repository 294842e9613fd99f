/- FnTrivial: the law of the program holds at every input: the Go function returns true, and its arguments read afterwards as before.
Conditions: none beyond the given statement's own (what can be read as data, of a size that memory bears). -/
import Derived.SliceStrings
import Derived.DataReads
import Derived.DataElems
import Derived.Test.YtelngmkfjpcbgaaDoorCards
import Derived.Test.YtelngmkfjpcbgaaDoorTie
import Derived.Lay
import Derived.LaidOnce
import Derived.SevenTiedAt
import Derived.Test.YtelngmkfjpcbgaaDoorRows
import Derived.WalkKit
import Derived.ProofKit
import Derived.OpenShut
import Derived.ShutString
import Derived.ChangeOld
import Derived.Below
import Derived.SizedLaws
import Derived.Carry
import Derived.Test.YtelngmkfjpcbgaaDoorCFnTrivial1
import Derived.Test.YtelngmkfjpcbgaaDoorCFnTrivial2
import Derived.Test.YtelngmkfjpcbgaaDoorCFnTrivial3
import Derived.Test.YtelngmkfjpcbgaaDoorCFnTrivial4
import Derived.Test.YtelngmkfjpcbgaaDoorCFnTrivial5
section
set_option linter.unusedVariables false
set_option linter.unusedSimpArgs false
namespace Go.Proofs.YtelngmkfjpcbgaaDoor.P
open Go.RowKit Go.Proofs.YtelngmkfjpcbgaaDoorW.PrintWords Go.Proofs.YtelngmkfjpcbgaaDoorW.PrintLast
def pg (p : List Int) (k : Nat) : Int := p.getD k (-1)
theorem pg_at {p : List Int} {k : Nat} (h : k < p.length) : pg p k = p[k] := by
 unfold pg;rw [List.getD_eq_getElem?_getD, List.getElem?_eq_getElem h];rfl
theorem rd_pg {p : List Int} {k : Nat} (h : k < p.length) : rd p (k : Int) = pg p k := by rw [rdi_nat h, pg_at h]
theorem rd_ext1 {p : List Int} {y : Int} {k : Nat} (h : k < p.length) : rd (p ++ [y]) (k : Int) = pg p k := by
 rw [rdi_nat (by simp;omega), pg_at h, List.getElem_append_left h]
theorem rd_ext2 {p : List Int} {y : Int} {n : Nat} (h : p.length = n) : rd (p ++ [y]) (n : Int) = y := by
 subst h;rw [rdi_nat (by simp)];simp
def pset : List Int → List Int → List Int → List Int
  | o, [], _ => o
  | o, _ :: _, [] => o
  | o, u :: us, v :: vs => pset (o.set u.toNat v) us vs
structure PI (p : List Int) (n m : Nat) : Prop where
  len : p.length = n
  rng : ∀ k, k < n → -1 ≤ pg p k ∧ pg p k < (m : Int)
  inc : ∀ k k', k < k' → k' < n → 0 ≤ pg p k → 0 ≤ pg p k' → pg p k < pg p k'
theorem inc_le {A B : Int} : ∀ (us vs : List Int) (i j : Int), Inc A B us vs i j → i ≤ A ∧ j ≤ B ∧ us.length = vs.length ∧ ∀ u ∈ us, i ≤ u ∧ u < A := by
 intro us
 induction us with
 | nil =>
  intro vs i j h
  cases vs with
  | nil => exact ⟨h.1, h.2, rfl, fun u hu => absurd hu (by simp)⟩
  | cons v vs => exact h.elim
 | cons u us ih =>
  intro vs i j h
  cases vs with
  | nil => exact h.elim
  | cons v vs =>
   obtain ⟨h1, h2, h3⟩ := h;obtain ⟨a, b, c, d⟩ := ih vs _ _ h3;refine ⟨by omega, by omega, by simp [c], fun x hx => ?_⟩;(rcases List.mem_cons.1 hx with rfl | hx);(·omega);have := d x hx;omega
theorem pset_PI {n m : Nat} : ∀ (us vs : List Int) (o : List Int) (i j : Int), Inc n m us vs i j → 0 ≤ i → 0 ≤ j → o.length = n → (∀ k, k < n → -1 ≤ pg o k ∧ pg o k < j ∧ (i ≤ (k : Int) → pg o k = -1)) →
    (∀ k k', k < k' → k' < n → 0 ≤ pg o k → 0 ≤ pg o k' → pg o k < pg o k') → PI (pset o us vs) n m := by
 intro us
 induction us with
 | nil =>
  intro vs o i j h hi hj hl hr hc;have := (inc_le _ _ _ _ h).2.1;rw [pset];exact ⟨hl, fun k hk => ⟨(hr k hk).1, by have := (hr k hk).2.1;omega⟩, hc⟩
 | cons u us ih =>
  intro vs o i j h hi hj hl hr hc
  cases vs with
  | nil => exact h.elim
  | cons v vs =>
   obtain ⟨h1, h2, h3⟩ := h;have hle := inc_le _ _ _ _ h3;(have hu : u.toNat < o.length := by omega);(have hg : ∀ k, pg (o.set u.toNat v) k = if k = u.toNat then v else pg o k := fun k => getD_set hu);rw [pset];refine ih vs (o.set u.toNat v) (u + 1) (v + 1) h3 (by omega) (by omega) (by rw [List.length_set];exact hl) (fun k hk => ?_) (fun k k' hkk hk' h4 h5 => ?_);(·rw [hg];have := hr k hk;split;(·refine ⟨by omega, by omega, fun _ => by omega⟩);exact ⟨this.1, by omega, fun _ => this.2.2 (by omega)⟩);rw [hg] at h4 h5 ⊢;rw [hg];by_cases e1 : k = u.toNat;(·(have e2 : ¬ k' = u.toNat := by omega);rw [if_neg e2] at h5;have := (hr k' hk').2.2 (by omega);omega);rw [if_neg e1] at h4 ⊢;by_cases e2 : k' = u.toNat;rotate_left;(·rw [if_neg e2] at h5 ⊢;exact hc k k' hkk hk' h4 h5);rw [if_pos e2];have := (hr k (by omega)).2.1;omega
def PT (a b : List ByteArray) : List Int := pset (List.replicate a.length (-1)) (mt a b 0 0).1 (mt a b 0 0).2
theorem mt_all (a b : List ByteArray) : Inc (a.length : Int) (b.length : Int) (mt a b 0 0).1 (mt a b 0 0).2 0 0 := by
 have := mt_inc _ a b 0 0 0 0 rfl (by omega) (by omega);rw [Nat.zero_add, Nat.zero_add] at this;exact this
theorem pg_rep (n k : Nat) : pg (List.replicate n (-1)) k = -1 := by
 unfold pg;rw [List.getD_eq_getElem?_getD, List.getElem?_replicate];split <;> rfl
theorem PT_PI (a b : List ByteArray) : PI (PT a b) a.length b.length := by
 refine pset_PI _ _ _ 0 0 (mt_all a b) (by omega) (by omega) (by simp) (fun k hk => ?_) (fun k k' _ _ h _ => ?_);(·rw [pg_rep];exact ⟨by omega, by omega, fun _ => rfl⟩);rw [pg_rep] at h;exact absurd h (by decide)
theorem mt_few (a b : List ByteArray) : (mt a b 0 0).1.length ≤ a.length ∧ (mt a b 0 0).1.length = (mt a b 0 0).2.length := by
 have h := mt_len _ a b 0 0 rfl;have := lcs_le a b;omega
theorem spart1 {n : Nat} (p q : List Int) (hl : p.length = q.length) (hp : ∀ u ∈ p, 0 ≤ u ∧ u < (n : Int)) (hn : p.length ≤ 1000000) : ∀ (d i : Nat) (o : List Int), p.length - i = d → i ≤ p.length → o.length = n →
    Ev (fun k => spec_l4Partner.l1 k o p q (i : Int)) (pset o (p.drop i) (q.drop i)) := by
 intro d
 induction d with
 | zero =>
  intro i o hd hi ho;refine Ev.step (fun k => by rw [spec_l4Partner.l1]) (Ev_neg (by omega) (Ev_val ?_));rw [List.drop_eq_nil_of_le (show p.length ≤ i by omega), pset]
 | succ d ih =>
  intro i o hd hi ho;(have h1 : i < p.length := by omega);(have h2 : i < q.length := by omega);have hu := hp p[i] (List.getElem_mem h1);refine Ev.step (fun k => by rw [spec_l4Partner.l1]) (Ev_pos (by omega) (Ev_pos (by omega) (Ev_pos (by omega) ?_)));rw [rdi_nat h1, rdi_nat h2, wsucc h1 (by omega), drop_at h1, drop_at h2, pset];exact Ev_pos (by omega) (Ev_pos (by omega) (ih (i + 1) _ (by omega) (by omega) (by rw [List.length_set];exact ho)))
theorem ipart1 {n : Nat} (p q : List Int) (hl : p.length = q.length) (hp : ∀ u ∈ p, 0 ≤ u ∧ u < (n : Int)) (hn : p.length ≤ 1000000) : ∀ (d i : Nat) (o : List Int), p.length - i = d → i ≤ p.length → o.length = n →
    Ev (fun k => impl_places.l1 k o q p (p.length : Int) (i : Int)) (pset o (p.drop i) (q.drop i)) := by
 intro d
 induction d with
 | zero =>
  intro i o hd hi ho;refine Ev.step (fun k => by rw [impl_places.l1]) (Ev_neg (by omega) (Ev_val ?_));rw [List.drop_eq_nil_of_le (show p.length ≤ i by omega), pset]
 | succ d ih =>
  intro i o hd hi ho;(have h1 : i < p.length := by omega);(have h2 : i < q.length := by omega);have hu := hp p[i] (List.getElem_mem h1);refine Ev.step (fun k => by rw [impl_places.l1]) (Ev_pos (by omega) (Ev_pos (by omega) (Ev_pos (by omega) (Ev_pos (by omega) ?_))));rw [rdi_nat h1, rdi_nat h2, wsucc h1 (by omega), drop_at h1, drop_at h2, pset];exact Ev_pos (by omega) (Ev_pos (by omega) (ih (i + 1) _ (by omega) (by omega) (by rw [List.length_set];exact ho)))
theorem spart0 (a b : List ByteArray) (ha : a.length ≤ 1000000) {r : List Int} (h : Ev (fun k => (spec_l2Match.f k a b).bind fun bt => (spec_l4Partner.l1 k (List.replicate a.length (-1)) bt.1 bt.2 0)) r) :
    ∀ (d i : Nat), i + d = a.length → Ev (fun k => spec_l4Partner.l0 k a b (List.replicate i (-1) ++ List.replicate d 0) (i : Int)) r := by
 intro d
 induction d with
 | zero =>
  intro i hi;refine Ev.step (fun k => by rw [spec_l4Partner.l0]) (Ev_neg (by simp) ?_);rw [show i = a.length by omega, List.replicate_zero, List.append_nil];exact h
 | succ d ih =>
  intro i hi;refine Ev.step (fun k => by rw [spec_l4Partner.l0]) (Ev_pos (by simp;omega) (Ev_pos (by omega) ?_));rw [Int.toNat_natCast, set_rep, wsucc' (by omega)];exact ih (i + 1) (by omega)
theorem ipart0 (a b : List ByteArray) (ha : a.length ≤ 1000000) {r : List Int} (h : Ev (fun k => (impl_match.f k a b).bind fun bt => (impl_places.l1 k (List.replicate a.length (-1)) bt.2 bt.1 (bt.1.length : Int) 0)) r) :
    ∀ (d i : Nat), i + d = a.length → Ev (fun k => impl_places.l0 k a b (List.replicate i (-1)) (a.length : Int) (i : Int)) r := by
 intro d
 induction d with
 | zero =>
  intro i hi;refine Ev.step (fun k => by rw [impl_places.l0]) (Ev_neg (by omega) ?_);rw [show i = a.length by omega];exact h
 | succ d ih =>
  intro i hi;refine Ev.step (fun k => by rw [impl_places.l0]) (Ev_pos (by omega) (Ev_pos (by simp;omega) ?_));rw [← List.replicate_succ', wsucc' (by omega)];exact ih (i + 1) (by omega)
theorem spt_tells (a b : List ByteArray) (ha : a.length ≤ 1000000) (hb : b.length ≤ 1000000) : Ev (fun k => spec_l4Partner.f k a b) (PT a b) := by
 have hm := mt_few a b;have hi := inc_le _ _ _ _ (mt_all a b);unfold spec_l4Partner.f;refine Ev_pos (by omega) (Ev_pos (by omega) ?_);have := spart0 a b ha (Ev_call (spec_l2Match_tells a b ha hb) (spart1 (n := a.length) _ _ hm.2 hi.2.2.2 (by omega) _ 0 (List.replicate a.length (-1)) rfl (by omega) (by simp))) a.length 0 (by omega);rw [List.drop_zero, List.drop_zero] at this;rw [Int.toNat_natCast];exact this
theorem ipt_tells (a b : List ByteArray) (ha : a.length ≤ 1000000) (hb : b.length ≤ 1000000) : Ev (fun k => impl_places.f k a b) (PT a b) := by
 have hm := mt_few a b;have hi := inc_le _ _ _ _ (mt_all a b);unfold impl_places.f;have := ipart0 a b ha (Ev_call (impl_match_tells a b ha hb) (ipart1 (n := a.length) _ _ hm.2 hi.2.2.2 (by omega) _ 0 (List.replicate a.length (-1)) rfl (by omega) (by simp))) a.length 0 (by omega);rw [List.drop_zero, List.drop_zero] at this;exact this
def seg (l : List ByteArray) (x y : Nat) : List ByteArray := (l.take y).drop x
theorem seg_len {l : List ByteArray} {x y : Nat} (h : y ≤ l.length) : (seg l x y).length = y - x := by
 unfold seg;rw [List.length_drop, List.length_take];omega
theorem seg_same (l : List ByteArray) (x : Nat) : seg l x x = [] := by
 unfold seg;rw [List.drop_eq_nil_of_le (by rw [List.length_take];omega)]
def pt1 (b o t : List ByteArray) : List CK := if b.length + o.length + t.length = 0 then [] else [mkc b o t]
theorem pt1_nil : pt1 [] [] [] = [] := rfl
theorem pt1_len (b o t : List ByteArray) : (pt1 b o t).length ≤ 1 := by
 unfold pt1;split <;> simp
def nx (p q : List Int) : Nat → Nat → Nat
  | 0, k => k
  | d + 1, k => if 0 ≤ pg p k ∧ 0 ≤ pg q k then k else nx p q d (k + 1)
def rn (p q : List Int) (k0 u v : Nat) : Nat → Nat → Nat
  | 0, k => k
  | d + 1, k => if pg p k = ((u + (k - k0) : Nat) : Int) ∧ pg q k = ((v + (k - k0) : Nat) : Int) then rn p q k0 u v d (k + 1) else k
theorem nx_spec (p q : List Int) : ∀ (d k : Nat), k ≤ nx p q d k ∧ nx p q d k ≤ k + d ∧ (nx p q d k < k + d → 0 ≤ pg p (nx p q d k) ∧ 0 ≤ pg q (nx p q d k)) ∧ ∀ x, k ≤ x → x < nx p q d k → ¬ (0 ≤ pg p x ∧ 0 ≤ pg q x) := by
 intro d
 induction d with
 | zero => intro k;exact ⟨Nat.le_refl _, Nat.le_refl _, fun h => absurd h (by simp [nx]), fun x h1 h2 => absurd h2 (by simp [nx];omega)⟩
 | succ d ih =>
  intro k;rw [nx];split;(·rename_i h;exact ⟨Nat.le_refl _, by omega, fun _ => h, fun x h1 h2 => by omega⟩);rename_i h;obtain ⟨h1, h2, h3, h4⟩ := ih (k + 1);refine ⟨by omega, by omega, fun h5 => h3 (by omega), fun x h5 h6 => ?_⟩;by_cases e : x = k;(·rw [e];exact h);exact h4 x (by omega) h6
theorem rn_spec (p q : List Int) (k0 u v : Nat) : ∀ (d k : Nat), k ≤ rn p q k0 u v d k ∧ rn p q k0 u v d k ≤ k + d ∧ (∀ x, k ≤ x → x < rn p q k0 u v d k → pg p x = ((u + (x - k0) : Nat) : Int) ∧ pg q x = ((v + (x - k0) : Nat) : Int)) ∧
    (rn p q k0 u v d k < k + d → ¬ (pg p (rn p q k0 u v d k) = ((u + (rn p q k0 u v d k - k0) : Nat) : Int) ∧ pg q (rn p q k0 u v d k) = ((v + (rn p q k0 u v d k - k0) : Nat) : Int))) := by
 intro d
 induction d with
 | zero => intro k;exact ⟨Nat.le_refl _, Nat.le_refl _, fun x h1 h2 => absurd h2 (by simp [rn];omega), fun h => absurd h (by simp [rn])⟩
 | succ d ih =>
  intro k;rw [rn];split;rotate_left;(·rename_i h;exact ⟨Nat.le_refl _, by omega, fun x h1 h2 => by omega, fun _ => h⟩);rename_i h;obtain ⟨h1, h2, h3, h4⟩ := ih (k + 1);refine ⟨by omega, by omega, fun x h5 h6 => ?_, fun h5 => h4 (by omega)⟩;by_cases e : x = k;(·rw [e];exact h);exact h3 x (by omega) h6
def chk (b o t : List ByteArray) (p q : List Int) : Nat → Nat → Nat → Nat → List CK
  | 0, _, _, _ => []
  | d + 1, a, i, j =>
    if nx p q (b.length - a) a = b.length then pt1 (b.drop a) (o.drop i) (t.drop j) else
    let K := nx p q (b.length - a) a
    let U := (pg p K).toNat
    let V := (pg q K).toNat
    let X := rn p q K U V (b.length - K) K
    pt1 (seg b a K) (seg o i U) (seg t j V) ++ (pt1 (seg b K X) (seg o U (U + (X - K))) (seg t V (V + (X - K))) ++ chk b o t p q d X (U + (X - K)) (V + (X - K)))
theorem chk_last {b o t : List ByteArray} {p q : List Int} {d a i j : Nat} (h : nx p q (b.length - a) a = b.length) : chk b o t p q (d + 1) a i j = pt1 (b.drop a) (o.drop i) (t.drop j) := by
 rw [chk, if_pos h]
theorem chk_step {b o t : List ByteArray} {p q : List Int} {d a i j K U V X : Nat} (hK : nx p q (b.length - a) a = K) (hn : K ≠ b.length) (hU : pg p K = (U : Int)) (hV : pg q K = (V : Int)) (hX : rn p q K U V (b.length - K) K = X) :
    chk b o t p q (d + 1) a i j = pt1 (seg b a K) (seg o i U) (seg t j V) ++ (pt1 (seg b K X) (seg o U (U + (X - K))) (seg t V (V + (X - K))) ++ chk b o t p q d X (U + (X - K)) (V + (X - K))) := by
 (have hU' : (pg p K).toNat = U := by omega);(have hV' : (pg q K).toNat = V := by omega);rw [chk, hK, if_neg hn];simp only [hU', hV', hX]
def Lo (p : List Int) (n m a i : Nat) : Prop := i ≤ m ∧ ∀ k, a ≤ k → k < n → 0 ≤ pg p k → (i : Int) ≤ pg p k
structure St (p q : List Int) (n mo mt_ a i j K U V X : Nat) : Prop where
  aK : a ≤ K
  Kn : K < n
  hU : pg p K = (U : Int)
  hV : pg q K = (V : Int)
  iU : i ≤ U
  jV : j ≤ V
  KX : K < X
  Xn : X ≤ n
  Um : U + (X - K) ≤ mo
  Vm : V + (X - K) ≤ mt_
  on : ∀ x, K ≤ x → x < X → pg p x = ((U + (x - K) : Nat) : Int) ∧ pg q x = ((V + (x - K) : Nat) : Int)
  off : X < n → ¬ (pg p X = ((U + (X - K) : Nat) : Int) ∧ pg q X = ((V + (X - K) : Nat) : Int))
  skip : ∀ x, a ≤ x → x < K → ¬ (0 ≤ pg p x ∧ 0 ≤ pg q x)
  lo1 : Lo p n mo X (U + (X - K))
  lo2 : Lo q n mt_ X (V + (X - K))
theorem lo_next {p : List Int} {n m K U X : Nat} (hp : PI p n m) (hKX : K < X) (hX : X ≤ n) (hon : ∀ x, K ≤ x → x < X → pg p x = ((U + (x - K) : Nat) : Int)) : Lo p n m X (U + (X - K)) := by
 have h1 := hon (X - 1) (by omega) (by omega);have h2 := hp.rng (X - 1) (by omega);refine ⟨by omega, fun k hk hn h0 => ?_⟩;have := hp.inc (X - 1) k (by omega) hn (by omega) h0;omega
theorem st_of {p q : List Int} {n mo mt_ a i j : Nat} (hp : PI p n mo) (hq : PI q n mt_) (ha : a ≤ n) (l1 : Lo p n mo a i) (l2 : Lo q n mt_ a j) (hK : nx p q (n - a) a ≠ n) :
    ∃ K U V X, nx p q (n - a) a = K ∧ rn p q K U V (n - K) K = X ∧ St p q n mo mt_ a i j K U V X := by
 obtain ⟨h1, h2, h3, h4⟩ := nx_spec p q (n - a) a;obtain ⟨K, hKe⟩ : ∃ K, nx p q (n - a) a = K := ⟨_, rfl⟩;rw [hKe] at h1 h2 h3 h4 hK;have hb := h3 (by omega);obtain ⟨U, hU⟩ : ∃ U : Nat, pg p K = (U : Int) := ⟨(pg p K).toNat, by omega⟩;obtain ⟨V, hV⟩ : ∃ V : Nat, pg q K = (V : Int) := ⟨(pg q K).toNat, by omega⟩;obtain ⟨X, hX⟩ : ∃ X, rn p q K U V (n - K) K = X := ⟨_, rfl⟩;obtain ⟨g1, g2, g3, g4⟩ := rn_spec p q K U V (n - K) K;rw [hX] at g1 g2 g3 g4;(have hKX : K < X := by (rcases Nat.lt_or_ge K X with h | h);(·exact h);(have e : X = K := by omega);exfalso;refine g4 (by omega) ?_;rw [e, Nat.sub_self, Nat.add_zero, Nat.add_zero];exact ⟨hU, hV⟩);have hUi := l1.2 K h1 (by omega) hb.1;have hVj := l2.2 K h1 (by omega) hb.2;have n1 := lo_next hp hKX (by omega) (fun x a b => (g3 x a b).1);have n2 := lo_next hq hKX (by omega) (fun x a b => (g3 x a b).2);exact ⟨K, U, V, X, hKe, hX, ⟨h1, by omega, hU, hV, by omega, by omega, hKX, by omega, n1.1, n2.1, g3, fun h => g4 (by omega), h4, n1, n2⟩⟩
theorem chk_fuel {b o t : List ByteArray} {p q : List Int} (hp : PI p b.length o.length) (hq : PI q b.length t.length) : ∀ (d d' a i j : Nat), a ≤ b.length → b.length - a < d → b.length - a < d' → Lo p b.length o.length a i → Lo q b.length t.length a j → chk b o t p q d a i j = chk b o t p q d' a i j := by
 intro d
 induction d with
 | zero => intro d' a i j ha h;omega
 | succ d ih =>
  intro d' a i j ha h h' l1 l2
  cases d' with
  | zero => omega
  | succ d' =>
   by_cases hl : nx p q (b.length - a) a = b.length;(·rw [chk_last hl, chk_last hl]);obtain ⟨K, U, V, X, hK, hX, s⟩ := st_of hp hq ha l1 l2 hl;rw [chk_step hK (by have := s.Kn;omega) s.hU s.hV hX, chk_step hK (by have := s.Kn;omega) s.hU s.hV hX];rw [ih d' X _ _ s.Xn (by have := s.KX;have := s.aK;have := s.Kn;omega) (by have := s.KX;have := s.aK;have := s.Kn;omega) s.lo1 s.lo2]
def CHK (b o t : List ByteArray) : List CK := chk b o t (PT b o) (PT b t) (b.length + 1) 0 0 0
theorem lo_start (p : List Int) (n m : Nat) : Lo p n m 0 0 := ⟨Nat.zero_le _, fun k _ _ h => h⟩
theorem chk_start {b o t : List ByteArray} {p q : List Int} (hp : PI p b.length o.length) (hq : PI q b.length t.length) {X : Nat} (hX : rn p q 0 0 0 b.length 0 = X) :
    X ≤ b.length ∧ X ≤ o.length ∧ X ≤ t.length ∧ Lo p b.length o.length X X ∧ Lo q b.length t.length X X ∧ pt1 (seg b 0 X) (seg o 0 X) (seg t 0 X) ++ chk b o t p q (b.length + 1) X X X = chk b o t p q (b.length + 1) 0 0 0 := by
 obtain ⟨g1, g2, g3, g4⟩ := rn_spec p q 0 0 0 b.length 0;rw [hX] at g1 g2 g3 g4;(rcases Nat.eq_zero_or_pos X with h0 | h0);(·subst h0;refine ⟨Nat.zero_le _, Nat.zero_le _, Nat.zero_le _, lo_start _ _ _, lo_start _ _ _, ?_⟩;rw [seg_same, seg_same, seg_same, pt1_nil, List.nil_append]);have e0 := g3 0 (by omega) h0;have n1 := lo_next (K := 0) (U := 0) hp h0 (by omega) (fun x a b => (g3 x a b).1);have n2 := lo_next (K := 0) (U := 0) hq h0 (by omega) (fun x a b => (g3 x a b).2);rw [Nat.sub_zero, Nat.zero_add] at n1 n2;refine ⟨by omega, n1.1, n2.1, n1, n2, ?_⟩;(have hK : nx p q (b.length - 0) 0 = 0 := by obtain ⟨m, hm⟩ : ∃ m, b.length = m + 1 := ⟨b.length - 1, by omega⟩;rw [Nat.sub_zero, hm, nx, if_pos (by omega)]);rw [chk_step (a := 0) (i := 0) (j := 0) (d := b.length) hK (by omega) (U := 0) (V := 0) e0.1 e0.2 (X := X) (by rw [Nat.sub_zero];exact hX)];rw [seg_same, seg_same, seg_same, pt1_nil, List.nil_append, Nat.sub_zero, Nat.zero_add];rw [chk_fuel hp hq (b.length + 1) b.length X X X (by omega) (by omega) (by omega) n1 n2]
theorem add_tells (out : List CK) {b o t : List ByteArray} (hb : b.length ≤ 1048576) (ho : o.length ≤ 1048576) (ht : t.length ≤ 1048576) (hl : out.length ≤ 1759218604440) : impl_chunksOf_1.f out (kindK b o t) b o t = some (out ++ pt1 b o t) := by
 unfold impl_chunksOf_1.f pt1;rw [wid (x := (b.length : Int) + (o.length : Int)) (by omega) (by omega), wid (by omega) (by omega)];by_cases h : b.length + o.length + t.length = 0;(·rw [if_neg (by omega), if_pos h, List.append_nil]);rw [if_pos (by omega), if_neg h, if_pos (by omega)];rfl
section
variable {b o t : List ByteArray} {p q : List Int}
theorem iscan (hp : p.length = b.length) (hq : q.length = b.length) (hb : b.length ≤ 1000000) {y z : Int} {acc : List CK} {a i j : Int} {K : Nat} (hK : K ≤ b.length) {r : List CK} (h : Ev (fun k => impl_chunksOf.l0 k b o t (p ++ [y]) (q ++ [z]) acc a i j (K : Int)) r) :
    ∀ (d x : Nat), K - x = d → x ≤ K → (∀ z, x ≤ z → z < K → ¬ (0 ≤ pg p z ∧ 0 ≤ pg q z)) → Ev (fun k => impl_chunksOf.l0 k b o t (p ++ [y]) (q ++ [z]) acc a i j (x : Int)) r := by
 intro d
 induction d with
 | zero =>
  intro x hd hx _;rw [show x = K by omega];exact h
 | succ d ih =>
  intro x hd hx hs;have nx_ := ih (x + 1) (by omega) (by omega) (fun z h1 h2 => hs z (by omega) h2);(have l1 : (p ++ [y]).length = b.length + 1 := by simp [hp]);(have l2 : (q ++ [z]).length = b.length + 1 := by simp [hq]);(have hj : Ev (fun k => impl_chunksOf.j1 k b o t (p ++ [y]) (q ++ [z]) acc a i j (x : Int) true) r := by refine Ev.step (fun k => by rw [impl_chunksOf.j1]) (Ev_pos rfl ?_);rw [wsucc' (by omega)];exact nx_);refine Ev.step (fun k => by rw [impl_chunksOf.l0]) (Ev_pos (by omega) (Ev_pos (by omega) (Ev_pos (by omega) ?_)));rw [rd_ext1 (by omega), rd_ext1 (by omega)];refine Ev_if (fun _ => hj) (fun h2 => Ev_pos (by omega) ?_);rw [decide_eq_true (show pg q x < 0 by have := hs x (by omega) (by omega);omega)];exact hj
theorem irun (hp : p.length = b.length) (hq : q.length = b.length) (hb : b.length ≤ 1000000) {y z : Int} {acc : List CK} {K U V X : Nat} (hU1 : U ≤ 2000000) (hV1 : V ≤ 2000000) (hKX : K ≤ X) (hX : X ≤ b.length)
    (on : ∀ x, K ≤ x → x < X → pg p x = ((U + (x - K) : Nat) : Int) ∧ pg q x = ((V + (x - K) : Nat) : Int)) (off : X < b.length → ¬ (pg p X = ((U + (X - K) : Nat) : Int) ∧ pg q X = ((V + (X - K) : Nat) : Int)))
    {r : List CK} (h : Ev (fun k => impl_chunksOf.j3 k b o t (p ++ [y]) (q ++ [z]) acc (K : Int) (U : Int) (V : Int) (X : Int)) r) :
    ∀ (d x : Nat), X - x = d → K ≤ x → x ≤ X → Ev (fun k => impl_chunksOf.l1 k b o t (p ++ [y]) (q ++ [z]) acc (K : Int) (U : Int) (V : Int) (x : Int)) r := by
 (have l1 : (p ++ [y]).length = b.length + 1 := by simp [hp]);(have l2 : (q ++ [z]).length = b.length + 1 := by simp [hq]);intro d
 induction d with
 | zero =>
  intro x hd hk hx;(obtain rfl : x = X := by omega);refine Ev.step (fun k => by rw [impl_chunksOf.l1]) (Ev_if (fun h1 => ?_) (fun _ => h));rw [rd_ext1 (by omega), rd_ext1 (by omega), wid (x := (U : Int) + (x : Int)) (by omega) (by omega), wid (x := (V : Int) + (x : Int)) (by omega) (by omega), wid (by omega) (by omega), wid (by omega) (by omega)];refine Ev_pos (by omega) (Ev_pos (by omega) (Ev_if (fun h2 => Ev_pos (by omega) (Ev_neg (fun h3 => off (by omega) ?_) h)) (fun _ => h)));exact ⟨by omega, by omega⟩
 | succ d ih =>
  intro x hd hk hx;have e := on x hk (by omega);refine Ev.step (fun k => by rw [impl_chunksOf.l1]) (Ev_pos (by omega) (Ev_pos (by omega) (Ev_pos (by omega) ?_)));rw [rd_ext1 (by omega), rd_ext1 (by omega), wid (x := (U : Int) + (x : Int)) (by omega) (by omega), wid (x := (V : Int) + (x : Int)) (by omega) (by omega), wid (by omega) (by omega), wid (x := (V : Int) + (x : Int) - (K : Int)) (by omega) (by omega), wsucc' (by omega)];exact Ev_pos (by omega) (Ev_pos (by omega) (Ev_pos (by omega) (ih (x + 1) (by omega) (by omega) (by omega))))
theorem ich_last (lp : p.length = b.length) (lq : q.length = b.length) (hb : b.length ≤ 1000000) (ho : o.length ≤ 1000000) (ht : t.length ≤ 1000000) {acc : List CK} {a i j : Nat} (ha : a ≤ b.length) (hi : i ≤ o.length) (hj : j ≤ t.length) (hacc : acc.length ≤ 4000000) :
    Ev (fun k => impl_chunksOf.l0 k b o t (p ++ [(o.length : Int)]) (q ++ [(t.length : Int)]) acc (a : Int) (i : Int) (j : Int) (b.length : Int)) (acc ++ pt1 (b.drop a) (o.drop i) (t.drop j)) := by
 (have l1 : (p ++ [(o.length : Int)]).length = b.length + 1 := by simp [lp]);(have l2 : (q ++ [(t.length : Int)]).length = b.length + 1 := by simp [lq]);refine Ev.step (fun k => by rw [impl_chunksOf.l0]) (Ev_pos (by omega) (Ev_pos (by omega) (Ev_pos (by omega) ?_)));rw [rd_ext2 lp, rd_ext2 lq];refine Ev_neg (by omega) (Ev_pos (by omega) ?_);rw [decide_eq_false (show ¬ (t.length : Int) < 0 by omega)];refine Ev.step (fun k => by rw [impl_chunksOf.j1]) (Ev_neg (by simp) ?_);rw [rd_ext2 lp, rd_ext2 lq];refine Ev_pos (by omega) (Ev_pos (by omega) (Ev_pos (by omega) (Ev_pos (by omega) (Ev_pos (by omega) (Ev_pos (by omega) (Ev_pos (by omega) (Ev_pos (by omega) (Ev_pos (by omega) (Ev_pos (by omega) (Ev_pos (by omega) (Ev_pos (by omega) ?_)))))))))));simp only [Int.toNat_natCast];rw [List.take_length, List.take_length, List.take_length];(have z1 : (b.drop a).length ≤ 1048576 := by rw [List.length_drop];omega);(have z2 : (o.drop i).length ≤ 1048576 := by rw [List.length_drop];omega);(have z3 : (t.drop j).length ≤ 1048576 := by rw [List.length_drop];omega);refine Ev_call (chunkOf_tells z1 z2 z3) (Ev_const (add_tells acc z1 z2 z3 (by omega)) ?_);have hlen := pt1_len (b.drop a) (o.drop i) (t.drop j);(have hlen2 : (acc ++ pt1 (b.drop a) (o.drop i) (t.drop j)).length ≤ 4000001 := by rw [List.length_append];omega);clear hlen z1 z2 z3 hacc;refine Ev.step (fun k => by rw [impl_chunksOf.l1]) (Ev_neg (by omega) ?_);refine Ev.step (fun k => by rw [impl_chunksOf.j3]) ?_;(have w0 : wrap64 ((b.length : Int) - (b.length : Int)) = 0 := by rw [wid (by omega) (by omega)];omega);rw [w0, wid (x := (o.length : Int) + 0) (by omega) (by omega), wid (x := (t.length : Int) + 0) (by omega) (by omega)];refine Ev_pos (by omega) (Ev_pos (by omega) (Ev_pos (by omega) (Ev_pos (by omega) (Ev_pos (by omega) (Ev_pos (by omega) (Ev_pos (by omega) (Ev_pos (by omega) (Ev_pos (by omega) ?_))))))));simp only [Int.add_zero, Int.toNat_natCast];(have s1 : (b.take b.length).drop b.length = [] := by simp);(have s2 : (o.take o.length).drop o.length = [] := by simp);(have s3 : (t.take t.length).drop t.length = [] := by simp);rw [s1, s2, s3];refine Ev_call (chunkOf_tells (by simp) (by simp) (by simp)) (Ev_const (add_tells _ (by simp) (by simp) (by simp) (by omega)) (Ev_pos (by first | trivial | rfl) (Ev_val ?_)));rw [pt1_nil, List.append_nil]
theorem ich_one (lp : p.length = b.length) (lq : q.length = b.length) (hb : b.length ≤ 1000000) (ho : o.length ≤ 1000000) (ht : t.length ≤ 1000000) {acc : List CK} {a i j K U V M : Nat} (aK : a ≤ K) (M0 : 0 < M) (Xn : K + M ≤ b.length) (iU : i ≤ U) (Um : U + M ≤ o.length) (jV : j ≤ V) (Vm : V + M ≤ t.length) (hacc : acc.length ≤ 4000000)
    (hU : pg p K = (U : Int)) (hV : pg q K = (V : Int)) (on : ∀ x, K ≤ x → x < K + M → pg p x = ((U + (x - K) : Nat) : Int) ∧ pg q x = ((V + (x - K) : Nat) : Int))
    (off : K + M < b.length → ¬ (pg p (K + M) = ((U + (K + M - K) : Nat) : Int) ∧ pg q (K + M) = ((V + (K + M - K) : Nat) : Int))) {r : List CK}
    (h : Ev (fun k => impl_chunksOf.l0 k b o t (p ++ [(o.length : Int)]) (q ++ [(t.length : Int)]) (acc ++ pt1 (seg b a K) (seg o i U) (seg t j V) ++ pt1 (seg b K (K + M)) (seg o U (U + M)) (seg t V (V + M))) ((K + M : Nat) : Int) ((U + M : Nat) : Int) ((V + M : Nat) : Int) ((K + M : Nat) : Int)) r) :
    Ev (fun k => impl_chunksOf.l0 k b o t (p ++ [(o.length : Int)]) (q ++ [(t.length : Int)]) acc (a : Int) (i : Int) (j : Int) (K : Int)) r := by
 (have l1 : (p ++ [(o.length : Int)]).length = b.length + 1 := by simp [lp]);(have l2 : (q ++ [(t.length : Int)]).length = b.length + 1 := by simp [lq]);refine Ev.step (fun k => by rw [impl_chunksOf.l0]) (Ev_pos (by omega) (Ev_pos (by omega) (Ev_pos (by omega) ?_)));rw [rd_ext1 (by omega), rd_ext1 (by omega), hU, hV];refine Ev_neg (by omega) (Ev_pos (by omega) ?_);rw [decide_eq_false (show ¬ (V : Int) < 0 by omega)];refine Ev.step (fun k => by rw [impl_chunksOf.j1]) (Ev_neg (by simp) ?_);rw [rd_ext1 (by omega), rd_ext1 (by omega), hU, hV];refine Ev_pos (by omega) (Ev_pos (by omega) (Ev_pos (by omega) (Ev_pos (by omega) (Ev_pos (by omega) (Ev_pos (by omega) (Ev_pos (by omega) (Ev_pos (by omega) (Ev_pos (by omega) (Ev_pos (by omega) (Ev_pos (by omega) (Ev_pos (by omega) ?_)))))))))));simp only [Int.toNat_natCast];(have z1 : (seg b a K).length ≤ 1048576 := by rw [seg_len (by omega)];omega);(have z2 : (seg o i U).length ≤ 1048576 := by rw [seg_len (by omega)];omega);(have z3 : (seg t j V).length ≤ 1048576 := by rw [seg_len (by omega)];omega);refine Ev_call (chunkOf_tells z1 z2 z3) (Ev_const (add_tells acc z1 z2 z3 (by omega)) ?_);have hlen := pt1_len (seg b a K) (seg o i U) (seg t j V);(have hlen2 : (acc ++ pt1 (seg b a K) (seg o i U) (seg t j V)).length ≤ 4000001 := by rw [List.length_append];omega);clear hlen z1 z2 z3 hacc hU hV;refine irun lp lq hb (by omega) (by omega) (by omega) Xn on off ?_ _ K rfl (by omega) (by omega);clear on off;refine Ev.step (fun k => by rw [impl_chunksOf.j3]) ?_;(have w0 : wrap64 (((K + M : Nat) : Int) - (K : Int)) = (M : Int) := by rw [wid (by omega) (by omega)];omega);(have w1 : wrap64 ((U : Int) + (M : Int)) = ((U + M : Nat) : Int) := by rw [wid (by omega) (by omega)];omega);(have w2 : wrap64 ((V : Int) + (M : Int)) = ((V + M : Nat) : Int) := by rw [wid (by omega) (by omega)];omega);rw [w0, w1, w2];clear w0 w1 w2;refine Ev_pos (by omega) (Ev_pos (by omega) (Ev_pos (by omega) (Ev_pos (by omega) (Ev_pos (by omega) (Ev_pos (by omega) (Ev_pos (by omega) (Ev_pos (by omega) (Ev_pos (by omega) ?_))))))));simp only [Int.toNat_natCast];(have y1 : (seg b K (K + M)).length ≤ 1048576 := by rw [seg_len (by omega)];omega);(have y2 : (seg o U (U + M)).length ≤ 1048576 := by rw [seg_len (by omega)];omega);(have y3 : (seg t V (V + M)).length ≤ 1048576 := by rw [seg_len (by omega)];omega);exact Ev_call (chunkOf_tells y1 y2 y3) (Ev_const (add_tells (acc ++ pt1 (seg b a K) (seg o i U) (seg t j V)) y1 y2 y3 (by omega)) (Ev_neg (by omega) h))
theorem ich_loop (hp : PI p b.length o.length) (hq : PI q b.length t.length) (hb : b.length ≤ 1000000) (ho : o.length ≤ 1000000) (ht : t.length ≤ 1000000) : ∀ (d a i j : Nat) (acc : List CK), a ≤ b.length → b.length < d + a → Lo p b.length o.length a i → Lo q b.length t.length a j → acc.length ≤ 2 * a →
    Ev (fun k => impl_chunksOf.l0 k b o t (p ++ [(o.length : Int)]) (q ++ [(t.length : Int)]) acc (a : Int) (i : Int) (j : Int) (a : Int)) (acc ++ chk b o t p q d a i j) := by
 intro d
 induction d with
 | zero => intro a i j acc ha h;omega
 | succ d ih =>
  intro a i j acc ha h lo1 lo2 hacc;by_cases hl : nx p q (b.length - a) a = b.length;(·have hs := nx_spec p q (b.length - a) a;rw [hl] at hs;rw [chk_last hl];exact iscan hp.len hq.len hb (Nat.le_refl _) (ich_last hp.len hq.len hb ho ht ha lo1.1 lo2.1 (by omega)) _ a rfl ha hs.2.2.2);obtain ⟨K, U, V, X, hK, hX, s⟩ := st_of hp hq ha lo1 lo2 hl;obtain ⟨aK, Kn, hU, hV, iU, jV, KX, Xn, Um, Vm, on, off, skip, n1, n2⟩ := s;obtain ⟨M, rfl⟩ : ∃ M, X = K + M := ⟨X - K, by omega⟩;(have eM : K + M - K = M := by omega);rw [chk_step hK (by omega) hU hV hX];refine iscan hp.len hq.len hb (by omega) ?_ _ a rfl aK skip;rw [eM] at Um Vm n1 n2 ⊢;refine ich_one hp.len hq.len hb ho ht aK (by omega) Xn iU Um jV Vm (by omega) hU hV on off ?_;have k1 := pt1_len (seg b a K) (seg o i U) (seg t j V);have k2 := pt1_len (seg b K (K + M)) (seg o U (U + M)) (seg t V (V + M));have e := ih (K + M) (U + M) (V + M) (acc ++ pt1 (seg b a K) (seg o i U) (seg t j V) ++ pt1 (seg b K (K + M)) (seg o U (U + M)) (seg t V (V + M))) Xn (by omega) n1 n2 (by rw [List.length_append, List.length_append];omega);refine Ev_eq e ?_;simp only [List.append_assoc]
theorem ichk_tells (hb : b.length ≤ 1000000) (ho : o.length ≤ 1000000) (ht : t.length ≤ 1000000) : Ev (fun k => impl_chunksOf.f k b o t) (CHK b o t) := by
 have h1 := (PT_PI b o).len;have h2 := (PT_PI b t).len;unfold impl_chunksOf.f;refine Ev_call (ipt_tells b o hb ho) (Ev_call (ipt_tells b t hb ht) (Ev_pos (by omega) (Ev_pos (by omega) ?_)));have := ich_loop (PT_PI b o) (PT_PI b t) hb ho ht (b.length + 1) 0 0 0 [] (by omega) (by omega) (lo_start _ _ _) (lo_start _ _ _) (by simp);exact this
end
end Go.Proofs.YtelngmkfjpcbgaaDoor.P
end
section
set_option linter.unusedVariables false
set_option linter.unusedSimpArgs false
namespace Go.Proofs.YtelngmkfjpcbgaaDoor.P
open Go.RowKit Go.Proofs.YtelngmkfjpcbgaaDoorW.PrintWords Go.Proofs.YtelngmkfjpcbgaaDoorW.PrintLast
theorem seg_drop (l : List ByteArray) {x y : Nat} (h : x ≤ y) (hy : y ≤ l.length) : seg l x y ++ l.drop y = l.drop x := by
 unfold seg;(have e : l.drop x = (l.take y ++ l.drop y).drop x := by rw [List.take_append_drop]);rw [e, List.drop_append_of_le_length (by rw [List.length_take];omega)]
theorem sides_app (n : Int) (x y : List CK) : sides n (x ++ y) = sides n x ++ sides n y := by
 unfold sides;rw [List.map_append, List.flatten_append]
theorem sides_pt1 (b o t : List ByteArray) : sides 0 (pt1 b o t) = b ∧ sides 1 (pt1 b o t) = o ∧ sides 2 (pt1 b o t) = t := by
 unfold pt1;split;rotate_left;(·refine ⟨?_, ?_, ?_⟩ <;> simp [sides, sideK, mkc]);rename_i h;have h1 : b = [] := List.eq_nil_of_length_eq_zero (by omega);have h2 : o = [] := List.eq_nil_of_length_eq_zero (by omega);have h3 : t = [] := List.eq_nil_of_length_eq_zero (by omega);subst h1 h2 h3;exact ⟨rfl, rfl, rfl⟩
section
variable {b o t : List ByteArray} {p q : List Int}
theorem chk_sides (hp : PI p b.length o.length) (hq : PI q b.length t.length) : ∀ (d a i j : Nat), a ≤ b.length → b.length < d + a → Lo p b.length o.length a i → Lo q b.length t.length a j →
    sides 0 (chk b o t p q d a i j) = b.drop a ∧ sides 1 (chk b o t p q d a i j) = o.drop i ∧ sides 2 (chk b o t p q d a i j) = t.drop j := by
 intro d
 induction d with
 | zero => intro a i j ha h;omega
 | succ d ih =>
  intro a i j ha h lo1 lo2;by_cases hl : nx p q (b.length - a) a = b.length;(·rw [chk_last hl];exact sides_pt1 _ _ _);obtain ⟨K, U, V, X, hK, hX, s⟩ := st_of hp hq ha lo1 lo2 hl;obtain ⟨aK, Kn, hU, hV, iU, jV, KX, Xn, Um, Vm, on, off, skip, n1, n2⟩ := s;clear on off skip;obtain ⟨M, rfl⟩ : ∃ M, X = K + M := ⟨X - K, by omega⟩;(have eM : K + M - K = M := by omega);rw [chk_step hK (by omega) hU hV hX];clear hK hX hU hV hl;rw [eM] at Um Vm n1 n2 ⊢;obtain ⟨e0, e1, e2⟩ := ih (K + M) (U + M) (V + M) Xn (by omega) n1 n2;obtain ⟨f0, f1, f2⟩ := sides_pt1 (seg b a K) (seg o i U) (seg t j V);obtain ⟨g0, g1, g2⟩ := sides_pt1 (seg b K (K + M)) (seg o U (U + M)) (seg t V (V + M));refine ⟨?_, ?_, ?_⟩;(·rw [sides_app, sides_app, e0, f0, g0, seg_drop b (by omega) Xn, seg_drop b aK (by omega)]);(·rw [sides_app, sides_app, e1, f1, g1, seg_drop o (by omega) Um, seg_drop o iU (by omega)]);rw [sides_app, sides_app, e2, f2, g2, seg_drop t (by omega) Vm, seg_drop t jV (by omega)]
theorem chk_len (hp : PI p b.length o.length) (hq : PI q b.length t.length) : ∀ (d a i j : Nat), a ≤ b.length → b.length < d + a → Lo p b.length o.length a i → Lo q b.length t.length a j → (chk b o t p q d a i j).length + 2 * a ≤ 2 * b.length + 1 := by
 intro d
 induction d with
 | zero => intro a i j ha h;omega
 | succ d ih =>
  intro a i j ha h lo1 lo2;by_cases hl : nx p q (b.length - a) a = b.length;(·rw [chk_last hl];have := pt1_len (b.drop a) (o.drop i) (t.drop j);omega);obtain ⟨K, U, V, X, hK, hX, s⟩ := st_of hp hq ha lo1 lo2 hl;obtain ⟨aK, Kn, hU, hV, iU, jV, KX, Xn, Um, Vm, on, off, skip, n1, n2⟩ := s;clear on off skip;rw [chk_step hK (by omega) hU hV hX, List.length_append, List.length_append];clear hK hX hU hV hl;have h1 := pt1_len (seg b a K) (seg o i U) (seg t j V);have h2 := pt1_len (seg b K X) (seg o U (U + (X - K))) (seg t V (V + (X - K)));have h3 := ih X (U + (X - K)) (V + (X - K)) Xn (by omega) n1 n2;omega
def RK (c : CK) : Prop := c.f0 = kindK c.f1 c.f2 c.f3 ∧ ¬ c.f1.length + c.f2.length + c.f3.length = 0
theorem pt1_RK (b o t : List ByteArray) : ∀ c ∈ pt1 b o t, RK c := by
 intro c hc;unfold pt1 at hc;split at hc;(·exact absurd hc (by simp));rename_i h;rw [List.mem_singleton] at hc;subst hc;exact ⟨rfl, h⟩
theorem chk_RK : ∀ (d a i j : Nat), ∀ c ∈ chk b o t p q d a i j, RK c := by
 intro d
 induction d with
 | zero => intro a i j c hc;exact absurd hc (by simp [chk])
 | succ d ih =>
  intro a i j c hc;rw [chk] at hc;split at hc;(·exact pt1_RK _ _ _ c hc);(rcases List.mem_append.1 hc with hc | hc);(·exact pt1_RK _ _ _ c hc);(rcases List.mem_append.1 hc with hc | hc);(·exact pt1_RK _ _ _ c hc);exact ih _ _ _ c hc
def swp (c : CK) : CK := mkc c.f1 c.f3 c.f2
theorem pt1_swp (b o t : List ByteArray) : (pt1 b o t).map swp = pt1 b t o := by
 unfold pt1;by_cases h : b.length + o.length + t.length = 0;(·rw [if_pos h, if_pos (by omega)];rfl);rw [if_neg h, if_neg (by omega)];rfl
theorem nx_comm (p q : List Int) : ∀ (d k : Nat), nx p q d k = nx q p d k := by
 intro d
 induction d with
 | zero => intro k;rfl
 | succ d ih =>
  intro k;rw [nx, nx, ih];by_cases h : 0 ≤ pg p k ∧ 0 ≤ pg q k;(·rw [if_pos h, if_pos ⟨h.2, h.1⟩]);rw [if_neg h, if_neg (fun e => h ⟨e.2, e.1⟩)]
theorem rn_comm (p q : List Int) (k0 u v : Nat) : ∀ (d k : Nat), rn p q k0 u v d k = rn q p k0 v u d k := by
 intro d
 induction d with
 | zero => intro k;rfl
 | succ d ih =>
  intro k;rw [rn, rn, ih];by_cases h : pg p k = ((u + (k - k0) : Nat) : Int) ∧ pg q k = ((v + (k - k0) : Nat) : Int);(·rw [if_pos h, if_pos ⟨h.2, h.1⟩]);rw [if_neg h, if_neg (fun e => h ⟨e.2, e.1⟩)]
theorem chk_swp : ∀ (d a i j : Nat), (chk b o t p q d a i j).map swp = chk b t o q p d a j i := by
 intro d
 induction d with
 | zero => intro a i j;rfl
 | succ d ih =>
  intro a i j;rw [chk, chk, nx_comm q p];by_cases h : nx p q (b.length - a) a = b.length;(·rw [if_pos h, if_pos h, pt1_swp]);rw [if_neg h, if_neg h];simp only [List.map_append, pt1_swp, ih];rw [rn_comm p q]
end
theorem CHK_sides (b o t : List ByteArray) : sides 0 (CHK b o t) = b ∧ sides 1 (CHK b o t) = o ∧ sides 2 (CHK b o t) = t := by
 have := chk_sides (PT_PI b o) (PT_PI b t) (b.length + 1) 0 0 0 (by omega) (by omega) (lo_start _ _ _) (lo_start _ _ _);rw [List.drop_zero, List.drop_zero, List.drop_zero] at this;exact this
theorem CHK_len (b o t : List ByteArray) : (CHK b o t).length ≤ 2 * b.length + 1 := by
 have := chk_len (PT_PI b o) (PT_PI b t) (b.length + 1) 0 0 0 (by omega) (by omega) (lo_start _ _ _) (lo_start _ _ _);exact this
theorem CHK_RK (b o t : List ByteArray) : ∀ c ∈ CHK b o t, RK c := chk_RK _ _ _ _
theorem CHK_swp (b o t : List ByteArray) : (CHK b o t).map swp = CHK b t o := chk_swp _ _ _ _
theorem kw_sides : ∀ l : List CK, kw l = lw (sides 0 l) + lw (sides 1 l) + lw (sides 2 l) := by
 intro l
 induction l with
 | nil => simp [kw, sides, lw, total]
 | cons c l ih =>
  rw [sides_cons, sides_cons, sides_cons, lw_append, lw_append, lw_append, kw, ih];have e0 : sideK 0 c = c.f1 := rfl;have e1 : sideK 1 c = c.f2 := rfl;have e2 : sideK 2 c = c.f3 := rfl;rw [e0, e1, e2];omega
theorem mem_sides {l : List CK} {c : CK} (hc : c ∈ l) (n : Int) {a : ByteArray} (ha : a ∈ sideK n c) : a ∈ sides n l := by
 unfold sides;exact List.mem_flatten.2 ⟨_, List.mem_map.2 ⟨c, hc, rfl⟩, ha⟩
theorem CHK_small {b o t : List ByteArray} (hb : Small b) (ho : Small o) (ht : Small t) (hw : lw b + lw o + lw t ≤ 1048576) (hn : b.length ≤ 1000) : SmallK (CHK b o t) := by
 obtain ⟨s0, s1, s2⟩ := CHK_sides b o t;refine ⟨fun c hc => ⟨fun a ha => ?_, fun a ha => ?_, fun a ha => ?_⟩, ?_, ?_⟩;(·exact hb.1 a (by rw [← s0];exact mem_sides hc 0 ha));(·exact ho.1 a (by rw [← s1];exact mem_sides hc 1 ha));(·exact ht.1 a (by rw [← s2];exact mem_sides hc 2 ha));(·have := CHK_len b o t;omega);rw [kw_sides, s0, s1, s2];exact hw
end Go.Proofs.YtelngmkfjpcbgaaDoor.P
end
section
set_option linter.unusedVariables false
set_option linter.unusedSimpArgs false
namespace Go.Proofs.YtelngmkfjpcbgaaDoor.P
open Go.RowKit Go.Proofs.YtelngmkfjpcbgaaDoorW.PrintWords Go.Proofs.YtelngmkfjpcbgaaDoorW.PrintLast
def ofL (l : List UInt8) : ByteArray := ⟨l.toArray⟩
theorem ofL_size (l : List UInt8) : (ofL l).size = l.length := by simp [ofL, ByteArray.size]
theorem ofL_data (l : List UInt8) : (ofL l).data.toList = l := by simp [ofL]
theorem ofL_of (s : ByteArray) : ofL s.data.toList = s := by cases s;simp [ofL]
theorem ofL_app (a b : List UInt8) : ofL a ++ ofL b = ofL (a ++ b) := by
 apply data_eq.1;rw [ByteArray.toList_eq, ByteArray.toList_eq];simp [ofL]
theorem total_mem : ∀ {xs : List ByteArray} {x : ByteArray}, x ∈ xs → x.size ≤ total xs := by
 intro xs
 induction xs with
 | nil => intro x h;exact absurd h (by simp)
 | cons y l ih =>
  intro x h;simp only [total];(rcases List.mem_cons.1 h with rfl | h);(·omega);have := ih h;omega
def wholeL (x : List UInt8) : List UInt8 := if Lib.hasSuffix x [10] then x else x ++ [10]
def wlL : List ByteArray → List UInt8
  | [] => []
  | x :: l => wholeL x.data.toList ++ wlL l
theorem wholeL_len (x : List UInt8) : (wholeL x).length ≤ x.length + 1 := by
 unfold wholeL;split <;> simp
theorem wlL_len : ∀ l : List ByteArray, (wlL l).length ≤ total l + l.length := by
 intro l
 induction l with
 | nil => simp [wlL]
 | cons x l ih =>
  have := wholeL_len x.data.toList;rw [size_data] at this;simp only [wlL, total, List.length_append, List.length_cons];omega
theorem iwhole_tells {x : ByteArray} (hs : x.size < 9223372036854775807) : impl_whole.f x = some (ofL (wholeL x.data.toList)) := by
 unfold impl_whole.f;rw [isWhole_tells x (by omega)];show (if Lib.hasSuffix x.data.toList [10] = true then some x else (if x.size + 1 ≤ 9223372036854775807 then (some (x ++ (⟨#[10]⟩ : ByteArray))) else (none))) = _;unfold wholeL;by_cases h : Lib.hasSuffix x.data.toList [10] = true;(·rw [if_pos h, if_pos h, ofL_of]);rw [if_neg h, if_neg h, if_pos (by omega)];rw [← ofL_app, ofL_of];rfl
theorem iwl_loop {xs : List ByteArray} (hs : Small xs) : ∀ (d i : Nat) (acc : List UInt8), xs.length - i = d → i ≤ xs.length → acc.length + (wlL (xs.drop i)).length ≤ 140737488355328 →
    Ev (fun k => impl_wholeLines.l0 k xs acc (i : Int)) (ofL (acc ++ wlL (xs.drop i))) := by
 have hl := hs.2.1;intro d
 induction d with
 | zero =>
  intro i acc hd hi ha;refine Ev.step (fun k => by rw [impl_wholeLines.l0]) (Ev_neg (by omega) (Ev_val ?_));rw [List.drop_eq_nil_of_le (by omega), wlL, List.append_nil];rfl
 | succ d ih =>
  intro i acc hd hi ha;(have hlt : i < xs.length := by omega);rw [drop_at hlt] at ha ⊢;simp only [wlL, List.length_append] at ha;have hx := total_mem (List.getElem_mem hlt);have ht := hs.2.2;have nx := ih (i + 1) (acc ++ wholeL xs[i].data.toList) (by omega) (by omega) (by rw [List.length_append];omega);refine Ev.step (fun k => by rw [impl_wholeLines.l0]) (Ev_pos (by omega) (Ev_pos (by omega) ?_));rw [rd_nat _ hlt, wsucc hlt (by omega)];refine Ev_const (iwhole_tells (by omega)) (Ev_pos (by rw [ofL_size];omega) ?_);rw [ofL_data];refine Ev_eq nx ?_;simp only [wlL, List.append_assoc]
theorem iwl_tells {xs : List ByteArray} (hs : Small xs) : Ev (fun k => impl_wholeLines.f k xs) (ofL (wlL xs)) := by
 unfold impl_wholeLines.f;have h1 := wlL_len xs;have h2 := hs.2;have := iwl_loop hs _ 0 [] rfl (by omega) (by simp;omega);exact this
theorem last_byte {x : ByteArray} (h : x.size ≠ 0) (hm : x.size ≤ 9223372036854775807) : bt x (wrap64 ((x.size : Int) - 1)) = 10 ↔ Lib.hasSuffix x.data.toList [10] = true := by
 have e0 : x.data.toList.length = x.size := size_data x;rw [wid (by omega) (by omega), show (x.size : Int) - 1 = ((x.size - 1 : Nat) : Int) by omega, bt_nat (by omega), suffix_last];(have hne : x.data.toList ≠ [] := fun e => h (by rw [← e0, e];rfl));have e := List.dropLast_concat_getLast hne;(have hg : x.data.toList[x.size - 1]'(by omega) = x.data.toList.getLast hne := by rw [List.getLast_eq_getElem];congr 1);rw [hg];constructor;(·intro h2;have h3 : x.data.toList.getLast hne = 10 := UInt8.toNat_inj.1 (by show _ = 10;omega);exact ⟨x.data.toList.dropLast, by rw [← h3];exact e.symm⟩);rintro ⟨r, h2⟩;(have h3 : x.data.toList.getLast hne = 10 := by simp [h2]);rw [h3];rfl
theorem sel_loop {xs : List ByteArray} (hs : Small xs) (hn : ∀ x ∈ xs, x.data.toList ≠ []) : ∀ (d i : Nat) (s : ByteArray), xs.length - i = d → i ≤ xs.length → s.size + (wlL (xs.drop i)).length ≤ 140737488355328 →
    Ev (fun k => spec_l4Ended.l0 k xs s (i : Int)) (ofL (s.data.toList ++ wlL (xs.drop i))) := by
 have hl := hs.2.1;intro d
 induction d with
 | zero =>
  intro i s hd hi ha;refine Ev.step (fun k => by rw [spec_l4Ended.l0]) (Ev_neg (by omega) (Ev_val ?_));rw [List.drop_eq_nil_of_le (by omega), wlL, List.append_nil, ofL_of]
 | succ d ih =>
  intro i s hd hi ha;(have hlt : i < xs.length := by omega);have hx := total_mem (List.getElem_mem hlt);have ht := hs.2.2;(have h0 : xs[i].size ≠ 0 := fun e => hn xs[i] (List.getElem_mem hlt) (by apply List.eq_nil_of_length_eq_zero;rw [size_data];exact e));have hb := last_byte h0 (by omega);have hle : xs[i].data.toList.length = xs[i].size := size_data _;rw [drop_at hlt] at ha ⊢;simp only [wlL, List.length_append] at ha;refine Ev.step (fun k => by rw [spec_l4Ended.l0]) (Ev_pos (by omega) (Ev_pos (by omega) ?_));rw [rd_nat _ hlt, wsucc hlt (by omega)];have h1 : (wrap64 ((xs[i].size : Int) - 1)) = (xs[i].size : Int) - 1 := wid (by omega) (by omega);(have hw : s.size + xs[i].size ≤ 9223372036854775807 := by unfold wholeL at ha;split at ha;(·omega);rw [List.length_append] at ha;omega);refine Ev_pos hw (Ev_pos (by omega) (Ev_pos (by omega) (Ev_if (fun hc => ?_) (fun hc => ?_))));(·have hq := hb.1 hc;(have ew : wholeL xs[i].data.toList = xs[i].data.toList := by unfold wholeL;rw [if_pos hq]);rw [ew] at ha;have nx := ih (i + 1) (s ++ xs[i]) (by omega) (by omega) (by rw [ByteArray.size_append];omega);refine Ev_eq nx ?_;rw [wlL, ew, ByteArray.data_append, Array.toList_append, List.append_assoc]);(have hq : ¬ Lib.hasSuffix xs[i].data.toList [10] = true := fun e => hc (hb.2 e));(have ew : wholeL xs[i].data.toList = xs[i].data.toList ++ [10] := by unfold wholeL;rw [if_neg hq]);rw [ew, List.length_append] at ha;have nx := ih (i + 1) ((s ++ xs[i]) ++ (⟨#[10]⟩ : ByteArray)) (by omega) (by omega) (by rw [ByteArray.size_append, ByteArray.size_append];have e1 : (⟨#[10]⟩ : ByteArray).size = 1 := rfl;simp only [List.length_singleton] at ha;omega);refine Ev_pos (by rw [ByteArray.size_append];simp only [List.length_singleton] at ha;omega) (Ev_eq nx ?_);rw [wlL, ew, ByteArray.data_append, ByteArray.data_append, Array.toList_append, Array.toList_append];simp only [List.append_assoc]
theorem sel_tells {xs : List ByteArray} (hs : Small xs) (hn : ∀ x ∈ xs, x.data.toList ≠ []) : Ev (fun k => spec_l4Ended.f k xs) (ofL (wlL xs)) := by
 unfold spec_l4Ended.f;have h1 := wlL_len xs;have h2 := hs.2;have := sel_loop hs hn _ 0 (⟨#[]⟩ : ByteArray) rfl (by omega) (by have e1 : (⟨#[]⟩ : ByteArray).size = 0 := rfl;simp only [List.drop_zero];omega);exact this
def clashB (o b t : List ByteArray) : ByteArray := ((((((⟨#[60, 60, 60, 60, 60, 60, 60, 10]⟩ : ByteArray) ++ ofL (wlL o)) ++ (⟨#[124, 124, 124, 124, 124, 124, 124, 10]⟩ : ByteArray)) ++ ofL (wlL b)) ++ (⟨#[61, 61, 61, 61, 61, 61, 61, 10]⟩ : ByteArray)) ++ ofL (wlL t)) ++ (⟨#[62, 62, 62, 62, 62, 62, 62, 10]⟩ : ByteArray)
theorem wl_bound {xs : List ByteArray} (hs : Small xs) : (ofL (wlL xs)).size ≤ 2097152 := by
 rw [ofL_size];have := wlL_len xs;have := hs.2;omega
theorem sz60 : (⟨#[60, 60, 60, 60, 60, 60, 60, 10]⟩ : ByteArray).size = 8 := rfl
theorem sz124 : (⟨#[124, 124, 124, 124, 124, 124, 124, 10]⟩ : ByteArray).size = 8 := rfl
theorem sz61 : (⟨#[61, 61, 61, 61, 61, 61, 61, 10]⟩ : ByteArray).size = 8 := rfl
theorem iclash_tells (a : Int) {b o t : List ByteArray} (hb : Small b) (ho : Small o) (ht : Small t) : Ev (fun k => impl_clashText.f k a b o t) (clashB o b t) := by
 have w1 := wl_bound ho;have w2 := wl_bound hb;have w3 := wl_bound ht;unfold impl_clashText.f;refine Ev_call (iwl_tells ho) (Ev_pos (by omega) (Ev_pos ?_ (Ev_call (iwl_tells hb) (Ev_pos ?_ (Ev_pos ?_ (Ev_call (iwl_tells ht) (Ev_pos ?_ (Ev_pos ?_ (Ev.now _)))))))))
 all_goals
   simp only [ByteArray.size_append, sz60, sz124, sz61]
   omega
theorem sclash_tells (a : Int) {b o t : List ByteArray} (hb : Small b) (ho : Small o) (ht : Small t) (nb : ∀ x ∈ b, x.data.toList ≠ []) (no : ∀ x ∈ o, x.data.toList ≠ []) (nt : ∀ x ∈ t, x.data.toList ≠ []) : Ev (fun k => spec_l4Clash.f k a b o t) (clashB o b t) := by
 have w1 := wl_bound ho;have w2 := wl_bound hb;have w3 := wl_bound ht;unfold spec_l4Clash.f;refine Ev_call (sel_tells ho no) (Ev_pos (by omega) (Ev_pos ?_ (Ev_call (sel_tells hb nb) (Ev_pos ?_ (Ev_pos ?_ (Ev_call (sel_tells ht nt) (Ev_pos ?_ (Ev_pos ?_ (Ev.now _)))))))))
 all_goals
   simp only [ByteArray.size_append, sz60, sz124, sz61]
   omega
def TF (a0 : ByteArray) : Int := if (a0.size : Int) > 2000 then 2 else if ((LNB a0).length : Int) > 100 then 2 else 0
theorem stf_tells (a0 : ByteArray) (hs : a0.size ≤ 1048576) : Ev (fun k => spec_TextFault.f k a0) (TF a0) := by
 unfold spec_TextFault.f TF;refine Ev_if (fun h1 => by rw [if_pos h1];exact Ev.now _) (fun h1 => ?_);rw [if_neg h1];refine Ev_call (split_tells a0 hs) (Ev_if (fun h2 => by rw [if_pos h2];exact Ev.now _) (fun h2 => by rw [if_neg h2];exact Ev.now _))
theorem itf_tells (a0 : ByteArray) (hs : a0.size ≤ 1048576) : impl_TextFault.f a0 = some (TF a0) := by
 unfold impl_TextFault.f TF;by_cases h1 : (a0.size : Int) > 2000;(·rw [if_pos h1, if_pos h1]);rw [if_neg h1, if_neg h1, linesOf_tells a0 hs];by_cases h2 : ((LNB a0).length : Int) > 100;(·rw [if_pos h2];exact if_pos h2);rw [if_neg h2];exact if_neg h2
def en (x : List UInt8) : Prop := Lib.hasSuffix x [10] = true
instance (x : List UInt8) : Decidable (en x) := by unfold en;infer_instance
theorem en_iff (x : List UInt8) : en x ↔ ∃ r, x = r ++ [10] := suffix_last x
theorem en_app {x y : List UInt8} (h : en y) : en (x ++ y) := by
 obtain ⟨r, rfl⟩ := (en_iff y).1 h;exact (en_iff _).2 ⟨x ++ r, by rw [List.append_assoc]⟩
theorem en_nil : ¬ en [] := fun h => by
  obtain ⟨r, e⟩ := (en_iff _).1 h
  simp at e
theorem en_app_iff {x y : List UInt8} (hy : y ≠ []) : en (x ++ y) ↔ en y := by
 constructor;rotate_left;(·exact en_app);intro h;obtain ⟨r, e⟩ := (en_iff _).1 h;obtain ⟨z, w, rfl⟩ : ∃ z w, y = z ++ [w] := ⟨y.dropLast, y.getLast hy, (List.dropLast_concat_getLast hy).symm⟩;rw [← List.append_assoc] at e;have := List.append_inj' e rfl;exact (en_iff _).2 ⟨z, by rw [this.2]⟩
theorem wholeL_en {x : List UInt8} (h : en x) : wholeL x = x := by
 unfold wholeL;exact if_pos h
def fin : List ByteArray → List UInt8
  | [] => []
  | [x] => x.data.toList
  | x :: y :: l => wholeL x.data.toList ++ fin (y :: l)
theorem fin_cons (x : ByteArray) {l : List ByteArray} (h : l ≠ []) : fin (x :: l) = wholeL x.data.toList ++ fin l := by
 cases l with
 | nil => exact absurd rfl h
 | cons y l => rfl
theorem fin_app (x : List ByteArray) {y : List ByteArray} (h : y ≠ []) : fin (x ++ y) = wlL x ++ fin y := by
 induction x with
 | nil => rfl
 | cons a x ih =>
  rw [List.cons_append, fin_cons _ (by simp [h]), ih, wlL, List.append_assoc]
theorem fin_last (x : List ByteArray) (y : ByteArray) : fin (x ++ [y]) = wlL x ++ y.data.toList := fin_app x (by simp)
theorem fin_en : ∀ {x : List ByteArray}, (∀ a ∈ x, en a.data.toList) → fin x = wlL x ∧ wlL x = (x.map (·.data.toList)).flatten := by
 intro x
 induction x with
 | nil => intro _;exact ⟨rfl, rfl⟩
 | cons a x ih =>
  intro h;obtain ⟨h1, h2⟩ := ih (fun b hb => h b (by simp [hb]));have ha := wholeL_en (h a (by simp));refine ⟨?_, ?_⟩;rotate_left;(·rw [wlL, ha, h2, List.map_cons, List.flatten_cons]);by_cases e : x = [];rotate_left;(·rw [fin_cons _ e, h1, wlL]);subst e;show a.data.toList = _;rw [wlL, ha, wlL, List.append_nil]
theorem lines_en : ∀ (l cur : List UInt8), (l = [] → cur = []) → (l ≠ [] → en l) → ∀ x ∈ linesL cur l, en x := by
 intro l
 induction l with
 | nil =>
  intro cur h _ x hx;rw [linesL, if_pos (h rfl)] at hx;exact absurd hx (by simp)
 | cons b l ih =>
  intro cur _ h2 x hx;have he := h2 (by simp);rw [linesL] at hx;(have hl : l ≠ [] → en l := fun hn => by rw [show b :: l = [b] ++ l from rfl, en_app_iff hn] at he;exact he);by_cases hb : b = 10;(·rw [if_pos hb] at hx;(rcases List.mem_cons.1 hx with rfl | hx);(·exact (en_iff _).2 ⟨cur, by rw [hb]⟩);exact ih [] (fun _ => rfl) hl x hx);rw [if_neg hb] at hx;refine ih _ (fun e => ?_) hl x hx;subst e;obtain ⟨r, e2⟩ := (en_iff _).1 he
  cases r with
  | nil => exact absurd (by simpa using e2) hb
  | cons z r => exact absurd (congrArg List.length e2) (by simp)
theorem LNB_en {s : ByteArray} (h : en s.data.toList) : fin (LNB s) = s.data.toList ∧ wlL (LNB s) = s.data.toList := by
 (have h1 : ∀ a ∈ LNB s, en a.data.toList := by intro a ha;obtain ⟨x, hx, rfl⟩ := List.mem_map.1 ha;rw [data_toB];exact lines_en _ [] (fun _ => rfl) (fun _ => h) x hx);obtain ⟨e1, e2⟩ := fin_en h1;(have e3 : ((LNB s).map (·.data.toList)).flatten = s.data.toList := by rw [← flatB, LNB_join]);exact ⟨by rw [e1, e2, e3], by rw [e2, e3]⟩
theorem lines_none (l cur : List UInt8) (h : linesL cur l = []) : cur = [] ∧ l = [] := by
 have := lines_total cur l;rw [h] at this;exact List.append_eq_nil_iff.1 this.symm
theorem fin_lines : ∀ (l cur : List UInt8), fin ((linesL cur l).map toB) = cur ++ l := by
 intro l
 induction l with
 | nil =>
  intro cur;rw [linesL];split;(·rename_i h;rw [h];rfl);show (toB cur).data.toList = _;rw [data_toB, List.append_nil]
 | cons b l ih =>
  intro cur;rw [linesL];by_cases hb : b = 10;rotate_left;(·rw [if_neg hb, ih];simp);rw [if_pos hb, List.map_cons];by_cases e : linesL [] l = [];rotate_left;(·rw [fin_cons _ (by simpa using e), ih, data_toB, wholeL_en ((en_iff _).2 ⟨cur, by rw [hb]⟩)];simp);have := (lines_none _ _ e).2;subst this;show (toB (cur ++ [b])).data.toList = _;rw [data_toB]
theorem fin_LNB (s : ByteArray) : fin (LNB s) = s.data.toList := fin_lines _ []
def pl (c : CK) : List ByteArray := if c.f0 = 2 then c.f3 else if c.f0 = 4 then [clashB c.f2 c.f1 c.f3] else c.f2
def ml (c : CK) : List ByteArray := if c.f0 = 2 then c.f3 else if c.f0 = 4 then LNB (clashB c.f2 c.f1 c.f3) else c.f2
def PLS (l : List CK) : List ByteArray := (l.map pl).flatten
def MLS (l : List CK) : List ByteArray := (l.map ml).flatten
theorem PLS_cons (c : CK) (l : List CK) : PLS (c :: l) = pl c ++ PLS l := rfl
theorem MLS_cons (c : CK) (l : List CK) : MLS (c :: l) = ml c ++ MLS l := rfl
theorem clash_en (o b t : List ByteArray) : en (clashB o b t).data.toList := by
 refine (en_iff _).2 ⟨(((((((⟨#[60, 60, 60, 60, 60, 60, 60, 10]⟩ : ByteArray) ++ ofL (wlL o)) ++ (⟨#[124, 124, 124, 124, 124, 124, 124, 10]⟩ : ByteArray)) ++ ofL (wlL b)) ++ (⟨#[61, 61, 61, 61, 61, 61, 61, 10]⟩ : ByteArray)) ++ ofL (wlL t)) ++ (⟨#[62, 62, 62, 62, 62, 62, 62]⟩ : ByteArray)).data.toList, ?_⟩;unfold clashB;generalize ((((((⟨#[60, 60, 60, 60, 60, 60, 60, 10]⟩ : ByteArray) ++ ofL (wlL o)) ++ (⟨#[124, 124, 124, 124, 124, 124, 124, 10]⟩ : ByteArray)) ++ ofL (wlL b)) ++ (⟨#[61, 61, 61, 61, 61, 61, 61, 10]⟩ : ByteArray)) ++ ofL (wlL t)) = x;rw [ByteArray.data_append, Array.toList_append, ByteArray.data_append, Array.toList_append, List.append_assoc];rfl
theorem clash_pos (o b t : List ByteArray) : (clashB o b t).data.toList ≠ [] := fun e => en_nil (e ▸ clash_en o b t)
theorem LNB_none {s : ByteArray} (h : LNB s = []) : s.data.toList = [] := (lines_none _ _ (List.map_eq_nil_iff.1 h)).2
theorem pl_ml (c : CK) : wlL (pl c) = wlL (ml c) ∧ fin (pl c) = fin (ml c) ∧ (pl c = [] ↔ ml c = []) := by
 unfold pl ml;split;(·exact ⟨rfl, rfl, Iff.rfl⟩);split;rotate_left;(·exact ⟨rfl, rfl, Iff.rfl⟩);obtain ⟨h1, h2⟩ := LNB_en (clash_en c.f2 c.f1 c.f3);refine ⟨?_, ?_, ?_⟩;(·rw [h2, wlL, wlL, wholeL_en (clash_en _ _ _), List.append_nil]);(·rw [h1];rfl);exact ⟨fun e => absurd e (by simp), fun e => absurd (LNB_none e) (clash_pos _ _ _)⟩
theorem PLS_MLS : ∀ l : List CK, fin (PLS l) = fin (MLS l) ∧ (PLS l = [] ↔ MLS l = []) := by
 intro l
 induction l with
 | nil => exact ⟨rfl, Iff.rfl⟩
 | cons c l ih =>
  obtain ⟨w, f, e⟩ := pl_ml c;rw [PLS_cons, MLS_cons, List.append_eq_nil_iff, List.append_eq_nil_iff, e, ih.2];refine ⟨?_, Iff.rfl⟩;by_cases h : PLS l = [];(·rw [h, ih.2.1 h, List.append_nil, List.append_nil, f]);rw [fin_app _ h, fin_app _ (fun q => h (ih.2.2 q)), w, ih.1]
def MTX (l : List CK) : ByteArray := ofL (fin (PLS l))
theorem fin_len : ∀ l : List ByteArray, (fin l).length ≤ lw l := by
 intro l
 induction l with
 | nil => simp [fin]
 | cons x l ih =>
  by_cases h : l = [];(·subst h;show x.data.toList.length ≤ _;rw [size_data];unfold lw;simp only [total];omega);rw [fin_cons _ h, List.length_append];have := wholeL_len x.data.toList;rw [size_data] at this;unfold lw at ih ⊢;simp only [total, List.length_cons];omega
theorem pl_ours {c : CK} (h : RK c) (e : c.f1 = c.f3) : pl c = c.f2 ∧ c.f0 ≠ 4 := by
 have h0 := h.1;unfold pl;rw [e] at h0;unfold kindK at h0;by_cases h1 : c.f3 = c.f2;(·rw [if_pos ⟨h1, rfl⟩] at h0;rw [if_neg (by omega), if_neg (by omega)];exact ⟨rfl, by omega⟩);rw [if_neg (fun q => h1 q.1), if_pos rfl] at h0;rw [if_neg (by omega), if_neg (by omega)];exact ⟨rfl, by omega⟩
theorem pl_theirs {c : CK} (h : RK c) (e : c.f1 = c.f2) : pl c = c.f3 ∧ c.f0 ≠ 4 := by
 have h0 := h.1;unfold pl;rw [e] at h0;unfold kindK at h0;by_cases h1 : c.f2 = c.f3;(·rw [if_pos ⟨rfl, h1⟩] at h0;rw [if_neg (by omega), if_neg (by omega)];exact ⟨h1, by omega⟩);rw [if_neg (fun q => h1 q.2), if_neg h1, if_pos rfl] at h0;rw [if_pos h0];exact ⟨rfl, by omega⟩
theorem pl_both {c : CK} (h : RK c) (e : c.f2 = c.f3) : pl c = c.f2 ∧ c.f0 ≠ 4 := by
 have h0 := h.1;unfold pl;rw [e] at h0;unfold kindK at h0;by_cases h1 : c.f1 = c.f3;(·rw [if_pos ⟨h1, h1⟩] at h0;rw [if_neg (by omega), if_neg (by omega)];exact ⟨rfl, by omega⟩);rw [if_neg (fun q => h1 q.1), if_neg h1, if_neg h1, if_pos rfl] at h0;rw [if_neg (by omega), if_neg (by omega)];exact ⟨rfl, by omega⟩
theorem mt_self : ∀ (a : List ByteArray) (i : Nat), (mt a a i i).1 = (mt a a i i).2 ∧ (mt a a i i).1 = (List.range' i a.length).map (fun n : Nat => (n : Int)) := by
 intro a
 induction a with
 | nil => intro i;rw [mt_nil];exact ⟨rfl, rfl⟩
 | cons x a ih =>
  intro i;rw [mt, if_pos rfl];obtain ⟨h1, h2⟩ := ih (i + 1);refine ⟨by rw [h1], ?_⟩;rw [h2, List.length_cons, List.range'_succ, List.map_cons]
theorem pset_self : ∀ (n : Nat) (P : List Int), (∀ k, k < P.length → pg P k = (k : Int)) → ∀ k, k < P.length + n → pg (pset (P ++ List.replicate n (-1)) ((List.range' P.length n).map (fun n : Nat => (n : Int))) ((List.range' P.length n).map (fun n : Nat => (n : Int)))) k = (k : Int) := by
 intro n
 induction n with
 | zero =>
  intro P h k hk;rw [List.replicate_zero, List.append_nil];exact h k hk
 | succ n ih =>
  intro P h k hk;rw [List.range'_succ, List.map_cons, pset, Int.toNat_natCast, List.replicate_succ];(have e : (P ++ -1 :: List.replicate n (-1)).set P.length (P.length : Int) = (P ++ [(P.length : Int)]) ++ List.replicate n (-1) := by rw [List.set_append_right _ _ (Nat.le_refl _), Nat.sub_self, List.append_assoc];rfl);rw [e];have := ih (P ++ [(P.length : Int)]) (fun k hk => ?_) k (by rw [List.length_append];simp only [List.length_singleton];omega);(·rw [List.length_append] at this;exact this);rw [List.length_append, List.length_singleton] at hk;unfold pg;rw [List.getD_eq_getElem?_getD];by_cases hlt : k < P.length;rotate_left;(·(have : k = P.length := by omega);subst this;simp);rw [List.getElem?_append_left hlt];have := h k hlt;unfold pg at this;rw [List.getD_eq_getElem?_getD] at this;exact this
theorem PT_self (b : List ByteArray) : ∀ k, k < b.length → pg (PT b b) k = (k : Int) := by
 intro k hk;unfold PT;obtain ⟨h1, h2⟩ := mt_self b 0;rw [← h1, h2];have := pset_self b.length [] (fun k hk => absurd hk (by simp)) k (by simpa using hk);simpa using this
theorem chk_ours {b o : List ByteArray} {p q : List Int} (hq : ∀ k, k < b.length → pg q k = (k : Int)) : ∀ (d a i : Nat), a ≤ b.length → ∀ c ∈ chk b o b p q d a i a, c.f1 = c.f3 := by
 (have one : ∀ (x y : List ByteArray), ∀ c ∈ pt1 x y x, c.f1 = c.f3 := by intro x y c hc;unfold pt1 at hc;split at hc;(·exact absurd hc (by simp));rw [List.mem_singleton.1 hc];rfl);intro d
 induction d with
 | zero => intro a i ha c hc;exact absurd hc (by simp [chk])
 | succ d ih =>
  intro a i ha c hc;obtain ⟨n1, n2, n3, n4⟩ := nx_spec p q (b.length - a) a;rw [chk] at hc;split at hc;(·exact one _ _ c hc);rename_i hn;(have hK : (pg q (nx p q (b.length - a) a)).toNat = nx p q (b.length - a) a := by rw [hq _ (by omega)];omega);simp only [hK] at hc;(rcases List.mem_append.1 hc with hc | hc);(·exact one _ _ c hc);obtain ⟨r1, r2, -, -⟩ := rn_spec p q (nx p q (b.length - a) a) (pg p (nx p q (b.length - a) a)).toNat (nx p q (b.length - a) a) (b.length - nx p q (b.length - a) a) (nx p q (b.length - a) a);rw [show ∀ x y : Nat, x ≤ y → x + (y - x) = y from fun x y h => by omega] at hc;rotate_left;(·exact r1);(rcases List.mem_append.1 hc with hc | hc);(·exact one _ _ c hc);exact ih _ _ (by omega) c hc
theorem chk_both {b o : List ByteArray} {p : List Int} : ∀ (d a i : Nat), ∀ c ∈ chk b o o p p d a i i, c.f2 = c.f3 := by
 (have one : ∀ (x y : List ByteArray), ∀ c ∈ pt1 x y y, c.f2 = c.f3 := by intro x y c hc;unfold pt1 at hc;split at hc;(·exact absurd hc (by simp));rw [List.mem_singleton.1 hc];rfl);intro d
 induction d with
 | zero => intro a i c hc;exact absurd hc (by simp [chk])
 | succ d ih =>
  intro a i c hc;rw [chk] at hc;split at hc;(·exact one _ _ c hc);(rcases List.mem_append.1 hc with hc | hc);(·exact one _ _ c hc);(rcases List.mem_append.1 hc with hc | hc);(·exact one _ _ c hc);exact ih _ _ c hc
theorem PLS_side (n : Int) : ∀ {l : List CK}, (∀ c ∈ l, pl c = sideK n c) → PLS l = sides n l := by
 intro l
 induction l with
 | nil => intro _;rfl
 | cons c l ih =>
  intro h;rw [PLS_cons, sides_cons, h c (by simp), ih (fun x hx => h x (by simp [hx]))]
theorem PLS_ours (b o : List ByteArray) : PLS (CHK b o b) = o ∧ ∀ c ∈ CHK b o b, c.f0 ≠ 4 := by
 have h : ∀ c ∈ CHK b o b, c.f1 = c.f3 := chk_ours (PT_self b) _ 0 0 (by omega);refine ⟨?_, fun c hc => (pl_ours (CHK_RK _ _ _ c hc) (h c hc)).2⟩;rw [PLS_side 1 (fun c hc => (pl_ours (CHK_RK _ _ _ c hc) (h c hc)).1)];exact (CHK_sides b o b).2.1
theorem PLS_theirs (b o : List ByteArray) : PLS (CHK b b o) = o ∧ ∀ c ∈ CHK b b o, c.f0 ≠ 4 := by
 (have h : ∀ c ∈ CHK b b o, c.f1 = c.f2 := by intro c hc;rw [← CHK_swp] at hc;obtain ⟨d, hd, rfl⟩ := List.mem_map.1 hc;have h0 : d.f1 = d.f3 := chk_ours (PT_self b) _ 0 0 (by omega) d hd;exact h0);refine ⟨?_, fun c hc => (pl_theirs (CHK_RK _ _ _ c hc) (h c hc)).2⟩;rw [PLS_side 2 (fun c hc => (pl_theirs (CHK_RK _ _ _ c hc) (h c hc)).1)];exact (CHK_sides b b o).2.2
theorem PLS_both (b o : List ByteArray) : PLS (CHK b o o) = o ∧ ∀ c ∈ CHK b o o, c.f0 ≠ 4 := by
 have h : ∀ c ∈ CHK b o o, c.f2 = c.f3 := chk_both _ 0 0;refine ⟨?_, fun c hc => (pl_both (CHK_RK _ _ _ c hc) (h c hc)).2⟩;rw [PLS_side 1 (fun c hc => (pl_both (CHK_RK _ _ _ c hc) (h c hc)).1)];exact (CHK_sides b o o).2.1
def ccl : List CK → Nat
  | [] => 0
  | c :: l => (if c.f0 = 4 then 1 else 0) + ccl l
theorem ccl_none : ∀ {l : List CK}, (∀ c ∈ l, c.f0 ≠ 4) → ccl l = 0 := by
 intro l
 induction l with
 | nil => intro _;rfl
 | cons c l ih =>
  intro h;rw [ccl, if_neg (h c (by simp)), ih (fun x hx => h x (by simp [hx]))]
theorem MTX_LNB {l : List CK} {s : ByteArray} (h : PLS l = LNB s) : MTX l = s := by
 unfold MTX;rw [h, fin_LNB];exact toB_data s
def Ak (x y : ByteArray) : Prop := x = y ∨ (en x.data.toList ∧ en y.data.toList ∧ x.data.toList.length = y.data.toList.length ∧ x.data.toList.count 10 = y.data.toList.count 10)
inductive Aks : List ByteArray → List ByteArray → Prop
  | nil : Aks [] []
  | cons {x y : ByteArray} {l m : List ByteArray} : Ak x y → Aks l m → Aks (x :: l) (y :: m)
theorem Aks.refl : ∀ l, Aks l l
  | [] => .nil
  | x :: l => .cons (.inl rfl) (Aks.refl l)
theorem Aks.app {a b c d : List ByteArray} (h : Aks a b) (g : Aks c d) : Aks (a ++ c) (b ++ d) := by
 induction h with
 | nil => exact g
 | cons h _ ih => exact .cons h ih
theorem Aks.none {a b : List ByteArray} (h : Aks a b) : a = [] ↔ b = [] := by
 cases h with
 | nil => exact Iff.rfl
 | cons _ _ => exact ⟨fun e => absurd e (by simp), fun e => absurd e (by simp)⟩
theorem Ak.len {x y : ByteArray} (h : Ak x y) : x.data.toList.length = y.data.toList.length ∧ x.data.toList.count 10 = y.data.toList.count 10 ∧ (en x.data.toList ↔ en y.data.toList) ∧ (wholeL x.data.toList).length = (wholeL y.data.toList).length ∧ (wholeL x.data.toList).count 10 = (wholeL y.data.toList).count 10 := by
 (rcases h with rfl | ⟨h1, h2, h3, h4⟩);(·exact ⟨rfl, rfl, Iff.rfl, rfl, rfl⟩);refine ⟨h3, h4, ⟨fun _ => h2, fun _ => h1⟩, ?_, ?_⟩;(·rw [wholeL_en h1, wholeL_en h2, h3]);rw [wholeL_en h1, wholeL_en h2, h4]
theorem pl_pos {c : CK} (h2 : ∀ a ∈ c.f2, a.data.toList ≠ []) (h3 : ∀ a ∈ c.f3, a.data.toList ≠ []) : ∀ x ∈ pl c, x.data.toList ≠ [] := by
 intro x hx;unfold pl at hx;split at hx;(·exact h3 x hx);split at hx;rotate_left;(·exact h2 x hx);rw [List.mem_singleton.1 hx];exact clash_pos _ _ _
theorem PLS_pos {l : List CK} (h : ∀ c ∈ l, (∀ a ∈ c.f2, a.data.toList ≠ []) ∧ (∀ a ∈ c.f3, a.data.toList ≠ [])) : ∀ x ∈ PLS l, x.data.toList ≠ [] := by
 intro x hx;obtain ⟨y, hy, hxy⟩ := List.mem_flatten.1 hx;obtain ⟨c, hc, rfl⟩ := List.mem_map.1 hy;exact pl_pos (h c hc).1 (h c hc).2 x hxy
theorem lines_pos : ∀ (l cur : List UInt8), ∀ x ∈ linesL cur l, x ≠ [] := by
 intro l
 induction l with
 | nil =>
  intro cur x hx;rw [linesL] at hx;split at hx;(·exact absurd hx (by simp));rename_i h;rw [List.mem_singleton.1 hx];exact h
 | cons b l ih =>
  intro cur x hx;rw [linesL] at hx;split at hx;rotate_left;(·exact ih _ x hx);(rcases List.mem_cons.1 hx with rfl | hx);(·simp);exact ih _ x hx
theorem LNB_pos (s : ByteArray) : ∀ x ∈ LNB s, x.data.toList ≠ [] := by
 intro x hx;obtain ⟨y, hy, rfl⟩ := List.mem_map.1 hx;rw [data_toB];exact lines_pos _ _ y hy
theorem clash_lw (o b t : List ByteArray) : (clashB o b t).size ≤ 2 * (lw o + lw b + lw t) + 32 := by
 have h1 := wlL_len o;have h2 := wlL_len b;have h3 := wlL_len t;(have : (clashB o b t).size = 32 + (wlL o).length + (wlL b).length + (wlL t).length := by unfold clashB;simp only [ByteArray.size_append, sz60, sz124, sz61, ofL_size];have : (⟨#[62, 62, 62, 62, 62, 62, 62, 10]⟩ : ByteArray).size = 8 := rfl;omega);unfold lw;omega
theorem pl_lw (c : CK) : lw (pl c) ≤ 2 * (lw c.f1 + lw c.f2 + lw c.f3) + 33 := by
 unfold pl;split;(·unfold lw;omega);split;rotate_left;(·unfold lw;omega);have h1 := clash_lw c.f2 c.f1 c.f3;unfold lw at h1 ⊢;simp only [total, List.length_singleton];omega
theorem PLS_lw : ∀ l : List CK, lw (PLS l) ≤ 2 * kw l + 33 * l.length := by
 intro l
 induction l with
 | nil => simp [PLS, lw, total, kw]
 | cons c l ih =>
  rw [PLS_cons, lw_append, kw, List.length_cons];have := pl_lw c;omega
theorem ml_lw (c : CK) : lw (ml c) ≤ 4 * (lw c.f1 + lw c.f2 + lw c.f3) + 66 := by
 have h := pl_lw c;unfold ml;unfold pl at h;split;(·unfold lw;omega);rename_i h2;rw [if_neg h2] at h;split;rotate_left;(·unfold lw;omega);rename_i h3;rw [if_pos h3] at h;unfold lw at h ⊢;simp only [total, List.length_singleton] at h;rw [LNB_total];have := LNB_len (clashB c.f2 c.f1 c.f3);omega
theorem MLS_lw : ∀ l : List CK, lw (MLS l) ≤ 4 * kw l + 66 * l.length := by
 intro l
 induction l with
 | nil => simp [MLS, lw, total, kw]
 | cons c l ih =>
  rw [MLS_cons, lw_append, kw, List.length_cons];have := ml_lw c;omega
theorem lw_mem {l : List ByteArray} {x : ByteArray} (h : x ∈ l) : x.size ≤ lw l := by
 have := total_mem h;unfold lw;omega
theorem lw_is_small {l : List ByteArray} (h : lw l ≤ 1048576) : Small l := lw_small (fun a ha => by have := lw_mem ha;omega) h
theorem TF_zero {s : ByteArray} (h : TF s = 0) : s.size ≤ 2000 ∧ (LNB s).length ≤ 100 := by
 unfold TF at h;split at h;(·cases h);split at h;(·cases h);omega
end Go.Proofs.YtelngmkfjpcbgaaDoor.P
end
section
set_option linter.unusedVariables false
set_option linter.unusedSimpArgs false
namespace Go.Proofs.YtelngmkfjpcbgaaDoor.P
open Go.RowKit Go.Proofs.YtelngmkfjpcbgaaDoorW.PrintWords Go.Proofs.YtelngmkfjpcbgaaDoorW.PrintLast
section
variable {b o t : List ByteArray} {p q : List Int}
theorem sput_tells (acc : List CK) {b o t : List ByteArray} (hb : b.length ≤ 1048576) (ho : o.length ≤ 1048576) (ht : t.length ≤ 1048576) (hl : acc.length ≤ 1759218604440) : Ev (fun k => spec_l4Put.f k acc b o t) (acc ++ pt1 b o t) := by
 refine Ev_eq (put_tells acc hb ho ht hl) ?_;unfold pt1;split;(·rw [List.append_nil]);rfl
theorem sscan (lp : p.length = b.length) (lq : q.length = b.length) (hb : b.length ≤ 1000000) {acc : List CK} {a i j : Int} {K : Nat} (hK : K ≤ b.length) {r : List CK} (h : Ev (fun k => spec_l4Chunks.j4 k b o t p q acc a i j (b.length : Int) (K : Int)) r) (hb2 : K < b.length → 0 ≤ pg p K ∧ 0 ≤ pg q K) :
    ∀ (d x : Nat), K - x = d → x ≤ K → (∀ z, x ≤ z → z < K → ¬ (0 ≤ pg p z ∧ 0 ≤ pg q z)) → Ev (fun k => spec_l4Chunks.l2 k b o t p q acc a i j (b.length : Int) (x : Int)) r := by
 intro d
 induction d with
 | zero =>
  intro x hd hx _;(obtain rfl : x = K := by omega);refine Ev.step (fun k => by rw [spec_l4Chunks.l2]) (Ev_if (fun h1 => ?_) (fun _ => h));have := hb2 (by omega);refine Ev_pos (by omega) (Ev_pos (by omega) ?_);rw [rd_pg (by omega), rd_pg (by omega)];exact Ev_neg (by omega) (Ev_pos (by omega) (Ev_neg (by omega) h))
 | succ d ih =>
  intro x hd hx hs;have nx_ := ih (x + 1) (by omega) (by omega) (fun z h1 h2 => hs z (by omega) h2);have := hs x (by omega) (by omega);refine Ev.step (fun k => by rw [spec_l4Chunks.l2]) (Ev_pos (by omega) (Ev_pos (by omega) (Ev_pos (by omega) ?_)));rw [rd_pg (by omega), rd_pg (by omega), wsucc' (by omega)];exact Ev_if (fun _ => nx_) (fun _ => Ev_pos (by omega) (Ev_pos (by omega) nx_))
theorem wone {x : Nat} (h : x ≤ 1000000) : wrap64 ((x : Int) + 1) = ((x + 1 : Nat) : Int) := wsucc' (by omega)
theorem wadd {x y : Nat} (h : x ≤ 2000000) (h2 : y ≤ 1000000) : wrap64 ((x : Int) + (y : Int)) = ((x + y : Nat) : Int) := by rw [wid (by omega) (by omega)];omega
set_option maxHeartbeats 1000000 in
theorem srun (lp : p.length = b.length) (lq : q.length = b.length) (hb : b.length ≤ 1000000) {acc : List CK} {K U V M : Nat} (hU1 : U ≤ 2000000) (hV1 : V ≤ 2000000) (hX : K + M ≤ b.length)
    (on : ∀ x, K ≤ x → x < K + M → pg p x = ((U + (x - K) : Nat) : Int) ∧ pg q x = ((V + (x - K) : Nat) : Int)) (off : K + M < b.length → ¬ (pg p (K + M) = ((U + (K + M - K) : Nat) : Int) ∧ pg q (K + M) = ((V + (K + M - K) : Nat) : Int)))
    {r : List CK} (h : Ev (fun k => spec_l4Chunks.j2 k b o t p q acc (K : Int) (U : Int) (V : Int) (b.length : Int) (M : Int)) r) :
    ∀ (d x : Nat), M - x = d → x ≤ M → Ev (fun k => spec_l4Chunks.l1 k b o t p q acc (K : Int) (U : Int) (V : Int) (b.length : Int) (x : Int)) r := by
 (have hK2 : K ≤ 2000000 := by clear on off;omega);(have hM2 : M ≤ 1000000 := by clear on off;omega);have OFF := a_ off;have ON := a_ on;clear off on;intro d
 induction d with
 | zero =>
  intro x hd hx;have hx3 : x ≤ 1000000 := Nat.le_trans hx hM2;(have hxM : x = M := by omega);subst hxM;have w0 : wrap64 ((K : Int) + (x : Int)) = ((K + x : Nat) : Int) := wadd hK2 hx3;have w1 : wrap64 ((U : Int) + (x : Int)) = ((U + x : Nat) : Int) := wadd hU1 hx3;have w2 : wrap64 ((V : Int) + (x : Int)) = ((V + x : Nat) : Int) := wadd hV1 hx3;refine Ev.step (fun k => by rw [spec_l4Chunks.l1]) ?_;rw [w0, w1, w2];refine Ev_if (fun h1 => ?_) (fun _ => h);have ho := OFF.out (by omega);(have e0 : K + x - K = x := by clear ho;omega);rw [e0] at ho;rw [rd_pg (by clear ho;omega), rd_pg (by clear ho;omega)];exact Ev_pos (by clear ho;omega) (Ev_pos (by clear ho;omega) (Ev_if (fun h2 => Ev_pos (by clear ho;omega) (Ev_neg (fun h3 => ho ⟨h2, h3⟩) h)) (fun _ => h)))
 | succ d ih =>
  intro x hd hx;have hx3 : x ≤ 1000000 := Nat.le_trans hx hM2;have nx_ := ih (x + 1) (by omega) (by omega);(have hKp : K + x < p.length := by omega);(have hKq : K + x < q.length := by omega);(have hn : ((K + x : Nat) : Int) < (b.length : Int) := by omega);(have h0 : (0 : Int) ≤ ((K + x : Nat) : Int) := by omega);(have hp_ : ((K + x : Nat) : Int) < (p.length : Int) := by omega);(have hq_ : ((K + x : Nat) : Int) < (q.length : Int) := by omega);(have e0 : K + x - K = x := by omega);have e := ON.out (K + x) (by omega) (by omega);rw [e0] at e;refine Ev.step (fun k => by rw [spec_l4Chunks.l1]) ?_;rw [wadd hK2 hx3, wadd hU1 hx3, wadd hV1 hx3, rd_pg hKp, rd_pg hKq, wone hx3];exact Ev_pos hn (Ev_pos h0 (Ev_pos hp_ (Ev_pos e.1 (Ev_pos hq_ (Ev_pos e.2 nx_)))))
theorem sput (hb : b.length ≤ 1000000) (ho : o.length ≤ 1000000) (ht : t.length ≤ 1000000) {acc : List CK} {K U V M : Nat} (Xn : K + M ≤ b.length) (Um : U + M ≤ o.length) (Vm : V + M ≤ t.length) (hacc : acc.length ≤ 5000000) {r : List CK}
    (h : Ev (fun k => spec_l4Chunks.l2 k b o t p q (acc ++ pt1 (seg b K (K + M)) (seg o U (U + M)) (seg t V (V + M))) ((K + M : Nat) : Int) ((U + M : Nat) : Int) ((V + M : Nat) : Int) (b.length : Int) ((K + M : Nat) : Int)) r) :
    Ev (fun k => spec_l4Chunks.j2 k b o t p q acc (K : Int) (U : Int) (V : Int) (b.length : Int) (M : Int)) r := by
 (have w0 : wrap64 ((K : Int) + (M : Int)) = ((K + M : Nat) : Int) := by rw [wid (by omega) (by omega)];omega);(have w1 : wrap64 ((U : Int) + (M : Int)) = ((U + M : Nat) : Int) := by rw [wid (by omega) (by omega)];omega);(have w2 : wrap64 ((V : Int) + (M : Int)) = ((V + M : Nat) : Int) := by rw [wid (by omega) (by omega)];omega);refine Ev.step (fun k => by rw [spec_l4Chunks.j2]) ?_;rw [w0, w1, w2];clear w0 w1 w2;refine Ev_pos (by omega) (Ev_pos (by omega) (Ev_pos (by omega) (Ev_pos (by omega) (Ev_pos (by omega) (Ev_pos (by omega) (Ev_pos (by omega) (Ev_pos (by omega) (Ev_pos (by omega) ?_))))))));simp only [Int.toNat_natCast];(have y1 : (seg b K (K + M)).length ≤ 1048576 := by rw [seg_len (by omega)];omega);(have y2 : (seg o U (U + M)).length ≤ 1048576 := by rw [seg_len (by omega)];omega);(have y3 : (seg t V (V + M)).length ≤ 1048576 := by rw [seg_len (by omega)];omega);exact Ev_call (sput_tells acc y1 y2 y3 (by omega)) h
theorem slast (lp : p.length = b.length) (lq : q.length = b.length) (hb : b.length ≤ 1000000) (ho : o.length ≤ 1000000) (ht : t.length ≤ 1000000) {acc : List CK} {a i j : Nat} (ha : a ≤ b.length) (hi : i ≤ o.length) (hj : j ≤ t.length) (hacc : acc.length ≤ 4000000) :
    Ev (fun k => spec_l4Chunks.j4 k b o t p q acc (a : Int) (i : Int) (j : Int) (b.length : Int) (b.length : Int)) (acc ++ pt1 (b.drop a) (o.drop i) (t.drop j)) := by
 refine Ev.step (fun k => by rw [spec_l4Chunks.j4]) (Ev_pos rfl (Ev_pos (by omega) (Ev_pos (by omega) (Ev_pos (by omega) (Ev_pos (by omega) (Ev_pos (by omega) (Ev_pos (by omega) ?_)))))));simp only [Int.toNat_natCast];(have z1 : (b.drop a).length ≤ 1048576 := by rw [List.length_drop];omega);(have z2 : (o.drop i).length ≤ 1048576 := by rw [List.length_drop];omega);(have z3 : (t.drop j).length ≤ 1048576 := by rw [List.length_drop];omega);exact Ev_call (sput_tells acc z1 z2 z3 (by omega)) (Ev.now _)
theorem sgap (lp : p.length = b.length) (lq : q.length = b.length) (hb : b.length ≤ 1000000) (ho : o.length ≤ 1000000) (ht : t.length ≤ 1000000) {acc : List CK} {a i j K U V : Nat} (aK : a ≤ K) (Kn : K < b.length) (iU : i ≤ U) (Um : U ≤ o.length) (jV : j ≤ V) (Vm : V ≤ t.length) (hacc : acc.length ≤ 4000000)
    (hU : pg p K = (U : Int)) (hV : pg q K = (V : Int)) {r : List CK}
    (h : Ev (fun k => spec_l4Chunks.l1 k b o t p q (acc ++ pt1 (seg b a K) (seg o i U) (seg t j V)) (K : Int) (U : Int) (V : Int) (b.length : Int) 0) r) :
    Ev (fun k => spec_l4Chunks.j4 k b o t p q acc (a : Int) (i : Int) (j : Int) (b.length : Int) (K : Int)) r := by
 refine Ev.step (fun k => by rw [spec_l4Chunks.j4]) (Ev_neg (by omega) ?_);rw [rd_pg (by omega), rd_pg (by omega), hU, hV];clear hU hV;refine Ev_pos (by omega) (Ev_pos (by omega) (Ev_pos (by omega) (Ev_pos (by omega) (Ev_pos (by omega) (Ev_pos (by omega) (Ev_pos (by omega) (Ev_pos (by omega) (Ev_pos (by omega) (Ev_pos (by omega) (Ev_pos (by omega) (Ev_pos (by omega) ?_)))))))))));simp only [Int.toNat_natCast];(have z1 : (seg b a K).length ≤ 1048576 := by rw [seg_len (by omega)];omega);(have z2 : (seg o i U).length ≤ 1048576 := by rw [seg_len (by omega)];omega);(have z3 : (seg t j V).length ≤ 1048576 := by rw [seg_len (by omega)];omega);refine Ev_call (sput_tells acc z1 z2 z3 (by omega)) (Ev.step (fun k => by rw [spec_l4Chunks.l0]) ?_);exact h
theorem sch_loop_ (hp : PI p b.length o.length) (hq : PI q b.length t.length) (hb : b.length ≤ 1000000) (ho : o.length ≤ 1000000) (ht : t.length ≤ 1000000) : ∀ (d a i j : Nat) (acc : List CK), a ≤ b.length → b.length < d + a → Lo p b.length o.length a i → Lo q b.length t.length a j → acc.length ≤ 2 * a + 1 →
    Ev (fun k => spec_l4Chunks.l2 k b o t p q acc (a : Int) (i : Int) (j : Int) (b.length : Int) (a : Int)) (acc ++ chk b o t p q d a i j) := by
 intro d
 induction d with
 | zero => intro a i j acc ha h;omega
 | succ d ih =>
  intro a i j acc ha h lo1 lo2 hacc;by_cases hl : nx p q (b.length - a) a = b.length;(·have hs := nx_spec p q (b.length - a) a;rw [hl] at hs;rw [chk_last hl];exact sscan hp.len hq.len hb (Nat.le_refl _) (slast hp.len hq.len hb ho ht ha lo1.1 lo2.1 (by omega)) (fun h => absurd h (Nat.lt_irrefl _)) _ a rfl ha hs.2.2.2);obtain ⟨K, U, V, X, hK, hX, s⟩ := st_of hp hq ha lo1 lo2 hl;obtain ⟨aK, Kn, hU, hV, iU, jV, KX, Xn, Um, Vm, on, off, skip, n1, n2⟩ := s;obtain ⟨M, rfl⟩ : ∃ M, X = K + M := ⟨X - K, by omega⟩;(have eM : K + M - K = M := by omega);rw [chk_step hK (by omega) hU hV hX];refine sscan hp.len hq.len hb (by omega) ?_ (fun _ => ⟨by omega, by omega⟩) _ a rfl aK skip;rw [eM] at Um Vm n1 n2 ⊢;have k1 := pt1_len (seg b a K) (seg o i U) (seg t j V);have k2 := pt1_len (seg b K (K + M)) (seg o U (U + M)) (seg t V (V + M));refine sgap hp.len hq.len hb ho ht aK (by omega) iU (by omega) jV (by omega) (by omega) hU hV ?_;have e := ih (K + M) (U + M) (V + M) (acc ++ pt1 (seg b a K) (seg o i U) (seg t j V) ++ pt1 (seg b K (K + M)) (seg o U (U + M)) (seg t V (V + M))) Xn (by omega) n1 n2 (by rw [List.length_append, List.length_append];omega);refine srun hp.len hq.len hb (by omega) (by omega) Xn on off (sput hb ho ht Xn Um Vm (by rw [List.length_append];omega) (Ev_eq e ?_)) _ 0 rfl (by omega);simp only [List.append_assoc]
theorem schk_tells (hb : b.length ≤ 1000000) (ho : o.length ≤ 1000000) (ht : t.length ≤ 1000000) : Ev (fun k => spec_l4Chunks.f k b o t) (CHK b o t) := by
 have hp := PT_PI b o;have hq := PT_PI b t;obtain ⟨X, hX⟩ : ∃ X, rn (PT b o) (PT b t) 0 0 0 b.length 0 = X := ⟨_, rfl⟩;obtain ⟨x1, x2, x3, n1, n2, he⟩ := chk_start hp hq hX;have hs := rn_spec (PT b o) (PT b t) 0 0 0 b.length 0;rw [hX] at hs;unfold spec_l4Chunks.f CHK;rw [← he];refine Ev_call (spt_tells b o hb ho) (Ev_call (spt_tells b t hb ht) (Ev.step (fun k => by rw [spec_l4Chunks.l0]) ?_));have k1 := pt1_len (seg b 0 X) (seg o 0 X) (seg t 0 X);have e := sch_loop_ hp hq hb ho ht (b.length + 1) X X X (pt1 (seg b 0 X) (seg o 0 X) (seg t 0 X)) x1 (by omega) n1 n2 (by omega);have h0 : 0 + X = X := Nat.zero_add X;refine srun (K := 0) (U := 0) (V := 0) (M := X) hp.len hq.len hb (by omega) (by omega) (by omega) (fun x h1 h2 => hs.2.2.1 x h1 (by omega)) (fun h => ?_) (sput (K := 0) (U := 0) (V := 0) hb ho ht (by omega) (by omega) (by omega) (by simp) ?_) _ 0 rfl (by omega);rotate_left;(·rw [h0, List.nil_append];exact e);have := hs.2.2.2 (by omega);rw [h0];exact this
end
end Go.Proofs.YtelngmkfjpcbgaaDoor.P
end
section
set_option linter.unusedVariables false
set_option linter.unusedSimpArgs false
namespace Go.Proofs.YtelngmkfjpcbgaaDoor.P
open Go.RowKit Go.Proofs.YtelngmkfjpcbgaaDoorW.PrintWords Go.Proofs.YtelngmkfjpcbgaaDoorW.PrintLast
structure Mk (l : List CK) : Prop where
  sm : SmallK l
  few : l.length ≤ 1000
  lite : kw l ≤ 10000
  full : ∀ c ∈ l, (∀ a ∈ c.f1, a.data.toList ≠ []) ∧ (∀ a ∈ c.f2, a.data.toList ≠ []) ∧ (∀ a ∈ c.f3, a.data.toList ≠ [])
theorem Mk.size {l : List CK} (h : Mk l) {i : Nat} (hi : i < l.length) : (clashB l[i].f2 l[i].f1 l[i].f3).size ≤ 30000 := by
 have h1 := kw_at l i hi;have h2 := clash_lw l[i].f2 l[i].f1 l[i].f3;have := h.lite;omega
theorem PLS_at {l : List CK} {i : Nat} (hi : i < l.length) : PLS (l.drop i) = pl l[i] ++ PLS (l.drop (i + 1)) := by rw [drop_at hi, PLS_cons]
theorem MLS_at {l : List CK} {i : Nat} (hi : i < l.length) : MLS (l.drop i) = ml l[i] ++ MLS (l.drop (i + 1)) := by rw [drop_at hi, MLS_cons]
theorem ccl_at {l : List CK} {i : Nat} (hi : i < l.length) : ccl (l.drop i) = (if l[i].f0 = 4 then 1 else 0) + ccl (l.drop (i + 1)) := by rw [drop_at hi, ccl]
theorem smg_l0 {l : List CK} (h : Mk l) {r : ByteArray × Int} : ∀ (d i n : Nat) (acc : List ByteArray), l.length - i = d → i ≤ l.length → n ≤ i → acc.length + (PLS (l.drop i)).length ≤ 1000000 →
    Ev (fun k => spec_l4Merge.l1 k (acc ++ PLS (l.drop i)) ((n + ccl (l.drop i) : Nat) : Int) (⟨#[]⟩ : ByteArray) 0) r → Ev (fun k => spec_l4Merge.l0 k l acc (n : Int) (i : Int)) r := by
 have hl := h.few;intro d
 induction d with
 | zero =>
  intro i n acc hd hi hn ha hr;rw [List.drop_eq_nil_of_le (by omega)] at hr;simp only [PLS, List.map_nil, List.flatten_nil, List.append_nil, ccl, Nat.add_zero] at hr;exact Ev.step (fun k => by rw [spec_l4Merge.l0]) (Ev_neg (by omega) hr)
 | succ d ih =>
  intro i n acc hd hi hn ha hr;(have hlt : i < l.length := by omega);obtain ⟨s1, s2, s3⟩ := h.sm.at hlt;obtain ⟨p1, p2, p3⟩ := h.full l[i] (List.getElem_mem hlt);rw [PLS_at hlt, ccl_at hlt] at hr;rw [PLS_at hlt, List.length_append] at ha;rw [← List.append_assoc] at hr;refine Ev.step (fun k => by rw [spec_l4Merge.l0]) (Ev_pos (by omega) (Ev_pos (by omega) ?_));rw [rdk_nat hlt, wsucc hlt (by omega)];by_cases h2 : l[i].f0 = 2;(·(have ep : pl l[i] = l[i].f3 := by unfold pl;rw [if_pos h2]);rw [ep] at hr ha;rw [if_neg (by omega), Nat.zero_add] at hr;exact Ev_pos h2 (Ev_pos (by omega) (ih (i + 1) n _ (by omega) (by omega) (by omega) (by rw [List.length_append];omega) hr)));by_cases h4 : l[i].f0 = 4;rotate_left;(·(have ep : pl l[i] = l[i].f2 := by unfold pl;rw [if_neg h2, if_neg h4]);rw [ep] at hr ha;rw [if_neg h4, Nat.zero_add] at hr;exact Ev_neg h2 (Ev_neg h4 (Ev_pos (by omega) (ih (i + 1) n _ (by omega) (by omega) (by omega) (by rw [List.length_append];omega) hr))));(have ep : pl l[i] = [clashB l[i].f2 l[i].f1 l[i].f3] := by unfold pl;rw [if_neg h2, if_pos h4]);rw [ep] at hr ha;simp only [List.length_singleton] at ha;rw [if_pos h4] at hr;refine Ev_neg h2 (Ev_pos h4 (Ev_call (sclash_tells _ s1 s2 s3 p1 p2 p3) (Ev_pos (by omega) ?_)));rw [wsucc' (by omega)];exact ih (i + 1) (n + 1) _ (by omega) (by omega) (by omega) (by rw [List.length_append, List.length_singleton];omega) (by rw [show n + 1 + ccl (l.drop (i + 1)) = n + (1 + ccl (l.drop (i + 1))) by omega];exact hr)
theorem smg_l1 {P : List ByteArray} (hp : lw P ≤ 1000000) (hn : ∀ x ∈ P, x.data.toList ≠ []) (n : Int) : ∀ (d i : Nat) (s : ByteArray), P.length - i = d → i ≤ P.length → s.size + lw (P.drop i) ≤ 1000000 →
    Ev (fun k => spec_l4Merge.l1 k P n s (i : Int)) (ofL (s.data.toList ++ fin (P.drop i)), n) := by
 (have hl : P.length ≤ 1000000 := by unfold lw at hp;omega);intro d
 induction d with
 | zero =>
  intro i s hd hi ha;refine Ev.step (fun k => by rw [spec_l4Merge.l1]) (Ev_neg (by omega) (Ev_val ?_));rw [List.drop_eq_nil_of_le (by omega), fin, List.append_nil, ofL_of]
 | succ d ih =>
  intro i s hd hi ha;(have hlt : i < P.length := by omega);(have h0 : P[i].size ≠ 0 := fun e => hn P[i] (List.getElem_mem hlt) (by apply List.eq_nil_of_length_eq_zero;rw [size_data];exact e));rw [drop_at hlt] at ha ⊢;unfold lw at ha;simp only [total, List.length_cons] at ha;have hb := last_byte h0 (by omega);refine Ev.step (fun k => by rw [spec_l4Merge.l1]) (Ev_pos (by omega) (Ev_pos (by omega) ?_));rw [rd_nat _ hlt, wsucc hlt (by omega)];have h1 : (wrap64 ((P[i].size : Int) - 1)) = (P[i].size : Int) - 1 := wid (by omega) (by omega);have h2 : (wrap64 ((P.length : Int) - 1)) = (P.length : Int) - 1 := wid (by omega) (by omega);refine Ev_pos (by omega) (Ev_if (fun hc => ?_) (fun hc => ?_));rotate_left;(·have he : P.drop (i + 1) = [] := List.drop_eq_nil_of_le (by omega);have nx := ih (i + 1) (s ++ P[i]) (by omega) (by omega) (by rw [ByteArray.size_append, he];simp only [lw, total, List.length_nil];omega);refine Ev_eq nx ?_;rw [he, ByteArray.data_append, Array.toList_append];show (ofL (_ ++ _ ++ []), n) = (ofL (_ ++ _), n);rw [List.append_nil];rfl);(have hne : P.drop (i + 1) ≠ [] := fun e => by have := List.drop_eq_nil_iff.1 e;omega);rw [fin_cons _ hne];refine Ev_pos (by omega) (Ev_pos (by omega) (Ev_if (fun hq => ?_) (fun hq => ?_)));(·have nx := ih (i + 1) (s ++ P[i]) (by omega) (by omega) (by rw [ByteArray.size_append];unfold lw;omega);refine Ev_eq nx ?_;rw [wholeL_en (hb.1 hq), ByteArray.data_append, Array.toList_append, List.append_assoc]);(have ew : wholeL P[i].data.toList = P[i].data.toList ++ [10] := by unfold wholeL;rw [if_neg (fun e => hq (hb.2 e))]);have nx := ih (i + 1) ((s ++ P[i]) ++ (⟨#[10]⟩ : ByteArray)) (by omega) (by omega) (by rw [ByteArray.size_append, ByteArray.size_append];have e1 : (⟨#[10]⟩ : ByteArray).size = 1 := rfl;unfold lw;omega);refine Ev_pos (by rw [ByteArray.size_append];omega) (Ev_eq nx ?_);rw [ew, ByteArray.data_append, ByteArray.data_append, Array.toList_append, Array.toList_append];simp only [List.append_assoc]
theorem smg_tells {l : List CK} (h : Mk l) : Ev (fun k => spec_l4Merge.f k l) (MTX l, ((ccl l : Nat) : Int)) := by
 have hw := PLS_lw l;have h1 := h.few;have h2 := h.lite;(have hlen : (PLS l).length ≤ lw (PLS l) := by unfold lw;omega);unfold spec_l4Merge.f;refine smg_l0 h _ 0 0 [] rfl (by omega) (by omega) (by simp only [List.length_nil, List.drop_zero];omega) ?_;rw [List.drop_zero, List.nil_append, Nat.zero_add];have := smg_l1 (P := PLS l) (by omega) (PLS_pos (fun c hc => (h.full c hc).2)) ((ccl l : Nat) : Int) _ 0 (⟨#[]⟩ : ByteArray) rfl (by omega) (by have e1 : (⟨#[]⟩ : ByteArray).size = 0 := rfl;rw [List.drop_zero];omega);exact this
theorem img_l0 {l : List CK} (h : Mk l) {r : Int × Int × ByteArray} : ∀ (d i n : Nat) (acc : List ByteArray), l.length - i = d → i ≤ l.length → n ≤ i → acc.length + (MLS (l.drop i)).length ≤ 1000000 →
    Ev (fun k => impl_mergeTexts.l0 k (acc ++ MLS (l.drop i)) ((n + ccl (l.drop i) : Nat) : Int) l (l.length : Int) (l.length : Int)) r → Ev (fun k => impl_mergeTexts.l0 k acc (n : Int) l (l.length : Int) (i : Int)) r := by
 have hl := h.few;intro d
 induction d with
 | zero =>
  intro i n acc hd hi hn ha hr;rw [List.drop_eq_nil_of_le (by omega)] at hr;simp only [MLS, List.map_nil, List.flatten_nil, List.append_nil, ccl, Nat.add_zero] at hr;rw [show i = l.length by omega];exact hr
 | succ d ih =>
  intro i n acc hd hi hn ha hr;(have hlt : i < l.length := by omega);obtain ⟨s1, s2, s3⟩ := h.sm.at hlt;have hz := h.size hlt;rw [MLS_at hlt, ccl_at hlt] at hr;rw [MLS_at hlt, List.length_append] at ha;rw [← List.append_assoc] at hr;refine Ev.step (fun k => by rw [impl_mergeTexts.l0]) (Ev_pos (by omega) (Ev_pos (by omega) (Ev_pos (by omega) ?_)));rw [rdk_nat hlt, wsucc hlt (by omega)];by_cases h2 : l[i].f0 = 2;(·(have ep : ml l[i] = l[i].f3 := by unfold ml;rw [if_pos h2]);rw [ep] at hr ha;rw [if_neg (by omega), Nat.zero_add] at hr;exact Ev_pos h2 (Ev_pos (by omega) (ih (i + 1) n _ (by omega) (by omega) (by omega) (by rw [List.length_append];omega) hr)));by_cases h4 : l[i].f0 = 4;rotate_left;(·(have ep : ml l[i] = l[i].f2 := by unfold ml;rw [if_neg h2, if_neg h4]);rw [ep] at hr ha;rw [if_neg h4, Nat.zero_add] at hr;exact Ev_neg h2 (Ev_neg h4 (Ev_pos (by omega) (ih (i + 1) n _ (by omega) (by omega) (by omega) (by rw [List.length_append];omega) hr))));(have ep : ml l[i] = LNB (clashB l[i].f2 l[i].f1 l[i].f3) := by unfold ml;rw [if_neg h2, if_pos h4]);rw [ep] at hr ha;rw [if_pos h4] at hr;refine Ev_neg h2 (Ev_pos h4 (Ev_call (iclash_tells _ s1 s2 s3) (Ev_const (linesOf_tells _ (by omega)) (Ev_pos (by omega) ?_))));rw [wsucc' (by omega)];exact ih (i + 1) (n + 1) _ (by omega) (by omega) (by omega) (by rw [List.length_append];omega) (by rw [show n + 1 + ccl (l.drop (i + 1)) = n + (1 + ccl (l.drop (i + 1))) by omega];exact hr)
def MC (l : List CK) : Int × Int × ByteArray := if TF (MTX l) = 0 then (0, ((ccl l : Nat) : Int), MTX l) else (2, 0, (⟨#[]⟩ : ByteArray))
theorem img_end {l : List CK} (h : Mk l) : Ev (fun k => impl_mergeTexts.l0 k (MLS l) ((ccl l : Nat) : Int) l (l.length : Int) (l.length : Int)) (MC l) := by
 have hw := MLS_lw l;have h1 := h.few;have h2 := h.lite;(have hlen : (MLS l).length ≤ lw (MLS l) := by unfold lw;omega);have hp := PLS_lw l;have hfl := fin_len (PLS l);(have hms : (MTX l).size ≤ 1000000 := by unfold MTX;rw [ofL_size];omega);have htf := itf_tells (MTX l) (by omega);(have hend : (impl_TextFault.f (MTX l)).bind (fun t => if t = 0 then some ((0 : Int), ((ccl l : Nat) : Int), MTX l) else some (2, 0, (⟨#[]⟩ : ByteArray))) = some (MC l) := by rw [htf];unfold MC;by_cases q : TF (MTX l) = 0;(·rw [if_pos q];exact if_pos q);rw [if_neg q];exact if_neg q);refine Ev.step (fun k => by rw [impl_mergeTexts.l0]) (Ev_neg (by omega) ?_);have e1 : wrap64 (((MLS l).length : Int) - 1) = ((MLS l).length : Int) - 1 := wid (by omega) (by omega);rw [e1];refine Ev_if (fun hc => ?_) (fun hc => ?_);rotate_left;(·have e3 : MLS l = [] := List.eq_nil_of_length_eq_zero (by omega);(have e4 : MTX l = (⟨#[]⟩ : ByteArray) := by unfold MTX;rw [(PLS_MLS l).1, e3];rfl);rw [e4] at hend;exact ⟨0, fun _ _ => hend⟩);obtain ⟨m, hm⟩ : ∃ m : Nat, (MLS l).length = m + 1 := ⟨(MLS l).length - 1, by omega⟩;(have e2 : ((MLS l).length : Int) - 1 = (m : Int) := by omega);rw [e2];(have hlt : m < (MLS l).length := by omega);(have hspl : MLS l = (MLS l).take m ++ [(MLS l)[m]] := by (conv => lhs;rw [← List.take_length (l := MLS l), hm]);exact List.take_succ_eq_append_getElem hlt);(have hsm : Small ((MLS l).take m) := by apply lw_is_small;(have : lw ((MLS l).take m) ≤ lw (MLS l) := by (conv => rhs;rw [hspl]);rw [lw_append];omega);omega);(have htx : ofL (wlL ((MLS l).take m)) ++ (MLS l)[m] = MTX l := by unfold MTX;rw [(PLS_MLS l).1];(conv => rhs;rw [hspl]);rw [fin_last, ← ofL_app, ofL_of]);(have hz : (ofL (wlL ((MLS l).take m))).size + ((MLS l)[m]).size ≤ 9223372036854775807 := by rw [← ByteArray.size_append, htx];omega);refine Ev_pos (by omega) (Ev_pos (by omega) ?_);rw [Int.toNat_natCast, rd_nat _ hlt];refine Ev_call (iwl_tells hsm) (Ev_pos (by omega) (Ev_pos hz ?_));rw [htx];exact ⟨0, fun _ _ => hend⟩
def TF3 (b o t : ByteArray) : Int := if TF b = 0 then (if TF o = 0 then TF t else TF o) else TF b
def MRG (b o t : ByteArray) : Int × Int × ByteArray := if TF3 b o t = 0 then MC (CHK (LNB b) (LNB o) (LNB t)) else (TF3 b o t, 0, (⟨#[]⟩ : ByteArray))
theorem TF_two (s : ByteArray) : TF s = 0 ∨ TF s = 2 := by
 unfold TF;split;(·exact .inr rfl);split;(·exact .inr rfl);exact .inl rfl
theorem TF3_zero {b o t : ByteArray} (h : TF3 b o t = 0) : TF b = 0 ∧ TF o = 0 ∧ TF t = 0 := by
 unfold TF3 at h;split at h;rotate_left;(·exact absurd h (by assumption));split at h;(·exact ⟨by assumption, by assumption, h⟩);exact absurd h (by assumption)
theorem lnb_lw {s : ByteArray} (h : TF s = 0) : lw (LNB s) ≤ 2100 := by
 have := TF_zero h;unfold lw;rw [LNB_total];omega
theorem mk_of {b o t : ByteArray} (h : TF3 b o t = 0) : Mk (CHK (LNB b) (LNB o) (LNB t)) := by
 obtain ⟨hb, ho, ht⟩ := TF3_zero h;have b1 := lnb_lw hb;have o1 := lnb_lw ho;have t1 := lnb_lw ht;have bl := (TF_zero hb).2;obtain ⟨s0, s1, s2⟩ := CHK_sides (LNB b) (LNB o) (LNB t);have hk := kw_sides (CHK (LNB b) (LNB o) (LNB t));rw [s0, s1, s2] at hk;have hl := CHK_len (LNB b) (LNB o) (LNB t);refine ⟨CHK_small (lw_is_small (by omega)) (lw_is_small (by omega)) (lw_is_small (by omega)) (by omega) (by omega), by omega, by omega, fun c hc => ⟨fun a ha => ?_, fun a ha => ?_, fun a ha => ?_⟩⟩;(·exact LNB_pos b a (by rw [← s0];exact mem_sides hc 0 ha));(·exact LNB_pos o a (by rw [← s1];exact mem_sides hc 1 ha));exact LNB_pos t a (by rw [← s2];exact mem_sides hc 2 ha)
theorem lens {b o t : ByteArray} (h : TF3 b o t = 0) : (LNB b).length ≤ 100 ∧ (LNB o).length ≤ 100 ∧ (LNB t).length ≤ 100 :=
  ⟨(TF_zero (TF3_zero h).1).2, (TF_zero (TF3_zero h).2.1).2, (TF_zero (TF3_zero h).2.2).2⟩
theorem imrg_tells {b o t : ByteArray} (hb : b.size ≤ 1048576) (ho : o.size ≤ 1048576) (ht : t.size ≤ 1048576) : Ev (fun k => impl_MergeTexts.f k b o t) (MRG b o t) := by
 unfold impl_MergeTexts.f MRG;refine Ev_const (itf_tells b hb) (Ev_const (itf_tells o ho) (Ev_const (itf_tells t ht) (Ev_call (first_tells _ (by simp)) ?_)));(have e : firstOf [TF b, TF o, TF t] = TF3 b o t := by unfold TF3;simp only [firstOf];by_cases h1 : TF b = 0;rotate_left;(·simp [h1]);by_cases h2 : TF o = 0;rotate_left;(·simp [h1, h2]);by_cases h3 : TF t = 0;(·simp [h1, h2, h3]);simp [h1, h2, h3]);rw [e];refine Ev_if (fun h => ?_) (fun h => by rw [if_neg h];exact Ev.now _);rw [if_pos h];obtain ⟨l1, l2, l3⟩ := lens h;have hm := mk_of h;have hw := MLS_lw (CHK (LNB b) (LNB o) (LNB t));have h1 := hm.few;have h2 := hm.lite;(have hlen : (MLS (CHK (LNB b) (LNB o) (LNB t))).length ≤ lw (MLS (CHK (LNB b) (LNB o) (LNB t))) := by unfold lw;omega);(have main : Ev (fun k => impl_mergeTexts.f k b o t) (MC (CHK (LNB b) (LNB o) (LNB t))) := by unfold impl_mergeTexts.f;refine Ev_const (linesOf_tells b hb) (Ev_const (linesOf_tells o ho) (Ev_const (linesOf_tells t ht) (Ev_call (ichk_tells (by omega) (by omega) (by omega)) ?_)));refine img_l0 hm _ 0 0 [] rfl (by omega) (by omega) (by simp only [List.length_nil, List.drop_zero];omega) ?_;rw [List.drop_zero, List.nil_append, Nat.zero_add];exact img_end hm);exact Ev_call main (Ev.now _)
theorem smrg_tells {b o t : ByteArray} (hb : b.size ≤ 1048576) (ho : o.size ≤ 1048576) (ht : t.size ≤ 1048576) : Ev (fun k => spec_MergeTexts.f k b o t) (MRG b o t) := by
 (have e : Ev (fun k => spec_l4Texts.f k b o t) (TF3 b o t) := by unfold spec_l4Texts.f TF3;refine Ev_call (stf_tells b hb) (Ev_if (fun h1 => ?_) (fun h1 => by rw [if_neg h1];exact Ev.now _));rw [if_pos h1];refine Ev_call (stf_tells o ho) (Ev_if (fun h2 => ?_) (fun h2 => by rw [if_neg h2];exact Ev.now _));rw [if_pos h2];exact Ev_call (stf_tells t ht) (Ev.now _));unfold spec_MergeTexts.f MRG;refine Ev_call e (Ev_if (fun h => ?_) (fun h => by rw [if_neg h];exact Ev.now _));rw [if_pos h];obtain ⟨l1, l2, l3⟩ := lens h;have hm := mk_of h;have hp := PLS_lw (CHK (LNB b) (LNB o) (LNB t));have h1 := hm.few;have h2 := hm.lite;have hfl := fin_len (PLS (CHK (LNB b) (LNB o) (LNB t)));(have hms : (MTX (CHK (LNB b) (LNB o) (LNB t))).size ≤ 1000000 := by unfold MTX;rw [ofL_size];omega);refine Ev_call (split_tells b hb) (Ev_call (split_tells o ho) (Ev_call (split_tells t ht) (Ev_call (schk_tells (by omega) (by omega) (by omega)) (Ev_call (smg_tells hm) (Ev_call (stf_tells (MTX (CHK (LNB b) (LNB o) (LNB t))) (by omega)) ?_)))));unfold MC;refine Ev_if (fun q => by rw [if_pos q];exact Ev.now _) (fun q => ?_);rw [if_neg q];have := (TF_two (MTX (CHK (LNB b) (LNB o) (LNB t)))).resolve_left q;rw [this];exact Ev.now _
theorem joined_tells {x : List ByteArray} (h1 : Lin 1 9 x) (h2 : x.length ≤ 200) : Ev (fun k => spec_l1Join.f k x) (joinedB x) ∧ (joinedB x).size ≤ 4000 := by
 have := h1.total;refine ⟨sjoin_tells x (by omega) (by omega), ?_⟩;rw [joinedB_size];omega
theorem drawm {c : List Int} (hc : Code c) : ∃ x y z, Ev (fun k => spec_DrawMergeTexts.f k c) (x, y, z) ∧ x.size ≤ 4000 ∧ y.size ≤ 4000 ∧ z.size ≤ 4000 := by
 obtain ⟨x, y, z, q, h, ⟨x1, x2⟩, ⟨y1, y2⟩, ⟨z1, z2⟩, q0, q1⟩ := three_tells hc (p := 0) (by omega) (by omega);obtain ⟨u, e, u0, u1⟩ := next_tells hc (p := q) (n := 20) (by omega) (by omega) (by omega);obtain ⟨jx, sx⟩ := joined_tells x1 x2;obtain ⟨jy, sy⟩ := joined_tells y1 y2;obtain ⟨jz, sz⟩ := joined_tells z1 z2;obtain ⟨r, q2, hr, sr⟩ := text_tells hc (p := q + 1) (by omega) (by omega);(have start : ∀ {r : ByteArray × ByteArray × ByteArray}, Ev (fun k => (if u = 0 then ((spec_l1Text.f k c (q + 1)).bind fun b => (some (b.1, joinedB y, joinedB z))) else (if u = 1 then ((spec_l1Text.f k c (q + 1)).bind fun b => (some (joinedB x, b.1, joinedB z))) else (if u = 2 then ((spec_l1Text.f k c (q + 1)).bind fun b => (some (joinedB x, joinedB y, b.1))) else (some (joinedB x, joinedB y, joinedB z)))))) r → Ev (fun k => spec_DrawMergeTexts.f k c) r := by intro r hh;unfold spec_DrawMergeTexts.f;exact Ev_const (a := (c, 0)) (by unfold spec_l1Source.f;rfl) (Ev_call h (Ev_call jx (Ev_call jy (Ev_call jz (Ev_const e hh))))));by_cases c0 : u = 0;(·exact ⟨r, joinedB y, joinedB z, start (Ev_pos c0 (Ev_call hr (Ev.now _))), sr, sy, sz⟩);by_cases c1 : u = 1;(·exact ⟨joinedB x, r, joinedB z, start (Ev_neg c0 (Ev_pos c1 (Ev_call hr (Ev.now _)))), sx, sr, sz⟩);by_cases c2 : u = 2;(·exact ⟨joinedB x, joinedB y, r, start (Ev_neg c0 (Ev_neg c1 (Ev_pos c2 (Ev_call hr (Ev.now _))))), sx, sy, sr⟩);exact ⟨joinedB x, joinedB y, joinedB z, start (Ev_neg c0 (Ev_neg c1 (Ev_neg c2 (Ev.now _)))), sx, sy, sz⟩
end Go.Proofs.YtelngmkfjpcbgaaDoor.P
end
section
set_option linter.unusedVariables false
set_option linter.unusedSimpArgs false
namespace Go.Proofs.YtelngmkfjpcbgaaDoor.P.VFnTrivial
open Go.RowKit Go.Proofs.YtelngmkfjpcbgaaDoorW.PrintWords Go.Proofs.YtelngmkfjpcbgaaDoorW.PrintLast
theorem taken {b o t s : ByteArray} (h : TF3 b o t = 0) (hs : TF s = 0) (e : PLS (CHK (LNB b) (LNB o) (LNB t)) = LNB s ∧ ∀ c ∈ CHK (LNB b) (LNB o) (LNB t), c.f0 ≠ 4) : MRG b o t = (0, 0, s) := by
 unfold MRG MC;rw [if_pos h, MTX_LNB e.1, if_pos hs, ccl_none e.2];rfl
theorem proof : UFnTrivial.Pure := by
 intro l0 g0;apply Ev.rounds;unfold laws_FnTrivial.f;(have hc : Code l0 := fun x hx => by have := g0.2 x hx;simp [Lit.wf, IntKind.min, IntKind.max, IntKind.signed, IntKind.bits] at this;omega);refine Ev_const (by unfold laws_lwBig.f;rfl) ?_;by_cases hb : (l0.length : Int) > 1048576;(·exact Ev_pos (by simpa using hb) (Ev.now _));refine Ev_neg (by simpa using hb) ?_;obtain ⟨b, o, t, h1, sb, so, st⟩ := drawm hc;refine Ev_call h1 ?_;(have wrong : Ev (fun k => laws_FnTrivial.j0 k b o t true) true := by refine Ev.step (fun k => by rw [laws_FnTrivial.j0]) (Ev_pos rfl ?_);refine Ev_call (imrg_tells (b := b) (o := o) (t := t) (by omega) (by omega) (by omega)) ?_;refine Ev_call (smrg_tells (b := b) (o := o) (t := t) (by omega) (by omega) (by omega)) ?_;exact Ev_val (by simp));refine Ev_call (stf_tells b (by omega)) (Ev_if (fun h2 => ?_) (fun h2 => wrong));refine Ev_call (stf_tells o (by omega)) ?_;by_cases h3 : TF o = 0;rotate_left;(·have : (TF o != 0) = true := bne_iff_ne.2 h3;rw [this];exact wrong);(have e1 : TF3 b o b = 0 := by unfold TF3;rw [if_pos h2, if_pos h3, h2]);(have e2 : TF3 b b o = 0 := by unfold TF3;rw [if_pos h2, if_pos h2, h3]);(have e3 : TF3 b o o = 0 := by unfold TF3;rw [if_pos h2, if_pos h3, h3]);have m1 := imrg_tells (b := b) (o := o) (t := b) (by omega) (by omega) (by omega);have m2 := imrg_tells (b := b) (o := b) (t := o) (by omega) (by omega) (by omega);have m3 := imrg_tells (b := b) (o := o) (t := o) (by omega) (by omega) (by omega);rw [taken e1 h3 (PLS_ours (LNB b) (LNB o))] at m1;rw [taken e2 h3 (PLS_theirs (LNB b) (LNB o))] at m2;rw [taken e3 h3 (PLS_both (LNB b) (LNB o))] at m3;rw [h3];refine Ev.step (fun k => by rw [laws_FnTrivial.j0]) (Ev_neg (by decide) (Ev_call m1 (Ev_call m2 (Ev_call m3 ?_))));refine Ev_pos rfl (Ev_pos rfl (Ev_pos rfl (Ev_pos rfl (Ev_pos rfl (Ev_pos rfl (Ev_pos rfl (Ev_pos rfl (Ev_val ?_))))))));simp
end Go.Proofs.YtelngmkfjpcbgaaDoor.P.VFnTrivial
end
section
set_option linter.unusedVariables false
set_option linter.unusedSimpArgs false
namespace Go.Proofs.YtelngmkfjpcbgaaDoor.O
open Go.RowKit Go.ChangeShapes Go.WideShapes Go.Proofs.YtelngmkfjpcbgaaDoorW.PrintWords
def Opens {α : Type} (P : Program) (t : TypeId) (d : Kd α) (G : α → Prop) : Prop :=
  P.cellsOf t = d.sz ∧ ∀ {H : Type} {enc : TypeId × Value → H} {w : World} {base : Nat} {spare : Nat → Bool} {held : Bool} {fuel : Nat} {cs : List Value} {x : DataW H × List MemPlace},
    DataW.trod enc P w base spare held fuel t cs = some x → ∃ a, d.K w a cs ∧ G a
theorem list_of {α : Type} {Q : Nat → α → Prop} : ∀ n : Nat, (∀ j, j < n → ∃ p, Q j p) → ∃ xs : List α, xs.length = n ∧ ∀ j p, xs[j]? = some p → Q j p
  | 0, _ => ⟨[], rfl, fun j p h => by simp at h⟩
  | n + 1, h => by
    obtain ⟨xs, hl, hx⟩ := list_of n (fun j hj => h j (Nat.lt_succ_of_lt hj))
    obtain ⟨p, hp⟩ := h n (Nat.lt_succ_self n)
    refine ⟨xs ++ [p], by simp [hl], fun j q hq => ?_⟩
    rcases Nat.lt_or_ge j xs.length with hj | hj
    · rw [List.getElem?_append_left hj] at hq
      exact hx j q hq
    · have hj' : j = xs.length := by
        have := (List.getElem?_eq_some_iff.1 hq).1
        rw [List.length_append, List.length_singleton] at this
        omega
      subst hj'
      have e : p = q := by simpa using hq
      subst e
      rw [hl]
      exact hp
theorem cells_get {w : World} {base : Nat} {a : Addr} {n : Nat} {cs : List Value} (h : w.cells? base a n = some cs) : cs.length = n ∧ ∀ i u, cs[i]? = some u → w.cell? (a.add i) = some u := by
 unfold World.cells? at h;split at h;rotate_left;(·simp at h);have hl := mapM_some_length h;rw [List.length_range] at hl;refine ⟨hl, fun i u hu => ?_⟩;(have hi : i < n := by have := (List.getElem?_eq_some_iff.1 hu).1;omega);have := mapM_some_get h i i (by simp [hi]);rw [this, hu]
theorem opens_int {P : Program} {t : TypeId} {k : IntKind} (ht : P.underlying t = some (.int k)) (hc : P.cellsOf t = 1) : Opens P t (Kd.int k) (fun x => (Lit.int k x).wf = true) :=
  ⟨hc, fun h => by
    obtain ⟨n, rfl, _, hw⟩ := DataW.trod_int ht h
    exact ⟨n, rfl, hw⟩⟩
theorem opens_slice {α : Type} {P : Program} {t e : TypeId} {d : Kd α} {G : α → Prop} (ht : P.underlying t = some (.slice e)) (hc : P.cellsOf t = 1) (he : Opens P e d G) :
    Opens P t (Kd.slice e d) (fun l => l.length ≤ 9223372036854775807 ∧ ∀ x ∈ l, G x) := by
 refine ⟨hc, fun {H enc w base spare held fuel cs x} h => ?_⟩;(rcases DataW.trod_slice ht h with ⟨rfl, _⟩ | ⟨a, len, cap, elems, rest, n, _, rfl, _, hb, hl, hm, hlen, hel, _, _⟩);(·exact ⟨[], ⟨none, 0, rfl, Nat.le_refl _, rfl, by simp, fun hp => absurd hp (by simp)⟩, by simp, by simp⟩);have hcap : cap ≤ 9223372036854775807 := hm
 obtain ⟨xs, hxl, hx⟩ := list_of (Q := fun j p => (∃ c : List Value, c.length = d.sz ∧ d.K w p c ∧ ∀ i u, c[i]? = some u → w.cell? (a.add (j * d.sz + i)) = some u) ∧ G p) len (fun j hj => by
   have h1 := hel j hj
   rw [List.getElem?_eq_getElem (by omega), Option.bind_eq_some_iff] at h1
   obtain ⟨cs', hcs, hy⟩ := h1
   obtain ⟨p, hK, hG⟩ := he.2 hy
   obtain ⟨hcl, hcell⟩ := cells_get hcs
   refine ⟨p, ⟨cs', by rw [hcl, he.1], hK, fun i u hu => ?_⟩, hG⟩
   have := hcell i u hu
   rw [he.1] at this
   rw [← Addr.add_add]
   exact this)
 (have hlen2 : xs.length ≤ cap := by omega);refine ⟨xs, ⟨some a, cap, ?_, hlen2, rfl, by omega, fun _ => ⟨a, rfl, fun j p hj => (hx j p hj).1⟩⟩, by omega, fun y hy => ?_⟩;(·rw [hxl]);obtain ⟨j, hj⟩ := List.getElem?_of_mem hy;exact (hx j y hj).2
end Go.Proofs.YtelngmkfjpcbgaaDoor.O
end
namespace Go.Proofs.YtelngmkfjpcbgaaDoor.fnTrivial
open Go.ChangeShapes Go.WideShapes Go.ChangeAt Go.RowKit
open Go.ChangeMaps (open_string shut_string)
open Go.Proofs.YtelngmkfjpcbgaaDoor.P Go.Proofs.YtelngmkfjpcbgaaDoor.P.UFnTrivial Go.Proofs.YtelngmkfjpcbgaaDoorW.PrintWords
set_option linter.unusedVariables false
theorem own : ownKnob Tryd.prog.godebug = none := by kernel_rfl
theorem laidOut : laidOutB Tryd.prog = true := by kernel_rfl
set_option maxRecDepth 100000 in
theorem lifted (os : Os) (started : os.Started) (H : Type) (enc : TypeId × Value → H) :
    ReturnsInHanded {} Tryd.checked os 5 .any (fun w args => (Rows.fnTrivialSpec.pre enc Tryd.prog Tryd.f5 [] false w args ∧ laidMetH Tryd.prog Rows.fnTrivialRow.laid w) ∧ sizedMet enc Tryd.prog Tryd.f5 (OpenSpec.ofChange Rows.fnTrivialSpec) false w args)
      (Rows.fnTrivialSpec.post enc Tryd.prog Tryd.f5 false true false false) := by
 refine returnsInHanded_of_change_and (C := Tryd.checked) (X := fun w _ => laidMetH Tryd.prog Rows.fnTrivialRow.laid w) (fun _ _ _ hh h => h.of_heap hh) own started (by kernel_rfl) Tryd.func5
   (ChangeSpec.witness_shaped (enc := enc) (C := Tryd.checked) (os := os) (X := fun w _ => laidMetH Tryd.prog Rows.fnTrivialRow.laid w) false (World.laidAll Tryd.prog os Rows.fnTrivialRow.laid) #[.slice none 0 0] 8 (World.laidAll_os _ _ _)
     (World.shaped_of_ZipB (by kernel_rfl) (by kernel_rfl)) (by kernel_rfl) (by kernel_rfl) (by kernel_rfl)
     (by rw [MakeChecks.laidMetH_plain _ _ _ (by kernel_rfl)];exact laidMet_laidAll _ (by kernel_rfl) (by kernel_rfl))) ?_
 intro W base args ds gs before hval0 hW hcnd hsz0 hL _;have hval : ∀ (j : Nat) t v, Tryd.f5.params[j]? = some t → args[j]? = some v → Value.okWide Tryd.prog W .any base t v := hval0;have hW' := hW;obtain ⟨p, q, hA0, hV, rfl, hfz, hnd⟩ := hW;have hA : DataW.TrodAll enc Tryd.prog W 0 (fun _ => true) true Tryd.f5.params.toList args.toList ds p := hA0;rw [Tryd.params5] at hA hval;obtain ⟨v0, vs0, d0, ds0, p0, q0, hargs, rfl, rfl, h0, r0⟩ := trodAll_cons hA;obtain ⟨rfl, rfl, rfl⟩ := trodAll_nil r0;(obtain rfl : args = #[v0] := by cases args;simp_all);obtain ⟨rfl, rfl⟩ := trodVars_none hV;have k0_ := h0;(have lt0 : ∀ x ∈ p0, x.block < W.heap.size := by obtain ⟨m, hm⟩ := k0_;exact DataW.trod_lt m _ _ _ hm);obtain ⟨b0, len0, cap0, rfl⟩ := okWide_slice Tryd.underlying27 (hval 0 27 v0 rfl rfl);obtain ⟨fuel0, hf0⟩ := h0;obtain ⟨l0, ⟨A0, c0, hcs0, hc0, hr0⟩, g0⟩ := (O.opens_slice Tryd.underlying27 (by kernel_rfl) (O.opens_int Tryd.underlying5 (by kernel_rfl))).2 hf0;simp [Value.cells] at hcs0;obtain ⟨rfl, rfl, rfl⟩ := hcs0;clear hA0 hval0 hsz0;obtain ⟨k, h⟩ := VFnTrivial.proof l0 g0;(refine (laws_FnTrivial.calls k _ _ l0 true W hr0 hc0 h rfl).mono fun e W' hend => ?_);obtain ⟨rfl, hbel⟩ := hend;have bel : Below W.heap.size W W' := hbel;exact ⟨_, rfl, _, _, _, [], _, [], hW', trodAll_mk1 (shut_bool Tryd.underlying4 _), (trodAll_cons_mk (Below.trod laidOut (by kernel_rfl) (of_decide_eq_true (by kernel_rfl)) k0_ bel lt0) trodAll_mk0), rfl, bel.frame _, fun h => by cases h⟩
theorem over : Rows.fnTrivialRow.holds Tryd.pinned (OpenSpec.ofChange Rows.fnTrivialSpec) :=
  OpenClaim.holds_of_wide 5 Tryd.f5 rfl rfl rfl rfl rfl rfl rfl ⟨rfl, rfl, rfl, rfl, rfl⟩ rfl rfl rfl rfl rfl (by kernel_rfl) Tryd.func5 (by kernel_rfl)
    (of_decide_eq_true (by kernel_rfl)) (by unfold Func.isWrapper;first | (rw [if_pos (by decide +kernel)];kernel_rfl) | (rw [if_neg (by decide +kernel)];exact ⟨rfl, rfl⟩))
    (fun os started H enc _ => lifted os started H enc)
set_option maxRecDepth 100000 in
theorem proved : Rows.FnTrivialCardSaid :=
  Claim7.holds_tied_plain_at .later [] [.data, .pinned] true (true, "59a4bb0ad56943b69f92c84e9f1dd035f86da3d89a6ce62ee6acbadd5af9c3d4") false over (fun _ h => by cases h) (by kernel_rfl) (fun _ h => by cases h) fnTrivial_row_tie rfl ⟨rfl, rfl⟩ (by kernel_rfl) rfl
    (fun f fn hf hfn => by
      obtain rfl : f = 5 := Option.some.inj ((show Tryd.prog.funcNamed "loop.example/g00172/laws.FnTrivial" = some 5 by kernel_rfl).symm.trans hf) |>.symm
      obtain rfl : fn = Tryd.f5 := (Option.some.inj (Tryd.func5.symm.trans hfn)).symm
      exact ⟨by kernel_rfl, fun j t ht => by
        rw [Tryd.params5] at ht
        have hm : t ∈ [27] := by simpa using Array.mem_of_getElem? ht
        have hall : ([27].all fun u => !Tryd.prog.wantsStandIn u) = true := by kernel_rfl
        exact (show Tryd.prog.wantsStandIn t = false by simpa using List.all_eq_true.1 hall t hm)⟩)
    (by kernel_rfl)
#print axioms proved
end Go.Proofs.YtelngmkfjpcbgaaDoor.fnTrivial
namespace Go.Proofs.YtelngmkfjpcbgaaDoor
theorem fnTrivial_holds : Rows.FnTrivialCardSaid := fnTrivial.proved
end Go.Proofs.YtelngmkfjpcbgaaDoor
