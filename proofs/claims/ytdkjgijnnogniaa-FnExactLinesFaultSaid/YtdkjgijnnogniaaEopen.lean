/- How an argument of any kind of data (numbers, bools, strings, slices and structs of these) is read out of the row's own reading. -/
import Derived.Test.YtdkjgijnnogniaaWWords
import Derived.SliceStrings
import Derived.DataReads
import Derived.DataElems
set_option linter.unusedVariables false
set_option linter.unusedSimpArgs false
namespace Go.Proofs.Ytdkjgijnnogniaa.O
open Go.RowKit Go.ChangeShapes Go.WideShapes Go.Proofs.YtdkjgijnnogniaaW.PrintWords

/-- What a reading of a value of type t says, by the kind d; G: what is known of the value's size. -/
def Opens {α : Type} (P : Program) (t : TypeId) (d : Kd α) (G : α → Prop) : Prop :=
  P.cellsOf t = d.sz ∧ ∀ {H : Type} {enc : TypeId × Value → H} {w : World} {base : Nat} {spare : Nat → Bool} {held : Bool} {fuel : Nat} {cs : List Value} {x : DataW H × List MemPlace},
    DataW.trod enc P w base spare held fuel t cs = some x → ∃ a, d.K w a cs ∧ G a

theorem list_of {α : Type} {Q : Nat → α → Prop} : ∀ n : Nat, (∀ j, j < n → ∃ p, Q j p) → ∃ xs : List α, xs.length = n ∧ ∀ j p, xs[j]? = some p → Q j p
  | 0, _ => ⟨[], rfl, fun j p h => by simp at h⟩
  | n + 1, h => by
    obtain ⟨xs, hl, hx⟩ := list_of n (fun j hj => h j (Nat.lt_succ_of_lt hj))
    obtain ⟨p, hp⟩ := h n (Nat.lt_succ_self n)
    refine ⟨xs ++ [p], by simp [hl], fun j q hq => ?_⟩
    rcases Nat.lt_or_ge j xs.length with hj | hj
    · rw [List.getElem?_append_left hj] at hq
      exact hx j q hq
    · have hj' : j = xs.length := by
        have := (List.getElem?_eq_some_iff.1 hq).1
        rw [List.length_append, List.length_singleton] at this
        omega
      subst hj'
      have e : p = q := by simpa using hq
      subst e
      rw [hl]
      exact hp

theorem cells_get {w : World} {base : Nat} {a : Addr} {n : Nat} {cs : List Value} (h : w.cells? base a n = some cs) : cs.length = n ∧ ∀ i u, cs[i]? = some u → w.cell? (a.add i) = some u := by
  unfold World.cells? at h
  split at h
  · have hl := mapM_some_length h
    rw [List.length_range] at hl
    refine ⟨hl, fun i u hu => ?_⟩
    have hi : i < n := by
      have := (List.getElem?_eq_some_iff.1 hu).1
      omega
    have := mapM_some_get h i i (by simp [hi])
    rw [this, hu]
  · simp at h

theorem opens_int {P : Program} {t : TypeId} {k : IntKind} (ht : P.underlying t = some (.int k)) (hc : P.cellsOf t = 1) : Opens P t (Kd.int k) (fun x => (Lit.int k x).wf = true) :=
  ⟨hc, fun h => by
    obtain ⟨n, rfl, _, hw⟩ := DataW.trod_int ht h
    exact ⟨n, rfl, hw⟩⟩
theorem opens_bool {P : Program} {t : TypeId} (ht : P.underlying t = some .bool) (hc : P.cellsOf t = 1) : Opens P t Kd.bool (fun _ => True) :=
  ⟨hc, fun h => by
    obtain ⟨b, rfl, _⟩ := DataW.trod_bool ht h
    exact ⟨b, rfl, trivial⟩⟩
theorem opens_string {P : Program} {t : TypeId} (ht : P.underlying t = some .string) (hc : P.cellsOf t = 1) : Opens P t Kd.string (fun s => s.size ≤ 9223372036854775807) :=
  ⟨hc, fun h => by
    obtain ⟨s, rfl, _, hw⟩ := DataW.trod_string ht h
    exact ⟨s, rfl, hw⟩⟩
theorem opens_slice {α : Type} {P : Program} {t e : TypeId} {d : Kd α} {G : α → Prop} (ht : P.underlying t = some (.slice e)) (hc : P.cellsOf t = 1) (he : Opens P e d G) :
    Opens P t (Kd.slice e d) (fun l => l.length ≤ 9223372036854775807 ∧ ∀ x ∈ l, G x) := by
  refine ⟨hc, fun {H enc w base spare held fuel cs x} h => ?_⟩
  rcases DataW.trod_slice ht h with ⟨rfl, _⟩ | ⟨a, len, cap, elems, rest, n, _, rfl, _, hb, hl, hm, hlen, hel, _, _⟩
  · exact ⟨[], ⟨none, 0, rfl, Nat.le_refl _, rfl, by simp, fun hp => absurd hp (by simp)⟩, by simp, by simp⟩
  · have hcap : cap ≤ 9223372036854775807 := hm
    obtain ⟨xs, hxl, hx⟩ := list_of (Q := fun j p => (∃ c : List Value, c.length = d.sz ∧ d.K w p c ∧ ∀ i u, c[i]? = some u → w.cell? (a.add (j * d.sz + i)) = some u) ∧ G p) len (fun j hj => by
      have h1 := hel j hj
      rw [List.getElem?_eq_getElem (by omega), Option.bind_eq_some_iff] at h1
      obtain ⟨cs', hcs, hy⟩ := h1
      obtain ⟨p, hK, hG⟩ := he.2 hy
      obtain ⟨hcl, hcell⟩ := cells_get hcs
      refine ⟨p, ⟨cs', by rw [hcl, he.1], hK, fun i u hu => ?_⟩, hG⟩
      have := hcell i u hu
      rw [he.1] at this
      rw [← Addr.add_add]
      exact this)
    have hlen2 : xs.length ≤ cap := by omega
    refine ⟨xs, ⟨some a, cap, ?_, hlen2, rfl, by omega, fun _ => ⟨a, rfl, fun j p hj => (hx j p hj).1⟩⟩, by omega, fun y hy => ?_⟩
    · rw [hxl]
    · obtain ⟨j, hj⟩ := List.getElem?_of_mem hy
      exact (hx j y hj).2

/-- A struct's fields from an offset on. -/
def OpensTail {α : Type} (P : Program) (fs : List Field) (off : Nat) (d : Kd α) (G : α → Prop) : Prop :=
  ∀ {H : Type} {enc : TypeId × Value → H} {w : World} {base : Nat} {spare : Nat → Bool} {held : Bool} {fuel : Nat} {cs : List Value},
    (∀ f ∈ fs, ∃ y, DataW.trod enc P w base spare held fuel f.type ((cs.drop f.offset).take (P.cellsOf f.type)) = some y) → cs.length = off + d.sz → ∃ a, d.K w a (cs.drop off) ∧ G a
theorem tail_one {α : Type} {P : Program} {f : Field} {off : Nat} {d : Kd α} {G : α → Prop} (ho : f.offset = off) (h : Opens P f.type d G) : OpensTail P [f] off d G := by
  intro H enc w base spare held fuel cs hy hl
  obtain ⟨y, hy⟩ := hy f (List.mem_singleton.2 rfl)
  obtain ⟨a, hK, hG⟩ := h.2 hy
  refine ⟨a, ?_, hG⟩
  rw [ho, h.1, List.take_of_length_le (by rw [List.length_drop]; omega)] at hK
  exact hK
theorem tail_cons {α β : Type} {P : Program} {f : Field} {fs : List Field} {off off2 : Nat} {d : Kd α} {d2 : Kd β} {G : α → Prop} {G2 : β → Prop} (ho : f.offset = off) (h : Opens P f.type d G) (ho2 : off2 = off + d.sz) (h2 : OpensTail P fs off2 d2 G2) :
    OpensTail P (f :: fs) off (Kd.pair d d2) (fun x => G x.1 ∧ G2 x.2) := by
  intro H enc w base spare held fuel cs hy hl
  obtain ⟨y, hy1⟩ := hy f List.mem_cons_self
  obtain ⟨a, hK, hG⟩ := h.2 hy1
  have hl' : cs.length = off2 + d2.sz := by rw [hl, ho2]; exact (Nat.add_assoc _ _ _).symm
  obtain ⟨b, hK2, hG2⟩ := h2 (fun f' hf' => hy f' (List.mem_cons_of_mem _ hf')) hl'
  refine ⟨(a, b), ⟨(cs.drop off).take d.sz, (cs.drop off).drop d.sz, (List.take_append_drop _ _).symm, ?_, ?_⟩, hG, hG2⟩
  · rw [ho, h.1] at hK
    exact hK
  · rw [List.drop_drop, ← ho2]
    exact hK2
theorem opens_struct {α β : Type} {P : Program} {t : TypeId} {fs : Array Field} {d : Kd α} {f : β → α} {g : α → β} {G : α → Prop} (ht : P.underlying t = some (.struct fs)) (hc : P.cellsOf t = d.sz) (hfg : ∀ a, f (g a) = a) (h : OpensTail P fs.toList 0 d G) :
    Opens P t (Kd.iso d f) (fun b => G (f b)) := by
  refine ⟨hc, fun {H enc w base spare held fuel cs x} hx => ?_⟩
  obtain ⟨xs, n, rfl, _, hl, hxl, hf⟩ := DataW.trod_struct ht hx
  obtain ⟨a, hK, hG⟩ := h (enc := enc) (w := w) (base := base) (spare := spare) (held := held) (fuel := n) (cs := cs) (fun f' hf' => by
    obtain ⟨i, hi⟩ := List.getElem?_of_mem hf'
    have hi' : fs[i]? = some f' := by simpa using hi
    have hlt : i < fs.size := (Array.getElem?_eq_some_iff.1 hi').1
    exact ⟨xs[i]'(by omega), by rw [hf i f' hi', List.getElem?_eq_getElem]⟩) (by rw [hl, hc, Nat.zero_add])
  refine ⟨g a, ?_, ?_⟩
  · show d.K w (f (g a)) cs
    rw [hfg]
    simpa using hK
  · show G (f (g a))
    rw [hfg]
    exact hG
end Go.Proofs.Ytdkjgijnnogniaa.O
