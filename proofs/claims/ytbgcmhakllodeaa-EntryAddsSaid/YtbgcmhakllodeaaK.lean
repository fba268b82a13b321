/- What came in, read by kinds: a reading of a type tells what its cells hold. -/
import Derived.Test.YtbgcmhakllodeaaPEntryDiffersx0
import Derived.Deep.Slices
import Derived.Deep.Fields
import Derived.ChangeSame
import Derived.WideShapes
namespace Go.Proofs.Ytbgcmhakllodeaa
open Go.RowKit Go.Proofs.YtbgcmhakllodeaaW.PrintWords Go.Proofs.YtbgcmhakllodeaaW.PrintLast Go.Proofs.YtbgcmhakllodeaaW.PrintMore
open PEntryDiffers Go.ChangeShapes Go.WideShapes Go.Deep

/-- What a type's readings tell, by a kind. -/
structure OpT (P : Program) (t : TypeId) {α : Type} (d : Kd α) (ok : α → Prop) : Prop where
  sz : P.cellsOf t = d.sz
  rd : ∀ {H : Type} {enc : TypeId × Value → H} {w : World} {base : Nat} {spare : Nat → Bool} {held : Bool} {fuel : Nat} {cs : List Value} {x : DataW H × List MemPlace}, DataW.trod enc P w base spare held fuel t cs = some x → ∃ a, d.K w a cs ∧ ok a
def OpF (P : Program) (fs : List Field) (off : Nat) {α : Type} (d : Kd α) (ok : α → Prop) : Prop :=
  ∀ {H : Type} {enc : TypeId × Value → H} {w : World} {base : Nat} {spare : Nat → Bool} {held : Bool} {n : Nat} {cs : List Value}, (∀ f ∈ fs, ∃ x, DataW.trod enc P w base spare held n f.type ((cs.drop f.offset).take (P.cellsOf f.type)) = some x) → ∃ a, d.K w a ((cs.drop off).take d.sz) ∧ ok a
section
variable {P : Program} {t e : TypeId} {α β : Type} {d : Kd α} {d' : Kd β} {ok : α → Prop} {ok' : β → Prop}
theorem OpT.int {k : IntKind} (hu : P.underlying t = some (.int k)) (hc : P.cellsOf t = 1) : OpT P t (Kd.int k) (fun n => (Lit.int k n).wf = true) :=
  ⟨hc, fun h => by obtain ⟨n, rfl, _, hw⟩ := DataW.trod_int hu h; exact ⟨n, rfl, hw⟩⟩
theorem OpT.bool (hu : P.underlying t = some .bool) (hc : P.cellsOf t = 1) : OpT P t Kd.bool (fun _ => True) :=
  ⟨hc, fun h => by obtain ⟨n, rfl, _⟩ := DataW.trod_bool hu h; exact ⟨n, rfl, trivial⟩⟩
theorem list_of {p : Nat → α → Prop} : ∀ n : Nat, (∀ i, i < n → ∃ a, p i a) → ∃ l : List α, l.length = n ∧ ∀ i a, l[i]? = some a → p i a
  | 0, _ => ⟨[], rfl, fun i a h => by simp at h⟩
  | n + 1, h => by
    obtain ⟨l, h1, h2⟩ := list_of n (fun i hi => h i (by omega))
    obtain ⟨a, ha⟩ := h n (by omega)
    refine ⟨l ++ [a], by simp [h1], fun i b hb => ?_⟩
    rcases Nat.lt_or_ge i n with hi | hi
    · rw [List.getElem?_append_left (by omega)] at hb
      exact h2 i b hb
    · have : i = n := by
        have := (List.getElem?_eq_some_iff.1 hb).1
        simp at this
        omega
      subst this
      rw [List.getElem?_append_right (by omega), h1, Nat.sub_self] at hb
      obtain rfl : a = b := by simpa using hb
      exact ha
theorem OpT.row (he : OpT P e d ok) (hu : P.underlying t = some (.slice e)) {H : Type} {enc : TypeId × Value → H} {w : World} {base : Nat} {spare : Nat → Bool} {held : Bool} {fuel : Nat} {cs : List Value} {x : DataW H × List MemPlace} (h : DataW.trod enc P w base spare held fuel t cs = some x) :
    ∃ (A : Option Addr) (c : Nat) (l : List α), cs = [.slice A l.length c] ∧ l.length ≤ c ∧ Kd.C d w A l.length l ∧ ∀ a ∈ l, ok a := by
  rcases open_slice hu h with ⟨rfl, _⟩ | ⟨a, len, cap, m, n, D, Pl, rfl, _, hl, hm, hmm, _, hi⟩
  · exact ⟨none, 0, [], rfl, Nat.le_refl _, ⟨rfl, by simp, fun h => absurd h (by simp)⟩, by simp⟩
  · obtain ⟨l, h1, h2⟩ := list_of (p := fun i b => (∃ c : List Value, c.length = d.sz ∧ d.K w b c ∧ ∀ j u, c[j]? = some u → w.cell? (a.add (i * d.sz + j)) = some u) ∧ ok b) len (fun i hlt => by
      obtain ⟨cs', hc, ht⟩ := hi i (by rw [hmm]; split <;> omega)
      obtain ⟨b, hk, ho⟩ := he.rd ht
      obtain ⟨_, hcl, hat⟩ := World.cells?_some hc
      have hsz := d.K_len hk
      refine ⟨b, ⟨cs', hsz, hk, fun j u hu => ?_⟩, ho⟩
      have hj := (List.getElem?_eq_some_iff.1 hu).1
      have := hat j (by omega)
      rw [hu, Go.Deep.add_add, he.sz] at this
      exact this)
    subst h1
    refine ⟨some a, cap, l, rfl, hl, ⟨rfl, by unfold maxLen at hm; omega, fun _ => ⟨a, rfl, fun j p hp => (h2 j p hp).1⟩⟩, fun b hb => ?_⟩
    obtain ⟨i, hib⟩ := List.getElem?_of_mem hb
    exact (h2 i b hib).2
theorem OpT.slice {e' : Nat} (he : OpT P e d ok) (hu : P.underlying t = some (.slice e)) (hc : P.cellsOf t = 1) : OpT P t (Kd.slice e' d) (fun l => ∀ a ∈ l, ok a) :=
  ⟨hc, fun h => by
    obtain ⟨A, c, l, h1, h2, h3, h4⟩ := he.row hu h
    exact ⟨l, ⟨A, c, h1, h2, h3⟩, h4⟩⟩
theorem OpF.one {f : Field} {off : Nat} (ho : f.offset = off) (h : OpT P f.type d ok) : OpF P [f] off d ok := fun hf => by
  obtain ⟨x, hx⟩ := hf f (by simp)
  obtain ⟨a, h1, h2⟩ := h.rd hx
  rw [ho, h.sz] at h1
  exact ⟨a, h1, h2⟩
theorem OpF.cons {f : Field} {fs : List Field} {off : Nat} (ho : f.offset = off) (h : OpT P f.type d ok) (hs : OpF P fs (off + d.sz) d' ok') : OpF P (f :: fs) off (Kd.pair d d') (fun p => ok p.1 ∧ ok' p.2) := fun {H} {enc} {w} {base} {spare} {held} {n} {cs} hf => by
  obtain ⟨x, hx⟩ := hf f (by simp)
  obtain ⟨a, h1, h2⟩ := h.rd hx
  rw [ho, h.sz] at h1
  obtain ⟨b, h3, h4⟩ := hs (cs := cs) (fun g hg => hf g (by simp [hg]))
  refine ⟨(a, b), ⟨_, _, ?_, h1, h3⟩, h2, h4⟩
  rw [show (Kd.pair d d').sz = d.sz + d'.sz from rfl, List.take_add, List.drop_drop]
theorem OpT.struct {fs : Array Field} (hu : P.underlying t = some (.struct fs)) (hs : OpF P fs.toList 0 d ok) (hc : P.cellsOf t = d.sz) : OpT P t d ok :=
  ⟨hc, fun {H} {enc} {w} {base} {spare} {held} {fuel} {cs} {x} h => by
    obtain ⟨xs, n, _, _, hl, hlen, hf⟩ := DataW.trod_struct hu h
    obtain ⟨a, h1, h2⟩ := hs (cs := cs) (fun f hf' => by
      obtain ⟨i, hi⟩ := List.getElem?_of_mem hf'
      rw [Array.getElem?_toList] at hi
      have hlt := (Array.getElem?_eq_some_iff.1 hi).1
      exact ⟨_, (hf i f hi).trans (List.getElem?_eq_getElem (by omega))⟩)
    rw [List.drop_zero, List.take_of_length_le (by omega)] at h1
    exact ⟨a, h1, h2⟩⟩
theorem OpT.iso (h : OpT P t d ok) (f : β → α) (g : α → β) (hg : ∀ a, f (g a) = a) : OpT P t (Kd.iso d f) (fun b => ok (f b)) :=
  ⟨h.sz, fun ht => by
    obtain ⟨a, h1, h2⟩ := h.rd ht
    exact ⟨g a, by show d.K _ (f (g a)) _; rw [hg]; exact h1, by rw [hg]; exact h2⟩⟩
theorem OpT.mono {ok2 : α → Prop} (h : OpT P t d ok) (hk : ∀ a, ok a → ok2 a) : OpT P t d ok2 :=
  ⟨h.sz, fun ht => by
    obtain ⟨a, h1, h2⟩ := h.rd ht
    exact ⟨a, h1, hk a h2⟩⟩
end
end Go.Proofs.Ytbgcmhakllodeaa
