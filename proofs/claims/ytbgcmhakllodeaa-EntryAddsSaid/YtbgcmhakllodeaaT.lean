/- SortedFunc over maps.Keys; told. -/
import Derived.Test.YtbgcmhakllodeaaO
import Derived.Shelf.SlSortCmp.NoneTotal
namespace Go.Proofs.Ytbgcmhakllodeaa
open Go.RowKit Go.Shelf Go.Sort

theorem kvl_length (ss : List (Int × Int)) : (kvl ss).length = ss.length * 2 := by
  induction ss with
  | nil => rfl
  | cons p r ih => simp [kvl, kvs] at ih ⊢; omega
theorem kvl_get : ∀ (ss : List (Int × Int)) (t : Nat), t < ss.length * 2 → (kvl ss)[t]? = some ((kvs (ss.toArray[t / 2]!))[t % 2]!)
  | p :: r, 0, _ => by simp [kvl, kvs]
  | p :: r, 1, _ => by simp [kvl, kvs]
  | p :: r, t + 2, h => by
    have ih := kvl_get r t (by simp at h; omega)
    have e : kvl (p :: r) = .int .i64 p.1 :: .int .i64 p.2 :: kvl r := by simp [kvl, kvs]
    rw [e, List.getElem?_cons_succ, List.getElem?_cons_succ, ih]
    have h1 : (t + 2) / 2 = t / 2 + 1 := by omega
    have h2 : (t + 2) % 2 = t % 2 := by omega
    have h3 : t / 2 < r.length := by simp at h; omega
    rw [h1, h2]
    congr 3
    rw [getElem!_pos _ _ (by simpa using h3), getElem!_pos _ _ (by simp; omega)]
    simp
theorem flat_kvl (ss : List (Int × Int)) : (flatK kvs 2 ss.toArray).toList = kvl ss := by
  apply List.ext_getElem?
  intro t
  by_cases h : t < ss.length * 2
  · rw [kvl_get ss t h, Array.getElem?_toList, Array.getElem?_eq_getElem (by simpa using h), ← getElem!_pos _ _ (by simpa using h), get_flatK _ _ _ _ (by simpa using h)]
  · rw [List.getElem?_eq_none (by simp; omega), List.getElem?_eq_none (by rw [kvl_length]; omega)]
theorem hold_keys {w : World} {g : Nat} {cur : Array Value} {e : TypeId} {ss : List (Int × Int)} (hb : w.heap[g]? = some (.cells cur e (0, 0))) (ht : cur.toList.take (ss.length * 2) = kvl ss) : HoldsK kvs 2 w g 0 ss.toArray := by
  intro j hj
  have hf := flat_kvl ss
  have hj' : j < (kvl ss).length := by rw [← hf]; simpa using hj
  refine ⟨?_, by simp [World.frozen?, hb]⟩
  have h1 : (cur.toList.take (ss.length * 2))[j]? = (kvl ss)[j]? := by rw [ht]
  rw [List.getElem?_take_of_lt (by rw [kvl_length] at hj'; exact hj'), ← hf] at h1
  simp only [World.cell?, hb, Nat.zero_add]
  simp only [Option.isSome_none, Bool.false_eq_true, if_false]
  rw [← Array.getElem?_toList, h1, Array.getElem?_toList, Array.getElem?_eq_getElem hj, ← getElem!_pos _ j hj]
  rfl
theorem heap_sorted {w : World} {g n : Nat} {os : Array Obj} {cur : Array Value} {e : TypeId} {fr : Nat × Nat} (d : Array (Int × Int)) (hb : w.heap[g]? = some (.cells cur e fr)) :
    (sortWorldK kvs 2 w g 0 n d os).heap[g]? = some (.cells (putCells id 0 (flatK kvs 2 d) cur) e fr) := by
  have hg : g < w.heap.size := (Array.getElem?_eq_some_iff.1 hb).1
  unfold sortWorldK putRowK
  rw [heap_grow_old _ _ (by simpa using hg)]
  simp [putRow, mapBlock, Sort.ahead, Array.getElem?_modify, hb, onCells]
theorem grownBy_sorted {w : World} {g n : Nat} {os : Array Obj} (d : Array (Int × Int)) : w.grownBy (sortWorldK kvs 2 w g 0 n d os) (some g) := by
  refine ⟨rfl, rfl, rfl, by simp [sortWorldK, putRowK], fun k hk hne => ?_⟩
  unfold sortWorldK putRowK
  rw [heap_grow_old _ _ (by simpa using hk)]
  have : g ≠ k := fun e => hne (by rw [e])
  simp [putRow, mapBlock, Sort.ahead, Array.getElem?_modify, this]
theorem take_sorted (cur : Array Value) (ts : List (Int × Int)) (h : ts.length * 2 ≤ cur.size) : (putCells id 0 (flatK kvs 2 ts.toArray) cur).toList.take (ts.length * 2) = kvl ts := by
  have hf := flat_kvl ts
  have hs : (flatK kvs 2 ts.toArray).size = ts.length * 2 := by rw [← Array.length_toList, hf, kvl_length]
  rw [← hf]
  apply List.ext_getElem?
  intro j
  by_cases hj : j < ts.length * 2
  · rw [List.getElem?_take_of_lt hj, Array.getElem?_toList]
    simp [putCells, hs, hj, show j < cur.size by omega]
  · rw [List.getElem?_take_eq_none (by omega), List.getElem?_eq_none (by simp [hs]; omega)]
theorem perm_list {d d' : Array (Int × Int)} (h : PermIn 0 d.size d d') : d'.toList.Perm d.toList := by
  have h1 := h.2.2
  rw [Array.extract_eq_self_of_le (Nat.le_refl _), Array.extract_eq_self_of_le (by rw [h.1]; exact Nat.le_refl _)] at h1
  exact h1
/-- SortFunc, at a list of the call's own: the same list, in order. -/
theorem sort_list (base : Nat) (v : Value) (ss : List (Int × Int)) (hl : ss.length ≤ 8796093022208) (w : World) (hR : w.ownsRow base 61 2 v ss.length (kvl ss)) :
    Calls Try.prog 38 #[v, .func (.func 34) #[] #[]] w fun e w' => e = .returned (.tuple #[]) ∧ ∃ ts, ts.Perm ss ∧ ts.Pairwise (fun x y => ltk y x = false) ∧ w'.ownsRow base 61 2 v ts.length (kvl ts) ∧ w.grownBy w' v.ownBlock := by
  rcases hR.2 with ⟨rfl, h0⟩ | ⟨g, cap, cur, rfl, hbase, hb, h1, h2, h3, h4⟩
  · have : ss = [] := List.eq_nil_of_length_eq_zero h0
    subst this
    refine (AnyF.slices_SortFunc_none Try.sortKey none 0 _ w).mono ?_
    rintro e w' ⟨he, rfl⟩
    exact ⟨he, [], List.Perm.refl _, List.Pairwise.nil, hR, World.grownBy.refl _ _⟩
  · have hH := hold_keys hb h4
    have hc := sortKeys g 0 cap ss.toArray w hH (Array.getElem?_eq_some_iff.1 hb).1 (by simp; omega)
    rw [List.size_toArray] at hc
    refine hc.mono ?_
    rintro e w' ⟨he, d', n, os, hp, hs, rfl⟩
    have hp' : PermIn 0 ss.toArray.size ss.toArray d' := by simpa using hp
    have hl' : d'.size = ss.length := by simpa using hp'.1
    refine ⟨he, d'.toList, by simpa using perm_list hp', ?_, ⟨by rw [kvl_length], .inr ⟨g, cap, _, ?_, hbase, heap_sorted d' hb, ?_, h2, by simp [putCells, h3], ?_⟩⟩, grownBy_sorted d'⟩
    · rw [List.pairwise_iff_getElem]
      intro i j hi hj hij
      have := hs i j (Nat.zero_le _) hij (by simp at hj; omega)
      rw [lt_cf] at this
      simp at hi hj
      rw [getElem!_pos d' j hj, getElem!_pos d' i hi] at this
      simpa using this
    · simp [hl']
    · simp [hl']; omega
    · have := take_sorted cur d'.toList (by simp [hl', h3]; omega)
      simpa using this
end Go.Proofs.Ytbgcmhakllodeaa
