/- Maps keyed by a pair of numbers, as the entries' own list. -/
import Derived.Test.YtbgcmhakllodeaaProg
import Derived.WalkKit
import Derived.Maps.RangeRun
namespace Go.Proofs.Ytbgcmhakllodeaa
open Go.RowKit

def kv (p : Int × Int) : Value := .agg #[.int .i64 p.1, .int .i64 p.2]
theorem size3 (w : World) : (sizeOf 3).run Try.prog w = .ok 1 w := by kernel_rfl
theorem agg3 (w : World) : (isAgg 3).run Try.prog w = .ok false w := by kernel_rfl
theorem eq_int3 (d : Nat) (a b : Int) (w : World) : (Op.equalIn (d + 1) 3 (.int .i64 a) (.int .i64 b)).run Try.prog w = .ok (a == b) w := by
  have u3 := run_underlying Try.underlying3 w
  rw [Op.equalIn]
  simp [u3]
theorem range2 : List.range' 0 2 = [0, 1] := rfl
theorem part3 (cs : Array Value) (i : Nat) (v : Value) (h : cs[i]? = some v) (w : World) : (part 3 cs i).run Try.prog w = .ok v w := by
  simp [part, agg3, h]
theorem eq_keyIn (d : Nat) (p q : Int × Int) (w : World) : (Op.equalIn (d + 2) 61 (kv p) (kv q)).run Try.prog w = .ok (p.1 == q.1 && p.2 == q.2) w := by
  have u61 := run_underlying Try.underlying61 w
  have p0 : ∀ a b : Int, (part 3 #[.int .i64 a, .int .i64 b] 0).run Try.prog w = .ok (.int .i64 a) w := fun a b => part3 _ _ _ rfl w
  have p1 : ∀ a b : Int, (part 3 #[.int .i64 a, .int .i64 b] 1).run Try.prog w = .ok (.int .i64 b) w := fun a b => part3 _ _ _ rfl w
  rw [Op.equalIn]
  by_cases h0 : p.1 = q.1 <;> simp [kv, u61, size3, range2, p0, p1, eq_int3, h0] 
  by_cases h1 : p.2 = q.2 <;> simp [h1]
theorem eq_key (p q : Int × Int) (w : World) : (Op.equal 61 (kv p) (kv q)).run Try.prog w = .ok (p.1 == q.1 && p.2 == q.2) w := eq_keyIn 9998 p q w
theorem check3 (em : Bool) (d : Nat) (a : Int) (w : World) : (Instr.checkKey em (d + 1) 3 (.int .i64 a)).run Try.prog w = .ok () w := by
  have u3 := run_underlying Try.underlying3 w
  rw [Instr.checkKey]
  simp [u3]
theorem check_keyIn (em : Bool) (d : Nat) (p : Int × Int) (w : World) : (Instr.checkKey em (d + 2) 61 (kv p)).run Try.prog w = .ok () w := by
  have u61 := run_underlying Try.underlying61 w
  have p0 : ∀ a b : Int, (part 3 #[.int .i64 a, .int .i64 b] 0).run Try.prog w = .ok (.int .i64 a) w := fun a b => part3 _ _ _ rfl w
  have p1 : ∀ a b : Int, (part 3 #[.int .i64 a, .int .i64 b] 1).run Try.prog w = .ok (.int .i64 b) w := fun a b => part3 _ _ _ rfl w
  rw [Instr.checkKey]
  simp [kv, u61, size3, range2, p0, p1, check3]
theorem check_key (em : Bool) (p : Int × Int) (w : World) : (Instr.checkKey em 10000 61 (kv p)).run Try.prog w = .ok () w := check_keyIn em 9998 p w

/-- A map's entries, in the order in which they were laid. -/
def ents (i : Nat) : List ((Int × Int) × Int) → List MapEntry
  | [] => []
  | p :: r => { key := kv p.1, val := .int .i64 p.2, born := i } :: ents (i + 1) r
def find (k : Int × Int) : List ((Int × Int) × Int) → Nat → Option (Nat × Int)
  | [], _ => none
  | p :: r, i => if k = p.1 then some (i, p.2) else find k r (i + 1)
theorem run_findAsk (k : Int × Int) (w : World) : ∀ (M : List ((Int × Int) × Int)) (b i : Nat), (Instr.findAsking 61 (kv k) (ents b M) i).run Try.prog w = .ok ((find k M i).map fun x => (x.1, .int .i64 x.2)) w
  | [], b, i => by simp [ents, Instr.findAsking, find]
  | p :: r, b, i => by
    by_cases h : k = p.1
    · simp [ents, Instr.findAsking, find, eq_key, h]
    · have h' : (k.1 == p.1.1 && k.2 == p.1.2) = false := by
        rw [Bool.eq_false_iff]; intro e; simp at e; exact h (Prod.ext e.1 e.2)
      simp [ents, Instr.findAsking, find, eq_key, h, h', run_findAsk k w r]
theorem run_findKey61 (k : Int × Int) (w : World) (M : List ((Int × Int) × Int)) : (Instr.findKey 61 (kv k) (ents 0 M)).run Try.prog w = .ok ((find k M 0).map fun x => (x.1, .int .i64 x.2)) w := by
  have u61 := run_underlying Try.underlying61 w
  cases M with
  | nil => simp [Instr.findKey, u61, ents, Instr.findNow, find]
  | cons p r =>
    have := run_findAsk k w (p :: r) 0 0
    simp only [Instr.findKey, Sem.run_bind, u61, Result.andThen_ok, ents, Instr.findNow, kv, Instr.sameNow]
    exact this
def mget (k : Int × Int) (M : List ((Int × Int) × Int)) : Int := ((find k M 0).map (·.2)).getD 0
def mhas (k : Int × Int) (M : List ((Int × Int) × Int)) : Bool := (find k M 0).isSome
def mput (k : Int × Int) (v : Int) (M : List ((Int × Int) × Int)) : List ((Int × Int) × Int) :=
  match find k M 0 with
  | some (i, _) => M.modify i fun p => (p.1, v)
  | none => M ++ [(k, v)]
/-- Block b is a map that holds just these. -/
def MapIs (w : World) (b : Nat) (M : List ((Int × Int) × Int)) : Prop := w.heap[b]? = some (.map (ents 0 M).toArray M.length)
theorem zero2 (w : World) : (zeroValue 2).run Try.prog w = .ok (.int .i64 0) w := by kernel_rfl
theorem run_look (w : World) (b : Nat) (M : List ((Int × Int) × Int)) (h : MapIs w b M) (k : Int × Int) (c : Bool) :
    (Instr.lookup 58 (.map (some b)) (kv k) c).run Try.prog w = .ok (if c then .tuple #[.int .i64 (mget k M), .bool (mhas k M)] else .int .i64 (mget k M)) w := by
  have u58 := run_underlying Try.underlying58 w
  have hg : (getObj b).run Try.prog w = .ok (.map (ents 0 M).toArray M.length) w := by simp [getObj, Sem.run, show w.heap[b]? = _ from h]
  simp only [Instr.lookup, Sem.run_bind, u58, Result.andThen_ok, hg, Sem.run_pure, check_key, run_findKey61]
  cases hf : find k M 0 with
  | none => cases c <;> simp [mget, mhas, hf, zero2]
  | some x => cases c <;> simp [mget, mhas, hf]
theorem made_is (w : World) : MapIs (w.alloc (.map #[] 0)) w.heap.size [] := Go.heap_alloc_new w _
/-- The world with other entries in block b. -/
def setMap (w : World) (b : Nat) (M : List ((Int × Int) × Int)) : World := { w with heap := w.heap.setIfInBounds b (.map (ents 0 M).toArray M.length) }
theorem MapIs.lt {w : World} {b : Nat} {M : List ((Int × Int) × Int)} (h : MapIs w b M) : b < w.heap.size := (Array.getElem?_eq_some_iff.1 h).1
theorem setMap_is {w : World} {b : Nat} (h : b < w.heap.size) (M : List ((Int × Int) × Int)) : MapIs (setMap w b M) b M := by
  unfold MapIs setMap
  simp [h]
theorem setMap_size (w : World) (b : Nat) (M : List ((Int × Int) × Int)) : (setMap w b M).heap.size = w.heap.size := by simp [setMap]
theorem setMap_other {w : World} {b i : Nat} (h : i ≠ b) (M : List ((Int × Int) × Int)) : (setMap w b M).heap[i]? = w.heap[i]? := by
  simp [setMap, Array.getElem?_setIfInBounds, Ne.symm h]
theorem setMap_cell {w : World} {b : Nat} {M : List ((Int × Int) × Int)} (h : MapIs w b M) (M' : List ((Int × Int) × Int)) (a : Addr) : (setMap w b M').cell? a = w.cell? a := by
  by_cases e : a.block = b
  · have h1 : (setMap w b M').heap[a.block]? = some (.map (ents 0 M').toArray M'.length) := by rw [e]; exact setMap_is h.lt M'
    have h2 : w.heap[a.block]? = some (.map (ents 0 M).toArray M.length) := by rw [e]; exact h
    unfold World.cell?
    rw [h1, h2]
  · unfold World.cell?
    rw [setMap_other e]
theorem ents_length : ∀ (i : Nat) (M : List ((Int × Int) × Int)), (ents i M).length = M.length
  | _, [] => rfl
  | i, _ :: r => by simp [ents, ents_length (i + 1) r]
theorem ents_snoc : ∀ (i : Nat) (M : List ((Int × Int) × Int)) (p : (Int × Int) × Int), ents i (M ++ [p]) = ents i M ++ [{ key := kv p.1, val := .int .i64 p.2, born := i + M.length }]
  | i, [], p => by simp [ents]
  | i, q :: r, p => by simp [ents, ents_snoc (i + 1) r p]; omega
theorem ents_modify (v : Int) : ∀ (i : Nat) (M : List ((Int × Int) × Int)) (j : Nat), (ents i M).modify j (fun e => { e with val := .int .i64 v }) = ents i (M.modify j fun p => (p.1, v))
  | i, [], j => by simp [ents]
  | i, q :: r, 0 => by simp [ents]
  | i, q :: r, j + 1 => by simp [ents, ents_modify v (i + 1) r j]
theorem find_key {k : Int × Int} : ∀ {M : List ((Int × Int) × Int)} {b i j : Nat} {v : Int}, find k M i = some (j, v) → i ≤ j ∧ M[j - i]? = some (k, v) ∧ ((ents b M)[j - i]?).map (·.key) = some (kv k)
  | p :: r, b, i, j, v, h => by
    unfold find at h
    split at h
    · rename_i e
      simp at h
      obtain ⟨rfl, rfl⟩ := h
      subst e
      simp [ents]
    · obtain ⟨h1, h2, h3⟩ := find_key (b := b + 1) h
      obtain ⟨m, rfl⟩ : ∃ m, j = i + 1 + m := ⟨j - (i + 1), by omega⟩
      rw [show i + 1 + m - (i + 1) = m by omega] at h2 h3
      rw [show i + 1 + m - i = m + 1 by omega]
      exact ⟨by omega, by simpa using h2, by simpa [ents] using h3⟩
theorem stays (k : Int × Int) (w : World) : (Instr.keyThatStays (kv k) (kv k)).run Try.prog w = .ok (kv k) w := by
  have : Instr.sameBits 10000 (kv k) (kv k) = true := by
    show Instr.sameBits (9999 + 1) _ _ = true
    simp [kv, Instr.sameBits]
  simp [Instr.keyThatStays, this]
theorem run_upd (w : World) (b : Nat) (M : List ((Int × Int) × Int)) (h : MapIs w b M) (k : Int × Int) (v : Int) :
    (Instr.mapUpdate 58 (.map (some b)) (kv k) (.int .i64 v)).run Try.prog w = .ok () (setMap w b (mput k v M)) := by
  have u58 := run_underlying Try.underlying58 w
  have hg : (getObj b).run Try.prog w = .ok (.map (ents 0 M).toArray M.length) w := by simp [getObj, Sem.run, show w.heap[b]? = _ from h]
  have hs : ∀ o : Obj, (setObj b o).run Try.prog w = .ok () { w with heap := w.heap.setIfInBounds b o } := fun o => by simp [setObj, Sem.run, show w.heap[b]? = _ from h]
  simp only [Instr.mapUpdate, Sem.run_bind, u58, Result.andThen_ok, hg, check_key, run_findKey61]
  cases hf : find k M 0 with
  | none =>
    have he : (ents 0 M).toArray.push { key := kv k, val := .int .i64 v, born := M.length } = (ents 0 (M ++ [(k, v)])).toArray := by simp [ents_snoc]
    simp only [Option.map_none, hs, setMap, mput, hf, he, List.length_append, List.length_singleton]
  | some x =>
    obtain ⟨j, v0⟩ := x
    obtain ⟨_, h2, h3⟩ := find_key (b := 0) hf
    have hk : (((ents 0 M).toArray[j]?).map (·.key)).getD (kv k) = kv k := by
      rw [Nat.sub_zero] at h3
      simp [h3]
    simp only [Option.map_some, hk, Sem.run_bind, stays, Result.andThen_ok, hs, setMap, mput, hf]
    have hm : (ents 0 M).toArray.modify j (fun e => { key := kv k, val := .int .i64 v, born := e.born }) = (ents 0 (M.modify j fun p => (p.1, v))).toArray := by
      rw [← ents_modify]
      apply Array.ext'
      simp only [Array.toList_modify]
      apply List.ext_getElem?
      intro i
      simp only [List.getElem?_modify]
      by_cases e : j = i
      · subst e
        cases hq : (ents 0 M)[j]? with
        | none => simp
        | some q =>
          rw [Nat.sub_zero] at h3
          rw [hq] at h3
          simp at h3
          simp [← h3]
      · simp [e]
    rw [hm]
    simp
end Go.Proofs.Ytbgcmhakllodeaa
