/- maps.Keys and what goes over its keys: each once, in some order. -/
import Derived.Test.YtbgcmhakllodeaaM
import Derived.RangeFuncOwn
import Derived.Lib.Hide
import Derived.RangeFuncStops
import Derived.RangeFuncSeq
import Derived.Sort.MapsRangeIn
import Derived.OwnWalkIn
import Derived.TacticsInMore
import Derived.RegionIn
import Derived.LoopNIn
import Derived.LoopIn
namespace Go.Proofs.Ytbgcmhakllodeaa
open Go.RowKit
open Go.ChangeMaps (setBlock)

theorem mem_ents {x : MapEntry} : ∀ {i : Nat} {M : List ((Int × Int) × Int)}, x ∈ ents i M → ∃ j p, M[j]? = some p ∧ x = { key := kv p.1, val := .int .i64 p.2, born := i + j }
  | i, p :: r, h => by
    rcases List.mem_cons.1 h with rfl | h
    · exact ⟨0, p, rfl, rfl⟩
    · obtain ⟨j, q, h1, rfl⟩ := mem_ents h
      exact ⟨j + 1, q, by simpa using h1, by rw [show i + 1 + j = i + (j + 1) by omega]⟩
theorem ents_at : ∀ {i : Nat} {M : List ((Int × Int) × Int)} {j : Nat} {p : (Int × Int) × Int}, M[j]? = some p → (ents i M)[j]? = some { key := kv p.1, val := .int .i64 p.2, born := i + j }
  | i, q :: r, 0, p, h => by simp at h; subst h; simp [ents]
  | i, q :: r, j + 1, p, h => by
    have := ents_at (i := i + 1) (M := r) (j := j) (p := p) (by simpa using h)
    rw [ents, List.getElem?_cons_succ, this, show i + 1 + j = i + (j + 1) by omega]
theorem ents_born : ∀ (i : Nat) (M : List ((Int × Int) × Int)), (ents i M).map (·.born) = List.range' i M.length
  | _, [] => rfl
  | i, p :: r => by simp [ents, ents_born (i + 1) r, List.range'_succ]
/-- What has come: the entries at these places. -/
structure Came (M : List ((Int × Int) × Int)) (seen : Array Nat) (ss : List (Int × Int)) : Prop where
  nd : seen.toList.Nodup
  lt : ∀ i ∈ seen.toList, i < M.length
  eq : ss = seen.toList.map fun i => (M.getD i ((0, 0), 0)).1
theorem Came.start (M : List ((Int × Int) × Int)) : Came M #[] [] := ⟨by simp, by simp, by simp⟩
theorem Came.step {M : List ((Int × Int) × Int)} {seen : Array Nat} {ss : List (Int × Int)} (h : Came M seen ss) {j : Nat} {p : (Int × Int) × Int} (hj : M[j]? = some p) (hn : j ∉ seen.toList) : Came M (seen.push j) (ss ++ [p.1]) := by
  have hl := (List.getElem?_eq_some_iff.1 hj).1
  refine ⟨?_, ?_, ?_⟩
  · rw [Array.toList_push, List.nodup_append]
    exact ⟨h.nd, by simp, fun a ha b hb => by simp at hb; subst hb; exact fun e => hn (e ▸ ha)⟩
  · intro i hi
    rw [Array.toList_push, List.mem_append] at hi
    rcases hi with hi | hi
    · exact h.lt i hi
    · simp at hi; omega
  · rw [Array.toList_push, List.map_append, h.eq]
    simp [List.getD_eq_getElem?_getD, hj]
theorem Came.size {M : List ((Int × Int) × Int)} {seen : Array Nat} {ss : List (Int × Int)} (h : Came M seen ss) : ss.length = seen.size := by rw [h.eq]; simp
theorem left_lt {es : Array MapEntry} {seen : Array Nat} {e : MapEntry} (h : e ∈ (leftOf es seen).toList) : (leftOf es (seen.push e.born)).size < (leftOf es seen).size := by
  have h1 : (leftOf es (seen.push e.born)) = (leftOf es seen).filter (fun x => !(x.born == e.born)) := by
    unfold leftOf
    rw [Array.filter_filter]
    congr 1
    funext x
    by_cases q : x.born = e.born <;> simp [q]
  rw [h1]
  simp
  exact ⟨e, by simpa using h, rfl⟩
theorem Came.all {M : List ((Int × Int) × Int)} {seen : Array Nat} {ss : List (Int × Int)} (h : Came M seen ss) (ha : (leftOf (ents 0 M).toArray seen).size = 0) : ss.Perm (M.map (·.1)) := by
  have hp : seen.toList.Perm (List.range M.length) := by
    refine (List.perm_ext_iff_of_nodup h.nd List.nodup_range).2 fun i => ⟨fun hi => by simp; exact h.lt i hi, fun hi => ?_⟩
    simp at hi
    refine Decidable.byContradiction fun hn => ?_
    have he := ents_at (i := 0) (List.getElem?_eq_getElem hi)
    have hm : ({ key := kv M[i].1, val := .int .i64 M[i].2, born := 0 + i } : MapEntry) ∈ (leftOf (ents 0 M).toArray seen).toList := by
      unfold leftOf
      simp only [Array.toList_filter, List.mem_filter]
      refine ⟨List.mem_of_getElem? he, ?_⟩
      simp
      simpa using hn
    rw [← Array.length_toList] at ha
    rw [List.eq_nil_of_length_eq_zero ha] at hm
    cases hm
  rw [h.eq]
  refine (hp.map _).trans (List.Perm.of_eq ?_)
  apply List.ext_getElem
  · simp
  · intro i h1 h2
    simp at h1
    simp [List.getD_eq_getElem?_getD, h1]
theorem MapIs.later {w W : World} {b : Nat} {M : List ((Int × Int) × Int)} (h : MapIs w b M) (hW : Below w.heap.size w W) : MapIs W b M := (hW.block b h.lt).trans h
/-- How many entries are still to come. -/
def toCome (M : List ((Int × Int) × Int)) (r : Nat) (w : World) : Nat :=
  match w.heap[r]? with
  | some (.mapIter _ _ seen _) => (leftOf (ents 0 M).toArray seen).size
  | _ => 0
theorem left_start (M : List ((Int × Int) × Int)) : (leftOf (ents 0 M).toArray #[]).size ≤ M.length := by
  unfold leftOf
  refine Nat.le_trans (Array.size_filter_le ..) ?_
  simp [ents_length]
set_option maxRecDepth 100000 in
set_option maxHeartbeats 1000000 in
theorem keys1_stops (F : Fence) (n : Nat) (h39 : F.fn 39) (hro : F.round = none) (hn : 1 ≤ n) (Bm b : Nat) (M : List ((Int × Int) × Int)) (w : World) (hBm : Bm < w.heap.size)
    (hm : w.cell? ⟨Bm, 0, none⟩ = some (.map (some b))) (hM : MapIs w b M) :
    SeqStops F n Try.prog 39 #[.pointer (some ⟨Bm, 0, none⟩)] kv (fun ss => ss.Perm (M.map (·.1))) (fun _ => True) M.length w := fun l J Jx W hW hJ _ hY h0 => by
  have hmW : W.cell? ⟨Bm, 0, none⟩ = some (.map (some b)) := (hW.cell (p := ⟨Bm, 0, none⟩) hBm).trans hm
  have hMW := hM.later hW
  have hbW := hMW.lt
  have hrg : (Instr.range 58 (.map (some b))).run Try.prog W = .ok (.pointer (some ⟨W.heap.size, 0, none⟩)) (W.alloc (.mapIter (some b) M.length #[] M.length)) := by
    have u58 := run_underlying Try.underlying58 W
    have hg : (getObj b).run Try.prog W = .ok (.map (ents 0 M).toArray M.length) W := by simp [getObj, Sem.run, show W.heap[b]? = _ from hMW]
    simp [Instr.range, u58, hg]
  have hM0 : MapIs (W.alloc (.mapIter (some b) M.length #[] M.length)) b M := (Go.heap_alloc_old W _ hbW).trans hMW
  have hI0 : (W.alloc (.mapIter (some b) M.length #[] M.length)).heap[W.heap.size]? = some (.mapIter (some b) M.length #[] M.length) := Go.heap_alloc_new W _
  have hJ0 : J [] (W.alloc (.mapIter (some b) M.length #[] M.length)) := hJ [] W _ none h0 (World.grownBy_alloc W _ none) (fun r e => by cases e)
  generalize hr : W.heap.size = r at hrg hI0 hJ
  have Hr := Lib.hid hr
  clear hr
  refine callsIn_of_wp Try.func39 rfl h39 ?_ hro
  simp only [Try.ntmps39, List.size_toArray, List.length_cons, List.length_nil, Nat.reduceAdd, Nat.reduceSub, Array.replicate_succ, Array.replicate_zero, List.push_toArray, List.append_toArray, List.nil_append, List.cons_append]
  gi_wp2
  generalize W.alloc (.mapIter (some b) M.length #[] M.length) = W0 at hM0 hI0 hJ0 ⊢
  gi_loopw [3] (fun _ wr => ∃ (seen : Array Nat) (ss : List (Int × Int)), wr.heap[r]? = some (.mapIter (some b) M.length seen M.length) ∧ MapIs wr b M ∧ Came M seen ss ∧ ss.length + (leftOf (ents 0 M).toArray seen).size ≤ M.length ∧ J ss wr)
    (fun _ wr => toCome M r wr)
  case atStart => exact ⟨#[], [], hI0, hM0, Came.start M, by simpa using left_start M, hJ0⟩
  case round =>
    obtain ⟨seen, ss, hit, hMr, hC, hN, hJs⟩ := hrel
    have hold : ∀ x ∈ (ents 0 M).toArray.toList, x.born < M.length := fun x hx => by
      obtain ⟨j, p, hj, rfl⟩ := mem_ents (by simpa using hx)
      have := (List.getElem?_eq_some_iff.1 hj).1
      simp; omega
    rcases run_next_at (P := Try.prog) wr 0 r b M.length M.length seen (ents 0 M).toArray M.length hit hMr hold (Nat.le_refl _) with ⟨hz, hnx⟩ | ⟨e, he, w1, hw1, hnx⟩
    · gi_wp2
      go_end0
      exact ⟨⟨_, rfl⟩, .inl ⟨ss, hC.all hz, hJs⟩⟩
    · obtain ⟨j, p, hj, rfl⟩ := mem_ents (i := 0) (M := M) (x := e) (by unfold leftOf at he; simp at he; exact he.1)
      have hlt := left_lt he
      have hns : j ∉ seen.toList := by unfold leftOf at he; simp at he; simpa using he.2
      rw [Nat.zero_add] at hnx he hlt
      have hC2 := hC.step hj hns
      have hit1 : w1.heap[r]? = some (.mapIter (some b) M.length seen M.length) := by rcases hw1 with rfl | rfl <;> exact hit
      have hM1 : MapIs w1 b M := by rcases hw1 with rfl | rfl <;> exact hMr
      have hrl := (Array.getElem?_eq_some_iff.1 hit1).1
      have hbr : r ≠ b := fun e => by rw [e] at hit1; rw [show w1.heap[b]? = _ from hM1] at hit1; cases hit1
      have hit2 : (setBlock w1 r (.mapIter (some b) M.length (seen.push j) M.length)).heap[r]? = some (.mapIter (some b) M.length (seen.push j) M.length) := by simp [setBlock, hrl]
      have hM2 : MapIs (setBlock w1 r (.mapIter (some b) M.length (seen.push j) M.length)) b M := by
        unfold MapIs setBlock
        simp only [Array.getElem?_setIfInBounds, if_neg hbr]
        exact hM1
      have hg2 : wr.grownBy (setBlock w1 r (.mapIter (some b) M.length (seen.push j) M.length)) (some r) := by
        rcases hw1 with rfl | rfl <;> exact ⟨rfl, rfl, rfl, by simp [setBlock], fun k _ hk => by simp only [setBlock, Array.getElem?_setIfInBounds]; rw [if_neg (fun e => hk (by rw [e]))]; try rfl⟩
      have hJ2 : J ss (setBlock w1 r (.mapIter (some b) M.length (seen.push j) M.length)) := hJ ss wr _ (some r) hJs hg2 (fun q e => by cases e; exact ⟨Nat.le_refl _, _, hit, rfl⟩)
      have hen := run_entry_at (P := Try.prog) _ r b M.length seen (ents 0 M).toArray M.length { key := kv p.1, val := .int .i64 p.2, born := j } hit2 hM2 (by have := List.mem_of_getElem? (ents_at (i := 0) hj); rwa [Nat.zero_add] at this) (by rw [ents_born]; exact List.nodup_range')
      generalize setBlock w1 r (.mapIter (some b) M.length (seen.push j) M.length) = w2 at *
      have hJ3 : J ss (w2.alloc (.cells #[.int .i64 p.1.1, .int .i64 p.1.2] 61)) := hJ ss w2 _ none hJ2 (World.grownBy_alloc _ _ _) (fun q e => by cases e)
      obtain ⟨fn, tmps, assign, body, hy, hR⟩ := hY ss p.1 _ hJ3 (by omega)
      simp only [kv] at hnx hen hy
      clear hY hit1 hM1
      have Hlt := Lib.hid hlt
      clear hlt hw1
      gi_wp2
      refine hR.mono ?_
      rintro e W3 (⟨rfl, hJ4, hk3⟩ | ⟨rfl, hJx3⟩)
      · have hal : ∀ (q : Nat) (o : Obj), w2.heap[q]? = some o → (w2.alloc (.cells #[.int .i64 p.1.1, .int .i64 p.1.2] 61)).heap[q]? = some o := fun q o h => (Go.heap_alloc_old w2 _ (Array.getElem?_eq_some_iff.1 h).1).trans h
        have hit3 := hk3.same r _ (hal _ _ hit2) rfl
        have hM3 : MapIs W3 b M := hk3.same b _ (hal _ _ hM2) rfl
        gi_wp2
        go_roundw
        case rel => exact ⟨seen.push j, ss ++ [p.1], hit3, hM3, hC2, by have := Hlt.out; simp at this ⊢; omega, hJ4⟩
        case measure =>
          have := Hlt.out
          simp only [toCome, hit3, hit]
          simpa using this
      · gi_wp2
        refine bodyPost_ret (results_none rfl _ _ _) rfl ?_
        exact ⟨⟨_, rfl⟩, .inr ⟨_, trivial, hJx3⟩⟩
end Go.Proofs.Ytbgcmhakllodeaa
