/- entry.Diff. -/
import Derived.Test.YtbgcmhakllodeaaU
namespace Go.Proofs.Ytbgcmhakllodeaa
open Go.RowKit Go.Proofs.YtbgcmhakllodeaaW.PrintWords Go.Proofs.YtbgcmhakllodeaaW.PrintLast Go.Proofs.YtbgcmhakllodeaaW.PrintMore
open PEntryDiffers

def lessOk (a b : Int) : Bool := decide (Go.bits .and .i64 (Go.bits .xor .i64 a b) (Go.bits .xor .i64 a (wrap64 (a - b))) ≥ 0)
theorem less_calls (a b : Int) (w : World) : Calls Try.prog 21 #[.int .i64 a, .int .i64 b] w fun e w' => e = .returned (.tuple #[.int .i64 (wrap64 (a - b)), .bool (lessOk a b)]) ∧ w' = w := by
  go_enter Try.func21, Try.ntmps21
  go_wp2
  go_ret2
  exact ⟨rfl, rfl⟩
/-- What a key holds. -/
def lk (k : Int × Int) (M : List ((Int × Int) × Int)) : Option Int := (find k M 0).map (·.2)
theorem find_shift (k : Int × Int) : ∀ (M : List ((Int × Int) × Int)) (i : Nat), find k M i = (find k M 0).map fun x => (x.1 + i, x.2)
  | [], i => rfl
  | p :: r, i => by
    unfold find
    split
    · simp
    · rw [find_shift k r (i + 1), find_shift k r (0 + 1)]
      cases find k r 0 with
      | none => rfl
      | some x => simp; omega
theorem lk_cons (k : Int × Int) (p : (Int × Int) × Int) (r : List ((Int × Int) × Int)) : lk k (p :: r) = if k = p.1 then some p.2 else lk k r := by
  unfold lk
  rw [show find k (p :: r) 0 = if k = p.1 then some (0, p.2) else find k r (0 + 1) from rfl]
  split
  · rfl
  · rw [find_shift]
    cases find k r 0 <;> rfl
theorem lk_append (k : Int × Int) : ∀ (M N : List ((Int × Int) × Int)), lk k (M ++ N) = (lk k M).or (lk k N)
  | [], N => by simp [lk, find]
  | p :: r, N => by
    rw [List.cons_append, lk_cons, lk_cons, lk_append k r N]
    split <;> rfl
theorem lk_none {k : Int × Int} : ∀ {M : List ((Int × Int) × Int)}, lk k M = none ↔ k ∉ M.map (·.1)
  | [] => by simp [lk, find]
  | p :: r => by
    rw [lk_cons, List.map_cons, List.mem_cons, not_or]
    split
    · rename_i h; simp [h]
    · rename_i h; simp only [h, not_false_eq_true, true_and]; exact lk_none
theorem mget_lk (k : Int × Int) (M : List ((Int × Int) × Int)) : mget k M = (lk k M).getD 0 := rfl
theorem mput_keys (k : Int × Int) (v : Int) (M : List ((Int × Int) × Int)) : (mput k v M).map (·.1) = if k ∈ M.map (·.1) then M.map (·.1) else M.map (·.1) ++ [k] := by
  have h := @lk_none k M
  unfold mput
  cases hf : find k M 0 with
  | none =>
    have : lk k M = none := by simp [lk, hf]
    rw [if_neg (h.1 this)]
    simp
  | some x =>
    have hm : k ∈ M.map (·.1) := Decidable.byContradiction fun e => by
      have := h.2 e
      simp [lk, hf] at this
    rw [if_pos hm]
    obtain ⟨j, u⟩ := x
    apply List.ext_getElem?
    intro i
    simp only [List.getElem?_map, List.getElem?_modify]
    split <;> cases M[i]? <;> rfl
theorem lk_modify (k : Int × Int) (v : Int) : ∀ (M : List ((Int × Int) × Int)) (j : Nat) (u : Int), find k M 0 = some (j, u) → ∀ k', lk k' (M.modify j fun p => (p.1, v)) = if k' = k then some v else lk k' M
  | p :: r, j, u, h, k' => by
    unfold find at h
    split at h
    · rename_i e
      simp at h
      obtain ⟨rfl, rfl⟩ := h
      rw [List.modify_zero_cons, lk_cons, lk_cons]
      subst e
      by_cases q : k' = p.1 <;> simp [q]
    · rename_i e
      rw [find_shift] at h
      cases hf : find k r 0 with
      | none => simp [hf] at h
      | some x =>
        obtain ⟨j', u'⟩ := x
        simp [hf] at h
        obtain ⟨rfl, rfl⟩ := h
        rw [List.modify_succ_cons, lk_cons, lk_cons, lk_modify k v r j' u' hf k']
        by_cases q : k' = p.1
        · subst q; simp [Ne.symm e]
        · simp [q]
theorem lk_mput (k : Int × Int) (v : Int) (M : List ((Int × Int) × Int)) (k' : Int × Int) : lk k' (mput k v M) = if k' = k then some v else lk k' M := by
  unfold mput
  cases hf : find k M 0 with
  | none =>
    have h0 : lk k M = none := by simp [lk, hf]
    rw [lk_append, lk_cons]
    by_cases q : k' = k
    · subst q; simp [h0]
    · simp [q, lk, find]
  | some x =>
    obtain ⟨j, u⟩ := x
    exact lk_modify k v M j u hf k'
theorem mput_len (k : Int × Int) (v : Int) (M : List ((Int × Int) × Int)) : (mput k v M).length ≤ M.length + 1 := by
  unfold mput
  split <;> simp
theorem mput_nodup {k : Int × Int} {v : Int} {M : List ((Int × Int) × Int)} (h : (M.map (·.1)).Nodup) : ((mput k v M).map (·.1)).Nodup := by
  rw [mput_keys]
  split
  · exact h
  · rename_i hn
    rw [List.nodup_append]
    exact ⟨h, by simp, fun a ha b hb => by simp at hb; subst hb; exact fun e => hn (e ▸ ha)⟩
/-- What the difference holds, when these keys have been gone through. -/
structure DMap (A B : List ((Int × Int) × Int)) (D : List (Int × Int)) (M : List ((Int × Int) × Int)) : Prop where
  nd : (M.map (·.1)).Nodup
  at_ : ∀ k, lk k M = if k ∈ D ∧ lessOk (mget k B) (mget k A) = true then some (wrap64 (mget k B - mget k A)) else none
  len : M.length ≤ D.length
theorem DMap.nil (A B : List ((Int × Int) × Int)) : DMap A B [] [] := ⟨by simp, fun k => by simp [lk, find], by simp⟩
theorem DMap.put {A B : List ((Int × Int) × Int)} {D : List (Int × Int)} {M : List ((Int × Int) × Int)} (h : DMap A B D M) (k : Int × Int) (hk : lessOk (mget k B) (mget k A) = true) : DMap A B (D ++ [k]) (mput k (wrap64 (mget k B - mget k A)) M) := by
  refine ⟨mput_nodup h.nd, fun k' => ?_, ?_⟩
  · rw [lk_mput, h.at_ k']
    by_cases q : k' = k
    · subst q; simp [hk]
    · simp [q]
  · have := mput_len k (wrap64 (mget k B - mget k A)) M
    have := h.len
    simp; omega
theorem DMap.skip {A B : List ((Int × Int) × Int)} {D : List (Int × Int)} {M : List ((Int × Int) × Int)} (h : DMap A B D M) (k : Int × Int) (hk : lessOk (mget k B) (mget k A) = false) : DMap A B (D ++ [k]) M := by
  refine ⟨h.nd, fun k' => ?_, ?_⟩
  · rw [h.at_ k']
    by_cases q : k' = k
    · subst q; simp [hk]
    · simp [q]
  · have := h.len
    simp; omega
theorem DMap.perm {A B : List ((Int × Int) × Int)} {D D' : List (Int × Int)} {M : List ((Int × Int) × Int)} (h : DMap A B D M) (hp : D.Perm D') : DMap A B D' M :=
  ⟨h.nd, fun k => by rw [h.at_ k]; simp only [hp.mem_iff], by rw [← hp.length_eq]; exact h.len⟩
end Go.Proofs.Ytbgcmhakllodeaa
