/- The reference's sum of entries, as a plain function. -/
import Derived.Test.YtbgcmhakllodeaaPEntryDiffersx0
namespace Go.Proofs.Ytbgcmhakllodeaa
open Go.RowKit Go.Proofs.YtbgcmhakllodeaaW.PrintWords Go.Proofs.YtbgcmhakllodeaaW.PrintLast Go.Proofs.YtbgcmhakllodeaaW.PrintMore
open PEntryDiffers

def lt56 (y x : S56) : Prop := y.f0 < x.f0 ∨ (y.f0 = x.f0 ∧ y.f1 < x.f1)
instance (y x : S56) : Decidable (lt56 y x) := by unfold lt56; infer_instance
def posA (x : S56) (out : List S56) : Nat := (out.takeWhile fun y => decide (lt56 y x)).length
def overA (d v : Int) : Bool := decide ((v > 0 ∧ d > wrap64 (9223372036854775807 - v)) ∨ (v < 0 ∧ d < wrap64 (-9223372036854775808 - v)))
def midA (k : Nat) (x : S56) (out : List S56) : List S56 := out.take k ++ [x] ++ out.drop k
def insA (out : List S56) (x : S56) : Option (List S56) :=
  if posA x out < out.length ∧ (out.getD (posA x out) z56).f0 = x.f0 ∧ (out.getD (posA x out) z56).f1 = x.f1 then
    if overA (out.getD (posA x out) z56).f2 x.f2 = true then none
    else some (out.set (posA x out) ⟨(out.getD (posA x out) z56).f0, (out.getD (posA x out) z56).f1, wrap64 ((out.getD (posA x out) z56).f2 + x.f2)⟩)
  else some (midA (posA x out) x out)
def addR : List S56 → List S56 → Option (List S56)
  | [], out => some out
  | x :: r, out => (insA out x).bind (addR r)
theorem addR_append : ∀ (l m out : List S56), addR (l ++ m) out = (addR l out).bind (addR m)
  | [], m, out => rfl
  | x :: r, m, out => by
    simp only [List.cons_append, addR]
    cases insA out x with
    | none => rfl
    | some o => exact addR_append r m o
theorem addR_snoc (all : List S56) (k : Nat) (h : k < all.length) (out : List S56) (ho : addR (all.take k) [] = some out) : addR (all.take (k + 1)) [] = insA out (rd_T56 all (k : Int)) := by
  rw [List.take_succ_eq_append_getElem h, addR_append, ho, Option.bind_some]
  have : rd_T56 all (k : Int) = all[k] := by simp [rd_T56, List.getD_eq_getElem?_getD, h]
  rw [this]
  simp only [addR]
  cases insA out all[k] <;> rfl
theorem insA_len {out out' : List S56} {x : S56} (h : insA out x = some out') : out'.length ≤ out.length + 1 := by
  unfold insA at h
  split at h
  · split at h
    · cases h
    · injection h with h; subst h; simp
  · injection h with h; subst h
    unfold midA
    simp; omega
theorem addR_len : ∀ (l out out' : List S56), addR l out = some out' → out'.length ≤ out.length + l.length
  | [], out, out', h => by injection h with h; subst h; simp
  | x :: r, out, out', h => by
    unfold addR at h
    cases h1 : insA out x with
    | none => rw [h1] at h; cases h
    | some o =>
      rw [h1, Option.bind_some] at h
      have h2 := insA_len h1
      have h3 := addR_len r o out' h
      simp only [List.length_cons]
      omega
theorem posA_le (x : S56) (out : List S56) : posA x out ≤ out.length := (List.takeWhile_sublist _).length_le
theorem posA_get (x : S56) (out : List S56) (k : Nat) (h : k < posA x out) : lt56 (out.getD k z56) x := by
  induction out generalizing k with
  | nil => simp [posA] at h
  | cons y r ih =>
    unfold posA at h
    rw [List.takeWhile_cons] at h
    split at h
    · next hy =>
      cases k with
      | zero => simpa using hy
      | succ j =>
        simp only [List.length_cons] at h
        simpa using ih j (by unfold posA; omega)
    · simp at h
theorem posA_at (x : S56) (out : List S56) (h : posA x out < out.length) : ¬ lt56 (out.getD (posA x out) z56) x := by
  induction out with
  | nil => simp at h
  | cons y r ih =>
    unfold posA at h ⊢
    rw [List.takeWhile_cons] at h ⊢
    split
    · next hy =>
      rw [if_pos hy] at h
      simp only [List.length_cons] at h ⊢
      have := ih (by unfold posA; omega)
      unfold posA at this
      simpa using this
    · next hy => simpa using hy
theorem insA_new {out : List S56} {x : S56} (h : ¬ (posA x out < out.length ∧ (out.getD (posA x out) z56).f0 = x.f0 ∧ (out.getD (posA x out) z56).f1 = x.f1)) : insA out x = some (midA (posA x out) x out) := by
  unfold insA
  rw [if_neg h]
theorem insA_old {out : List S56} {x : S56} (h : posA x out < out.length) (h0 : (out.getD (posA x out) z56).f0 = x.f0) (h1 : (out.getD (posA x out) z56).f1 = x.f1) : insA out x = if overA (out.getD (posA x out) z56).f2 x.f2 = true then none
    else some (out.set (posA x out) ⟨(out.getD (posA x out) z56).f0, (out.getD (posA x out) z56).f1, wrap64 ((out.getD (posA x out) z56).f2 + x.f2)⟩) := by
  unfold insA
  rw [if_pos ⟨h, h0, h1⟩]
theorem addR_none {all : List S56} {k : Nat} (h : addR (all.take k) [] = none) : addR all [] = none := by
  have := addR_append (all.take k) (all.drop k) []
  rw [List.take_append_drop, h] at this
  exact this
def nz (l : List S56) : List S56 := l.filter fun x => decide (x.f2 ≠ 0)
def refAddL (all : List S56) : Option (List S56) := (addR all []).map nz
theorem nz_len (l : List S56) : (nz l).length ≤ l.length := List.length_filter_le _ _
theorem nz_snoc (l : List S56) (k : Nat) (h : k < l.length) : nz (l.take (k + 1)) = nz (l.take k) ++ if (rd_T56 l (k : Int)).f2 = 0 then [] else [rd_T56 l (k : Int)] := by
  have : rd_T56 l (k : Int) = l[k] := by simp [rd_T56, List.getD_eq_getElem?_getD, h]
  rw [this, List.take_succ_eq_append_getElem h]
  unfold nz
  rw [List.filter_append]
  congr 1
  by_cases hz : l[k].f2 = 0 <;> simp [hz]
end Go.Proofs.Ytbgcmhakllodeaa
