/- Copies and comparisons of entries and states, in plain words. -/
import Derived.Test.YtbgcmhakllodeaaPEntryDiffersx4
import Derived.Test.YtbgcmhakllodeaaPEntryDiffersx5
namespace Go.Proofs.Ytbgcmhakllodeaa
open Go.RowKit Go.Proofs.YtbgcmhakllodeaaW.PrintWords Go.Proofs.YtbgcmhakllodeaaW.PrintLast Go.Proofs.YtbgcmhakllodeaaW.PrintMore
open PEntryDiffers

def cv (x : S56) : S57 := ⟨x.f0, x.f1, x.f2⟩
theorem cv_inj {x y : S56} (h : cv x = cv y) : x = y := by
  obtain ⟨a, b, c⟩ := x
  obtain ⟨a', b', c'⟩ := y
  simp only [cv, S57.mk.injEq] at h
  obtain ⟨rfl, rfl, rfl⟩ := h
  rfl
theorem map_cv_inj : ∀ {l m : List S56}, l.map cv = m.map cv → l = m
  | [], [], _ => rfl
  | [], _ :: _, h => by simp at h
  | _ :: _, [], h => by simp at h
  | x :: l, y :: m, h => by
    simp only [List.map_cons, List.cons.injEq] at h
    rw [cv_inj h.1, map_cv_inj h.2]
theorem wrap_succ {n : Nat} (h : n ≤ 1000000000) : wrap64 ((n : Int) + 1) = ((n + 1 : Nat) : Int) := by rw [Go.RowKit.wrap64]; omega
theorem C57 {w : World} {A : Option Addr} {n : Nat} {l : List S56} (h : Kd.C k56 w A n l) : Kd.C k57 w A n (l.map cv) := by
  obtain ⟨h1, h2, h3⟩ := h
  refine ⟨by rw [List.length_map]; exact h1, h2, fun hn => ?_⟩
  obtain ⟨ad, e, hc⟩ := h3 hn
  refine ⟨ad, e, fun j p hj => ?_⟩
  rw [List.getElem?_map, Option.map_eq_some_iff] at hj
  obtain ⟨q, hq, rfl⟩ := hj
  obtain ⟨c, hs, hk, hcell⟩ := hc j q hq
  obtain rfl := k56_open hk
  exact ⟨_, rfl, k57_mk w (cv q), hcell⟩
theorem own_l0 (l : List S56) (hl : l.length ≤ 1000000) : ∀ k n : Nat, n ≤ l.length → l.length - n < k → annuitylaw26_Own.l0 k l ((l.take n).map cv) n = some (l.map cv)
  | 0, n, _, h => by omega
  | k + 1, n, h, hk => by
    unfold annuitylaw26_Own.l0
    by_cases hn : n < l.length
    · rw [if_pos (by omega), if_pos (by omega), if_pos (by rw [List.length_map, List.length_take]; omega), wrap_succ (by omega)]
      have hr : rd_T56 l (n : Int) = l[n] := by simp [rd_T56, List.getD_eq_getElem?_getD, hn]
      have := own_l0 l hl k (n + 1) (by omega) (by omega)
      rw [List.take_succ_eq_append_getElem hn, List.map_append] at this
      rw [hr]
      exact this
    · rw [if_neg (by omega), List.take_of_length_le (by omega)]
theorem own_calls (A : Option Addr) (c : Nat) (l : List S56) (w : World) (hr : Kd.C k56 w A l.length l) (hc : l.length ≤ c) (hl : l.length ≤ 1000000) :
    Calls Try.prog 9 #[.slice A l.length c] w fun e w' => ∃ v, e = .returned v ∧ Kd.R k57 57 w' w.heap.size (fun _ => True) v (l.map cv) ∧ Below w.heap.size w w' :=
  annuitylaw26_Own.calls (l.length + 1) A c l _ w hr hc (by
    have := own_l0 l hl (l.length + 1) 0 (by omega) (by omega)
    simpa [annuitylaw26_Own.f] using this)
theorem ne57 (x y : S57) : ((!(x.f0 == y.f0) || (!(x.f1 == y.f1) || (!(x.f2 == y.f2)))) = true) ↔ x ≠ y := by
  obtain ⟨a, b, c⟩ := x
  obtain ⟨a', b', c'⟩ := y
  simp only [Bool.or_eq_true, Bool.not_eq_true', beq_eq_false_iff_ne, ne_eq, S57.mk.injEq]
  omega
theorem ne56 (x y : S56) : ((!(x.f0 == y.f0) || (!(x.f1 == y.f1) || (!(x.f2 == y.f2)))) = true) ↔ x ≠ y := by
  obtain ⟨a, b, c⟩ := x
  obtain ⟨a', b', c'⟩ := y
  simp only [Bool.or_eq_true, Bool.not_eq_true', beq_eq_false_iff_ne, ne_eq, S56.mk.injEq]
  omega
instance : DecidableEq S57 := fun x y => if h : x.f0 = y.f0 ∧ x.f1 = y.f1 ∧ x.f2 = y.f2 then isTrue (by cases x; cases y; simp_all) else isFalse (fun e => h (by rw [e]; exact ⟨rfl, rfl, rfl⟩))
instance : DecidableEq S56 := fun x y => if h : x.f0 = y.f0 ∧ x.f1 = y.f1 ∧ x.f2 = y.f2 then isTrue (by cases x; cases y; simp_all) else isFalse (fun e => h (by rw [e]; exact ⟨rfl, rfl, rfl⟩))
theorem alike_l0 (l m : List S57) (hl : l.length ≤ 1000000) (he : l.length = m.length) : ∀ k n : Nat, n ≤ l.length → l.length - n < k → annuityref26_Alike.l0 k l m n = some (decide (l.drop n = m.drop n))
  | 0, n, _, h => by omega
  | k + 1, n, h, hk => by
    unfold annuityref26_Alike.l0
    by_cases hn : n < l.length
    · have hm : n < m.length := by omega
      have hr : rd_T57 l (n : Int) = l[n] := by simp [rd_T57, List.getD_eq_getElem?_getD, hn]
      have hq : rd_T57 m (n : Int) = m[n] := by simp [rd_T57, List.getD_eq_getElem?_getD, hm]
      rw [if_pos (by omega), if_pos (by omega), if_pos (by omega), wrap_succ (by omega), hr, hq, List.drop_eq_getElem_cons hn, List.drop_eq_getElem_cons hm]
      by_cases hx : l[n] = m[n]
      · rw [if_neg (fun h => (ne57 _ _).1 h hx), alike_l0 l m hl he k (n + 1) (by omega) (by omega), hx]
        simp only [List.cons.injEq, true_and]
      · rw [if_pos ((ne57 _ _).2 hx)]
        simp only [List.cons.injEq, hx, false_and, decide_false]
    · rw [if_neg (by omega), List.drop_of_length_le (by omega), List.drop_of_length_le (by omega)]
      simp
theorem alike_calls (A B : Option Addr) (c d : Nat) (l m : List S57) (w : World) (hr : Kd.C k57 w A l.length l) (hc : l.length ≤ c) (hr' : Kd.C k57 w B m.length m) (hc' : m.length ≤ d) (hl : l.length ≤ 1000000) :
    Calls Try.prog 8 #[.slice A l.length c, .slice B m.length d] w fun e w' => e = .returned (.bool (decide (l = m))) ∧ Drawn0 w w' :=
  annuityref26_Alike.calls (l.length + 1) A c l B d m _ w hr hc hr' hc' (by
    unfold annuityref26_Alike.f
    by_cases he : l.length = m.length
    · rw [if_pos (by omega)]
      have := alike_l0 l m hl he (l.length + 1) 0 (by omega) (by omega)
      simpa using this
    · rw [if_neg (by omega)]
      have : ¬ l = m := fun e => he (by rw [e])
      simp [this])
theorem equal_l0 (l m : List S56) (hl : l.length ≤ 1000000) (he : l.length = m.length) : ∀ k n : Nat, n ≤ l.length → l.length - n < k → entry_Entry_28.l0 k l m (l.length : Int) n = some (decide (l.drop n = m.drop n))
  | 0, n, _, h => by omega
  | k + 1, n, h, hk => by
    unfold entry_Entry_28.l0
    by_cases hn : n < l.length
    · have hm : n < m.length := by omega
      have hr : rd_T56 l (n : Int) = l[n] := by simp [rd_T56, List.getD_eq_getElem?_getD, hn]
      have hq : rd_T56 m (n : Int) = m[n] := by simp [rd_T56, List.getD_eq_getElem?_getD, hm]
      rw [if_pos (by omega), if_pos (by omega), if_pos (by omega), if_pos (by omega), wrap_succ (by omega), hr, hq, List.drop_eq_getElem_cons hn, List.drop_eq_getElem_cons hm]
      by_cases hx : l[n] = m[n]
      · rw [if_neg (fun h => (ne56 _ _).1 h hx), equal_l0 l m hl he k (n + 1) (by omega) (by omega), hx]
        simp only [List.cons.injEq, true_and]
      · rw [if_pos ((ne56 _ _).2 hx)]
        simp only [List.cons.injEq, hx, false_and, decide_false]
    · rw [if_neg (by omega), List.drop_of_length_le (by omega), List.drop_of_length_le (by omega)]
      simp
theorem equal_calls (A B : Option Addr) (c d : Nat) (l m : List S56) (w : World) (hr : Kd.C k56 w A l.length l) (hc : l.length ≤ c) (hr' : Kd.C k56 w B m.length m) (hc' : m.length ≤ d) (hl : l.length ≤ 1000000) :
    Calls Try.prog 28 #[.slice A l.length c, .slice B m.length d] w fun e w' => e = .returned (.bool (decide (l = m))) ∧ Drawn0 w w' :=
  entry_Entry_28.calls (l.length + 1) A c l B d m _ w hr hc hr' hc' (by
    unfold entry_Entry_28.f
    by_cases he : l.length = m.length
    · rw [if_pos (by omega)]
      have := equal_l0 l m hl he (l.length + 1) 0 (by omega) (by omega)
      simpa using this
    · rw [if_neg (by omega)]
      have : ¬ l = m := fun e => he (by rw [e])
      simp [this])
theorem bills_l0 (l : List S52) (hl : l.length ≤ 1000000) (hi : ∀ b ∈ l, b.f5.length ≤ 1000000) : ∀ k n : Nat, n ≤ l.length → l.length - n < k → annuitykeep_CopyBills.l0 k l (l.take n) n = some l
  | 0, n, _, h => by omega
  | k + 1, n, h, hk => by
    unfold annuitykeep_CopyBills.l0
    by_cases hn : n < l.length
    · have hr : rd_T52 l (n : Int) = l[n] := by simp [rd_T52, List.getD_eq_getElem?_getD, hn]
      have hb := hi l[n] (List.getElem_mem hn)
      rw [if_pos (by omega), if_pos (by omega), hr, wrap_succ (by omega)]
      rw [Option.bind_some, if_pos (by simp; omega), if_pos (by rw [List.length_take]; omega)]
      have := bills_l0 l hl hi k (n + 1) (by omega) (by omega)
      rw [List.take_succ_eq_append_getElem hn] at this
      exact this
    · rw [if_neg (by omega), List.take_of_length_le (by omega)]
theorem copyState_calls (a0 : Int) (A : Option Addr) (c : Nat) (l : List S54) (a2 a3 a4 a5 : Int) (B : Option Addr) (d : Nat) (m : List S52) (a7 a8 a9 a10 a11 a12 : Int) (w : World) (hr : Kd.C k54 w A l.length l) (hc : l.length ≤ c) (hr' : Kd.C k52 w B m.length m) (hc' : m.length ≤ d) (hl : l.length ≤ 1000000) (hm : m.length ≤ 1000000) (hi : ∀ b ∈ m, b.f5.length ≤ 1000000) :
    Calls Try.prog 11 #[.agg #[.int .i64 a0, .slice A l.length c, .int .i64 a2, .int .i64 a3, .int .i64 a4, .int .i64 a5, .slice B m.length d, .int .i64 a7, .int .i64 a8, .int .i64 a9, .int .i64 a10, .int .i64 a11, .int .i64 a12]] w fun e w' => ∃ (A' : Option Addr) (c' : Nat) (v6 : Value), e = .returned (.agg #[.int .i64 a0, .slice A' l.length c', .int .i64 a2, .int .i64 a3, .int .i64 a4, .int .i64 a5, v6, .int .i64 a7, .int .i64 a8, .int .i64 a9, .int .i64 a10, .int .i64 a11, .int .i64 a12]) ∧ l.length ≤ c' ∧ Kd.C k54 w' A' l.length l ∧ Below w.heap.size w w' :=
  (annuitykeep_CopyState.calls (m.length + 1) a0 A c l a2 a3 a4 a5 B d m a7 a8 a9 a10 a11 a12 a0 l a2 a3 a4 a5 m a7 a8 a9 a10 a11 a12 w hr hc hr' hc' (by
    unfold annuitykeep_CopyState.f annuitykeep_CopyLoans.f annuitykeep_CopyBills.f
    have := bills_l0 m hm hi (m.length + 1) 0 (by omega) (by omega)
    rw [List.take_zero] at this
    rw [Option.bind_some, if_pos (by simp; omega), Option.bind_some, show ((0 : Nat) : Int) = 0 from rfl] at *
    rw [this]
    rfl)).mono fun e w' ⟨v1, v6, he, hR, _, hB⟩ => by
      obtain ⟨A', c', rfl, h1, h2⟩ := Kd.R_reads hR
      exact ⟨A', c', v6, he, h1, h2, hB⟩
end Go.Proofs.Ytbgcmhakllodeaa
