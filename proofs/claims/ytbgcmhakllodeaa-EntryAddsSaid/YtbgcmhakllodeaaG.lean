/- entry.Of. -/
import Derived.Test.YtbgcmhakllodeaaF
namespace Go.Proofs.Ytbgcmhakllodeaa
open Go.RowKit Go.Proofs.YtbgcmhakllodeaaW.PrintWords Go.Proofs.YtbgcmhakllodeaaW.PrintLast Go.Proofs.YtbgcmhakllodeaaW.PrintMore
open PEntryDiffers

def isPair (a b : Int) (x : S56) : Bool := x.f0 == a && x.f1 == b
def v56 (x : S56) : Value := .agg #[.int .i64 x.f0, .int .i64 x.f1, .int .i64 x.f2]
theorem of1_calls (x : S56) (a b : Int) (g1 g2 : Nat) (w : World) (h1 : w.cell? ⟨g1, 0, none⟩ = some (.int .i64 a)) (h2 : w.cell? ⟨g2, 0, none⟩ = some (.int .i64 b)) :
    Calls Try.prog 31 #[v56 x, .pointer (some ⟨g1, 0, none⟩), .pointer (some ⟨g2, 0, none⟩)] w fun e w' => e = .returned (.bool (isPair a b x)) ∧ w.alloc (.cells #[.int .i64 x.f0, .int .i64 x.f1, .int .i64 x.f2] 56) = w' := by
  unfold v56 isPair
  have k1 : (w.alloc (.cells #[.int .i64 x.f0, .int .i64 x.f1, .int .i64 x.f2] 56)).cell? ⟨g1, 0, none⟩ = some (.int .i64 a) := cell_alloc h1
  have k2 : (w.alloc (.cells #[.int .i64 x.f0, .int .i64 x.f1, .int .i64 x.f2] 56)).cell? ⟨g2, 0, none⟩ = some (.int .i64 b) := cell_alloc h2
  cases hb : x.f0 == a <;> (go_enter Try.func31, Try.ntmps31; go_wp2; go_ret; exact ⟨by simp, rfl⟩)
/-- Where the first entry of a pair stands. -/
def idxL (a b : Int) (l : List S56) : Int := match l.findIdx? (isPair a b) with | some i => i | none => -1
theorem findIdx_take (p : S56 → Bool) (l : List S56) (k : Nat) (hk : k < l.length) (h : l[k].f0 = l[k].f0) (hn : (l.take k).findIdx? p = none) (hp : p l[k] = true) : l.findIdx? p = some k := by
  rw [List.findIdx?_eq_some_iff_getElem]
  refine ⟨hk, hp, fun j hj => ?_⟩
  rw [List.findIdx?_eq_none_iff] at hn
  have := hn (l[j]) (by rw [List.mem_take_iff_getElem]; exact ⟨j, by omega, rfl⟩)
  simpa using this
set_option maxHeartbeats 2000000 in
theorem idx_calls (A : Option Addr) (c : Nat) (l : List S56) (a b : Int) (g1 g2 : Nat) (w : World) (hr : Kd.C k56 w A l.length l) (hc : l.length ≤ c) (h1 : w.cell? ⟨g1, 0, none⟩ = some (.int .i64 a)) (h2 : w.cell? ⟨g2, 0, none⟩ = some (.int .i64 b)) :
    Calls Try.prog 30 #[.slice A l.length c, .func (.func 31) #[] #[.pointer (some ⟨g1, 0, none⟩), .pointer (some ⟨g2, 0, none⟩)]] w fun e w' => e = .returned (.int .i64 (idxL a b l)) ∧ Below w.heap.size w w' := by
  have HR := Aside0.mk hr
  have hl := hr.2.1
  clear hr
  go_enter Try.func30, Try.ntmps30
  go_wp2
  go_loopw [8] (fun v wr => ∃ k : Nat, k ≤ l.length ∧ v = .int .i64 k ∧ (l.take k).findIdx? (isPair a b) = none ∧ Below w.heap.size w wr) (fun v _ => l.length - (intOf v).toNat)
  case atStart => exact ⟨0, by omega, rfl, by simp, Below.refl _ _⟩
  case round =>
    obtain ⟨k, hk, rfl, hn, hB⟩ := hrel
    by_cases hlt : k < l.length
    · have hlt' : (k : Int) < l.length := by omega
      obtain ⟨ad, rfl, hh⟩ := at_T56 (Kd.C_below HR.out hB) (k : Int) (by omega) (by omega)
      rw [Int.toNat_natCast] at hh
      obtain ⟨c0, c1, c2⟩ := hh
      have hT := rd56_take l k hlt
      have hL : rd_T56 l (k : Int) = l[k] := by simp [rd_T56, List.getD_eq_getElem?_getD, hlt]
      have w1 := (hB.cell (p := ⟨g1, 0, none⟩) (World.block_lt_of_cell? w _ h1)).trans h1
      have w2 := (hB.cell (p := ⟨g2, 0, none⟩) (World.block_lt_of_cell? w _ h2)).trans h2
      have hcon := of1_calls (rd_T56 l (k : Int)) a b g1 g2 wr w1 w2
      have hnext : isPair a b (rd_T56 l (k : Int)) = false → (l.take (k + 1)).findIdx? (isPair a b) = none := fun h => by
        rw [hT, List.findIdx?_eq_none_iff] at *
        intro x hx
        rw [List.mem_append] at hx
        rcases hx with hx | hx
        · exact hn x hx
        · simp at hx; rw [hx]; exact h
      have hhit : isPair a b (rd_T56 l (k : Int)) = true → idxL a b l = k := fun h => by
        unfold idxL
        rw [findIdx_take _ l k hlt rfl hn (by rw [← hL]; exact h)]
      have HN := Lib.hid hnext
      have HH := Lib.hid hhit
      clear hnext hhit hT hL hn hlt
      unfold v56 at hcon
      generalize rd_T56 l (k : Int) = L at c0 c1 c2 hcon HN HH
      cases hp : isPair a b L with
      | true =>
        rw [hp] at hcon
        go_wp2_with (go_at_call 31; refine hcon.mono ?_; rintro e w' ⟨rfl, rfl⟩)
        go_ret
        exact ⟨by rw [HH.out hp]; rfl, hB.alloc hB.size _⟩
      | false =>
        rw [hp] at hcon
        go_wp2_with (go_at_call 31; refine hcon.mono ?_; rintro e w' ⟨rfl, rfl⟩)
        go_roundw
        case rel => exact ⟨k + 1, by omega, by go_num, HN.out hp, hB.alloc hB.size _⟩
        case measure => simp [intOf]; omega
    · have hlt' : ¬ (k : Int) < l.length := by omega
      obtain rfl : k = l.length := by omega
      have HN := Lib.hid hn
      clear hn
      go_wp2
      go_ret
      have h := HN.out
      rw [List.take_length] at h
      exact ⟨by simp [idxL, h], hB⟩
/-- What the first entry of a pair tells. -/
def ofL (a b : Int) (l : List S56) : Int := ((l.find? (isPair a b)).map (·.f2)).getD 0
set_option maxHeartbeats 2000000 in
theorem of_calls (A : Option Addr) (c : Nat) (l : List S56) (a b : Int) (w : World) (hr : Kd.C k56 w A l.length l) (hc : l.length ≤ c) :
    Calls Try.prog 17 #[.slice A l.length c, .int .i64 a, .int .i64 b] w fun e w' => e = .returned (.int .i64 (ofL a b l)) ∧ Below w.heap.size w w' := by
  have hBW : Below w.heap.size w ((w.alloc (.cells #[.int .i64 a] 3)).alloc (.cells #[.int .i64 b] 3)) := ((Below.refl _ _).alloc (Nat.le_refl _) _).alloc (by simp) _
  have g1 : ((w.alloc (.cells #[.int .i64 a] 3)).alloc (.cells #[.int .i64 b] 3)).cell? ⟨w.heap.size, 0, none⟩ = some (.int .i64 a) := by go_simp
  have g2 : ((w.alloc (.cells #[.int .i64 a] 3)).alloc (.cells #[.int .i64 b] 3)).cell? ⟨w.heap.size + 1, 0, none⟩ = some (.int .i64 b) := by go_simp
  have hcon := idx_calls A c l a b w.heap.size (w.heap.size + 1) _ (Kd.C_below hr hBW) hc g1 g2
  have HR := Aside0.mk hr
  have hl := hr.2.1
  clear hr g1 g2
  go_enter Try.func17, Try.ntmps17
  go_wp2_with fail
  generalize (w.alloc (.cells #[.int .i64 a] 3)).alloc (.cells #[.int .i64 b] 3) = W at hBW hcon ⊢
  refine hcon.mono ?_
  rintro e w1 ⟨rfl, hB1⟩
  have hB := hBW.trans (hB1.mono hBW.size)
  have hi : (idxL a b l = -1 ∧ ofL a b l = 0) ∨ ∃ k : Nat, idxL a b l = k ∧ k < l.length ∧ ofL a b l = (rd_T56 l (k : Int)).f2 := by
    unfold idxL ofL
    cases hf : l.findIdx? (isPair a b) with
    | none =>
      rw [List.findIdx?_eq_none_iff] at hf
      exact .inl ⟨rfl, by rw [List.find?_eq_none.2 (fun x hx => by simpa using hf x hx)]; rfl⟩
    | some k =>
      rw [List.findIdx?_eq_some_iff_getElem] at hf
      obtain ⟨hk, h1, h2⟩ := hf
      refine .inr ⟨k, rfl, hk, ?_⟩
      have : l.find? (isPair a b) = some l[k] := by
        rw [List.find?_eq_some_iff_getElem]
        exact ⟨h1, k, hk, rfl, fun j hj => by simpa using h2 j hj⟩
      rw [this]
      simp [rd_T56, List.getD_eq_getElem?_getD, hk]
  rcases hi with ⟨e1, e2⟩ | ⟨k, e1, hk, e2⟩
  · rw [e1]
    have E2 := Lib.hid e2
    clear e1 e2 hcon hB1
    go_wp2
    go_ret
    exact ⟨by rw [E2.out]; rfl, hB⟩
  · rw [e1]
    obtain ⟨ad, rfl, hh⟩ := at_T56 (Kd.C_below HR.out hB) (k : Int) (by omega) (by omega)
    rw [Int.toNat_natCast] at hh
    obtain ⟨c0, c1, c2⟩ := hh
    have E2 := Lib.hid e2
    have hk' : (k : Int) < l.length := by omega
    clear e1 e2 hcon hB1 hk
    go_wp2
    go_ret
    exact ⟨by rw [E2.out]; rfl, hB⟩
end Go.Proofs.Ytbgcmhakllodeaa
