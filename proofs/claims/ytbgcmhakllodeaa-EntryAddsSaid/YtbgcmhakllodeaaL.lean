/- The smaller functions: too large a state, small buckets, what a pair has. -/
import Derived.Test.YtbgcmhakllodeaaV
import Derived.Test.YtbgcmhakllodeaaC
namespace Go.Proofs.Ytbgcmhakllodeaa
open Go.RowKit Go.Proofs.YtbgcmhakllodeaaW.PrintWords Go.Proofs.YtbgcmhakllodeaaW.PrintLast Go.Proofs.YtbgcmhakllodeaaW.PrintMore
open PEntryDiffers

def big52 (b : S52) : Bool := decide (100 < b.f5.length)
def largeB (n : Nat) (bs : List S52) : Bool := decide (100 < n) || (decide (400 < bs.length) || bs.any big52)
theorem any_take (p : S52 → Bool) (l : List S52) (k : Nat) (h : k < l.length) (hn : (l.take k).any p = false) (hp : p (rd_T52 l (k : Int)) = false) : (l.take (k + 1)).any p = false := by
  have : rd_T52 l (k : Int) = l[k] := by simp [rd_T52, List.getD_eq_getElem?_getD, h]
  rw [List.take_succ_eq_append_getElem h, List.any_append, hn, ← this]
  simp [hp]
theorem any_hit (p : S52 → Bool) (l : List S52) (k : Nat) (h : k < l.length) (hp : p (rd_T52 l (k : Int)) = true) : l.any p = true := by
  have : rd_T52 l (k : Int) = l[k] := by simp [rd_T52, List.getD_eq_getElem?_getD, h]
  rw [List.any_eq_true]
  exact ⟨l[k], List.getElem_mem h, by rw [← this]; exact hp⟩
set_option maxHeartbeats 2000000 in
theorem large_calls (a0 a2 a3 a4 a5 a7 a8 a9 a10 a11 a12 : Value) (A B : Option Addr) (n c d : Nat) (bs : List S52) (w : World) (hr : Kd.C k52 w B bs.length bs) (hc : bs.length ≤ d) :
    Calls Try.prog 6 #[.agg #[a0, .slice A n c, a2, a3, a4, a5, .slice B bs.length d, a7, a8, a9, a10, a11, a12]] w fun e w' => e = .returned (.bool (largeB n bs)) ∧ Below w.heap.size w w' := by
  have hl := hr.2.1
  have hBW := (Below.refl w.heap.size w).alloc (Nat.le_refl _) (Obj.cells #[a0, .slice A n c, a2, a3, a4, a5, .slice B bs.length d, a7, a8, a9, a10, a11, a12] 27)
  have HR := Aside0.mk (Kd.C_below hr hBW)
  have f1 : (w.alloc (Obj.cells #[a0, .slice A n c, a2, a3, a4, a5, .slice B bs.length d, a7, a8, a9, a10, a11, a12] 27)).cell? ⟨w.heap.size, 1, none⟩ = some (.slice A n c) := blk_cell (Go.heap_alloc_new w _) 1
  have f6 : (w.alloc (Obj.cells #[a0, .slice A n c, a2, a3, a4, a5, .slice B bs.length d, a7, a8, a9, a10, a11, a12] 27)).cell? ⟨w.heap.size, 6, none⟩ = some (.slice B bs.length d) := blk_cell (Go.heap_alloc_new w _) 6
  clear hr
  by_cases h1 : 100 < n
  · have HL := Lib.hid (show largeB n bs = true by unfold largeB; rw [decide_eq_true h1]; rfl)
    have h1' : (100 : Int) < n := by omega
    clear h1
    go_enter Try.func6, Try.ntmps6
    go_wp2
    go_ret
    exact ⟨by rw [HL.out]; rfl, hBW⟩
  · have h1' : (n : Int) ≤ 100 := by omega
    by_cases h2 : 400 < bs.length
    · have HL := Lib.hid (show largeB n bs = true by unfold largeB; rw [decide_eq_false h1, decide_eq_true h2]; rfl)
      have h2' : (400 : Int) < bs.length := by omega
      clear h1 h2
      go_enter Try.func6, Try.ntmps6
      go_wp2
      go_ret
      exact ⟨by rw [HL.out]; rfl, hBW⟩
    · have h2' : (bs.length : Int) ≤ 400 := by omega
      have HL := Lib.hid (show largeB n bs = bs.any big52 by unfold largeB; rw [decide_eq_false h1, decide_eq_false h2]; rfl)
      clear h1 h2
      go_enter Try.func6, Try.ntmps6
      go_wp2
      generalize w.alloc (Obj.cells #[a0, .slice A n c, a2, a3, a4, a5, .slice B bs.length d, a7, a8, a9, a10, a11, a12] 27) = W at *
      go_loop [3] (fun v => ∃ k : Nat, k ≤ bs.length ∧ v = .int .i64 k ∧ Hid ((bs.take k).any big52 = false)) (fun v => bs.length - (intOf v).toNat)
      case atStart => exact ⟨0, by omega, rfl, Lib.hid rfl⟩
      case round =>
        obtain ⟨k, hk, rfl, hn⟩ := hrel
        by_cases hlt : k < bs.length
        · have hlt' : (k : Int) < bs.length := by omega
          have HN := Lib.hid (any_take big52 bs k hlt hn.out)
          have HH := Lib.hid (any_hit big52 bs k hlt)
          obtain ⟨ad, A5, c5, rfl, hh⟩ := at_T52 HR.out (k : Int) (by omega) (by omega)
          rw [Int.toNat_natCast] at hh
          obtain ⟨_, _, _, _, _, c5', _⟩ := hh
          generalize rd_T52 bs (k : Int) = y at *
          clear hlt
          by_cases hy : 100 < y.f5.length
          · have hy' : (100 : Int) < y.f5.length := by omega
            have HF := Lib.hid (HH.out (decide_eq_true hy))
            clear hy
            go_wp2
            go_ret
            exact ⟨by rw [HL.out, HF.out]; rfl, hBW⟩
          · have hy' : (y.f5.length : Int) ≤ 100 := by omega
            have HF := Lib.hid (HN.out (decide_eq_false hy))
            clear hy
            go_wp2
            go_round
            case rel => exact ⟨k + 1, by omega, by go_num, HF⟩
            case measure => simp [intOf]; omega
        · obtain rfl : k = bs.length := by omega
          clear hlt
          go_wp2
          go_ret
          have h := hn.out
          rw [List.take_length] at h
          exact ⟨by rw [HL.out, h]; rfl, hBW⟩
def smallL (x : S54) : Bool := decide (0 ≤ x.f1 ∧ 0 ≤ x.f2 ∧ 0 ≤ x.f4 ∧ x.f2 ≤ 1000000000000000000 ∧ x.f1 ≤ 10000000000000 ∧ x.f4 ≤ 10000000000000)
theorem small_Sml {l : List S54} (h : l.all smallL = true) : Sml l := fun x hx => by
  have := List.all_eq_true.1 h x hx
  unfold smallL at this
  rw [decide_eq_true_iff] at this
  omega
theorem all_take (p : S54 → Bool) (l : List S54) (k : Nat) (h : k < l.length) (hn : (l.take k).all p = true) (hp : p (rd_T54 l (k : Int)) = true) : (l.take (k + 1)).all p = true := by
  have : rd_T54 l (k : Int) = l[k] := by simp [rd_T54, List.getD_eq_getElem?_getD, h]
  rw [List.take_succ_eq_append_getElem h, List.all_append, hn, ← this]
  simp [hp]
theorem all_hit (p : S54 → Bool) (l : List S54) (k : Nat) (h : k < l.length) (hp : p (rd_T54 l (k : Int)) = false) : l.all p = false := by
  have : rd_T54 l (k : Int) = l[k] := by simp [rd_T54, List.getD_eq_getElem?_getD, h]
  rw [List.all_eq_false]
  exact ⟨l[k], List.getElem_mem h, by rw [← this, hp]; simp⟩
set_option maxHeartbeats 2000000 in
theorem small_calls (a0 a2 a3 a4 a5 a6 a7 a8 a9 a10 a11 a12 : Value) (A : Option Addr) (c : Nat) (ls : List S54) (w : World) (hr : Kd.C k54 w A ls.length ls) (hc : ls.length ≤ c) :
    Calls Try.prog 19 #[.agg #[a0, .slice A ls.length c, a2, a3, a4, a5, a6, a7, a8, a9, a10, a11, a12]] w fun e w' => e = .returned (.bool (ls.all smallL)) ∧ Below w.heap.size w w' := by
  have hl := hr.2.1
  have hBW := (Below.refl w.heap.size w).alloc (Nat.le_refl _) (Obj.cells #[a0, .slice A ls.length c, a2, a3, a4, a5, a6, a7, a8, a9, a10, a11, a12] 27)
  have HR := Aside0.mk (Kd.C_below hr hBW)
  have f1 : (w.alloc (Obj.cells #[a0, .slice A ls.length c, a2, a3, a4, a5, a6, a7, a8, a9, a10, a11, a12] 27)).cell? ⟨w.heap.size, 1, none⟩ = some (.slice A ls.length c) := blk_cell (Go.heap_alloc_new w _) 1
  clear hr
  go_enter Try.func19, Try.ntmps19
  go_wp2
  have hsz : w.heap.size < (w.alloc (Obj.cells #[a0, .slice A ls.length c, a2, a3, a4, a5, a6, a7, a8, a9, a10, a11, a12] 27)).heap.size := by simp
  generalize w.alloc (Obj.cells #[a0, .slice A ls.length c, a2, a3, a4, a5, a6, a7, a8, a9, a10, a11, a12] 27) = W at *
  go_loopw [3] (fun v wr => ∃ k : Nat, k ≤ ls.length ∧ v = .int .i64 k ∧ Hid ((ls.take k).all smallL = true) ∧ Below W.heap.size W wr) (fun v _ => ls.length - (intOf v).toNat)
  case atStart => exact ⟨0, by omega, rfl, Lib.hid rfl, Below.refl _ _⟩
  case round =>
    obtain ⟨k, hk, rfl, hn, hB⟩ := hrel
    have g1 := (hB.cell (p := ⟨w.heap.size, 1, none⟩) hsz).trans f1
    have hbs := hB.size
    by_cases hlt : k < ls.length
    · have hlt' : (k : Int) < ls.length := by omega
      have HN := Lib.hid (all_take smallL ls k hlt hn.out)
      have HH := Lib.hid (all_hit smallL ls k hlt)
      obtain ⟨ad, rfl, hh⟩ := at_T54 (Kd.C_below HR.out hB) (k : Int) (by omega) (by omega)
      rw [Int.toNat_natCast] at hh
      obtain ⟨h0, h1, h2, h3, h4, h5, h6, h7, h8, h9, h10, h11, h12⟩ := hh
      generalize rd_T54 ls (k : Int) = y at *
      clear hlt
      by_cases hy : 0 ≤ y.f1 ∧ 0 ≤ y.f2 ∧ 0 ≤ y.f4 ∧ y.f2 ≤ 1000000000000000000 ∧ y.f1 ≤ 10000000000000 ∧ y.f4 ≤ 10000000000000
      · have HF := Lib.hid (HN.out (decide_eq_true hy))
        obtain ⟨q1, q2, q3, q4, q5, q6⟩ := hy
        have hBn := fun o => hB.alloc hbs o
        go_wp2
        go_roundw
        case rel => exact ⟨k + 1, by omega, by go_num, HF, hBn _⟩
        case measure => simp [intOf]; omega
      · have HF := Lib.hid (HH.out (decide_eq_false hy))
        have hy2 : y.f1 < 0 ∨ (0 ≤ y.f1 ∧ (y.f2 < 0 ∨ (0 ≤ y.f2 ∧ (y.f4 < 0 ∨ (0 ≤ y.f4 ∧ (1000000000000000000 < y.f2 ∨ (y.f2 ≤ 1000000000000000000 ∧ (10000000000000 < y.f1 ∨ (y.f1 ≤ 10000000000000 ∧ 10000000000000 < y.f4))))))))) := by omega
        have hBn := fun o => hBW.trans ((hB.alloc hbs o).mono hBW.size)
        clear hy
        rcases hy2 with q1 | ⟨q1, q2 | ⟨q2, q3 | ⟨q3, q4 | ⟨q4, q5 | ⟨q5, q6⟩⟩⟩⟩⟩
        all_goals
          go_wp2
          go_ret
          exact ⟨by rw [HF.out]; rfl, hBn _⟩
    · obtain rfl : k = ls.length := by omega
      clear hlt
      go_wp2
      go_ret
      have h := hn.out
      rw [List.take_length] at h
      exact ⟨by rw [h]; rfl, hBW.trans (hB.mono hBW.size)⟩
def isPair57 (a b : Int) (x : S57) : Bool := decide (x.f0 = a ∧ x.f1 = b)
def ofL57 (a b : Int) (l : List S57) : Int := ((l.find? (isPair57 a b)).map (·.f2)).getD 0
theorem ofL57_map (a b : Int) : ∀ l : List S56, ofL57 a b (l.map cv) = ofL a b l
  | [] => rfl
  | x :: r => by
    have ih := ofL57_map a b r
    unfold ofL57 ofL at *
    rw [List.map_cons, List.find?_cons, List.find?_cons]
    have : isPair57 a b (cv x) = isPair a b x := by
      unfold isPair57 isPair cv
      rw [Bool.eq_iff_iff]
      simp
    rw [this]
    cases isPair a b x with
    | true => rfl
    | false => exact ih
set_option maxHeartbeats 2000000 in
theorem refOf_calls (A : Option Addr) (c : Nat) (l : List S57) (a b : Int) (w : World) (hr : Kd.C k57 w A l.length l) (hc : l.length ≤ c) :
    Calls Try.prog 18 #[.slice A l.length c, .int .i64 a, .int .i64 b] w fun e w' => e = .returned (.int .i64 (ofL57 a b l)) ∧ w = w' := by
  have hl := hr.2.1
  have HR := Aside0.mk hr
  clear hr
  go_enter Try.func18, Try.ntmps18
  go_wp2
  go_loop [7] (fun v => ∃ k : Nat, k ≤ l.length ∧ v = .int .i64 k ∧ Hid (ofL57 a b (l.drop k) = ofL57 a b l)) (fun v => l.length - (intOf v).toNat)
  case atStart => exact ⟨0, by omega, rfl, Lib.hid rfl⟩
  case round =>
    obtain ⟨k, hk, rfl, hn⟩ := hrel
    by_cases hlt : k < l.length
    · have hlt' : (k : Int) < l.length := by omega
      have hd : ofL57 a b (l.drop k) = if (rd_T57 l (k : Int)).f0 = a ∧ (rd_T57 l (k : Int)).f1 = b then (rd_T57 l (k : Int)).f2 else ofL57 a b (l.drop (k + 1)) := by
        rw [show rd_T57 l (k : Int) = l[k] by simp [rd_T57, List.getD_eq_getElem?_getD, hlt], List.drop_eq_getElem_cons hlt]
        unfold ofL57 isPair57
        rw [List.find?_cons]
        by_cases e : l[k].f0 = a ∧ l[k].f1 = b
        · simp only [e, and_self, decide_true, if_true, Option.map_some, Option.getD_some]
        · simp only [e, decide_false, if_false]
      have HD := Lib.hid hd
      obtain ⟨ad, rfl, hh⟩ := at_T57 HR.out (k : Int) (by omega) (by omega)
      rw [Int.toNat_natCast] at hh
      obtain ⟨h0, h1, h2⟩ := hh
      clear hd hlt
      generalize rd_T57 l (k : Int) = y at *
      by_cases e0 : y.f0 = a
      · by_cases e1 : y.f1 = b
        · have HF := Lib.hid (show ofL57 a b l = y.f2 by rw [← hn.out, HD.out, if_pos ⟨e0, e1⟩])
          subst e0 e1
          go_wp2
          go_ret
          exact ⟨by rw [HF.out]; rfl, rfl⟩
        · have HF := Lib.hid (show ofL57 a b (l.drop (k + 1)) = ofL57 a b l by rw [← hn.out, HD.out, if_neg (fun h => e1 h.2)])
          subst e0
          have e2 : (y.f1 == b) = false := by rw [beq_eq_false_iff_ne]; exact e1
          go_wp2
          go_round
          case rel => exact ⟨k + 1, by omega, by go_num, HF⟩
          case measure => simp [intOf]; omega
      · have HF := Lib.hid (show ofL57 a b (l.drop (k + 1)) = ofL57 a b l by rw [← hn.out, HD.out, if_neg (fun h => e0 h.1)])
        have e2 : (y.f0 == a) = false := by rw [beq_eq_false_iff_ne]; exact e0
        go_wp2
        go_round
        case rel => exact ⟨k + 1, by omega, by go_num, HF⟩
        case measure => simp [intOf]; omega
    · obtain rfl : k = l.length := by omega
      have HF := Lib.hid (show ofL57 a b l = 0 by rw [← hn.out, List.drop_length]; rfl)
      clear hlt
      go_wp2
      go_ret
      exact ⟨by rw [HF.out]; rfl, rfl⟩
/-- entry.Diff, in the reference's words. -/
theorem diff_ref (a0 a2 a3 a4 a5 a6 a7 a8 a9 a10 a11 a12 b0 b2 b3 b4 b5 b6 b7 b8 b9 b10 b11 b12 : Value) (A1 B1 : Option Addr) (ca cb : Nat) (la lb : List S54) (w : World) (hra : Kd.C k54 w A1 la.length la) (hca : la.length ≤ ca) (hrb : Kd.C k54 w B1 lb.length lb) (hcb : lb.length ≤ cb)
    (ha : la.length ≤ 100) (hb : lb.length ≤ 100) (ra : Rng la) (rb : Rng lb) :
    Calls Try.prog 10 #[.agg #[a0, .slice A1 la.length ca, a2, a3, a4, a5, a6, a7, a8, a9, a10, a11, a12], .agg #[b0, .slice B1 lb.length cb, b2, b3, b4, b5, b6, b7, b8, b9, b10, b11, b12]] w fun e w' => ∃ (v : Value), e = .returned v ∧ Kd.R k56 56 w' w.heap.size (fun _ => True) v (refDiffL la lb) ∧ Below w.heap.size w w' :=
  (diff_calls a0 a2 a3 a4 a5 a6 a7 a8 a9 a10 a11 a12 b0 b2 b3 b4 b5 b6 b7 b8 b9 b10 b11 b12 A1 B1 ca cb la lb w hra hca hrb hcb ha hb).mono fun e w' ⟨v, M, ts, he, hD, hp, hs, hR, hB⟩ => ⟨v, he, by rw [← diff_same ra rb hD hp hs]; exact hR, hB⟩
theorem refDiff_len (la lb : List S54) : (refDiffL la lb).length ≤ 3 * (la.length + lb.length) := by
  have h1 := outD_len la lb (idsL (la ++ lb))
  have h2 := idsL_len (la ++ lb)
  rw [List.length_append] at h2
  unfold refDiffL
  omega
/-- entry.Add, in the reference's words. -/
theorem add_ref (A1 B1 : Option Addr) (ca cb : Nat) (la lb : List S56) (w : World) (hra : Kd.C k56 w A1 la.length la) (hca : la.length ≤ ca) (hrb : Kd.C k56 w B1 lb.length lb) (hcb : lb.length ≤ cb)
    (ha : la.length ≤ 300000) (hb : lb.length ≤ 300000) (hi : ∀ x ∈ la ++ lb, In64 x.f2) :
    Calls Try.prog 15 #[.slice A1 la.length ca, .slice B1 lb.length cb] w fun e w' => Below w.heap.size w w' ∧ ((refAddL (la ++ lb) = none ∧ e = .returned (.tuple #[.slice none 0 0, .int .i64 14])) ∨ ∃ l v, refAddL (la ++ lb) = some l ∧ e = .returned (.tuple #[v, .int .i64 0]) ∧ Kd.R k56 56 w' w.heap.size (fun _ => True) v l) :=
  (add_calls A1 B1 ca cb la lb w hra hca hrb hcb ha hb).mono fun e w' h => by
    rcases add_same hi with ⟨h1, h2⟩ | ⟨M, h1, h2, h3⟩
    · rcases h with ⟨_, he, hB⟩ | ⟨M, v, ts, hM, _⟩
      · exact ⟨hB, .inl ⟨h2, he⟩⟩
      · rw [h1] at hM; cases hM
    · rcases h with ⟨h0, _⟩ | ⟨M', v, ts, hM, he, hp, hs, hR, hB⟩
      · rw [h1] at h0; cases h0
      · rw [h1] at hM
        obtain rfl : M = M' := by injection hM
        exact ⟨hB, .inr ⟨_, v, h3 ts hp hs, he, hR⟩⟩
theorem C_nil {α : Type} (d : Kd α) (w : World) : Kd.C d w none ([] : List α).length [] := ⟨rfl, by simp, fun h => absurd h (by simp)⟩
set_option maxHeartbeats 2000000 in
theorem entrySame_calls (b0 b2 b3 b4 b5 b6 b7 b8 b9 b10 b11 b12 : Value) (A B : Option Addr) (c d : Nat) (l : List S56) (lb : List S54) (w : World) (hr : Kd.C k56 w A l.length l) (hc : l.length ≤ c) (hrb : Kd.C k54 w B lb.length lb) (hcb : lb.length ≤ d) (hl : l.length ≤ 1000000) (hb : lb.length ≤ 100) (rb : Rng lb) :
    Calls Try.prog 13 #[.slice A l.length c, .agg #[b0, .slice B lb.length d, b2, b3, b4, b5, b6, b7, b8, b9, b10, b11, b12]] w fun e w' => e = .returned (.bool (decide (l = refDiffL [] lb))) ∧ Below w.heap.size w w' := by
  have hBW := (Below.refl w.heap.size w).alloc (Nat.le_refl _) (Obj.cells #[b0, .slice B lb.length d, b2, b3, b4, b5, b6, b7, b8, b9, b10, b11, b12] 27)
  have HR := Aside0.mk (Kd.C_below hr hBW)
  have HRB := Aside0.mk (Kd.C_below hrb hBW)
  clear hr hrb
  have HL := Lib.hid hl
  go_enter Try.func13, Try.ntmps13
  go_wp2_with fail
  generalize w.alloc (Obj.cells #[b0, .slice B lb.length d, b2, b3, b4, b5, b6, b7, b8, b9, b10, b11, b12] 27) = W at *
  refine (diff_ref _ _ _ _ _ _ _ _ _ _ _ _ _ _ _ _ _ _ _ _ _ _ _ _ none B 0 d [] lb W (C_nil _ _) (Nat.le_refl _) HRB.out hcb (by simp) hb (fun x hx => by cases hx) rb).mono ?_
  rintro e w1 ⟨v, rfl, hR, hB⟩
  obtain ⟨A1, c1, rfl, hc1, hC1⟩ := Kd.R_reads hR
  have HC := Aside0.mk hC1
  have HR1 := Aside0.mk (Kd.C_below HR.out hB)
  have hB2 := Lib.hid (hBW.trans (hB.mono hBW.size))
  clear hC1 hR hB
  obtain ⟨m, hm⟩ : ∃ m, m = refDiffL [] lb := ⟨_, rfl⟩
  have HM := Lib.hid hm
  rw [← hm] at HC hc1 ⊢
  clear hm
  go_wp2_with fail
  refine (equal_calls A A1 c c1 l m w1 HR1.out hc HC.out hc1 HL.out).mono ?_
  rintro e w2 ⟨rfl, ⟨n, rfl⟩⟩
  go_wp2_with fail
  go_ret
  exact ⟨by rw [← HM.out]; rfl, pw_below_drewN hB2.out n⟩
set_option maxHeartbeats 2000000 in
theorem refSame_calls (b0 b2 b3 b4 b5 b6 b7 b8 b9 b10 b11 b12 : Value) (A B : Option Addr) (c d : Nat) (l : List S57) (lb : List S54) (w : World) (hr : Kd.C k57 w A l.length l) (hc : l.length ≤ c) (hrb : Kd.C k54 w B lb.length lb) (hcb : lb.length ≤ d) (hl : l.length ≤ 1000000) (hb : lb.length ≤ 100) :
    Calls Try.prog 14 #[.slice A l.length c, .agg #[b0, .slice B lb.length d, b2, b3, b4, b5, b6, b7, b8, b9, b10, b11, b12]] w fun e w' => e = .returned (.bool (decide (l = (refDiffL [] lb).map cv))) ∧ Below w.heap.size w w' := by
  have hBW := (Below.refl w.heap.size w).alloc (Nat.le_refl _) (Obj.cells #[b0, .slice B lb.length d, b2, b3, b4, b5, b6, b7, b8, b9, b10, b11, b12] 27)
  have HR := Aside0.mk (Kd.C_below hr hBW)
  have HRB := Aside0.mk (Kd.C_below hrb hBW)
  clear hr hrb
  have HL := Lib.hid hl
  go_enter Try.func14, Try.ntmps14
  go_wp2_with fail
  generalize w.alloc (Obj.cells #[b0, .slice B lb.length d, b2, b3, b4, b5, b6, b7, b8, b9, b10, b11, b12] 27) = W at *
  refine (refDiff_calls _ _ _ _ _ _ _ _ _ _ _ _ _ _ _ _ _ _ _ _ _ _ _ _ none B 0 d [] lb W (C_nil _ _) (Nat.le_refl _) HRB.out hcb (by simp) (by omega)).mono ?_
  rintro e w1 ⟨v, rfl, hR, hB⟩
  obtain ⟨A1, c1, rfl, hc1, hC1⟩ := Kd.R_reads hR
  have hC2 := C57 hC1
  have HR1 := Aside0.mk (Kd.C_below HR.out hB)
  have hB2 := Lib.hid (hBW.trans (hB.mono hBW.size))
  clear hC1 hR hB
  rw [show (refDiffL [] lb).length = ((refDiffL [] lb).map cv).length from (List.length_map _).symm] at hC2 hc1 ⊢
  have HC := Aside0.mk hC2
  clear hC2
  obtain ⟨m, hm⟩ : ∃ m, m = (refDiffL [] lb).map cv := ⟨_, rfl⟩
  have HM := Lib.hid hm
  rw [← hm] at HC hc1 ⊢
  clear hm
  go_wp2_with fail
  refine (alike_calls A A1 c c1 l m w1 HR1.out hc HC.out hc1 HL.out).mono ?_
  rintro e w2 ⟨rfl, ⟨n, rfl⟩⟩
  go_wp2_with fail
  go_ret
  exact ⟨by rw [← HM.out]; rfl, pw_below_drewN hB2.out n⟩
end Go.Proofs.Ytbgcmhakllodeaa
