/- The reference: the difference of two states. -/
import Derived.Test.YtbgcmhakllodeaaH
import Derived.Test.YtbgcmhakllodeaaPEntryDiffersx5
namespace Go.Proofs.Ytbgcmhakllodeaa
open Go.RowKit Go.Proofs.YtbgcmhakllodeaaW.PrintWords Go.Proofs.YtbgcmhakllodeaaW.PrintLast Go.Proofs.YtbgcmhakllodeaaW.PrintMore
open PEntryDiffers

/-- The reference's answer for a loan's bucket. -/
def ofR (l : List S54) (id b : Int) : Int := match l.find? (fun L => decide (L.f0 = id)) with | some L => rd [L.f1, L.f2, L.f4] (b - 1) | none => 0
theorem of_l0 (l : List S54) (id b : Int) (hb : 1 ≤ b) (hb' : b ≤ 3) (hl : l.length ≤ 1000000) : ∀ k n : Nat, n ≤ l.length → l.length - n < k → annuityref26_of.l0 k l id b n = some (ofR (l.drop n) id b)
  | 0, n, _, h => by omega
  | k + 1, n, h, hk => by
    unfold annuityref26_of.l0
    have hw : wrap64 (b - 1) = b - 1 := by rw [Go.RowKit.wrap64]; omega
    have hw' : wrap64 ((n : Int) + 1) = ((n + 1 : Nat) : Int) := by rw [Go.RowKit.wrap64]; omega
    by_cases hn : n < l.length
    · rw [if_pos (by omega), if_pos (by omega), List.drop_eq_getElem_cons hn]
      have hr : rd_T54 l (n : Int) = l[n] := by simp [rd_T54, List.getD_eq_getElem?_getD, hn]
      rw [hr, hw]
      unfold ofR
      rw [List.find?_cons]
      by_cases he : l[n].f0 = id
      · rw [if_pos he]
        simp only [he, decide_true]
        rw [Option.bind_some, if_pos (by omega), if_pos (by simp; omega)]
      · rw [if_neg he, hw', of_l0 l id b hb hb' hl k (n + 1) (by omega) (by omega)]
        simp only [he, decide_false]
        rfl
    · rw [if_neg (by omega), List.drop_eq_nil_of_le (by omega)]
      rfl
theorem of26 (A : Option Addr) (c : Nat) (l : List S54) (id b : Int) (w : World) (hr : Kd.C k54 w A l.length l) (hc : l.length ≤ c) (hb : 1 ≤ b) (hb' : b ≤ 3) (hl : l.length ≤ 1000000) :
    Calls Try.prog 26 #[.slice A l.length c, .int .i64 id, .int .i64 b] w fun e w' => e = .returned (.int .i64 (ofR l id b)) ∧ Below w.heap.size w w' :=
  annuityref26_of.calls (l.length + 1) A c l id b _ w hr hc (by
    have := of_l0 l id b hb hb' hl (l.length + 1) 0 (by omega) (by omega)
    simpa [annuityref26_of.f] using this)
def fitsR (a b : Int) : Bool := if b ≥ 0 then decide (a ≥ wrap64 ((-9223372036854775808) + b)) else decide (a ≤ wrap64 (9223372036854775807 + b))
theorem fits27 (a b : Int) (w : World) : Calls Try.prog 27 #[.int .i64 a, .int .i64 b] w fun e w' => e = .returned (.bool (fitsR a b)) ∧ Drawn0 w w' :=
  annuityref26_fits.calls a b _ w (by unfold annuityref26_fits.f fitsR; split <;> rfl)
/-- What one bucket brings. -/
def dE (la lb : List S54) (id b : Int) : List S56 := if ofR lb id b ≠ ofR la id b ∧ fitsR (ofR lb id b) (ofR la id b) = true then [⟨id, b, wrap64 (ofR lb id b - ofR la id b)⟩] else []
def rowD (la lb : List S54) (id : Int) (n : Nat) : List S56 := (List.range n).flatMap fun j => dE la lb id ((j + 1 : Nat) : Int)
def outD (la lb : List S54) (ids : List Int) : List S56 := ids.flatMap fun id => rowD la lb id 3
def refDiffL (la lb : List S54) : List S56 := outD la lb (idsL (la ++ lb))
theorem dE_len (la lb : List S54) (id b : Int) : (dE la lb id b).length ≤ 1 := by unfold dE; split <;> simp
theorem rowD_succ (la lb : List S54) (id : Int) (n : Nat) : rowD la lb id (n + 1) = rowD la lb id n ++ dE la lb id ((n + 1 : Nat) : Int) := by
  unfold rowD
  rw [List.range_succ, List.flatMap_append]
  simp
theorem rowD_len (la lb : List S54) (id : Int) : ∀ n, (rowD la lb id n).length ≤ n
  | 0 => by simp [rowD]
  | n + 1 => by
    have h1 := rowD_len la lb id n
    have h2 := dE_len la lb id ((n + 1 : Nat) : Int)
    rw [rowD_succ, List.length_append]
    omega
theorem outD_snoc (la lb : List S54) (l : List Int) (i : Nat) (h : i < l.length) : outD la lb (l.take (i + 1)) = outD la lb (l.take i) ++ rowD la lb (l.getD i 0) 3 := by
  unfold outD
  rw [List.take_succ_eq_append_getElem h, List.flatMap_append]
  simp [List.getD_eq_getElem?_getD, h]
theorem outD_len (la lb : List S54) : ∀ l : List Int, (outD la lb l).length ≤ 3 * l.length
  | [] => by simp [outD]
  | x :: r => by
    have h1 := rowD_len la lb x 3
    have h2 := outD_len la lb r
    have : outD la lb (x :: r) = rowD la lb x 3 ++ outD la lb r := rfl
    rw [this, List.length_append, List.length_cons]
    omega
set_option maxHeartbeats 4000000 in
set_option maxRecDepth 100000 in
theorem refDiff_calls (a0 a2 a3 a4 a5 a6 a7 a8 a9 a10 a11 a12 b0 b2 b3 b4 b5 b6 b7 b8 b9 b10 b11 b12 : Value) (A1 B1 : Option Addr) (ca cb : Nat) (la lb : List S54) (w : World) (hra : Kd.C k54 w A1 la.length la) (hca : la.length ≤ ca) (hrb : Kd.C k54 w B1 lb.length lb) (hcb : lb.length ≤ cb)
    (ha : la.length ≤ 100000) (hb : lb.length ≤ 100000) :
    Calls Try.prog 12 #[.agg #[a0, .slice A1 la.length ca, a2, a3, a4, a5, a6, a7, a8, a9, a10, a11, a12], .agg #[b0, .slice B1 lb.length cb, b2, b3, b4, b5, b6, b7, b8, b9, b10, b11, b12]] w fun e w' => ∃ v, e = .returned v ∧ Kd.R k56 57 w' w.heap.size (fun _ => True) v (refDiffL la lb) ∧ Below w.heap.size w w' := by
  have HRA := Aside0.mk hra
  have HRB := Aside0.mk hrb
  clear hra hrb
  go_enter Try.func12, Try.ntmps12
  go_wp2_with fail
  have hBW : Below w.heap.size w ((w.alloc (Obj.cells #[a0, .slice A1 la.length ca, a2, a3, a4, a5, a6, a7, a8, a9, a10, a11, a12] 27)).alloc (Obj.cells #[b0, .slice B1 lb.length cb, b2, b3, b4, b5, b6, b7, b8, b9, b10, b11, b12] 27)) := ((Below.refl _ w).alloc (Nat.le_refl _) _).alloc (by simp) _
  have fA : (((w.alloc (Obj.cells #[a0, .slice A1 la.length ca, a2, a3, a4, a5, a6, a7, a8, a9, a10, a11, a12] 27)).alloc (Obj.cells #[b0, .slice B1 lb.length cb, b2, b3, b4, b5, b6, b7, b8, b9, b10, b11, b12] 27))).cell? ⟨w.heap.size, 1, none⟩ = some (.slice A1 la.length ca) := blk_cell (show (((w.alloc (Obj.cells #[a0, .slice A1 la.length ca, a2, a3, a4, a5, a6, a7, a8, a9, a10, a11, a12] 27)).alloc (Obj.cells #[b0, .slice B1 lb.length cb, b2, b3, b4, b5, b6, b7, b8, b9, b10, b11, b12] 27))).heap[w.heap.size]? = _ from blk_alloc (Go.heap_alloc_new w _) _) 1
  have fB : (((w.alloc (Obj.cells #[a0, .slice A1 la.length ca, a2, a3, a4, a5, a6, a7, a8, a9, a10, a11, a12] 27)).alloc (Obj.cells #[b0, .slice B1 lb.length cb, b2, b3, b4, b5, b6, b7, b8, b9, b10, b11, b12] 27))).cell? ⟨w.heap.size + 1, 1, none⟩ = some (.slice B1 lb.length cb) := blk_cell (blk_next (by simp)) 1
  have hsz : w.heap.size + 1 < (((w.alloc (Obj.cells #[a0, .slice A1 la.length ca, a2, a3, a4, a5, a6, a7, a8, a9, a10, a11, a12] 27)).alloc (Obj.cells #[b0, .slice B1 lb.length cb, b2, b3, b4, b5, b6, b7, b8, b9, b10, b11, b12] 27))).heap.size := by simp
  generalize ((w.alloc (Obj.cells #[a0, .slice A1 la.length ca, a2, a3, a4, a5, a6, a7, a8, a9, a10, a11, a12] 27)).alloc (Obj.cells #[b0, .slice B1 lb.length cb, b2, b3, b4, b5, b6, b7, b8, b9, b10, b11, b12] 27)) = W at *
  refine (ids_calls A1 B1 ca cb la lb W (Kd.C_below HRA.out hBW) hca (Kd.C_below HRB.out hBW) hcb ha hb).mono ?_
  rintro e w1 ⟨v, rfl, hR, hB⟩
  obtain ⟨A6, c6, rfl, hc6, hC6⟩ := Kd.R_reads hR
  have hlen := idsL_len (la ++ lb)
  rw [List.length_append] at hlen
  have hD0 : refDiffL la lb = outD la lb (idsL (la ++ lb)) := rfl
  have HD := Lib.hid hD0
  clear hD0
  generalize idsL (la ++ lb) = ids at *
  have hl6 : (ids.length : Int) ≤ 200000 := by omega
  have hBw : Below w.heap.size w w1 := below_then hBW hBW.size hB
  have hC6 := Aside0.mk hC6
  have HA1 := Aside0.mk (Kd.C_below HRA.out hBw)
  have HB1 := Aside0.mk (Kd.C_below HRB.out hBw)
  have hS : ∀ U : World, Below w1.heap.size w1 U → U.cell? ⟨w.heap.size, 1, none⟩ = some (.slice A1 la.length ca) ∧ U.cell? ⟨w.heap.size + 1, 1, none⟩ = some (.slice B1 lb.length cb) := fun U h =>
    ⟨(h.cell (p := ⟨w.heap.size, 1, none⟩) (show w.heap.size < w1.heap.size from by have := hB.size; omega)).trans ((hB.cell (p := ⟨w.heap.size, 1, none⟩) (show w.heap.size < W.heap.size from by omega)).trans fA),
     (h.cell (p := ⟨w.heap.size + 1, 1, none⟩) (show w.heap.size + 1 < w1.heap.size from by have := hB.size; omega)).trans ((hB.cell (p := ⟨w.heap.size + 1, 1, none⟩) (show w.heap.size + 1 < W.heap.size from by omega)).trans fB)⟩
  have HS := Lib.hid hS
  have HBw := Lib.hid hBw
  clear hR hB hBW fA fB hsz hBw HRA HRB hS
  go_wp2_with fail
  go_loopw [5, 7] (fun v5 v7 wr => ∃ i : Nat, i ≤ ids.length ∧ v7 = .int .i64 i ∧ Kd.R k56 57 wr w1.heap.size (fun _ => True) v5 (outD la lb (ids.take i)) ∧ Below w1.heap.size w1 wr) (fun _ v7 _ => ids.length - (intOf v7).toNat)
  case atStart => exact ⟨0, by omega, rfl, Kd.R_nil _ _ _ _ _, Below.refl _ _⟩
  case round =>
    obtain ⟨i, hi, rfl, hR5, hB5⟩ := hrel
    obtain ⟨Ao, co, hv5, hlo, hCo⟩ := Kd.R_reads hR5
    subst hv5
    by_cases hlt : i < ids.length
    · have hlt' : (i : Int) < ids.length := by omega
      obtain ⟨ad, rfl, hid⟩ := at_I hC6.out i hlt
      have HSN := Lib.hid (outD_snoc la lb ids i hlt)
      have hol : (outD la lb (ids.take i)).length ≤ 3 * i := Nat.le_trans (outD_len _ _ _) (by have := List.length_take_le i ids; omega)
      generalize ids.getD i 0 = id at hid HSN
      generalize outD la lb (ids.take i) = out at hR5 hlo hCo HSN hol
      clear hlt hlo hCo
      go_wp2_with fail
      obtain ⟨wo, rfl⟩ : ∃ wo : World, wo = wr := ⟨_, rfl⟩
      go_loopw [5, 8] (fun v5 v8 wr => ∃ n : Nat, n ≤ 3 ∧ v8 = .int .i64 ((n + 1 : Nat) : Int) ∧ Kd.R k56 57 wr w1.heap.size (fun _ => True) v5 (out ++ rowD la lb id n) ∧ Below w1.heap.size w1 wr) (fun _ v8 _ => 4 - (intOf v8).toNat)
      case atStart => exact ⟨0, by omega, rfl, by simpa [rowD] using hR5, hB5⟩
      case round =>
        obtain ⟨n, hn, rfl, hRn, hBn⟩ := hrel
        obtain ⟨Ai, ci, hvi, hli, hCi⟩ := Kd.R_reads hRn
        subst hvi
        by_cases hn3 : n < 3
        · have hn' : ((n + 1 : Nat) : Int) ≤ 3 := by omega
          have hn1 : (1 : Int) ≤ ((n + 1 : Nat) : Int) := by omega
          have hrl := rowD_len la lb id n
          have HRS := Lib.hid (rowD_succ la lb id n)
          have hBr := Below.refl wr.heap.size wr
          have hS : ∀ U : World, Below wr.heap.size wr U → Below wr.heap.size wr U ∧ U.cell? ⟨w.heap.size, 1, none⟩ = some (.slice A1 la.length ca) ∧ U.cell? ⟨w.heap.size + 1, 1, none⟩ = some (.slice B1 lb.length cb) ∧ U.cell? (ad.add i) = some (.int .i64 id) := fun U h =>
            have hU := below_step hBn h
            ⟨h, (HS.out U hU).1, (HS.out U hU).2, (hU.cell (World.block_lt_of_cell? w1 _ hid)).trans hid⟩
          have cA := fun U h => Kd.C_below HA1.out (below_step hBn (w2 := U) h)
          have cB := fun U h => Kd.C_below HB1.out (below_step hBn (w2 := U) h)
          have hDE0 : dE la lb id ((n + 1 : Nat) : Int) = if ofR lb id ((n + 1 : Nat) : Int) ≠ ofR la id ((n + 1 : Nat) : Int) ∧ fitsR (ofR lb id ((n + 1 : Nat) : Int)) (ofR la id ((n + 1 : Nat) : Int)) = true then [⟨id, ((n + 1 : Nat) : Int), wrap64 (ofR lb id ((n + 1 : Nat) : Int) - ofR la id ((n + 1 : Nat) : Int))⟩] else [] := rfl
          have HDE := Lib.hid hDE0
          clear hDE0
          have oA := fun U h => of26 A1 ca la id ((n + 1 : Nat) : Int) U (cA U h) hca hn1 hn' (by omega)
          have oB := fun U h => of26 B1 cb lb id ((n + 1 : Nat) : Int) U (cB U h) hcb hn1 hn' (by omega)
          generalize ofR la id ((n + 1 : Nat) : Int) = y at HDE oA
          generalize ofR lb id ((n + 1 : Nat) : Int) = x at HDE oB
          generalize hnb : ((n + 1 : Nat) : Int) = bb at *
          have HNB := Lib.hid hnb
          clear cA cB hnb
          go_wp2_with fail
          go_region_held3 (fun U : World => Below wr.heap.size wr U ∧ U.cell? ⟨w.heap.size, 1, none⟩ = some (.slice A1 la.length ca) ∧ U.cell? ⟨w.heap.size + 1, 1, none⟩ = some (.slice B1 lb.length cb) ∧ U.cell? (ad.add i) = some (.int .i64 id))
            ((refine hS _ ?_; with_reducible (repeat (first | assumption | exact (by assumption : Below wr.heap.size wr _ ∧ _).1 | apply below_alloc | apply pw_below_drewN | apply below_drew1))))
            (first | (go_at_call 26; with_reducible refine (oA _ (by with_reducible (repeat (first | assumption | exact (by assumption : Below wr.heap.size wr _ ∧ _).1 | apply below_alloc | apply pw_below_drewN | apply below_drew1)))).mono ?_; rintro e u1 ⟨rfl, hBa⟩; have hB1 := below_step (by with_reducible (repeat (first | assumption | exact (by assumption : Below wr.heap.size wr _ ∧ _).1 | apply below_alloc | apply pw_below_drewN | apply below_drew1))) hBa) | (go_at_call 26; with_reducible refine (oB _ (by with_reducible (repeat (first | assumption | exact (by assumption : Below wr.heap.size wr _ ∧ _).1 | apply below_alloc | apply pw_below_drewN | apply below_drew1)))).mono ?_; rintro e u2 ⟨rfl, hBb⟩; have hB2 := below_step (by with_reducible (repeat (first | assumption | exact (by assumption : Below wr.heap.size wr _ ∧ _).1 | apply below_alloc | apply pw_below_drewN | apply below_drew1))) hBb))
          have hidU := (hS u1 hB1).2.2.2
          have hRU := Kd.R_below hRn hB1
          rw [List.length_append] at hRU
          have hBU := below_step hBn hB1
          have hlU : (out ++ rowD la lb id n).length ≤ 600003 := by rw [List.length_append]; omega
          clear hS oA oB hB1 hB2 hBa hBb hBr hCi hRn
          by_cases hxy : x = y
          · have hd : dE la lb id bb = [] := by rw [HDE.out, if_neg (fun h => h.1 hxy)]
            have HDD := Lib.hid hd
            clear hd
            subst hxy
            go_wp2_with fail
            go_roundw
            case rel =>
              refine ⟨n + 1, by omega, by rw [← HNB.out]; go_num, ?_, hBU⟩
              rw [HRS.out, HDD.out, List.append_nil]
              exact hRU
            case measure => rw [← HNB.out]; simp [intOf]; omega
          · go_wp2_with fail
            refine (fits27 x y _).mono ?_
            rintro e u3 ⟨rfl, ⟨m, rfl⟩⟩
            cases hf : fitsR x y with
            | false =>
              have hd : dE la lb id bb = [] := by rw [HDE.out, if_neg (fun h => by rw [hf] at h; exact absurd h.2 (by decide))]
              have HDD := Lib.hid hd
              clear hd
              go_wp2_with fail
              go_roundw
              case rel =>
                refine ⟨n + 1, by omega, by rw [← HNB.out]; go_num, ?_, pw_below_drewN hBU m⟩
                rw [HRS.out, HDD.out, List.append_nil]
                exact Kd.R_drewN hRU m
              case measure => rw [← HNB.out]; simp [intOf]; omega
            | true =>
              have hd : dE la lb id bb = [⟨id, bb, wrap64 (x - y)⟩] := by rw [HDE.out, if_pos ⟨hxy, hf⟩]
              have HDD := Lib.hid hd
              have hidM : (u1.drewN m).cell? (ad.add i) = some (.int .i64 id) := hidU
              have HRM := Aside0.mk (Kd.R_drewN hRU m)
              have HBM := Aside0.mk (pw_below_drewN hBU m)
              clear hd hRU hBU hidU
              generalize u1.drewN m = U at *
              go_wp2_with (first | (at_builtin; refine Kd.R_append k56 (w0 := w1) w1.heap.size rfl (.tmp 50) (.tmp 60) 32 57 (.agg #[(.int .i64 0), (.int .i64 0), (.int .i64 0)]) 24 rfl Try.underlying32 info57 rfl (by decide) (by decide) _ (out ++ rowD la lb id n) ⟨id, bb, wrap64 (x - y)⟩ _ (fun _ => True) (fun _ => False) rfl rfl (k56_mkM _ _ _ _) (fun _ h => h.elim) (fun _ _ => trivial) HRM.out HBM.out HBM.out.size (by omega) ?_; intro v1 u4 hR4 hB4 _ _))
              go_roundw
              case rel =>
                refine ⟨n + 1, by omega, by rw [← HNB.out]; go_num, ?_, hB4⟩
                rw [HRS.out, HDD.out, ← List.append_assoc]
                exact hR4
              case measure => rw [← HNB.out]; simp [intOf]; omega
        · obtain rfl : n = 3 := by omega
          have HBn := Lib.hid hBn
          have HRn := Lib.hid hRn
          clear hBn hRn hCi hli hB5 hR5
          go_wp2_with fail
          go_roundw
          case rel =>
            refine ⟨i + 1, by omega, by go_num, ?_, HBn.out⟩
            rw [HSN.out]
            exact HRn.out
          case measure => simp [intOf]; omega
    · obtain rfl : i = ids.length := by omega
      have HR5 := Lib.hid hR5
      have HB5 := Lib.hid hB5
      clear hR5 hB5 hCo
      go_wp2_with fail
      go_ret
      refine ⟨_, rfl, ?_, below_step HBw.out HB5.out⟩
      have e : outD la lb (ids.take ids.length) = outD la lb ids := by rw [List.take_length]
      rw [HD.out, ← e]
      exact Kd.R_lower HR5.out HBw.out.size
end Go.Proofs.Ytbgcmhakllodeaa
