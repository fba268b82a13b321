/- EntryAdds, walked. -/
import Derived.Test.YtbgcmhakllodeaaY1
import Derived.Test.YtbgcmhakllodeaaJ
namespace Go.Proofs.Ytbgcmhakllodeaa
open Go.RowKit Go.Proofs.YtbgcmhakllodeaaW.PrintWords Go.Proofs.YtbgcmhakllodeaaW.PrintLast Go.Proofs.YtbgcmhakllodeaaW.PrintMore
open PEntryDiffers
/-- The sum's list, and its error. -/
def resL (l : List S56) : List S56 := (refAddL l).getD []
def resE (l : List S56) : Int := if (refAddL l).isNone then 14 else 0
theorem add_res (A1 B1 : Option Addr) (ca cb : Nat) (la lb : List S56) (w : World) (hra : Kd.C k56 w A1 la.length la) (hca : la.length ≤ ca) (hrb : Kd.C k56 w B1 lb.length lb) (hcb : lb.length ≤ cb)
    (ha : la.length ≤ 300000) (hb : lb.length ≤ 300000) (hi : ∀ x ∈ la ++ lb, In64 x.f2) :
    Calls Try.prog 15 #[.slice A1 la.length ca, .slice B1 lb.length cb] w fun e w' => ∃ A c, e = .returned (.tuple #[.slice A (resL (la ++ lb)).length c, .int .i64 (resE (la ++ lb))]) ∧ (resL (la ++ lb)).length ≤ c ∧ Kd.C k56 w' A (resL (la ++ lb)).length (resL (la ++ lb)) ∧ Below w.heap.size w w' :=
  (add_ref A1 B1 ca cb la lb w hra hca hrb hcb ha hb hi).mono fun e w' ⟨hB, h⟩ => by
    unfold resL resE
    rcases h with ⟨h0, he⟩ | ⟨l, v, hl, he, hR⟩
    · rw [h0]
      exact ⟨none, 0, he, Nat.le_refl _, C_nil _ _, hB⟩
    · rw [hl]
      obtain ⟨A, c, rfl, h1, h2⟩ := Kd.R_reads hR
      exact ⟨A, c, he, h1, h2, hB⟩
theorem refAdd_res (A1 B1 : Option Addr) (n m ca cb : Nat) (la lb : List S56) (w : World) (hra : Kd.C k56 w A1 n la) (hca : n ≤ ca) (hrb : Kd.C k56 w B1 m lb) (hcb : m ≤ cb)
    (ha : n ≤ 100000) (hb : m ≤ 100000) :
    Calls Try.prog 16 #[.slice A1 n ca, .slice B1 m cb] w fun e w' => ∃ A c, e = .returned (.tuple #[.slice A (resL (la ++ lb)).length c, .int .i64 (resE (la ++ lb))]) ∧ (resL (la ++ lb)).length ≤ c ∧ Kd.C k57 w' A (resL (la ++ lb)).length ((resL (la ++ lb)).map cv) ∧ Below w.heap.size w w' := by
  obtain rfl := hra.1
  obtain rfl := hrb.1
  refine (refAdd_calls A1 B1 ca cb la lb w hra hca hrb hcb ha hb).mono fun e w' h => ?_
  unfold resL resE
  unfold RefPost at h
  cases hq : refAddL (la ++ lb) with
  | none =>
    rw [hq] at h
    exact ⟨none, 0, h.1, Nat.le_refl _, C_nil _ _, h.2⟩
  | some l =>
    rw [hq] at h
    obtain ⟨v, he, hR, hB⟩ := h
    obtain ⟨A, c, rfl, h1, h2⟩ := Kd.R_reads hR
    exact ⟨A, c, he, h1, C57 h2, hB⟩
theorem C56 {w : World} {A : Option Addr} {n : Nat} {l : List S56} (h : Kd.C k57 w A n (l.map cv)) : Kd.C k56 w A n l := by
  obtain ⟨h1, h2, h3⟩ := h
  refine ⟨by rw [List.length_map] at h1; exact h1, h2, fun hn => ?_⟩
  obtain ⟨ad, e, hc⟩ := h3 hn
  refine ⟨ad, e, fun j p hj => ?_⟩
  obtain ⟨c, hs, hk, hcell⟩ := hc j (cv p) (by rw [List.getElem?_map, hj]; rfl)
  obtain rfl := k57_open hk
  exact ⟨_, rfl, k56_mk w p, hcell⟩
theorem resL_len (l : List S56) : (resL l).length ≤ l.length := by
  unfold resL refAddL
  cases hq : addR l [] with
  | none => simp
  | some o =>
    have h1 := addR_len _ _ _ hq
    have h2 := nz_len o
    simp only [List.length_nil, Nat.zero_add] at h1
    simp only [Option.map_some, Option.getD_some]
    omega
theorem refOf_n (A : Option Addr) (n c : Nat) (l : List S57) (a b : Int) (w : World) (hr : Kd.C k57 w A n l) (hc : n ≤ c) :
    Calls Try.prog 18 #[.slice A n c, .int .i64 a, .int .i64 b] w fun e w' => e = .returned (.int .i64 (ofL57 a b l)) ∧ w = w' := by
  obtain rfl := hr.1
  exact refOf_calls A c l a b w hr hc
set_option maxHeartbeats 4000000 in
set_option maxRecDepth 100000 in
theorem adds_calls (A B : Option Addr) (ca cb : Nat) (l m : List S56) (x y : Int) (w : World) (hra : Kd.C k56 w A l.length l) (hca : l.length ≤ ca) (hrb : Kd.C k56 w B m.length m) (hcb : m.length ≤ cb) (hil : ∀ z ∈ l, In64 z.f2) (him : ∀ z ∈ m, In64 z.f2) :
    Calls Try.prog 4 #[.slice A l.length ca, .slice B m.length cb, .agg #[.int .i64 x, .int .i64 y]] w fun e w' => e = .returned (.bool true) ∧ Below w.heap.size w w' := by
  have hl1 := hra.2.1
  have hl2 := hrb.2.1
  have hB0 : Below w.heap.size w (w.alloc (Obj.cells #[.int .i64 x, .int .i64 y] 40)) := (Below.refl _ w).alloc (Nat.le_refl _) _
  have bW : (w.alloc (Obj.cells #[.int .i64 x, .int .i64 y] 40)).heap[w.heap.size]? = some (Obj.cells #[.int .i64 x, .int .i64 y] 40) := Go.heap_alloc_new w _
  have HRA := Aside0.mk (Kd.C_below hra hB0)
  have HRB := Aside0.mk (Kd.C_below hrb hB0)
  have IL := Lib.hid hil
  have IM := Lib.hid him
  clear hra hrb hil him
  have HB0 := Lib.hid hB0
  have BW := Lib.hid bW
  clear hB0 bW
  have hsz : w.heap.size < (w.alloc (Obj.cells #[.int .i64 x, .int .i64 y] 40)).heap.size := by simp
  have HSZ := Lib.hid hsz
  clear hsz
  by_cases h1 : 200 < l.length
  · have h1' : (200 : Int) < l.length := by omega
    clear h1
    go_enter Try.func4, Try.ntmps4
    go_wp2_with fail
    generalize w.alloc (Obj.cells #[.int .i64 x, .int .i64 y] 40) = W at *
    refine (wakes_calls W).mono ?_
    rintro e z ⟨rfl, hZ⟩
    have HF := Lib.hid (below_step HB0.out hZ)
    clear hZ
    go_wp2_with fail
    go_ret
    exact ⟨rfl, HF.out⟩
  · have h1' : (l.length : Int) ≤ 200 := by omega
    by_cases h2 : 200 < m.length
    · have h2' : (200 : Int) < m.length := by omega
      clear h1 h2
      go_enter Try.func4, Try.ntmps4
      go_wp2_with fail
      generalize w.alloc (Obj.cells #[.int .i64 x, .int .i64 y] 40) = W at *
      refine (wakes_calls W).mono ?_
      rintro e z ⟨rfl, hZ⟩
      have HF := Lib.hid (below_step HB0.out hZ)
      clear hZ
      go_wp2_with fail
      go_ret
      exact ⟨rfl, HF.out⟩
    · have h2' : (m.length : Int) ≤ 200 := by omega
      have L1 := Lib.hid (show l.length ≤ 200 by omega)
      have L2 := Lib.hid (show m.length ≤ 200 by omega)
      clear h1 h2
      go_enter Try.func4, Try.ntmps4
      go_upto_region 3 with fail
      generalize w.alloc (Obj.cells #[.int .i64 x, .int .i64 y] 40) = W at *
      have hE0 := (Below.refl W.heap.size W).alloc (Nat.le_refl _) (.cells #[] 56)
      have hR0 : Kd.R k56 56 (W.alloc (.cells #[] 56)) W.heap.size (fun _ => True) (.slice (some ⟨W.heap.size, 0, none⟩) 0 0) [] := R_empty k56 56 _ _ _ _ (fun _ => trivial) (Go.heap_alloc_new W _) (Nat.le_refl _)
      have HRA0 := Aside0.mk (Kd.C_below HRA.out hE0)
      have HR0 := Aside0.mk hR0
      have HE0 := Aside0.mk hE0
      clear hR0 hE0
      clear h1' h2'
      go_upto_region 4 with (first | (at_builtin; refine Kd.R_append_rows k56 (Rr := k56.K _) (w0 := W) W.heap.size rfl (.tmp 21) (.tmp 22) 28 56 _ 24 rfl Try.underlying28 info56 rfl (by decide) (by decide) _ [] l A l.length ca (fun _ => True) (fun _ => False) rfl rfl HR0.out HRA0.out (fun _ _ h => K_M56 h) (fun _ h => h.elim) (fun _ _ => trivial) HE0.out (by simp) (by have := L1.out; simp; omega) ?_; intro v1 w1 hR1 hB1 _ _))
      rw [List.nil_append] at hR1
      obtain ⟨A1, c1, rfl, hk1, hC1⟩ := Kd.R_reads hR1
      have hE1 := (Below.refl w1.heap.size w1).alloc (Nat.le_refl _) (.cells #[] 56)
      have hR01 : Kd.R k56 56 (w1.alloc (.cells #[] 56)) w1.heap.size (fun _ => True) (.slice (some ⟨w1.heap.size, 0, none⟩) 0 0) [] := R_empty k56 56 _ _ _ _ (fun _ => trivial) (Go.heap_alloc_new w1 _) (Nat.le_refl _)
      have HRB1 := Aside0.mk (Kd.C_below (Kd.C_below HRB.out hB1) hE1)
      have HR01 := Aside0.mk hR01
      have HE1 := Aside0.mk hE1
      have HC1 := Aside0.mk hC1
      have HD1 := Lib.hid hB1
      have HRA1 := Aside0.mk (Kd.C_below HRA.out hB1)
      clear hR01 hE1 hC1 hB1 hR1 HRA0 HR0 HE0
      go_wp2_with (first | (at_builtin; refine Kd.R_append_rows k56 (Rr := k56.K _) (w0 := w1) w1.heap.size rfl (.tmp 26) (.tmp 27) 28 56 _ 24 rfl Try.underlying28 info56 rfl (by decide) (by decide) _ [] m B m.length cb (fun _ => True) (fun _ => False) rfl rfl HR01.out HRB1.out (fun _ _ h => K_M56 h) (fun _ h => h.elim) (fun _ _ => trivial) HE1.out (by simp) (by have := L2.out; simp; omega) ?_; intro v2 w2 hR2 hB2 _ _))
      rw [List.nil_append] at hR2
      obtain ⟨A2, c2, rfl, hk2, hC2⟩ := Kd.R_reads hR2
      have HD2 := Lib.hid (below_step HD1.out hB2)
      have hC1' := Kd.C_below HC1.out hB2
      have HI := Lib.hid (show ∀ z ∈ l ++ m, In64 z.f2 from fun z hz => by rw [List.mem_append] at hz; rcases hz with hz | hz; exact IL.out z hz; exact IM.out z hz)
      refine (add_res A1 A2 c1 c2 l m w2 hC1' hk1 hC2 hk2 (by have := L1.out; omega) (by have := L2.out; omega) HI.out).mono ?_
      rintro e w3 ⟨A3, c3, rfl, hk3, hC3, hB3⟩
      have HD3 := Lib.hid (below_step HD2.out hB3)
      have HC13 := Aside0.mk (Kd.C_below hC1' hB3)
      have HC3 := Aside0.mk hC3
      clear hR2 hC2 hB2 hC1' hC3 hB3 HC1 HR01 HE1 HRB1
      obtain ⟨r, hr⟩ : ∃ r, r = resL (l ++ m) := ⟨_, rfl⟩
      have HLR := Lib.hid (show r.length ≤ 400 from by rw [hr]; have := resL_len (l ++ m); rw [List.length_append] at this; have := L1.out; have := L2.out; omega)
      rw [← hr] at HC3 hk3 ⊢
      have HRR := Lib.hid hr
      clear hr
      go_wp2_with fail
      refine (own_calls A ca l w3 (Kd.C_below HRA.out HD3.out) hca (by have := L1.out; omega)).mono ?_
      rintro e w4 ⟨v4, rfl, hR4, hB4⟩
      obtain ⟨A4, c4, rfl, hk4, hC4⟩ := Kd.R_reads hR4
      rw [List.length_map] at hk4 hC4
      have HD4 := Lib.hid (below_step HD3.out hB4)
      have HC4 := Aside0.mk hC4
      have HC34 := Aside0.mk (Kd.C_below HC3.out hB4)
      have HC14 := Aside0.mk (Kd.C_below HC13.out hB4)
      clear hR4 hC4 hB4 HC3 HC13
      go_wp2_with fail
      refine (own_calls B cb m w4 (Kd.C_below HRB.out HD4.out) hcb (by have := L2.out; omega)).mono ?_
      rintro e w5 ⟨v5, rfl, hR5, hB5⟩
      obtain ⟨A5, c5, rfl, hk5, hC5⟩ := Kd.R_reads hR5
      rw [List.length_map] at hk5 hC5
      have HD5 := Lib.hid (below_step HD4.out hB5)
      have HC5 := Aside0.mk hC5
      have HC45 := Aside0.mk (Kd.C_below HC4.out hB5)
      have HC35 := Aside0.mk (Kd.C_below HC34.out hB5)
      have HC15 := Aside0.mk (Kd.C_below HC14.out hB5)
      clear hR5 hC5 hB5 HC4 HC34 HC14
      go_wp2_with fail
      refine (refAdd_res A4 A5 l.length m.length c4 c5 l m w5 (C56 HC45.out) hk4 (C56 HC5.out) hk5 (by have := L1.out; omega) (by have := L2.out; omega)).mono ?_
      rintro e w6 ⟨A6, c6, rfl, hk6, hC6, hB6⟩
      rw [← HRR.out] at hk6 hC6 ⊢
      have HD6 := Lib.hid (below_step HD5.out hB6)
      have HC6 := Aside0.mk hC6
      have HC36 := Aside0.mk (Kd.C_below HC35.out hB6)
      have HC16 := Aside0.mk (Kd.C_below HC15.out hB6)
      have HRA6 := Aside0.mk (Kd.C_below HRA.out HD6.out)
      have hcell := fun U (h : Below w6.heap.size w6 U) (i : Nat) => (h.cell (p := ⟨w.heap.size, i, none⟩) (show w.heap.size < w6.heap.size from Nat.lt_of_lt_of_le HSZ.out HD6.out.size)).trans (blk_cell ((HD6.out.block _ HSZ.out).trans BW.out) i)
      have hS : ∀ U : World, Below w6.heap.size w6 U → (Below w6.heap.size w6 U ∧ (∀ i, U.cell? ⟨w.heap.size, i, none⟩ = (#[.int .i64 x, .int .i64 y] : Array Value)[i]?)) := fun U h => ⟨h, hcell U h⟩
      have hD0 := Below.refl w6.heap.size w6
      have hoo := ofL57_map x y l
      have HOO := Lib.hid hoo
      clear hC6 hB6 HC45 HC5 HC35 HC15 hcell hoo HRR
      generalize resE (l ++ m) = err
      go_wp2_with fail
      go_region_held3 (fun U : World => Below w6.heap.size w6 U ∧ (∀ i, U.cell? ⟨w.heap.size, i, none⟩ = (#[.int .i64 x, .int .i64 y] : Array Value)[i]?)) ((refine hS _ ?_; with_reducible (repeat (first | assumption | exact (by assumption : Below u0.heap.size u0 _ ∧ _).1 | apply below_alloc | apply pw_below_drewN | apply below_drew1))))
        (first
          | (go_at_call 9; with_reducible refine (own_calls A3 c3 r _ (Kd.C_below HC36.out (by with_reducible (repeat (first | assumption | exact (by assumption : Below u0.heap.size u0 _ ∧ _).1 | apply below_alloc | apply pw_below_drewN | apply below_drew1)))) hk3 (Nat.le_trans HLR.out (by decide))).mono ?_; rintro e y1 ⟨v7, rfl, hR7, hB7⟩; obtain ⟨A7, c7, rfl, hk7, hC7⟩ := Kd.R_reads hR7; rw [List.length_map] at hk7 hC7; have hD1 := below_step (by with_reducible (repeat (first | assumption | exact (by assumption : Below u0.heap.size u0 _ ∧ _).1 | apply below_alloc | apply pw_below_drewN | apply below_drew1))) hB7)
          | (go_at_call 8; with_reducible refine (alike_n A7 A6 _ _ c7 c6 (r.map cv) (r.map cv) _ (Kd.C_below hC7 (by with_reducible (repeat (first | assumption | exact Below.refl _ _ | apply below_alloc | apply pw_below_drewN | apply below_drew1)))) hk7 (Kd.C_below HC6.out (by with_reducible (repeat (first | assumption | exact (by assumption : Below u0.heap.size u0 _ ∧ _).1 | apply below_alloc | apply pw_below_drewN | apply below_drew1)))) hk6 (Nat.le_trans HLR.out (by decide))).mono ?_; rintro e y2 ⟨rfl, n2, rfl⟩; rw [decide_eq_true rfl])
          | (go_at_call 17; with_reducible refine (of_calls A1 c1 l x y _ (Kd.C_below HC16.out (by with_reducible (repeat (first | assumption | exact (by assumption : Below u0.heap.size u0 _ ∧ _).1 | apply below_alloc | apply pw_below_drewN | apply below_drew1)))) hk1).mono ?_; rintro e y3 ⟨rfl, hB3⟩; have hD3 := below_step (by with_reducible (repeat (first | assumption | exact (by assumption : Below u0.heap.size u0 _ ∧ _).1 | apply below_alloc | apply pw_below_drewN | apply below_drew1))) hB3)
          | (go_at_call 9; with_reducible refine (own_calls A ca l _ (Kd.C_below HRA6.out (by with_reducible (repeat (first | assumption | exact (by assumption : Below u0.heap.size u0 _ ∧ _).1 | apply below_alloc | apply pw_below_drewN | apply below_drew1)))) hca (by have := L1.out; omega)).mono ?_; rintro e y4 ⟨v8, rfl, hR8, hB8⟩; obtain ⟨A8, c8, rfl, hk8, hC8⟩ := Kd.R_reads hR8; rw [List.length_map] at hk8 hC8; have hD4 := below_step (by with_reducible (repeat (first | assumption | exact (by assumption : Below u0.heap.size u0 _ ∧ _).1 | apply below_alloc | apply pw_below_drewN | apply below_drew1))) hB8)
          | (go_at_call 18; with_reducible refine (refOf_n A8 _ c8 (l.map cv) x y _ (Kd.C_below hC8 (by with_reducible (repeat (first | assumption | exact Below.refl _ _ | apply below_alloc | apply pw_below_drewN | apply below_drew1)))) hk8).mono ?_; rintro e y5 ⟨rfl, rfl⟩; rw [HOO.out])
          | (go_at_call 9; with_reducible refine (own_calls A1 c1 l _ (Kd.C_below HC16.out (by with_reducible (repeat (first | assumption | exact (by assumption : Below u0.heap.size u0 _ ∧ _).1 | apply below_alloc | apply pw_below_drewN | apply below_drew1)))) hk1 (by have := L1.out; omega)).mono ?_; rintro e y6 ⟨v9, rfl, hR9, hB9⟩; obtain ⟨A9, c9, rfl, hk9, hC9⟩ := Kd.R_reads hR9; rw [List.length_map] at hk9 hC9; have hD6 := below_step (by with_reducible (repeat (first | assumption | exact (by assumption : Below u0.heap.size u0 _ ∧ _).1 | apply below_alloc | apply pw_below_drewN | apply below_drew1))) hB9)
          | (go_at_call 8; with_reducible refine (alike_n A9 A8 _ _ c9 c8 (l.map cv) (l.map cv) _ (Kd.C_below (Kd.C_below (Kd.C_below hC9 (by with_reducible (repeat (first | assumption | exact Below.refl _ _ | apply below_alloc | apply pw_below_drewN | apply below_drew1)))) hB8) (by with_reducible (repeat (first | assumption | exact Below.refl _ _ | apply below_alloc | apply pw_below_drewN | apply below_drew1)))) hk9 (Kd.C_below hC8 (by with_reducible (repeat (first | assumption | exact Below.refl _ _ | apply below_alloc | apply pw_below_drewN | apply below_drew1)))) hk8 (by have := L1.out; omega)).mono ?_; rintro e y7 ⟨rfl, n7, rfl⟩; rw [decide_eq_true rfl])
          | (go_at_call 7; with_reducible refine (wakes_calls _).mono ?_; rintro e y10 ⟨rfl, hB10⟩; have hD10 := below_step (by with_reducible (repeat (first | assumption | exact (by assumption : Below u0.heap.size u0 _ ∧ _).1 | apply below_alloc | apply pw_below_drewN | apply below_drew1))) hB10))
      have HF := Lib.hid (below_step HB0.out (below_step HD6.out hD10))
      clear hD1 hD3 hD4 hD6 hD10
      go_wp2_with fail
      go_ret
      exact ⟨rfl, HF.out⟩
end Go.Proofs.Ytbgcmhakllodeaa
