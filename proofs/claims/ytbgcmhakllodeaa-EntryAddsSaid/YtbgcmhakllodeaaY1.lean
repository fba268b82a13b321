/- EntryDiffers, walked. -/
import Derived.Test.YtbgcmhakllodeaaX
namespace Go.Proofs.Ytbgcmhakllodeaa
open Go.RowKit Go.Proofs.YtbgcmhakllodeaaW.PrintWords Go.Proofs.YtbgcmhakllodeaaW.PrintLast Go.Proofs.YtbgcmhakllodeaaW.PrintMore
open PEntryDiffers
theorem refSame_n (b0 b2 b3 b4 b5 b6 b7 b8 b9 b10 b11 b12 : Value) (A B : Option Addr) (n c d : Nat) (l : List S57) (lb : List S54) (w : World) (hr : Kd.C k57 w A n l) (hc : n ≤ c) (hrb : Kd.C k54 w B lb.length lb) (hcb : lb.length ≤ d) (hl : n ≤ 1000000) (hb : lb.length ≤ 100) :
    Calls Try.prog 14 #[.slice A n c, .agg #[b0, .slice B lb.length d, b2, b3, b4, b5, b6, b7, b8, b9, b10, b11, b12]] w fun e w' => e = .returned (.bool (decide (l = (refDiffL [] lb).map cv))) ∧ Below w.heap.size w w' := by
  obtain rfl := hr.1
  exact refSame_calls b0 b2 b3 b4 b5 b6 b7 b8 b9 b10 b11 b12 A B c d l lb w hr hc hrb hcb hl hb
theorem alike_n (A B : Option Addr) (n n' c d : Nat) (l m : List S57) (w : World) (hr : Kd.C k57 w A n l) (hc : n ≤ c) (hr' : Kd.C k57 w B n' m) (hc' : n' ≤ d) (hl : n ≤ 1000000) :
    Calls Try.prog 8 #[.slice A n c, .slice B n' d] w fun e w' => e = .returned (.bool (decide (l = m))) ∧ Drawn0 w w' := by
  obtain rfl := hr.1
  obtain rfl := hr'.1
  exact alike_calls A B c d l m w hr hc hr' hc' hl
theorem large_no {n : Nat} {bs : List S52} (h : largeB n bs = false) : n ≤ 100 ∧ bs.length ≤ 400 ∧ ∀ b ∈ bs, b.f5.length ≤ 100 := by
  unfold largeB big52 at h
  rw [Bool.or_eq_false_iff, Bool.or_eq_false_iff, decide_eq_false_iff_not, decide_eq_false_iff_not, List.any_eq_false] at h
  exact ⟨by omega, by omega, fun b hb => by have := h.2.2 b hb; rw [decide_eq_true_iff] at this; omega⟩
set_option maxHeartbeats 4000000 in
set_option maxRecDepth 100000 in
theorem differs_calls (a0 a2 a3 a4 a5 a7 a8 a9 a10 a11 a12 b0 b2 b3 b4 b5 b7 b8 b9 b10 b11 b12 : Int) (A A6 B B6 C : Option Addr) (ca cA cb cB cc : Nat) (la lb : List S54) (ba bb : List S52) (l : List S56) (w : World)
    (hra : Kd.C k54 w A la.length la) (hca : la.length ≤ ca) (hsa : Kd.C k52 w A6 ba.length ba) (hda : ba.length ≤ cA) (rga : Rng la)
    (hrb : Kd.C k54 w B lb.length lb) (hcb : lb.length ≤ cb) (hsb : Kd.C k52 w B6 bb.length bb) (hdb : bb.length ≤ cB) (rgb : Rng lb)
    (hrl : Kd.C k56 w C l.length l) (hcl : l.length ≤ cc) :
    Calls Try.prog 3 #[.agg #[.int .i64 a0, .slice A la.length ca, .int .i64 a2, .int .i64 a3, .int .i64 a4, .int .i64 a5, .slice A6 ba.length cA, .int .i64 a7, .int .i64 a8, .int .i64 a9, .int .i64 a10, .int .i64 a11, .int .i64 a12], .agg #[.int .i64 b0, .slice B lb.length cb, .int .i64 b2, .int .i64 b3, .int .i64 b4, .int .i64 b5, .slice B6 bb.length cB, .int .i64 b7, .int .i64 b8, .int .i64 b9, .int .i64 b10, .int .i64 b11, .int .i64 b12], .slice C l.length cc] w fun e w' => e = .returned (.bool true) ∧ Below w.heap.size w w' := by
  have hll := hrl.2.1
  have hB0 : Below w.heap.size w ((w.alloc (Obj.cells #[.int .i64 a0, .slice A la.length ca, .int .i64 a2, .int .i64 a3, .int .i64 a4, .int .i64 a5, .slice A6 ba.length cA, .int .i64 a7, .int .i64 a8, .int .i64 a9, .int .i64 a10, .int .i64 a11, .int .i64 a12] 27)).alloc (Obj.cells #[.int .i64 b0, .slice B lb.length cb, .int .i64 b2, .int .i64 b3, .int .i64 b4, .int .i64 b5, .slice B6 bb.length cB, .int .i64 b7, .int .i64 b8, .int .i64 b9, .int .i64 b10, .int .i64 b11, .int .i64 b12] 27)) := ((Below.refl _ w).alloc (Nat.le_refl _) _).alloc (by simp) _
  have bA : ((w.alloc (Obj.cells #[.int .i64 a0, .slice A la.length ca, .int .i64 a2, .int .i64 a3, .int .i64 a4, .int .i64 a5, .slice A6 ba.length cA, .int .i64 a7, .int .i64 a8, .int .i64 a9, .int .i64 a10, .int .i64 a11, .int .i64 a12] 27)).alloc (Obj.cells #[.int .i64 b0, .slice B lb.length cb, .int .i64 b2, .int .i64 b3, .int .i64 b4, .int .i64 b5, .slice B6 bb.length cB, .int .i64 b7, .int .i64 b8, .int .i64 b9, .int .i64 b10, .int .i64 b11, .int .i64 b12] 27)).heap[w.heap.size]? = some (Obj.cells #[.int .i64 a0, .slice A la.length ca, .int .i64 a2, .int .i64 a3, .int .i64 a4, .int .i64 a5, .slice A6 ba.length cA, .int .i64 a7, .int .i64 a8, .int .i64 a9, .int .i64 a10, .int .i64 a11, .int .i64 a12] 27) := blk_alloc (Go.heap_alloc_new w _) _
  have bB : ((w.alloc (Obj.cells #[.int .i64 a0, .slice A la.length ca, .int .i64 a2, .int .i64 a3, .int .i64 a4, .int .i64 a5, .slice A6 ba.length cA, .int .i64 a7, .int .i64 a8, .int .i64 a9, .int .i64 a10, .int .i64 a11, .int .i64 a12] 27)).alloc (Obj.cells #[.int .i64 b0, .slice B lb.length cb, .int .i64 b2, .int .i64 b3, .int .i64 b4, .int .i64 b5, .slice B6 bb.length cB, .int .i64 b7, .int .i64 b8, .int .i64 b9, .int .i64 b10, .int .i64 b11, .int .i64 b12] 27)).heap[w.heap.size + 1]? = some (Obj.cells #[.int .i64 b0, .slice B lb.length cb, .int .i64 b2, .int .i64 b3, .int .i64 b4, .int .i64 b5, .slice B6 bb.length cB, .int .i64 b7, .int .i64 b8, .int .i64 b9, .int .i64 b10, .int .i64 b11, .int .i64 b12] 27) := blk_next (by simp)
  have HRA := Aside0.mk (Kd.C_below hra hB0)
  have HSA := Aside0.mk (Kd.C_below hsa hB0)
  have HRB := Aside0.mk (Kd.C_below hrb hB0)
  have HSB := Aside0.mk (Kd.C_below hsb hB0)
  have HRL := Aside0.mk (Kd.C_below hrl hB0)
  have RA := Lib.hid rga
  have RB := Lib.hid rgb
  clear hra hsa hrb hsb hrl rga rgb
  go_enter Try.func3, Try.ntmps3
  have cA0 : ∀ i, ((w.alloc (Obj.cells #[.int .i64 a0, .slice A la.length ca, .int .i64 a2, .int .i64 a3, .int .i64 a4, .int .i64 a5, .slice A6 ba.length cA, .int .i64 a7, .int .i64 a8, .int .i64 a9, .int .i64 a10, .int .i64 a11, .int .i64 a12] 27)).alloc (Obj.cells #[.int .i64 b0, .slice B lb.length cb, .int .i64 b2, .int .i64 b3, .int .i64 b4, .int .i64 b5, .slice B6 bb.length cB, .int .i64 b7, .int .i64 b8, .int .i64 b9, .int .i64 b10, .int .i64 b11, .int .i64 b12] 27)).cell? ⟨w.heap.size, i, none⟩ = (#[.int .i64 a0, .slice A la.length ca, .int .i64 a2, .int .i64 a3, .int .i64 a4, .int .i64 a5, .slice A6 ba.length cA, .int .i64 a7, .int .i64 a8, .int .i64 a9, .int .i64 a10, .int .i64 a11, .int .i64 a12] : Array Value)[i]? := fun i => blk_cell bA i
  have hsz : w.heap.size + 1 < ((w.alloc (Obj.cells #[.int .i64 a0, .slice A la.length ca, .int .i64 a2, .int .i64 a3, .int .i64 a4, .int .i64 a5, .slice A6 ba.length cA, .int .i64 a7, .int .i64 a8, .int .i64 a9, .int .i64 a10, .int .i64 a11, .int .i64 a12] 27)).alloc (Obj.cells #[.int .i64 b0, .slice B lb.length cb, .int .i64 b2, .int .i64 b3, .int .i64 b4, .int .i64 b5, .slice B6 bb.length cB, .int .i64 b7, .int .i64 b8, .int .i64 b9, .int .i64 b10, .int .i64 b11, .int .i64 b12] 27)).heap.size := by simp
  go_wp2_with fail
  generalize ((w.alloc (Obj.cells #[.int .i64 a0, .slice A la.length ca, .int .i64 a2, .int .i64 a3, .int .i64 a4, .int .i64 a5, .slice A6 ba.length cA, .int .i64 a7, .int .i64 a8, .int .i64 a9, .int .i64 a10, .int .i64 a11, .int .i64 a12] 27)).alloc (Obj.cells #[.int .i64 b0, .slice B lb.length cb, .int .i64 b2, .int .i64 b3, .int .i64 b4, .int .i64 b5, .slice B6 bb.length cB, .int .i64 b7, .int .i64 b8, .int .i64 b9, .int .i64 b10, .int .i64 b11, .int .i64 b12] 27)) = W at *
  refine (large_calls (.int .i64 a0) (.int .i64 a2) (.int .i64 a3) (.int .i64 a4) (.int .i64 a5) (.int .i64 a7) (.int .i64 a8) (.int .i64 a9) (.int .i64 a10) (.int .i64 a11) (.int .i64 a12) A A6 la.length ca cA ba W HSA.out hda).mono ?_
  rintro e w1 ⟨rfl, hB1⟩
  cases hLA : largeB la.length ba with
  | true =>
    clear hLA cA0
    go_wp2_with fail
    refine (wakes_calls w1).mono ?_
    rintro e w2 ⟨rfl, hB2⟩
    have HF := Lib.hid (below_step hB0 (below_step hB1 hB2))
    clear hB1 hB2
    go_wp2_with fail
    go_ret
    exact ⟨rfl, HF.out⟩
  | false =>
    obtain ⟨na, nb, nc⟩ := large_no hLA
    have NC := Lib.hid nc
    have cB1 : ∀ i, w1.cell? ⟨w.heap.size + 1, i, none⟩ = (#[.int .i64 b0, .slice B lb.length cb, .int .i64 b2, .int .i64 b3, .int .i64 b4, .int .i64 b5, .slice B6 bb.length cB, .int .i64 b7, .int .i64 b8, .int .i64 b9, .int .i64 b10, .int .i64 b11, .int .i64 b12] : Array Value)[i]? := fun i => (hB1.cell (p := ⟨w.heap.size + 1, i, none⟩) hsz).trans (blk_cell bB i)
    clear hLA nc cA0
    go_wp2_with fail
    refine (large_calls (.int .i64 b0) (.int .i64 b2) (.int .i64 b3) (.int .i64 b4) (.int .i64 b5) (.int .i64 b7) (.int .i64 b8) (.int .i64 b9) (.int .i64 b10) (.int .i64 b11) (.int .i64 b12) B B6 lb.length cb cB bb w1 (Kd.C_below HSB.out hB1) hdb).mono ?_
    rintro e w2 ⟨rfl, hB2⟩
    cases hLB : largeB lb.length bb with
    | true =>
      clear hLB cB1
      go_wp2_with fail
      refine (wakes_calls w2).mono ?_
      rintro e w3 ⟨rfl, hB3⟩
      have HF := Lib.hid (below_step hB0 (below_step (below_step hB1 hB2) hB3))
      clear hB1 hB2 hB3
      go_wp2_with fail
      go_ret
      exact ⟨rfl, HF.out⟩
    | false =>
      obtain ⟨ma, mb, mc⟩ := large_no hLB
      have MC := Lib.hid mc
      have hB12 := below_step hB1 hB2
      clear hLB mc cB1 hB1 hB2
      by_cases hl : 200 < l.length
      · have hl' : (200 : Int) < l.length := by omega
        clear hl
        go_wp2_with fail
        refine (wakes_calls w2).mono ?_
        rintro e w3 ⟨rfl, hB3⟩
        have HF := Lib.hid (below_step hB0 (below_step hB12 hB3))
        clear hB12 hB3
        go_wp2_with fail
        go_ret
        exact ⟨rfl, HF.out⟩
      · have hl' : (l.length : Int) ≤ 200 := by omega
        have bA2 : w2.heap[w.heap.size]? = some (Obj.cells #[.int .i64 a0, .slice A la.length ca, .int .i64 a2, .int .i64 a3, .int .i64 a4, .int .i64 a5, .slice A6 ba.length cA, .int .i64 a7, .int .i64 a8, .int .i64 a9, .int .i64 a10, .int .i64 a11, .int .i64 a12] 27) := (hB12.block _ (by omega)).trans bA
        have bB2 : w2.heap[w.heap.size + 1]? = some (Obj.cells #[.int .i64 b0, .slice B lb.length cb, .int .i64 b2, .int .i64 b3, .int .i64 b4, .int .i64 b5, .slice B6 bb.length cB, .int .i64 b7, .int .i64 b8, .int .i64 b9, .int .i64 b10, .int .i64 b11, .int .i64 b12] 27) := (hB12.block _ hsz).trans bB
        have hsz2 : w.heap.size + 1 < w2.heap.size := Nat.lt_of_lt_of_le hsz hB12.size
        have HRA2 := Aside0.mk (Kd.C_below HRA.out hB12)
        have HSA2 := Aside0.mk (Kd.C_below HSA.out hB12)
        have HRB2 := Aside0.mk (Kd.C_below HRB.out hB12)
        have HSB2 := Aside0.mk (Kd.C_below HSB.out hB12)
        have HRL2 := Aside0.mk (Kd.C_below HRL.out hB12)
        have hB02 := Lib.hid (below_step hB0 hB12)
        clear HRA HSA HRB HSB HRL hB0 hB12 bA bB hsz hl
        go_wp2_with fail
        clear hl'
        clear hll
        have kca : ∀ U, Below w2.heap.size w2 U → ∀ i, U.cell? ⟨w.heap.size, i, none⟩ = (#[.int .i64 a0, .slice A la.length ca, .int .i64 a2, .int .i64 a3, .int .i64 a4, .int .i64 a5, .slice A6 ba.length cA, .int .i64 a7, .int .i64 a8, .int .i64 a9, .int .i64 a10, .int .i64 a11, .int .i64 a12] : Array Value)[i]? := fun U h i => (h.cell (p := ⟨w.heap.size, i, none⟩) (show w.heap.size < w2.heap.size from by omega)).trans (blk_cell bA2 i)
        have kcb : ∀ U, Below w2.heap.size w2 U → ∀ i, U.cell? ⟨w.heap.size + 1, i, none⟩ = (#[.int .i64 b0, .slice B lb.length cb, .int .i64 b2, .int .i64 b3, .int .i64 b4, .int .i64 b5, .slice B6 bb.length cB, .int .i64 b7, .int .i64 b8, .int .i64 b9, .int .i64 b10, .int .i64 b11, .int .i64 b12] : Array Value)[i]? := fun U h i => (h.cell (p := ⟨w.heap.size + 1, i, none⟩) hsz2).trans (blk_cell bB2 i)
        have hl9 : l.length ≤ 200 := by omega
        have HL9 := Lib.hid hl9
        have hS : ∀ U : World, Below w2.heap.size w2 U → (Below w2.heap.size w2 U ∧ (∀ i, U.cell? ⟨w.heap.size, i, none⟩ = (#[.int .i64 a0, .slice A la.length ca, .int .i64 a2, .int .i64 a3, .int .i64 a4, .int .i64 a5, .slice A6 ba.length cA, .int .i64 a7, .int .i64 a8, .int .i64 a9, .int .i64 a10, .int .i64 a11, .int .i64 a12] : Array Value)[i]?) ∧ (∀ i, U.cell? ⟨w.heap.size + 1, i, none⟩ = (#[.int .i64 b0, .slice B lb.length cb, .int .i64 b2, .int .i64 b3, .int .i64 b4, .int .i64 b5, .slice B6 bb.length cB, .int .i64 b7, .int .i64 b8, .int .i64 b9, .int .i64 b10, .int .i64 b11, .int .i64 b12] : Array Value)[i]?)) := fun U h => ⟨h, kca U h, kcb U h⟩
        have hBr := Below.refl w2.heap.size w2
        have NA := Lib.hid na
        have MA := Lib.hid ma
        have NB := Lib.hid nb
        have MB := Lib.hid mb
        have hkq := Lib.hid (show decide (l.map cv = (refDiffL [] la).map cv) = decide (l = refDiffL [] la) from decide_eq_decide.2 ⟨map_cv_inj, fun h => by rw [h]⟩)
        clear kca kcb bA2 bB2 hsz2 hl9 na ma nb mb
        have hBr := Below.refl w2.heap.size w2
        go_region_held3 (fun U : World => Below w2.heap.size w2 U ∧ (∀ i, U.cell? ⟨w.heap.size, i, none⟩ = (#[.int .i64 a0, .slice A la.length ca, .int .i64 a2, .int .i64 a3, .int .i64 a4, .int .i64 a5, .slice A6 ba.length cA, .int .i64 a7, .int .i64 a8, .int .i64 a9, .int .i64 a10, .int .i64 a11, .int .i64 a12] : Array Value)[i]?) ∧ (∀ i, U.cell? ⟨w.heap.size + 1, i, none⟩ = (#[.int .i64 b0, .slice B lb.length cb, .int .i64 b2, .int .i64 b3, .int .i64 b4, .int .i64 b5, .slice B6 bb.length cB, .int .i64 b7, .int .i64 b8, .int .i64 b9, .int .i64 b10, .int .i64 b11, .int .i64 b12] : Array Value)[i]?)) ((refine hS _ ?_; with_reducible (repeat (first | assumption | exact (by assumption : Below w2.heap.size w2 _ ∧ _).1 | apply below_alloc | apply pw_below_drewN | apply below_drew1))))
          (first
            | (go_at_call 11; with_reducible refine (copyState_calls a0 A ca la a2 a3 a4 a5 A6 cA ba a7 a8 a9 a10 a11 a12 _ (Kd.C_below HRA2.out (by with_reducible (repeat (first | assumption | exact (by assumption : Below w2.heap.size w2 _ ∧ _).1 | apply below_alloc | apply pw_below_drewN | apply below_drew1)))) hca (Kd.C_below HSA2.out (by with_reducible (repeat (first | assumption | exact (by assumption : Below w2.heap.size w2 _ ∧ _).1 | apply below_alloc | apply pw_below_drewN | apply below_drew1)))) hda (Nat.le_trans NA.out (by decide)) (Nat.le_trans NB.out (by decide)) (fun b hb => Nat.le_trans (NC.out b hb) (by decide))).mono ?_; rintro e u1 ⟨A1, c1, v1, rfl, hk1, hC1, hB1⟩; have hD1 := below_step (by with_reducible (repeat (first | assumption | exact (by assumption : Below w2.heap.size w2 _ ∧ _).1 | apply below_alloc | apply pw_below_drewN | apply below_drew1))) hB1)
            | (go_at_call 11; with_reducible refine (copyState_calls b0 B cb lb b2 b3 b4 b5 B6 cB bb b7 b8 b9 b10 b11 b12 _ (Kd.C_below HRB2.out (by with_reducible (repeat (first | assumption | exact (by assumption : Below w2.heap.size w2 _ ∧ _).1 | apply below_alloc | apply pw_below_drewN | apply below_drew1)))) hcb (Kd.C_below HSB2.out (by with_reducible (repeat (first | assumption | exact (by assumption : Below w2.heap.size w2 _ ∧ _).1 | apply below_alloc | apply pw_below_drewN | apply below_drew1)))) hdb (Nat.le_trans MA.out (by decide)) (Nat.le_trans MB.out (by decide)) (fun b hb => Nat.le_trans (MC.out b hb) (by decide))).mono ?_; rintro e u2 ⟨A2, c2, v2, rfl, hk2, hC2, hB2⟩; have hD2 := below_step (by with_reducible (repeat (first | assumption | exact (by assumption : Below w2.heap.size w2 _ ∧ _).1 | apply below_alloc | apply pw_below_drewN | apply below_drew1))) hB2)
            | (go_at_call 10; with_reducible refine (diff_ref _ _ _ _ _ _ _ _ _ _ _ _ _ _ _ _ _ _ _ _ _ _ _ _ A1 A2 c1 c2 la lb _ (Kd.C_below hC1 (by with_reducible (repeat (first | assumption | exact Below.refl _ _ | apply below_alloc | apply pw_below_drewN | apply below_drew1)))) hk1 (Kd.C_below hC2 (by with_reducible (repeat (first | assumption | exact Below.refl _ _ | apply below_alloc | apply pw_below_drewN | apply below_drew1)))) hk2 NA.out MA.out RA.out RB.out).mono ?_; rintro e u3 ⟨v3, rfl, hR3, hB3⟩; obtain ⟨A3, c3, rfl, hk3, hC3⟩ := Kd.R_reads hR3; have hD3 := below_step (by with_reducible (repeat (first | assumption | exact (by assumption : Below w2.heap.size w2 _ ∧ _).1 | apply below_alloc | apply pw_below_drewN | apply below_drew1))) hB3; clear hC1 hC2)
            | (go_at_call 9; with_reducible refine (own_calls A3 c3 (refDiffL la lb) _ (Kd.C_below hC3 (by with_reducible (repeat (first | assumption | exact Below.refl _ _ | apply below_alloc | apply pw_below_drewN | apply below_drew1)))) hk3 (by have := refDiff_len la lb; have := NA.out; have := MA.out; omega)).mono ?_; rintro e u4 ⟨v4, rfl, hR4, hB4⟩; obtain ⟨A4, c4, rfl, hk4, hC4⟩ := Kd.R_reads hR4; rw [List.length_map] at hk4 hC4; have hD4 := below_step (by with_reducible (repeat (first | assumption | exact (by assumption : Below w2.heap.size w2 _ ∧ _).1 | apply below_alloc | apply pw_below_drewN | apply below_drew1))) hB4; clear hC3)
            | (go_at_call 12; with_reducible refine (refDiff_calls _ _ _ _ _ _ _ _ _ _ _ _ _ _ _ _ _ _ _ _ _ _ _ _ A B ca cb la lb _ (Kd.C_below HRA2.out (by with_reducible (repeat (first | assumption | exact (by assumption : Below w2.heap.size w2 _ ∧ _).1 | apply below_alloc | apply pw_below_drewN | apply below_drew1)))) hca (Kd.C_below HRB2.out (by with_reducible (repeat (first | assumption | exact (by assumption : Below w2.heap.size w2 _ ∧ _).1 | apply below_alloc | apply pw_below_drewN | apply below_drew1)))) hcb (Nat.le_trans NA.out (by decide)) (Nat.le_trans MA.out (by decide))).mono ?_; rintro e u5 ⟨v5, rfl, hR5, hB5⟩; obtain ⟨A5, c5, rfl, hk5, hC5'⟩ := Kd.R_reads hR5; have hC5 := C57 hC5'; clear hC5'; have hD5 := below_step (by with_reducible (repeat (first | assumption | exact (by assumption : Below w2.heap.size w2 _ ∧ _).1 | apply below_alloc | apply pw_below_drewN | apply below_drew1))) hB5; have hC4 := Kd.C_below (Kd.C_below hC4 (by with_reducible (repeat (first | assumption | exact Below.refl _ _ | apply below_alloc | apply pw_below_drewN | apply below_drew1)))) hB5)
            | (go_at_call 8; with_reducible refine (alike_n A4 A5 _ _ c4 c5 ((refDiffL la lb).map cv) ((refDiffL la lb).map cv) _ (Kd.C_below hC4 (by with_reducible (repeat (first | assumption | exact Below.refl _ _ | apply below_alloc | apply pw_below_drewN | apply below_drew1)))) hk4 (Kd.C_below hC5 (by with_reducible (repeat (first | assumption | exact Below.refl _ _ | apply below_alloc | apply pw_below_drewN | apply below_drew1)))) hk5 (by have := refDiff_len la lb; have := NA.out; have := MA.out; omega)).mono ?_; rintro e u6 ⟨rfl, n6, rfl⟩; rw [decide_eq_true rfl]; clear hC4 hC5)
            | (go_at_call 13; with_reducible refine (entrySame_calls _ _ _ _ _ _ _ _ _ _ _ _ C A cc ca l la _ (Kd.C_below HRL2.out (by with_reducible (repeat (first | assumption | exact (by assumption : Below w2.heap.size w2 _ ∧ _).1 | apply below_alloc | apply pw_below_drewN | apply below_drew1)))) hcl (Kd.C_below HRA2.out (by with_reducible (repeat (first | assumption | exact (by assumption : Below w2.heap.size w2 _ ∧ _).1 | apply below_alloc | apply pw_below_drewN | apply below_drew1)))) hca (Nat.le_trans HL9.out (by decide)) NA.out RA.out).mono ?_; rintro e u7 ⟨rfl, hB7⟩; have hD7 := below_step (by with_reducible (repeat (first | assumption | exact (by assumption : Below w2.heap.size w2 _ ∧ _).1 | apply below_alloc | apply pw_below_drewN | apply below_drew1))) hB7)
            | (go_at_call 9; with_reducible refine (own_calls C cc l _ (Kd.C_below HRL2.out (by with_reducible (repeat (first | assumption | exact (by assumption : Below w2.heap.size w2 _ ∧ _).1 | apply below_alloc | apply pw_below_drewN | apply below_drew1)))) hcl (Nat.le_trans HL9.out (by decide))).mono ?_; rintro e u8 ⟨v8, rfl, hR8, hB8⟩; obtain ⟨A8, c8, rfl, hk8, hC8⟩ := Kd.R_reads hR8; rw [List.length_map] at hk8 hC8; have hD8 := below_step (by with_reducible (repeat (first | assumption | exact (by assumption : Below w2.heap.size w2 _ ∧ _).1 | apply below_alloc | apply pw_below_drewN | apply below_drew1))) hB8)
            | (go_at_call 14; with_reducible refine (refSame_n _ _ _ _ _ _ _ _ _ _ _ _ A8 A _ c8 ca (l.map cv) la _ (Kd.C_below hC8 (by with_reducible (repeat (first | assumption | exact Below.refl _ _ | apply below_alloc | apply pw_below_drewN | apply below_drew1)))) hk8 (Kd.C_below HRA2.out (by with_reducible (repeat (first | assumption | exact (by assumption : Below w2.heap.size w2 _ ∧ _).1 | apply below_alloc | apply pw_below_drewN | apply below_drew1)))) hca (Nat.le_trans HL9.out (by decide)) NA.out).mono ?_; rintro e u9 ⟨rfl, hB9⟩; rw [hkq.out]; have hD9 := below_step (by with_reducible (repeat (first | assumption | exact (by assumption : Below w2.heap.size w2 _ ∧ _).1 | apply below_alloc | apply pw_below_drewN | apply below_drew1))) hB9)
            | (go_at_call 7; with_reducible refine (wakes_calls _).mono ?_; rintro e u10 ⟨rfl, hB10⟩; have hD10 := below_step (by with_reducible (repeat (first | assumption | exact (by assumption : Below w2.heap.size w2 _ ∧ _).1 | apply below_alloc | apply pw_below_drewN | apply below_drew1))) hB10))
        have HF := Lib.hid (below_step hB02.out hD10)
        clear hD1 hD2 hD3 hD4 hD5 hD7 hD8 hD9 hD10
        go_wp2_with fail
        go_ret
        exact ⟨rfl, HF.out⟩
end Go.Proofs.Ytbgcmhakllodeaa
