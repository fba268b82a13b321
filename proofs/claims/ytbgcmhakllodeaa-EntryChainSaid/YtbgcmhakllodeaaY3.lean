/- EntryChain, walked. -/
import Derived.Test.YtbgcmhakllodeaaY1
namespace Go.Proofs.Ytbgcmhakllodeaa
open Go.RowKit Go.Proofs.YtbgcmhakllodeaaW.PrintWords Go.Proofs.YtbgcmhakllodeaaW.PrintLast Go.Proofs.YtbgcmhakllodeaaW.PrintMore
open PEntryDiffers
theorem refDiff_in {la lb : List S54} (ha : Rng la) (hb : Rng lb) : ∀ x ∈ refDiffL la lb, In64 x.f2 := fun x hx => by
  rw [((refDiff_canon ha hb).mem x).1 hx |>.1]
  unfold gD
  split
  · exact in_wrap _
  · exact ⟨(by decide : (-9223372036854775808 : Int) ≤ 0), (by decide : (0 : Int) ≤ 9223372036854775807)⟩
theorem chain_ref {la lb lc : List S54} (ra : Rng la) (rb : Rng lb) (rc : Rng lc) (ha : Sml la) (hb : Sml lb) (hc : Sml lc) : refAddL (refDiffL la lb ++ refDiffL lb lc) = some (refDiffL la lc) := by
  have s1 := Sml.gD ha hb
  have s2 := Sml.gD hb hc
  have s3 := Sml.gD ha hc
  obtain ⟨N, h1, h2, h3⟩ := add_two (refDiff_canon ra rb) (refDiff_canon rb rc)
    (fun k => by have := ha.get k; have := hb.get k; rw [s1]; unfold In64; omega)
    (fun k => by have := hb.get k; have := hc.get k; rw [s2]; unfold In64; omega)
    (fun k => by have := ha.get k; have := hb.get k; have := hc.get k; rw [s1, s2]; unfold In64; omega)
  unfold refAddL
  rcases AR.all (refDiffL la lb ++ refDiffL lb lc) [] [] AR.nil (fun x hx => by rw [List.mem_append] at hx; rcases hx with hx | hx; exact refDiff_in ra rb x hx; exact refDiff_in rb rc x hx) with ⟨q1, _⟩ | ⟨M, out, q1, q2, q3⟩
  · rw [h1] at q1; cases q1
  · rw [h1] at q1
    obtain rfl : N = M := by injection q1
    rw [q2, Option.map_some, q3.canon.eq (refDiff_canon ra rc) (fun k => by rw [h3, s1, s2, s3]; omega)]
theorem add_some (A1 B1 : Option Addr) (ca cb : Nat) (la lb r : List S56) (w : World) (hra : Kd.C k56 w A1 la.length la) (hca : la.length ≤ ca) (hrb : Kd.C k56 w B1 lb.length lb) (hcb : lb.length ≤ cb)
    (ha : la.length ≤ 300000) (hb : lb.length ≤ 300000) (hi : ∀ x ∈ la ++ lb, In64 x.f2) (hs : refAddL (la ++ lb) = some r) :
    Calls Try.prog 15 #[.slice A1 la.length ca, .slice B1 lb.length cb] w fun e w' => ∃ A c, e = .returned (.tuple #[.slice A r.length c, .int .i64 0]) ∧ r.length ≤ c ∧ Kd.C k56 w' A r.length r ∧ Below w.heap.size w w' :=
  (add_ref A1 B1 ca cb la lb w hra hca hrb hcb ha hb hi).mono fun e w' ⟨hB, h⟩ => by
    rcases h with ⟨h0, _⟩ | ⟨l, v, hl, he, hR⟩
    · rw [hs] at h0; cases h0
    · rw [hs] at hl
      obtain rfl : r = l := by injection hl
      obtain ⟨A, c, rfl, h1, h2⟩ := Kd.R_reads hR
      exact ⟨A, c, he, h1, h2, hB⟩
set_option maxHeartbeats 4000000 in
set_option maxRecDepth 100000 in
theorem chain_calls (a0 a2 a3 a4 a5 a7 a8 a9 a10 a11 a12 b0 b2 b3 b4 b5 b7 b8 b9 b10 b11 b12 c0 c2 c3 c4 c5 c7 c8 c9 c10 c11 c12 : Int) (A A6 B B6 C C6 : Option Addr) (ca cA cb cB cc cC : Nat) (la lb lc : List S54) (ba bb bc : List S52) (w : World)
    (hra : Kd.C k54 w A la.length la) (hca : la.length ≤ ca) (hsa : Kd.C k52 w A6 ba.length ba) (hda : ba.length ≤ cA) (rga : Rng la)
    (hrb : Kd.C k54 w B lb.length lb) (hcb : lb.length ≤ cb) (hsb : Kd.C k52 w B6 bb.length bb) (hdb : bb.length ≤ cB) (rgb : Rng lb)
    (hrc : Kd.C k54 w C lc.length lc) (hcc : lc.length ≤ cc) (hsc : Kd.C k52 w C6 bc.length bc) (hdc : bc.length ≤ cC) (rgc : Rng lc) :
    Calls Try.prog 5 #[.agg #[.int .i64 a0, .slice A la.length ca, .int .i64 a2, .int .i64 a3, .int .i64 a4, .int .i64 a5, .slice A6 ba.length cA, .int .i64 a7, .int .i64 a8, .int .i64 a9, .int .i64 a10, .int .i64 a11, .int .i64 a12], .agg #[.int .i64 b0, .slice B lb.length cb, .int .i64 b2, .int .i64 b3, .int .i64 b4, .int .i64 b5, .slice B6 bb.length cB, .int .i64 b7, .int .i64 b8, .int .i64 b9, .int .i64 b10, .int .i64 b11, .int .i64 b12], .agg #[.int .i64 c0, .slice C lc.length cc, .int .i64 c2, .int .i64 c3, .int .i64 c4, .int .i64 c5, .slice C6 bc.length cC, .int .i64 c7, .int .i64 c8, .int .i64 c9, .int .i64 c10, .int .i64 c11, .int .i64 c12]] w fun e w' => e = .returned (.bool true) ∧ Below w.heap.size w w' := by
  have hB0 : Below w.heap.size w (((w.alloc (Obj.cells #[.int .i64 a0, .slice A la.length ca, .int .i64 a2, .int .i64 a3, .int .i64 a4, .int .i64 a5, .slice A6 ba.length cA, .int .i64 a7, .int .i64 a8, .int .i64 a9, .int .i64 a10, .int .i64 a11, .int .i64 a12] 27)).alloc (Obj.cells #[.int .i64 b0, .slice B lb.length cb, .int .i64 b2, .int .i64 b3, .int .i64 b4, .int .i64 b5, .slice B6 bb.length cB, .int .i64 b7, .int .i64 b8, .int .i64 b9, .int .i64 b10, .int .i64 b11, .int .i64 b12] 27)).alloc (Obj.cells #[.int .i64 c0, .slice C lc.length cc, .int .i64 c2, .int .i64 c3, .int .i64 c4, .int .i64 c5, .slice C6 bc.length cC, .int .i64 c7, .int .i64 c8, .int .i64 c9, .int .i64 c10, .int .i64 c11, .int .i64 c12] 27)) := (((Below.refl _ w).alloc (Nat.le_refl _) _).alloc (by simp) _).alloc (by first | (simp; done) | (simp; omega)) _
  have bA : (((w.alloc (Obj.cells #[.int .i64 a0, .slice A la.length ca, .int .i64 a2, .int .i64 a3, .int .i64 a4, .int .i64 a5, .slice A6 ba.length cA, .int .i64 a7, .int .i64 a8, .int .i64 a9, .int .i64 a10, .int .i64 a11, .int .i64 a12] 27)).alloc (Obj.cells #[.int .i64 b0, .slice B lb.length cb, .int .i64 b2, .int .i64 b3, .int .i64 b4, .int .i64 b5, .slice B6 bb.length cB, .int .i64 b7, .int .i64 b8, .int .i64 b9, .int .i64 b10, .int .i64 b11, .int .i64 b12] 27)).alloc (Obj.cells #[.int .i64 c0, .slice C lc.length cc, .int .i64 c2, .int .i64 c3, .int .i64 c4, .int .i64 c5, .slice C6 bc.length cC, .int .i64 c7, .int .i64 c8, .int .i64 c9, .int .i64 c10, .int .i64 c11, .int .i64 c12] 27)).heap[w.heap.size]? = some (Obj.cells #[.int .i64 a0, .slice A la.length ca, .int .i64 a2, .int .i64 a3, .int .i64 a4, .int .i64 a5, .slice A6 ba.length cA, .int .i64 a7, .int .i64 a8, .int .i64 a9, .int .i64 a10, .int .i64 a11, .int .i64 a12] 27) := blk_alloc (blk_alloc (Go.heap_alloc_new w _) _) _
  have bB : (((w.alloc (Obj.cells #[.int .i64 a0, .slice A la.length ca, .int .i64 a2, .int .i64 a3, .int .i64 a4, .int .i64 a5, .slice A6 ba.length cA, .int .i64 a7, .int .i64 a8, .int .i64 a9, .int .i64 a10, .int .i64 a11, .int .i64 a12] 27)).alloc (Obj.cells #[.int .i64 b0, .slice B lb.length cb, .int .i64 b2, .int .i64 b3, .int .i64 b4, .int .i64 b5, .slice B6 bb.length cB, .int .i64 b7, .int .i64 b8, .int .i64 b9, .int .i64 b10, .int .i64 b11, .int .i64 b12] 27)).alloc (Obj.cells #[.int .i64 c0, .slice C lc.length cc, .int .i64 c2, .int .i64 c3, .int .i64 c4, .int .i64 c5, .slice C6 bc.length cC, .int .i64 c7, .int .i64 c8, .int .i64 c9, .int .i64 c10, .int .i64 c11, .int .i64 c12] 27)).heap[w.heap.size + 1]? = some (Obj.cells #[.int .i64 b0, .slice B lb.length cb, .int .i64 b2, .int .i64 b3, .int .i64 b4, .int .i64 b5, .slice B6 bb.length cB, .int .i64 b7, .int .i64 b8, .int .i64 b9, .int .i64 b10, .int .i64 b11, .int .i64 b12] 27) := blk_alloc (blk_next (by simp)) _
  have bC : (((w.alloc (Obj.cells #[.int .i64 a0, .slice A la.length ca, .int .i64 a2, .int .i64 a3, .int .i64 a4, .int .i64 a5, .slice A6 ba.length cA, .int .i64 a7, .int .i64 a8, .int .i64 a9, .int .i64 a10, .int .i64 a11, .int .i64 a12] 27)).alloc (Obj.cells #[.int .i64 b0, .slice B lb.length cb, .int .i64 b2, .int .i64 b3, .int .i64 b4, .int .i64 b5, .slice B6 bb.length cB, .int .i64 b7, .int .i64 b8, .int .i64 b9, .int .i64 b10, .int .i64 b11, .int .i64 b12] 27)).alloc (Obj.cells #[.int .i64 c0, .slice C lc.length cc, .int .i64 c2, .int .i64 c3, .int .i64 c4, .int .i64 c5, .slice C6 bc.length cC, .int .i64 c7, .int .i64 c8, .int .i64 c9, .int .i64 c10, .int .i64 c11, .int .i64 c12] 27)).heap[w.heap.size + 1 + 1]? = some (Obj.cells #[.int .i64 c0, .slice C lc.length cc, .int .i64 c2, .int .i64 c3, .int .i64 c4, .int .i64 c5, .slice C6 bc.length cC, .int .i64 c7, .int .i64 c8, .int .i64 c9, .int .i64 c10, .int .i64 c11, .int .i64 c12] 27) := blk_next (by simp)
  have HRA := Aside0.mk (Kd.C_below hra hB0)
  have HSA := Aside0.mk (Kd.C_below hsa hB0)
  have RA := Lib.hid rga
  have HRB := Aside0.mk (Kd.C_below hrb hB0)
  have HSB := Aside0.mk (Kd.C_below hsb hB0)
  have RB := Lib.hid rgb
  have HRC := Aside0.mk (Kd.C_below hrc hB0)
  have HSC := Aside0.mk (Kd.C_below hsc hB0)
  have RC := Lib.hid rgc
  clear hra hsa hrb hsb hrc hsc rga rgb rgc
  have k0 : ∀ i, (((w.alloc (Obj.cells #[.int .i64 a0, .slice A la.length ca, .int .i64 a2, .int .i64 a3, .int .i64 a4, .int .i64 a5, .slice A6 ba.length cA, .int .i64 a7, .int .i64 a8, .int .i64 a9, .int .i64 a10, .int .i64 a11, .int .i64 a12] 27)).alloc (Obj.cells #[.int .i64 b0, .slice B lb.length cb, .int .i64 b2, .int .i64 b3, .int .i64 b4, .int .i64 b5, .slice B6 bb.length cB, .int .i64 b7, .int .i64 b8, .int .i64 b9, .int .i64 b10, .int .i64 b11, .int .i64 b12] 27)).alloc (Obj.cells #[.int .i64 c0, .slice C lc.length cc, .int .i64 c2, .int .i64 c3, .int .i64 c4, .int .i64 c5, .slice C6 bc.length cC, .int .i64 c7, .int .i64 c8, .int .i64 c9, .int .i64 c10, .int .i64 c11, .int .i64 c12] 27)).cell? ⟨w.heap.size, i, none⟩ = (#[.int .i64 a0, .slice A la.length ca, .int .i64 a2, .int .i64 a3, .int .i64 a4, .int .i64 a5, .slice A6 ba.length cA, .int .i64 a7, .int .i64 a8, .int .i64 a9, .int .i64 a10, .int .i64 a11, .int .i64 a12] : Array Value)[i]? := fun i => blk_cell bA i
  go_enter Try.func5, Try.ntmps5
  go_wp2_with fail
  have hsz : w.heap.size + 1 + 1 < (((w.alloc (Obj.cells #[.int .i64 a0, .slice A la.length ca, .int .i64 a2, .int .i64 a3, .int .i64 a4, .int .i64 a5, .slice A6 ba.length cA, .int .i64 a7, .int .i64 a8, .int .i64 a9, .int .i64 a10, .int .i64 a11, .int .i64 a12] 27)).alloc (Obj.cells #[.int .i64 b0, .slice B lb.length cb, .int .i64 b2, .int .i64 b3, .int .i64 b4, .int .i64 b5, .slice B6 bb.length cB, .int .i64 b7, .int .i64 b8, .int .i64 b9, .int .i64 b10, .int .i64 b11, .int .i64 b12] 27)).alloc (Obj.cells #[.int .i64 c0, .slice C lc.length cc, .int .i64 c2, .int .i64 c3, .int .i64 c4, .int .i64 c5, .slice C6 bc.length cC, .int .i64 c7, .int .i64 c8, .int .i64 c9, .int .i64 c10, .int .i64 c11, .int .i64 c12] 27)).heap.size := by first | (simp; done) | (simp; omega)
  generalize (((w.alloc (Obj.cells #[.int .i64 a0, .slice A la.length ca, .int .i64 a2, .int .i64 a3, .int .i64 a4, .int .i64 a5, .slice A6 ba.length cA, .int .i64 a7, .int .i64 a8, .int .i64 a9, .int .i64 a10, .int .i64 a11, .int .i64 a12] 27)).alloc (Obj.cells #[.int .i64 b0, .slice B lb.length cb, .int .i64 b2, .int .i64 b3, .int .i64 b4, .int .i64 b5, .slice B6 bb.length cB, .int .i64 b7, .int .i64 b8, .int .i64 b9, .int .i64 b10, .int .i64 b11, .int .i64 b12] 27)).alloc (Obj.cells #[.int .i64 c0, .slice C lc.length cc, .int .i64 c2, .int .i64 c3, .int .i64 c4, .int .i64 c5, .slice C6 bc.length cC, .int .i64 c7, .int .i64 c8, .int .i64 c9, .int .i64 c10, .int .i64 c11, .int .i64 c12] 27)) = W at *
  have BA := Lib.hid bA
  have BB := Lib.hid bB
  have BC := Lib.hid bC
  have HD0 := Lib.hid (Below.refl W.heap.size W)
  clear bA bB bC
  have HB0 := Lib.hid hB0
  have HSZ := Lib.hid hsz
  clear hB0 hsz
  refine (large_calls (.int .i64 a0) (.int .i64 a2) (.int .i64 a3) (.int .i64 a4) (.int .i64 a5) (.int .i64 a7) (.int .i64 a8) (.int .i64 a9) (.int .i64 a10) (.int .i64 a11) (.int .i64 a12) A A6 la.length ca cA ba W (Kd.C_below HSA.out HD0.out) hda).mono ?_
  rintro e u0 ⟨rfl, hB⟩
  have HD1 := Lib.hid (below_step HD0.out hB)
  clear hB k0 HD0
  cases hL : largeB la.length ba with
  | true =>
    clear hL
    go_wp2_with fail
    refine (wakes_calls u0).mono ?_
    rintro e z ⟨rfl, hZ⟩
    have HF := Lib.hid (below_step HB0.out (below_step HD1.out hZ))
    clear hZ
    go_wp2_with fail
    go_ret
    exact ⟨rfl, HF.out⟩
  | false =>
    obtain ⟨na, -, -⟩ := large_no hL
    have NA := Lib.hid na
    clear hL na
    have k1 : ∀ i, u0.cell? ⟨w.heap.size + 1, i, none⟩ = (#[.int .i64 b0, .slice B lb.length cb, .int .i64 b2, .int .i64 b3, .int .i64 b4, .int .i64 b5, .slice B6 bb.length cB, .int .i64 b7, .int .i64 b8, .int .i64 b9, .int .i64 b10, .int .i64 b11, .int .i64 b12] : Array Value)[i]? := fun i => blk_cell ((HD1.out.block _ (by have := HSZ.out; omega)).trans BB.out) i
    go_wp2_with fail
    refine (large_calls (.int .i64 b0) (.int .i64 b2) (.int .i64 b3) (.int .i64 b4) (.int .i64 b5) (.int .i64 b7) (.int .i64 b8) (.int .i64 b9) (.int .i64 b10) (.int .i64 b11) (.int .i64 b12) B B6 lb.length cb cB bb u0 (Kd.C_below HSB.out HD1.out) hdb).mono ?_
    rintro e u1 ⟨rfl, hB⟩
    have HD2 := Lib.hid (below_step HD1.out hB)
    clear hB k1 HD1
    cases hL : largeB lb.length bb with
    | true =>
      clear hL
      go_wp2_with fail
      refine (wakes_calls u1).mono ?_
      rintro e z ⟨rfl, hZ⟩
      have HF := Lib.hid (below_step HB0.out (below_step HD2.out hZ))
      clear hZ
      go_wp2_with fail
      go_ret
      exact ⟨rfl, HF.out⟩
    | false =>
      obtain ⟨nb, -, -⟩ := large_no hL
      have NB := Lib.hid nb
      clear hL nb
      have k2 : ∀ i, u1.cell? ⟨w.heap.size + 1 + 1, i, none⟩ = (#[.int .i64 c0, .slice C lc.length cc, .int .i64 c2, .int .i64 c3, .int .i64 c4, .int .i64 c5, .slice C6 bc.length cC, .int .i64 c7, .int .i64 c8, .int .i64 c9, .int .i64 c10, .int .i64 c11, .int .i64 c12] : Array Value)[i]? := fun i => blk_cell ((HD2.out.block _ (by have := HSZ.out; omega)).trans BC.out) i
      go_wp2_with fail
      refine (large_calls (.int .i64 c0) (.int .i64 c2) (.int .i64 c3) (.int .i64 c4) (.int .i64 c5) (.int .i64 c7) (.int .i64 c8) (.int .i64 c9) (.int .i64 c10) (.int .i64 c11) (.int .i64 c12) C C6 lc.length cc cC bc u1 (Kd.C_below HSC.out HD2.out) hdc).mono ?_
      rintro e u2 ⟨rfl, hB⟩
      have HD3 := Lib.hid (below_step HD2.out hB)
      clear hB k2 HD2
      cases hL : largeB lc.length bc with
      | true =>
        clear hL
        go_wp2_with fail
        refine (wakes_calls u2).mono ?_
        rintro e z ⟨rfl, hZ⟩
        have HF := Lib.hid (below_step HB0.out (below_step HD3.out hZ))
        clear hZ
        go_wp2_with fail
        go_ret
        exact ⟨rfl, HF.out⟩
      | false =>
        obtain ⟨nc, -, -⟩ := large_no hL
        have NC := Lib.hid nc
        clear hL nc
        have k3 : ∀ i, u2.cell? ⟨w.heap.size, i, none⟩ = (#[.int .i64 a0, .slice A la.length ca, .int .i64 a2, .int .i64 a3, .int .i64 a4, .int .i64 a5, .slice A6 ba.length cA, .int .i64 a7, .int .i64 a8, .int .i64 a9, .int .i64 a10, .int .i64 a11, .int .i64 a12] : Array Value)[i]? := fun i => blk_cell ((HD3.out.block _ (by have := HSZ.out; omega)).trans BA.out) i
        go_wp2_with fail
        refine (small_calls (.int .i64 a0) (.int .i64 a2) (.int .i64 a3) (.int .i64 a4) (.int .i64 a5) (.slice A6 ba.length cA) (.int .i64 a7) (.int .i64 a8) (.int .i64 a9) (.int .i64 a10) (.int .i64 a11) (.int .i64 a12) A ca la u2 (Kd.C_below HRA.out HD3.out) hca).mono ?_
        rintro e u3 ⟨rfl, hB⟩
        have HD4 := Lib.hid (below_step HD3.out hB)
        clear hB k3 HD3
        cases hL : la.all smallL with
        | false =>
          clear hL
          go_wp2_with fail
          refine (wakes_calls u3).mono ?_
          rintro e z ⟨rfl, hZ⟩
          have HF := Lib.hid (below_step HB0.out (below_step HD4.out hZ))
          clear hZ
          go_wp2_with fail
          go_ret
          exact ⟨rfl, HF.out⟩
        | true =>
          have SA := Lib.hid (small_Sml hL)
          clear hL
          have k4 : ∀ i, u3.cell? ⟨w.heap.size + 1, i, none⟩ = (#[.int .i64 b0, .slice B lb.length cb, .int .i64 b2, .int .i64 b3, .int .i64 b4, .int .i64 b5, .slice B6 bb.length cB, .int .i64 b7, .int .i64 b8, .int .i64 b9, .int .i64 b10, .int .i64 b11, .int .i64 b12] : Array Value)[i]? := fun i => blk_cell ((HD4.out.block _ (by have := HSZ.out; omega)).trans BB.out) i
          go_wp2_with fail
          refine (small_calls (.int .i64 b0) (.int .i64 b2) (.int .i64 b3) (.int .i64 b4) (.int .i64 b5) (.slice B6 bb.length cB) (.int .i64 b7) (.int .i64 b8) (.int .i64 b9) (.int .i64 b10) (.int .i64 b11) (.int .i64 b12) B cb lb u3 (Kd.C_below HRB.out HD4.out) hcb).mono ?_
          rintro e u4 ⟨rfl, hB⟩
          have HD5 := Lib.hid (below_step HD4.out hB)
          clear hB k4 HD4
          cases hL : lb.all smallL with
          | false =>
            clear hL
            go_wp2_with fail
            refine (wakes_calls u4).mono ?_
            rintro e z ⟨rfl, hZ⟩
            have HF := Lib.hid (below_step HB0.out (below_step HD5.out hZ))
            clear hZ
            go_wp2_with fail
            go_ret
            exact ⟨rfl, HF.out⟩
          | true =>
            have SB := Lib.hid (small_Sml hL)
            clear hL
            have k5 : ∀ i, u4.cell? ⟨w.heap.size + 1 + 1, i, none⟩ = (#[.int .i64 c0, .slice C lc.length cc, .int .i64 c2, .int .i64 c3, .int .i64 c4, .int .i64 c5, .slice C6 bc.length cC, .int .i64 c7, .int .i64 c8, .int .i64 c9, .int .i64 c10, .int .i64 c11, .int .i64 c12] : Array Value)[i]? := fun i => blk_cell ((HD5.out.block _ (by have := HSZ.out; omega)).trans BC.out) i
            go_wp2_with fail
            refine (small_calls (.int .i64 c0) (.int .i64 c2) (.int .i64 c3) (.int .i64 c4) (.int .i64 c5) (.slice C6 bc.length cC) (.int .i64 c7) (.int .i64 c8) (.int .i64 c9) (.int .i64 c10) (.int .i64 c11) (.int .i64 c12) C cc lc u4 (Kd.C_below HRC.out HD5.out) hcc).mono ?_
            rintro e u5 ⟨rfl, hB⟩
            have HD6 := Lib.hid (below_step HD5.out hB)
            clear hB k5 HD5
            cases hL : lc.all smallL with
            | false =>
              clear hL
              go_wp2_with fail
              refine (wakes_calls u5).mono ?_
              rintro e z ⟨rfl, hZ⟩
              have HF := Lib.hid (below_step HB0.out (below_step HD6.out hZ))
              clear hZ
              go_wp2_with fail
              go_ret
              exact ⟨rfl, HF.out⟩
            | true =>
              have SC := Lib.hid (small_Sml hL)
              clear hL
              go_wp2_with fail
              have hS : ∀ U : World, Below u5.heap.size u5 U → (Below u5.heap.size u5 U ∧ (∀ i, U.cell? ⟨w.heap.size, i, none⟩ = (#[.int .i64 a0, .slice A la.length ca, .int .i64 a2, .int .i64 a3, .int .i64 a4, .int .i64 a5, .slice A6 ba.length cA, .int .i64 a7, .int .i64 a8, .int .i64 a9, .int .i64 a10, .int .i64 a11, .int .i64 a12] : Array Value)[i]?) ∧ (∀ i, U.cell? ⟨w.heap.size + 1, i, none⟩ = (#[.int .i64 b0, .slice B lb.length cb, .int .i64 b2, .int .i64 b3, .int .i64 b4, .int .i64 b5, .slice B6 bb.length cB, .int .i64 b7, .int .i64 b8, .int .i64 b9, .int .i64 b10, .int .i64 b11, .int .i64 b12] : Array Value)[i]?) ∧ (∀ i, U.cell? ⟨w.heap.size + 1 + 1, i, none⟩ = (#[.int .i64 c0, .slice C lc.length cc, .int .i64 c2, .int .i64 c3, .int .i64 c4, .int .i64 c5, .slice C6 bc.length cC, .int .i64 c7, .int .i64 c8, .int .i64 c9, .int .i64 c10, .int .i64 c11, .int .i64 c12] : Array Value)[i]?)) := fun U h => ⟨h, fun i => (h.cell (p := ⟨w.heap.size, i, none⟩) (show w.heap.size < u5.heap.size from by have := HSZ.out; have := HD6.out.size; omega)).trans (blk_cell ((HD6.out.block _ (by have := HSZ.out; omega)).trans BA.out) i), fun i => (h.cell (p := ⟨w.heap.size + 1, i, none⟩) (show w.heap.size + 1 < u5.heap.size from by have := HSZ.out; have := HD6.out.size; omega)).trans (blk_cell ((HD6.out.block _ (by have := HSZ.out; omega)).trans BB.out) i), fun i => (h.cell (p := ⟨w.heap.size + 1 + 1, i, none⟩) (show w.heap.size + 1 + 1 < u5.heap.size from by have := HSZ.out; have := HD6.out.size; omega)).trans (blk_cell ((HD6.out.block _ (by have := HSZ.out; omega)).trans BC.out) i)⟩
              have HQA := Aside0.mk (Kd.C_below HRA.out HD6.out)
              have HQB := Aside0.mk (Kd.C_below HRB.out HD6.out)
              have HQC := Aside0.mk (Kd.C_below HRC.out HD6.out)
              have hch := chain_ref RA.out RB.out RC.out SA.out SB.out SC.out
              have hch2 := chain_ref RA.out RB.out RA.out SA.out SB.out SA.out
              rw [self_none RA.out SA.out] at hch2
              have hbb := self_none RB.out SB.out
              have lab := refDiff_len la lb
              have lbc := refDiff_len lb lc
              have lba := refDiff_len lb la
              have lac := refDiff_len la lc
              have LAB := Lib.hid (show (refDiffL la lb).length ≤ 600 from by have := NA.out; have := NB.out; omega)
              have LBC := Lib.hid (show (refDiffL lb lc).length ≤ 600 from by have := NB.out; have := NC.out; omega)
              have LBA := Lib.hid (show (refDiffL lb la).length ≤ 600 from by have := NB.out; have := NA.out; omega)
              have LAC := Lib.hid (show (refDiffL la lc).length ≤ 600 from by have := NA.out; have := NC.out; omega)
              have HCH := Lib.hid hch
              have HCH2 := Lib.hid hch2
              have HBB := Lib.hid hbb
              have I1 := Lib.hid (show ∀ x ∈ refDiffL la lb ++ refDiffL lb lc, In64 x.f2 from fun x hx => by rw [List.mem_append] at hx; rcases hx with hx | hx; exact refDiff_in RA.out RB.out x hx; exact refDiff_in RB.out RC.out x hx)
              have I2 := Lib.hid (show ∀ x ∈ refDiffL la lb ++ refDiffL lb la, In64 x.f2 from fun x hx => by rw [List.mem_append] at hx; rcases hx with hx | hx; exact refDiff_in RA.out RB.out x hx; exact refDiff_in RB.out RA.out x hx)
              have hD0 := Below.refl u5.heap.size u5
              clear lab lbc lba lac hch hch2 hbb
              go_region_held3 (fun U : World => Below u5.heap.size u5 U ∧ (∀ i, U.cell? ⟨w.heap.size, i, none⟩ = (#[.int .i64 a0, .slice A la.length ca, .int .i64 a2, .int .i64 a3, .int .i64 a4, .int .i64 a5, .slice A6 ba.length cA, .int .i64 a7, .int .i64 a8, .int .i64 a9, .int .i64 a10, .int .i64 a11, .int .i64 a12] : Array Value)[i]?) ∧ (∀ i, U.cell? ⟨w.heap.size + 1, i, none⟩ = (#[.int .i64 b0, .slice B lb.length cb, .int .i64 b2, .int .i64 b3, .int .i64 b4, .int .i64 b5, .slice B6 bb.length cB, .int .i64 b7, .int .i64 b8, .int .i64 b9, .int .i64 b10, .int .i64 b11, .int .i64 b12] : Array Value)[i]?) ∧ (∀ i, U.cell? ⟨w.heap.size + 1 + 1, i, none⟩ = (#[.int .i64 c0, .slice C lc.length cc, .int .i64 c2, .int .i64 c3, .int .i64 c4, .int .i64 c5, .slice C6 bc.length cC, .int .i64 c7, .int .i64 c8, .int .i64 c9, .int .i64 c10, .int .i64 c11, .int .i64 c12] : Array Value)[i]?)) ((refine hS _ ?_; with_reducible (repeat (first | assumption | exact (by assumption : Below u5.heap.size u5 _ ∧ _).1 | apply below_alloc | apply pw_below_drewN | apply below_drew1))))
                (first
                  | (go_at_call 10; with_reducible refine (diff_ref _ _ _ _ _ _ _ _ _ _ _ _ _ _ _ _ _ _ _ _ _ _ _ _ A B ca cb la lb _ (Kd.C_below HQA.out (by with_reducible (repeat (first | assumption | exact (by assumption : Below u5.heap.size u5 _ ∧ _).1 | apply below_alloc | apply pw_below_drewN | apply below_drew1)))) hca (Kd.C_below HQB.out (by with_reducible (repeat (first | assumption | exact (by assumption : Below u5.heap.size u5 _ ∧ _).1 | apply below_alloc | apply pw_below_drewN | apply below_drew1)))) hcb NA.out NB.out RA.out RB.out).mono ?_; rintro e y1 ⟨v1, rfl, hR1, hB1⟩; obtain ⟨q1, s1, rfl, hk1, hC1⟩ := Kd.R_reads hR1; have hD1 := below_step (by with_reducible (repeat (first | assumption | exact (by assumption : Below u5.heap.size u5 _ ∧ _).1 | apply below_alloc | apply pw_below_drewN | apply below_drew1))) hB1)
                  | (go_at_call 10; with_reducible refine (diff_ref _ _ _ _ _ _ _ _ _ _ _ _ _ _ _ _ _ _ _ _ _ _ _ _ B C cb cc lb lc _ (Kd.C_below HQB.out (by with_reducible (repeat (first | assumption | exact (by assumption : Below u5.heap.size u5 _ ∧ _).1 | apply below_alloc | apply pw_below_drewN | apply below_drew1)))) hcb (Kd.C_below HQC.out (by with_reducible (repeat (first | assumption | exact (by assumption : Below u5.heap.size u5 _ ∧ _).1 | apply below_alloc | apply pw_below_drewN | apply below_drew1)))) hcc NB.out NC.out RB.out RC.out).mono ?_; rintro e y2 ⟨v2, rfl, hR2, hB2⟩; obtain ⟨q2, s2, rfl, hk2, hC2⟩ := Kd.R_reads hR2; have hD2 := below_step (by with_reducible (repeat (first | assumption | exact (by assumption : Below u5.heap.size u5 _ ∧ _).1 | apply below_alloc | apply pw_below_drewN | apply below_drew1))) hB2; have hC1 := Kd.C_below (Kd.C_below hC1 (by with_reducible (repeat (first | assumption | exact Below.refl _ _ | apply below_alloc | apply pw_below_drewN | apply below_drew1)))) hB2)
                  | (go_at_call 15; with_reducible refine (add_some q1 q2 s1 s2 (refDiffL la lb) (refDiffL lb lc) (refDiffL la lc) _ (Kd.C_below hC1 (by with_reducible (repeat (first | assumption | exact Below.refl _ _ | apply below_alloc | apply pw_below_drewN | apply below_drew1)))) hk1 (Kd.C_below hC2 (by with_reducible (repeat (first | assumption | exact Below.refl _ _ | apply below_alloc | apply pw_below_drewN | apply below_drew1)))) hk2 (Nat.le_trans LAB.out (by decide)) (Nat.le_trans LBC.out (by decide)) I1.out HCH.out).mono ?_; rintro e y3 ⟨q3, s3, rfl, hk3, hC3, hB3⟩; have hD3 := below_step (by with_reducible (repeat (first | assumption | exact (by assumption : Below u5.heap.size u5 _ ∧ _).1 | apply below_alloc | apply pw_below_drewN | apply below_drew1))) hB3; clear hC1 hC2))
              have hD4 := hD3
              clear hD1 hD2 hD3 hD0 hB1 hB2 hB3
              go_wp2_with fail
              go_region_held3 (fun U : World => Below u5.heap.size u5 U ∧ (∀ i, U.cell? ⟨w.heap.size, i, none⟩ = (#[.int .i64 a0, .slice A la.length ca, .int .i64 a2, .int .i64 a3, .int .i64 a4, .int .i64 a5, .slice A6 ba.length cA, .int .i64 a7, .int .i64 a8, .int .i64 a9, .int .i64 a10, .int .i64 a11, .int .i64 a12] : Array Value)[i]?) ∧ (∀ i, U.cell? ⟨w.heap.size + 1, i, none⟩ = (#[.int .i64 b0, .slice B lb.length cb, .int .i64 b2, .int .i64 b3, .int .i64 b4, .int .i64 b5, .slice B6 bb.length cB, .int .i64 b7, .int .i64 b8, .int .i64 b9, .int .i64 b10, .int .i64 b11, .int .i64 b12] : Array Value)[i]?) ∧ (∀ i, U.cell? ⟨w.heap.size + 1 + 1, i, none⟩ = (#[.int .i64 c0, .slice C lc.length cc, .int .i64 c2, .int .i64 c3, .int .i64 c4, .int .i64 c5, .slice C6 bc.length cC, .int .i64 c7, .int .i64 c8, .int .i64 c9, .int .i64 c10, .int .i64 c11, .int .i64 c12] : Array Value)[i]?)) ((refine hS _ ?_; with_reducible (repeat (first | assumption | exact (by assumption : Below u5.heap.size u5 _ ∧ _).1 | apply below_alloc | apply pw_below_drewN | apply below_drew1))))
                (first
                  | (go_at_call 9; with_reducible refine (own_calls q3 s3 (refDiffL la lc) _ (Kd.C_below hC3 (by with_reducible (repeat (first | assumption | exact Below.refl _ _ | apply below_alloc | apply pw_below_drewN | apply below_drew1)))) hk3 (Nat.le_trans LAC.out (by decide))).mono ?_; rintro e y4 ⟨v4, rfl, hR4, hB4⟩; obtain ⟨q4, s4, rfl, hk4, hC4⟩ := Kd.R_reads hR4; rw [List.length_map] at hk4 hC4; have hD5 := below_step (by with_reducible (repeat (first | assumption | exact (by assumption : Below u5.heap.size u5 _ ∧ _).1 | apply below_alloc | apply pw_below_drewN | apply below_drew1))) hB4; clear hC3)
                  | (go_at_call 10; with_reducible refine (diff_ref _ _ _ _ _ _ _ _ _ _ _ _ _ _ _ _ _ _ _ _ _ _ _ _ A C ca cc la lc _ (Kd.C_below HQA.out (by with_reducible (repeat (first | assumption | exact (by assumption : Below u5.heap.size u5 _ ∧ _).1 | apply below_alloc | apply pw_below_drewN | apply below_drew1)))) hca (Kd.C_below HQC.out (by with_reducible (repeat (first | assumption | exact (by assumption : Below u5.heap.size u5 _ ∧ _).1 | apply below_alloc | apply pw_below_drewN | apply below_drew1)))) hcc NA.out NC.out RA.out RC.out).mono ?_; rintro e y5 ⟨v5, rfl, hR5, hB5⟩; obtain ⟨q5, s5, rfl, hk5, hC5⟩ := Kd.R_reads hR5; have hD6 := below_step (by with_reducible (repeat (first | assumption | exact (by assumption : Below u5.heap.size u5 _ ∧ _).1 | apply below_alloc | apply pw_below_drewN | apply below_drew1))) hB5; have hC4 := Kd.C_below (Kd.C_below hC4 (by with_reducible (repeat (first | assumption | exact Below.refl _ _ | apply below_alloc | apply pw_below_drewN | apply below_drew1)))) hB5)
                  | (go_at_call 9; with_reducible refine (own_calls q5 s5 (refDiffL la lc) _ (Kd.C_below hC5 (by with_reducible (repeat (first | assumption | exact Below.refl _ _ | apply below_alloc | apply pw_below_drewN | apply below_drew1)))) hk5 (Nat.le_trans LAC.out (by decide))).mono ?_; rintro e y6 ⟨v6, rfl, hR6, hB6⟩; obtain ⟨q6, s6, rfl, hk6, hC6⟩ := Kd.R_reads hR6; rw [List.length_map] at hk6 hC6; have hD7 := below_step (by with_reducible (repeat (first | assumption | exact (by assumption : Below u5.heap.size u5 _ ∧ _).1 | apply below_alloc | apply pw_below_drewN | apply below_drew1))) hB6; have hC4 := Kd.C_below (Kd.C_below hC4 (by with_reducible (repeat (first | assumption | exact Below.refl _ _ | apply below_alloc | apply pw_below_drewN | apply below_drew1)))) hB6; clear hC5)
                  | (go_at_call 8; with_reducible refine (alike_n q4 q6 _ _ s4 s6 ((refDiffL la lc).map cv) ((refDiffL la lc).map cv) _ (Kd.C_below hC4 (by with_reducible (repeat (first | assumption | exact Below.refl _ _ | apply below_alloc | apply pw_below_drewN | apply below_drew1)))) hk4 (Kd.C_below hC6 (by with_reducible (repeat (first | assumption | exact Below.refl _ _ | apply below_alloc | apply pw_below_drewN | apply below_drew1)))) hk6 (Nat.le_trans LAC.out (by decide))).mono ?_; rintro e y7 ⟨rfl, n7, rfl⟩; rw [decide_eq_true rfl]; clear hC4 hC6)
                  | (go_at_call 10; with_reducible refine (diff_ref _ _ _ _ _ _ _ _ _ _ _ _ _ _ _ _ _ _ _ _ _ _ _ _ B B cb cb lb lb _ (Kd.C_below HQB.out (by with_reducible (repeat (first | assumption | exact (by assumption : Below u5.heap.size u5 _ ∧ _).1 | apply below_alloc | apply pw_below_drewN | apply below_drew1)))) hcb (Kd.C_below HQB.out (by with_reducible (repeat (first | assumption | exact (by assumption : Below u5.heap.size u5 _ ∧ _).1 | apply below_alloc | apply pw_below_drewN | apply below_drew1)))) hcb NB.out NB.out RB.out RB.out).mono ?_; rintro e y8 ⟨v8, rfl, hR8, hB8⟩; rw [HBB.out] at hR8; obtain ⟨q8, s8, rfl, hk8, hC8⟩ := Kd.R_reads hR8; have hD8 := below_step (by with_reducible (repeat (first | assumption | exact (by assumption : Below u5.heap.size u5 _ ∧ _).1 | apply below_alloc | apply pw_below_drewN | apply below_drew1))) hB8))
              have hD9 := hD8
              clear hD5 hD6 hD7 hD8 hB4 hB5 hB6 hB8 hD4 hC8
              go_wp2_with fail
              go_region_held3 (fun U : World => Below u5.heap.size u5 U ∧ (∀ i, U.cell? ⟨w.heap.size, i, none⟩ = (#[.int .i64 a0, .slice A la.length ca, .int .i64 a2, .int .i64 a3, .int .i64 a4, .int .i64 a5, .slice A6 ba.length cA, .int .i64 a7, .int .i64 a8, .int .i64 a9, .int .i64 a10, .int .i64 a11, .int .i64 a12] : Array Value)[i]?) ∧ (∀ i, U.cell? ⟨w.heap.size + 1, i, none⟩ = (#[.int .i64 b0, .slice B lb.length cb, .int .i64 b2, .int .i64 b3, .int .i64 b4, .int .i64 b5, .slice B6 bb.length cB, .int .i64 b7, .int .i64 b8, .int .i64 b9, .int .i64 b10, .int .i64 b11, .int .i64 b12] : Array Value)[i]?) ∧ (∀ i, U.cell? ⟨w.heap.size + 1 + 1, i, none⟩ = (#[.int .i64 c0, .slice C lc.length cc, .int .i64 c2, .int .i64 c3, .int .i64 c4, .int .i64 c5, .slice C6 bc.length cC, .int .i64 c7, .int .i64 c8, .int .i64 c9, .int .i64 c10, .int .i64 c11, .int .i64 c12] : Array Value)[i]?)) ((refine hS _ ?_; with_reducible (repeat (first | assumption | exact (by assumption : Below u5.heap.size u5 _ ∧ _).1 | apply below_alloc | apply pw_below_drewN | apply below_drew1))))
                (first
                  | (go_at_call 10; with_reducible refine (diff_ref _ _ _ _ _ _ _ _ _ _ _ _ _ _ _ _ _ _ _ _ _ _ _ _ A B ca cb la lb _ (Kd.C_below HQA.out (by with_reducible (repeat (first | assumption | exact (by assumption : Below u5.heap.size u5 _ ∧ _).1 | apply below_alloc | apply pw_below_drewN | apply below_drew1)))) hca (Kd.C_below HQB.out (by with_reducible (repeat (first | assumption | exact (by assumption : Below u5.heap.size u5 _ ∧ _).1 | apply below_alloc | apply pw_below_drewN | apply below_drew1)))) hcb NA.out NB.out RA.out RB.out).mono ?_; rintro e y1 ⟨v1, rfl, hR1, hB1⟩; obtain ⟨q1, s1, rfl, hk1, hC1⟩ := Kd.R_reads hR1; have hD1 := below_step (by with_reducible (repeat (first | assumption | exact (by assumption : Below u5.heap.size u5 _ ∧ _).1 | apply below_alloc | apply pw_below_drewN | apply below_drew1))) hB1)
                  | (go_at_call 10; with_reducible refine (diff_ref _ _ _ _ _ _ _ _ _ _ _ _ _ _ _ _ _ _ _ _ _ _ _ _ B A cb ca lb la _ (Kd.C_below HQB.out (by with_reducible (repeat (first | assumption | exact (by assumption : Below u5.heap.size u5 _ ∧ _).1 | apply below_alloc | apply pw_below_drewN | apply below_drew1)))) hcb (Kd.C_below HQA.out (by with_reducible (repeat (first | assumption | exact (by assumption : Below u5.heap.size u5 _ ∧ _).1 | apply below_alloc | apply pw_below_drewN | apply below_drew1)))) hca NB.out NA.out RB.out RA.out).mono ?_; rintro e y2 ⟨v2, rfl, hR2, hB2⟩; obtain ⟨q2, s2, rfl, hk2, hC2⟩ := Kd.R_reads hR2; have hD2 := below_step (by with_reducible (repeat (first | assumption | exact (by assumption : Below u5.heap.size u5 _ ∧ _).1 | apply below_alloc | apply pw_below_drewN | apply below_drew1))) hB2; have hC1 := Kd.C_below (Kd.C_below hC1 (by with_reducible (repeat (first | assumption | exact Below.refl _ _ | apply below_alloc | apply pw_below_drewN | apply below_drew1)))) hB2)
                  | (go_at_call 15; with_reducible refine (add_some q1 q2 s1 s2 (refDiffL la lb) (refDiffL lb la) [] _ (Kd.C_below hC1 (by with_reducible (repeat (first | assumption | exact Below.refl _ _ | apply below_alloc | apply pw_below_drewN | apply below_drew1)))) hk1 (Kd.C_below hC2 (by with_reducible (repeat (first | assumption | exact Below.refl _ _ | apply below_alloc | apply pw_below_drewN | apply below_drew1)))) hk2 (Nat.le_trans LAB.out (by decide)) (Nat.le_trans LBA.out (by decide)) I2.out HCH2.out).mono ?_; rintro e y3 ⟨q3, s3, rfl, hk3, hC3, hB3⟩; have hD3 := below_step (by with_reducible (repeat (first | assumption | exact (by assumption : Below u5.heap.size u5 _ ∧ _).1 | apply below_alloc | apply pw_below_drewN | apply below_drew1))) hB3; clear hC1 hC2))
              have hD10 := hD3
              clear hD1 hD2 hD3 hB1 hB2 hB3 hC3 hD9
              go_wp2_with fail
              refine (wakes_calls _).mono ?_
              rintro e z ⟨rfl, hZ⟩
              have HF := Lib.hid (below_step HB0.out (below_step HD6.out (below_step hD10 hZ)))
              clear hZ hD10
              go_wp2_with fail
              go_ret
              exact ⟨rfl, HF.out⟩
end Go.Proofs.Ytbgcmhakllodeaa
