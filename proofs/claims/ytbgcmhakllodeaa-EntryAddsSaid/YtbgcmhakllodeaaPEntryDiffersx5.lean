-- PRINTED BY print.sh 35421559b90ae4d0a3588c463048766b98c2df88dd9212a6774a882060cdf62d: not written by this session
import Derived.Test.YtbgcmhakllodeaaPEntryDiffersx0
import Derived.Test.YtbgcmhakllodeaaPEntryDiffersx4
namespace Go.Proofs.Ytbgcmhakllodeaa.PEntryDiffers
open Go.RowKit Go.Proofs.YtbgcmhakllodeaaW.PrintWords Go.Proofs.YtbgcmhakllodeaaW.PrintLast Go.Proofs.YtbgcmhakllodeaaW.PrintMore
attribute [local go_sem] max2_int min2_int max_two min_two max_three min_three max_four min_four   -- for this text's walks alone
set_option linter.unusedVariables false
set_option linter.unusedSimpArgs false

/-! ### annuitykeep_CopyState: function 11 -/
def annuitykeep_CopyState.f (k : Nat) (a0_0 : Int) (l0_1 : List (S54)) (a0_2 : Int) (a0_3 : Int) (a0_4 : Int) (a0_5 : Int) (l0_6 : List (S52)) (a0_7 : Int) (a0_8 : Int) (a0_9 : Int) (a0_10 : Int) (a0_11 : Int) (a0_12 : Int) : Option (Int × (List (S54)) × Int × Int × Int × Int × (List (S52)) × Int × Int × Int × Int × Int × Int) := (annuitykeep_CopyLoans.f l0_1).bind fun t142 => ((annuitykeep_CopyBills.f k l0_6).bind fun t145 => (some (a0_0, t142, a0_2, a0_3, a0_4, a0_5, t145, a0_7, a0_8, a0_9, a0_10, a0_11, a0_12)))
theorem annuitykeep_CopyState.mono : ∀ a0 a1 a2 a3 a4 a5 a6 a7 a8 a9 a10 a11 a12 k, LeO (annuitykeep_CopyState.f k a0 a1 a2 a3 a4 a5 a6 a7 a8 a9 a10 a11 a12) (annuitykeep_CopyState.f (k + 1) a0 a1 a2 a3 a4 a5 a6 a7 a8 a9 a10 a11 a12) := by
  intro a0 a1 a2 a3 a4 a5 a6 a7 a8 a9 a10 a11 a12 k
  unfold annuitykeep_CopyState.f
  repeat' first
      | (with_reducible exact annuitykeep_CopyBills.mono _ _)
      | (with_reducible exact LeO.refl _)
      | (with_reducible exact LeO.none _)
      | (with_reducible refine LeO.ite ?_ ?_)
      | (with_reducible refine LeO.bind ?_ (fun _ => ?_))
      | exact annuitykeep_CopyBills.mono _ _
      | exact LeO.none _
      | refine LeO.ite ?_ ?_
      | refine LeO.bind ?_ (fun _ => ?_)
def annuitykeep_CopyState.T1 : Bool × List (List Nat × List Nat) := (true, [([], []), ([0], [0]), ([1], [1]), ([], []), ([3], [3]), ([4, 2], [4]), ([0, 1, 2, 3, 4], []), ([6, 2, 5, 0, 1, 2, 3, 4], [2, 6]), ([0, 1, 2, 3, 4, 5, 6, 7], []), ([8, 5, 7, 0, 1, 2, 3, 4, 5, 6, 7], [5, 8])])
def annuitykeep_CopyState.B1 : List Nat := [0, 1, 3, 0, 8, 31, 31, 127, 255, 511]
theorem annuitykeep_CopyState.tab1 : rtab .any (opsOf Try.f11 1) = annuitykeep_CopyState.T1 := by kernel_rfl
theorem annuitykeep_CopyState.bits1 : waitsOk annuitykeep_CopyState.T1.2 annuitykeep_CopyState.B1 = true := by kernel_rfl
set_option maxHeartbeats 8000000 in
set_option maxRecDepth 100000 in
theorem annuitykeep_CopyState.calls (k : Nat) (a0_0 : Int) (A0_1 : Option Addr) (c0_1 : Nat) (l0_1 : List (S54)) (a0_2 : Int) (a0_3 : Int) (a0_4 : Int) (a0_5 : Int) (A0_6 : Option Addr) (c0_6 : Nat) (l0_6 : List (S52)) (a0_7 : Int) (a0_8 : Int) (a0_9 : Int) (a0_10 : Int) (a0_11 : Int) (a0_12 : Int) (r1 : Int) (r2 : List (S54)) (r3 : Int) (r4 : Int) (r5 : Int) (r6 : Int) (r7 : List (S52)) (r8 : Int) (r9 : Int) (r10 : Int) (r11 : Int) (r12 : Int) (r13 : Int) (w : World) (hr0_1 : Kd.C k54 w A0_1 l0_1.length l0_1) (hc0_1 : l0_1.length ≤ c0_1) (hr0_6 : Kd.C k52 w A0_6 l0_6.length l0_6) (hc0_6 : l0_6.length ≤ c0_6) (h : annuitykeep_CopyState.f k a0_0 l0_1 a0_2 a0_3 a0_4 a0_5 l0_6 a0_7 a0_8 a0_9 a0_10 a0_11 a0_12 = some (r1, r2, r3, r4, r5, r6, r7, r8, r9, r10, r11, r12, r13)) :
    Calls Try.prog 11 #[.agg #[.int .i64 a0_0, .slice A0_1 l0_1.length c0_1, .int .i64 a0_2, .int .i64 a0_3, .int .i64 a0_4, .int .i64 a0_5, .slice A0_6 l0_6.length c0_6, .int .i64 a0_7, .int .i64 a0_8, .int .i64 a0_9, .int .i64 a0_10, .int .i64 a0_11, .int .i64 a0_12]] w fun e w' => ∃ v1_ v6_ : Value, e = .returned (.agg #[.int .i64 r1, v1_, .int .i64 r3, .int .i64 r4, .int .i64 r5, .int .i64 r6, v6_, .int .i64 r8, .int .i64 r9, .int .i64 r10, .int .i64 r11, .int .i64 r12, .int .i64 r13]) ∧ Kd.R k54 54 w' w.heap.size (fun _ => True) v1_ r2 ∧ Kd.S k52 52 w' w.heap.size (fun _ => True) v6_ r7 ∧ Below w.heap.size w w' := by
  have hu27 := Try.underlying27
  have HR0_1 := Aside0.mk hr0_1
  have HC0_1 := Aside0.mk hc0_1
  clear hr0_1 hc0_1
  have HR0_6 := Aside0.mk hr0_6
  have HC0_6 := Aside0.mk hc0_6
  clear hr0_6 hc0_6
  have HB := Aside0.mk (Below.refl w.heap.size w)
  have H : ((annuitykeep_CopyLoans.f l0_1).bind fun t142 => ((annuitykeep_CopyBills.f k l0_6).bind fun t145 => (some (a0_0, t142, a0_2, a0_3, a0_4, a0_5, t145, a0_7, a0_8, a0_9, a0_10, a0_11, a0_12)))) = some (r1, r2, r3, r4, r5, r6, r7, r8, r9, r10, r11, r12, r13) := h
  clear h
  replace H := Option.bind_eq_some_iff.mp H
  obtain ⟨t142, A20, H⟩ := H
  replace H : ((annuitykeep_CopyBills.f k l0_6).bind fun t145 => (some (a0_0, t142, a0_2, a0_3, a0_4, a0_5, t145, a0_7, a0_8, a0_9, a0_10, a0_11, a0_12))) = some (r1, r2, r3, r4, r5, r6, r7, r8, r9, r10, r11, r12, r13) := H
  have A2 := Aside0.mk A20
  clear A20
  replace H := Option.bind_eq_some_iff.mp H
  obtain ⟨t145, A30, H⟩ := H
  replace H : (some (a0_0, t142, a0_2, a0_3, a0_4, a0_5, t145, a0_7, a0_8, a0_9, a0_10, a0_11, a0_12)) = some (r1, r2, r3, r4, r5, r6, r7, r8, r9, r10, r11, r12, r13) := H
  have A3 := Aside0.mk A30
  clear A30
  simp only [Option.some.injEq, Prod.mk.injEq] at H
  obtain ⟨rfl, rfl, rfl, rfl, rfl, rfl, rfl, rfl, rfl, rfl, rfl, rfl, rfl⟩ := H
  go_enter Try.func11, Try.ntmps11
  try go_wp2_with (first | ((with_reducible refine gate_dst (N := 1) rfl ?_); refine box_event ?hg (N := 1) ?hd (cs := #[.int .i64 a0_0, .slice A0_1 l0_1.length c0_1, .int .i64 a0_2, .int .i64 a0_3, .int .i64 a0_4, .int .i64 a0_5, .slice A0_6 l0_6.length c0_6, .int .i64 a0_7, .int .i64 a0_8, .int .i64 a0_9, .int .i64 a0_10, .int .i64 a0_11, .int .i64 a0_12]) (t := 27) ?hr ?_; (case hd => rfl); (case hg => rfl); (case hr => first | (go_simp; done) | (go_simp; rfl)); intro gb140 hg w4 hbox hb; have n0_ := Aside0.mk (below_step (by repeat (first | (with_reducible first | exact HB.out | apply below_alloc | apply pw_below_drewN | apply below_drew1) | exact HB.out)) hb); have n1_ := Aside0.mk (hbox); have n2_ := Aside0.mk ((by rw [hg]; exact (below_size (by repeat (first | (with_reducible first | exact HB.out | apply below_alloc | apply pw_below_drewN | apply below_drew1) | exact HB.out))) : w.heap.size ≤ gb140)); have n3_ := Aside0.mk ((by rw [hg]; exact (below_size (by repeat (first | (with_reducible first | exact HB.out | apply below_alloc | apply pw_below_drewN | apply below_drew1) | exact HB.out))) : w.heap.size ≤ gb140)); clear HB; have HB := n0_; have BK140 := n1_; have GW140 := n2_; have GE140 := n3_; clear n0_ n1_ n2_ n3_; clear hb hbox hg) | ((with_reducible refine gate_dst (N := 2) rfl ?_); refine box_event ?hg (N := 2) ?hd (cs := #[.int .i64 0, .slice none 0 0, .int .i64 0, .int .i64 0, .int .i64 0, .int .i64 0, .slice none 0 0, .int .i64 0, .int .i64 0, .int .i64 0, .int .i64 0, .int .i64 0, .int .i64 0]) (t := 27) ?hr ?_; (case hd => rfl); (case hg => rfl); (case hr => first | (go_simp; done) | (go_simp; rfl)); intro gb141 hg w5 hbox hb; have n0_ := Aside0.mk (blk_below (g := gb140) (o := .cells #[.int .i64 a0_0, .slice A0_1 l0_1.length c0_1, .int .i64 a0_2, .int .i64 a0_3, .int .i64 a0_4, .int .i64 a0_5, .slice A0_6 l0_6.length c0_6, .int .i64 a0_7, .int .i64 a0_8, .int .i64 a0_9, .int .i64 a0_10, .int .i64 a0_11, .int .i64 a0_12] 27 (0, 0)) (by (with_reducible repeat (first | refine blk_drewN ?_ _ | refine blk_drew ?_ | refine blk_alloc ?_ _)); exact BK140.out) hb); have n1_ := Aside0.mk (below_step (by repeat (first | (with_reducible first | exact HB.out | apply below_alloc | apply pw_below_drewN | apply below_drew1 | refine below_set ?_ GE140.out) | exact HB.out)) hb); have n2_ := Aside0.mk (hbox); have n3_ := Aside0.mk ((by rw [hg]; exact (below_size (by repeat (first | (with_reducible first | exact HB.out | apply below_alloc | apply pw_below_drewN | apply below_drew1 | refine below_set ?_ GE140.out) | exact HB.out))) : w.heap.size ≤ gb141)); have n4_ := Aside0.mk ((by rw [hg]; exact (below_size (by repeat (first | (with_reducible first | exact HB.out | apply below_alloc | apply pw_below_drewN | apply below_drew1 | refine below_set ?_ GE140.out) | exact HB.out))) : w.heap.size ≤ gb141)); have n5_ := Aside0.mk ((by rw [hg]; exact Nat.ne_of_lt (blk_lt (g := gb140) (o := .cells #[.int .i64 a0_0, .slice A0_1 l0_1.length c0_1, .int .i64 a0_2, .int .i64 a0_3, .int .i64 a0_4, .int .i64 a0_5, .slice A0_6 l0_6.length c0_6, .int .i64 a0_7, .int .i64 a0_8, .int .i64 a0_9, .int .i64 a0_10, .int .i64 a0_11, .int .i64 a0_12] 27 (0, 0)) (by (with_reducible repeat (first | refine blk_drewN ?_ _ | refine blk_drew ?_ | refine blk_alloc ?_ _)); exact BK140.out)) : gb140 ≠ gb141)); have n6_ := Aside0.mk ((by rw [hg]; exact Nat.ne_of_gt (blk_lt (g := gb140) (o := .cells #[.int .i64 a0_0, .slice A0_1 l0_1.length c0_1, .int .i64 a0_2, .int .i64 a0_3, .int .i64 a0_4, .int .i64 a0_5, .slice A0_6 l0_6.length c0_6, .int .i64 a0_7, .int .i64 a0_8, .int .i64 a0_9, .int .i64 a0_10, .int .i64 a0_11, .int .i64 a0_12] 27 (0, 0)) (by (with_reducible repeat (first | refine blk_drewN ?_ _ | refine blk_drew ?_ | refine blk_alloc ?_ _)); exact BK140.out)) : gb141 ≠ gb140)); clear BK140; clear HB; have BK140 := n0_; have HB := n1_; have BK141 := n2_; have GW141 := n3_; have GE141 := n4_; have NB140_141 := n5_; have NB141_140 := n6_; clear n0_ n1_ n2_ n3_ n4_ n5_ n6_; clear hb hbox hg))
  have n0_ := Aside0.mk (blk_drew BK140.out)
  have n1_ := Aside0.mk (blk_drew BK141.out)
  have n2_ := Aside0.mk (below_drew1 HB.out)
  clear BK140
  clear BK141
  clear HB
  have BK140 := n0_
  have BK141 := n1_
  have HB := n2_
  clear n0_ n1_ n2_
  refine start_ (n := 10) (S := fun w' => w'.cell? ⟨gb140, 0, none⟩ = some (.int .i64 a0_0) ∧ w'.cell? ⟨gb140, 1, none⟩ = some (.slice A0_1 l0_1.length c0_1) ∧ w'.cell? ⟨gb140, 2, none⟩ = some (.int .i64 a0_2) ∧ w'.cell? ⟨gb140, 3, none⟩ = some (.int .i64 a0_3) ∧ w'.cell? ⟨gb140, 4, none⟩ = some (.int .i64 a0_4) ∧ w'.cell? ⟨gb140, 5, none⟩ = some (.int .i64 a0_5) ∧ w'.cell? ⟨gb140, 6, none⟩ = some (.slice A0_6 l0_6.length c0_6) ∧ w'.cell? ⟨gb140, 7, none⟩ = some (.int .i64 a0_7) ∧ w'.cell? ⟨gb140, 8, none⟩ = some (.int .i64 a0_8) ∧ w'.cell? ⟨gb140, 9, none⟩ = some (.int .i64 a0_9) ∧ w'.cell? ⟨gb140, 10, none⟩ = some (.int .i64 a0_10) ∧ w'.cell? ⟨gb140, 11, none⟩ = some (.int .i64 a0_11) ∧ w'.cell? ⟨gb140, 12, none⟩ = some (.int .i64 a0_12)) (ds := [7, 9]) #[false, false, false, false, false, false, false, false, false, false] (by kernel_rfl) rfl rfl ⟨(blk_cell BK140.out 0).trans rfl, (blk_cell BK140.out 1).trans rfl, (blk_cell BK140.out 2).trans rfl, (blk_cell BK140.out 3).trans rfl, (blk_cell BK140.out 4).trans rfl, (blk_cell BK140.out 5).trans rfl, (blk_cell BK140.out 6).trans rfl, (blk_cell BK140.out 7).trans rfl, (blk_cell BK140.out 8).trans rfl, (blk_cell BK140.out 9).trans rfl, (blk_cell BK140.out 10).trans rfl, (blk_cell BK140.out 11).trans rfl, (blk_cell BK140.out 12).trans rfl⟩ (fun hHeld => ?_); refine with_tabW annuitykeep_CopyState.tab1 annuitykeep_CopyState.bits1 (fun HT_ HW_ => ?_)
  generalize w5.drew = w6 at BK140 BK141 HB hHeld ⊢
  refine pure_ (i := 0) (N := some 3) (v := ?_) (a' := ?_) #[true, false, false, false, false, false, false, false, false, false] rfl rfl (any_of HT_.out (by kernel_rfl)) (fun _ _ _ h => h) (Or.inl ⟨by rfl, ?_⟩) ?_ ?_
  rotate_left
  · intro w'
    go_simp
    with_reducible rfl
  rotate_left
  · simp only [Act.put, List.setIfInBounds_toArray, List.set_cons_zero, List.set_cons_succ, i64_w, i32_w]
    rfl
  refine pure_ (i := 3) (N := some 6) (v := ?_) (a' := ?_) #[true, false, false, true, false, false, false, false, false, false] rfl rfl (any_of HT_.out (by kernel_rfl)) (fun _ _ _ h => h) (Or.inl ⟨by rfl, ?_⟩) ?_ ?_
  rotate_left
  · intro w'
    go_simp
    with_reducible rfl
  rotate_left
  · simp only [Act.put, List.setIfInBounds_toArray, List.set_cons_zero, List.set_cons_succ, i64_w, i32_w]
    rfl
  refine take_ (i := 1) (N := some 4) (v := ?_) (a' := ?_) #[true, true, false, true, false, false, false, false, false, false] rfl rfl (take_ofW HT_.out HW_.out (by kernel_rfl)) (fun _ _ _ h => h) (Or.inl ⟨by rfl, ?_⟩) hHeld ?_ ?_
  rotate_left
  · rintro w' ⟨s0, s1, s2, s3, s4, s5, s6, s7, s8, s9, s10, s11, s12⟩
    go_simp
    with_reducible rfl
  rotate_left
  · simp only [Act.put, List.setIfInBounds_toArray, List.set_cons_zero, List.set_cons_succ, i64_w, i32_w]
    rfl
  refine take_ (i := 4) (N := some 7) (v := ?_) (a' := ?_) #[true, true, false, true, true, false, false, false, false, false] rfl rfl (take_ofW HT_.out HW_.out (by kernel_rfl)) (fun _ _ _ h => h) (Or.inl ⟨by rfl, ?_⟩) hHeld ?_ ?_
  rotate_left
  · rintro w' ⟨s0, s1, s2, s3, s4, s5, s6, s7, s8, s9, s10, s11, s12⟩
    go_simp
    with_reducible rfl
  rotate_left
  · simp only [Act.put, List.setIfInBounds_toArray, List.set_cons_zero, List.set_cons_succ, i64_w, i32_w]
    rfl
  refine one_ (i := 2) (N := some 5) #[true, true, true, true, true, false, false, false, false, false] rfl rfl (one_of HT_.out (by kernel_rfl)) (by decide) (fun K hK => ?_)
  refine goes_ Try.func23 (by kernel_rfl) rfl #[.slice A0_1 l0_1.length c0_1] (by rfl) rfl rfl (by (try simp only [List.map_toArray, List.map_cons, List.map_nil]); first | done | rfl | (simp only [List.length_drop, List.length_take]; rfl)) ?_
  with_reducible refine (annuitykeep_CopyLoans.calls _ _ l0_1 t142 _ ?side1 ?side2 A2.out).mono ?_
  (case side1 => repeat (first | exact (Kd.C_below HR0_1.out HB.out) | (with_reducible refine Kd.C_alloc ?_ _) | (with_reducible refine Kd.C_drewN ?_ _) | (with_reducible refine Kd.C_drew ?_)))
  (case side2 => exact HC0_1.out)
  rintro e w7 ⟨v143, rfl, ho0, hb⟩
  refine ⟨_, rfl, ?_⟩
  have n0_ := Aside0.mk (Kd.R_lower ho0 (below_size (by repeat (first | (with_reducible first | exact HB.out | apply below_alloc | apply pw_below_drewN | apply below_drew1 | refine below_set ?_ GE140.out | refine below_set ?_ GE141.out) | exact HB.out))))
  have n1_ := Aside0.mk (blk_below (g := gb140) (o := .cells #[.int .i64 a0_0, .slice A0_1 l0_1.length c0_1, .int .i64 a0_2, .int .i64 a0_3, .int .i64 a0_4, .int .i64 a0_5, .slice A0_6 l0_6.length c0_6, .int .i64 a0_7, .int .i64 a0_8, .int .i64 a0_9, .int .i64 a0_10, .int .i64 a0_11, .int .i64 a0_12] 27 (0, 0)) (by (with_reducible repeat (first | refine blk_drewN ?_ _ | refine blk_drew ?_ | refine blk_alloc ?_ _)); exact BK140.out) hb)
  have n2_ := Aside0.mk (blk_below (g := gb141) (o := .cells #[.int .i64 0, .slice none 0 0, .int .i64 0, .int .i64 0, .int .i64 0, .int .i64 0, .slice none 0 0, .int .i64 0, .int .i64 0, .int .i64 0, .int .i64 0, .int .i64 0, .int .i64 0] 27 (0, 0)) (by (with_reducible repeat (first | refine blk_drewN ?_ _ | refine blk_drew ?_ | refine blk_alloc ?_ _)); exact BK141.out) hb)
  have n3_ := Aside0.mk (below_step (by repeat (first | (with_reducible first | exact HB.out | apply below_alloc | apply pw_below_drewN | apply below_drew1 | refine below_set ?_ GE140.out | refine below_set ?_ GE141.out) | exact HB.out)) hb)
  clear BK140
  clear BK141
  clear HB
  have HO144 := n0_
  have BK140 := n1_
  have BK141 := n2_
  have HB := n3_
  clear n0_ n1_ n2_ n3_
  (try clear hb)
  (try clear hb2)
  (try clear hk)
  (try clear hi)
  (try clear ho0)
  refine hK.out _ _ ⟨(blk_cell BK140.out 0).trans rfl, (blk_cell BK140.out 1).trans rfl, (blk_cell BK140.out 2).trans rfl, (blk_cell BK140.out 3).trans rfl, (blk_cell BK140.out 4).trans rfl, (blk_cell BK140.out 5).trans rfl, (blk_cell BK140.out 6).trans rfl, (blk_cell BK140.out 7).trans rfl, (blk_cell BK140.out 8).trans rfl, (blk_cell BK140.out 9).trans rfl, (blk_cell BK140.out 10).trans rfl, (blk_cell BK140.out 11).trans rfl, (blk_cell BK140.out 12).trans rfl⟩ (fun hHeld => ?_)
  clear hK K
  refine norm_ (a' := ?_) ?_ ?_
  rotate_left
  · show Act.put _ (some 5) _ = _
    simp only [Act.put, List.setIfInBounds_toArray, List.set_cons_zero, List.set_cons_succ, i64_w, i32_w]
    rfl
  refine pure_ (i := 6) (N := some 9) (v := ?_) (a' := ?_) #[true, true, true, true, true, false, true, false, false, false] rfl rfl (any_of HT_.out (by kernel_rfl)) (fun _ _ _ h => h) (Or.inl ⟨by rfl, ?_⟩) ?_ ?_
  rotate_left
  · intro w'
    go_simp
    with_reducible rfl
  rotate_left
  · simp only [Act.put, List.setIfInBounds_toArray, List.set_cons_zero, List.set_cons_succ, i64_w, i32_w]
    rfl
  refine one_ (i := 5) (N := some 8) #[true, true, true, true, true, true, true, false, false, false] rfl rfl (one_of HT_.out (by kernel_rfl)) (by decide) (fun K hK => ?_)
  refine goes_ Try.func24 (by kernel_rfl) rfl #[.slice A0_6 l0_6.length c0_6] (by rfl) rfl rfl (by (try simp only [List.map_toArray, List.map_cons, List.map_nil]); first | done | rfl | (simp only [List.length_drop, List.length_take]; rfl)) ?_
  with_reducible refine (annuitykeep_CopyBills.calls k _ _ l0_6 t145 _ ?side1 ?side2 A3.out).mono ?_
  (case side1 => repeat (first | exact (Kd.C_below HR0_6.out HB.out) | (with_reducible refine Kd.C_alloc ?_ _) | (with_reducible refine Kd.C_drewN ?_ _) | (with_reducible refine Kd.C_drew ?_)))
  (case side2 => exact HC0_6.out)
  rintro e w8 ⟨v146, rfl, ho0, hb⟩
  refine ⟨_, rfl, ?_⟩
  have n0_ := Aside0.mk (Kd.R_below (by (with_reducible repeat (first | apply Kd.R_alloc | apply Kd.R_drewN | apply Kd.R_drew)); exact HO144.out) hb)
  have n1_ := Aside0.mk (Kd.S_lower ho0 (below_size (by repeat (first | (with_reducible first | exact HB.out | apply below_alloc | apply pw_below_drewN | apply below_drew1 | refine below_set ?_ GE140.out | refine below_set ?_ GE141.out) | exact HB.out))))
  have n2_ := Aside0.mk (blk_below (g := gb140) (o := .cells #[.int .i64 a0_0, .slice A0_1 l0_1.length c0_1, .int .i64 a0_2, .int .i64 a0_3, .int .i64 a0_4, .int .i64 a0_5, .slice A0_6 l0_6.length c0_6, .int .i64 a0_7, .int .i64 a0_8, .int .i64 a0_9, .int .i64 a0_10, .int .i64 a0_11, .int .i64 a0_12] 27 (0, 0)) (by (with_reducible repeat (first | refine blk_drewN ?_ _ | refine blk_drew ?_ | refine blk_alloc ?_ _)); exact BK140.out) hb)
  have n3_ := Aside0.mk (blk_below (g := gb141) (o := .cells #[.int .i64 0, .slice none 0 0, .int .i64 0, .int .i64 0, .int .i64 0, .int .i64 0, .slice none 0 0, .int .i64 0, .int .i64 0, .int .i64 0, .int .i64 0, .int .i64 0, .int .i64 0] 27 (0, 0)) (by (with_reducible repeat (first | refine blk_drewN ?_ _ | refine blk_drew ?_ | refine blk_alloc ?_ _)); exact BK141.out) hb)
  have n4_ := Aside0.mk (below_step (by repeat (first | (with_reducible first | exact HB.out | apply below_alloc | apply pw_below_drewN | apply below_drew1 | refine below_set ?_ GE140.out | refine below_set ?_ GE141.out) | exact HB.out)) hb)
  clear HO144
  clear BK140
  clear BK141
  clear HB
  have HO144 := n0_
  have HO147 := n1_
  have BK140 := n2_
  have BK141 := n3_
  have HB := n4_
  clear n0_ n1_ n2_ n3_ n4_
  (try clear hb)
  (try clear hb2)
  (try clear hk)
  (try clear hi)
  (try clear ho0)
  obtain ⟨Ao9, co9, eo9⟩ := Kd.R_slice HO144.out
  (first | subst eo9 | (injection eo9 with f1_ f2_ f3_; have f4_ := f1_.symm; have f5_ := f3_.symm; clear f1_ f2_ f3_; subst f4_; subst f5_))
  obtain ⟨Ao11, co11, eo11⟩ := Kd.S_slice HO147.out
  (first | subst eo11 | (injection eo11 with f1_ f2_ f3_; have f4_ := f1_.symm; have f5_ := f3_.symm; clear f1_ f2_ f3_; subst f4_; subst f5_))
  refine hK.out _ _ ⟨(blk_cell BK140.out 0).trans rfl, (blk_cell BK140.out 1).trans rfl, (blk_cell BK140.out 2).trans rfl, (blk_cell BK140.out 3).trans rfl, (blk_cell BK140.out 4).trans rfl, (blk_cell BK140.out 5).trans rfl, (blk_cell BK140.out 6).trans rfl, (blk_cell BK140.out 7).trans rfl, (blk_cell BK140.out 8).trans rfl, (blk_cell BK140.out 9).trans rfl, (blk_cell BK140.out 10).trans rfl, (blk_cell BK140.out 11).trans rfl, (blk_cell BK140.out 12).trans rfl⟩ (fun hHeld => ?_)
  clear hK K
  refine norm_ (a' := ?_) ?_ ?_
  rotate_left
  · show Act.put _ (some 8) _ = _
    simp only [Act.put, List.setIfInBounds_toArray, List.set_cons_zero, List.set_cons_succ, i64_w, i32_w]
    rfl
  refine last_ (i := 7) (N := none) #[true, true, true, true, true, true, true, true, false, false] rfl rfl (one_of HT_.out (by kernel_rfl)) (by decide) (fun K hK => ?_)
  have hs10 : w8.cell? ⟨gb140, 1, none⟩ = some (.slice A0_1 l0_1.length c0_1) := (blk_cell BK140.out 1).trans rfl
  have hfs10 := blk_frozen BK140.out 1
  have hns10_1 := NB141_140.out
  have hms10_1 := NB140_141.out
  refine skip_ (w1 := ?_) (by rfl) rfl ?_ ?_
  rotate_left
  · go_simp
    rfl
  refine hK.out _ _ ?_
  clear hK K
  refine pure_ (i := 8) (N := some 10) (v := ?_) (a' := ?_) #[true, true, true, true, true, true, true, true, true, false] rfl rfl (any_of HT_.out (by kernel_rfl)) (fun _ _ _ h => h) (Or.inl ⟨by rfl, ?_⟩) ?_ ?_
  rotate_left
  · intro w'
    go_simp
    with_reducible rfl
  rotate_left
  · simp only [Act.put, List.setIfInBounds_toArray, List.set_cons_zero, List.set_cons_succ, i64_w, i32_w]
    rfl
  refine last_ (i := 9) (N := none) #[true, true, true, true, true, true, true, true, true, true] rfl rfl (one_of HT_.out (by kernel_rfl)) (by decide) (fun K hK => ?_)
  have hs12 : w8.cell? ⟨gb140, 6, none⟩ = some (.slice A0_6 l0_6.length c0_6) := (blk_cell BK140.out 6).trans rfl
  have hfs12 := blk_frozen BK140.out 6
  have hns12_1 := NB141_140.out
  have hms12_1 := NB140_141.out
  refine skip_ (w1 := ?_) (by rfl) rfl ?_ ?_
  rotate_left
  · go_simp
    rfl
  refine hK.out _ _ ?_
  clear hK K
  refine done_ (done_of HT_.out (by kernel_rfl)) ?_
  have hnb13 := NB140_141.out
  have hnc13 := NB141_140.out
  have hcz14_0 : w8.cell? ⟨gb140, 0, none⟩ = some (.int .i64 a0_0) := (blk_cell BK140.out 0).trans rfl
  have hcz14_1 : w8.cell? ⟨gb140, 1, none⟩ = some (.slice A0_1 l0_1.length c0_1) := (blk_cell BK140.out 1).trans rfl
  have hcz14_2 : w8.cell? ⟨gb140, 2, none⟩ = some (.int .i64 a0_2) := (blk_cell BK140.out 2).trans rfl
  have hcz14_3 : w8.cell? ⟨gb140, 3, none⟩ = some (.int .i64 a0_3) := (blk_cell BK140.out 3).trans rfl
  have hcz14_4 : w8.cell? ⟨gb140, 4, none⟩ = some (.int .i64 a0_4) := (blk_cell BK140.out 4).trans rfl
  have hcz14_5 : w8.cell? ⟨gb140, 5, none⟩ = some (.int .i64 a0_5) := (blk_cell BK140.out 5).trans rfl
  have hcz14_6 : w8.cell? ⟨gb140, 6, none⟩ = some (.slice A0_6 l0_6.length c0_6) := (blk_cell BK140.out 6).trans rfl
  have hcz14_7 : w8.cell? ⟨gb140, 7, none⟩ = some (.int .i64 a0_7) := (blk_cell BK140.out 7).trans rfl
  have hcz14_8 : w8.cell? ⟨gb140, 8, none⟩ = some (.int .i64 a0_8) := (blk_cell BK140.out 8).trans rfl
  have hcz14_9 : w8.cell? ⟨gb140, 9, none⟩ = some (.int .i64 a0_9) := (blk_cell BK140.out 9).trans rfl
  have hcz14_10 : w8.cell? ⟨gb140, 10, none⟩ = some (.int .i64 a0_10) := (blk_cell BK140.out 10).trans rfl
  have hcz14_11 : w8.cell? ⟨gb140, 11, none⟩ = some (.int .i64 a0_11) := (blk_cell BK140.out 11).trans rfl
  have hcz14_12 : w8.cell? ⟨gb140, 12, none⟩ = some (.int .i64 a0_12) := (blk_cell BK140.out 12).trans rfl
  have hfz14_0 := blk_frozen BK140.out 0
  have hfz14_1 := blk_frozen BK140.out 1
  have hfz14_2 := blk_frozen BK140.out 2
  have hfz14_3 := blk_frozen BK140.out 3
  have hfz14_4 := blk_frozen BK140.out 4
  have hfz14_5 := blk_frozen BK140.out 5
  have hfz14_6 := blk_frozen BK140.out 6
  have hfz14_7 := blk_frozen BK140.out 7
  have hfz14_8 := blk_frozen BK140.out 8
  have hfz14_9 := blk_frozen BK140.out 9
  have hfz14_10 := blk_frozen BK140.out 10
  have hfz14_11 := blk_frozen BK140.out 11
  have hfz14_12 := blk_frozen BK140.out 12
  have hcz15_0 : w8.cell? ⟨gb141, 0, none⟩ = some (.int .i64 0) := (blk_cell BK141.out 0).trans rfl
  have hcz15_1 : w8.cell? ⟨gb141, 1, none⟩ = some (.slice none 0 0) := (blk_cell BK141.out 1).trans rfl
  have hcz15_2 : w8.cell? ⟨gb141, 2, none⟩ = some (.int .i64 0) := (blk_cell BK141.out 2).trans rfl
  have hcz15_3 : w8.cell? ⟨gb141, 3, none⟩ = some (.int .i64 0) := (blk_cell BK141.out 3).trans rfl
  have hcz15_4 : w8.cell? ⟨gb141, 4, none⟩ = some (.int .i64 0) := (blk_cell BK141.out 4).trans rfl
  have hcz15_5 : w8.cell? ⟨gb141, 5, none⟩ = some (.int .i64 0) := (blk_cell BK141.out 5).trans rfl
  have hcz15_6 : w8.cell? ⟨gb141, 6, none⟩ = some (.slice none 0 0) := (blk_cell BK141.out 6).trans rfl
  have hcz15_7 : w8.cell? ⟨gb141, 7, none⟩ = some (.int .i64 0) := (blk_cell BK141.out 7).trans rfl
  have hcz15_8 : w8.cell? ⟨gb141, 8, none⟩ = some (.int .i64 0) := (blk_cell BK141.out 8).trans rfl
  have hcz15_9 : w8.cell? ⟨gb141, 9, none⟩ = some (.int .i64 0) := (blk_cell BK141.out 9).trans rfl
  have hcz15_10 : w8.cell? ⟨gb141, 10, none⟩ = some (.int .i64 0) := (blk_cell BK141.out 10).trans rfl
  have hcz15_11 : w8.cell? ⟨gb141, 11, none⟩ = some (.int .i64 0) := (blk_cell BK141.out 11).trans rfl
  have hcz15_12 : w8.cell? ⟨gb141, 12, none⟩ = some (.int .i64 0) := (blk_cell BK141.out 12).trans rfl
  have hfz15_0 := blk_frozen BK141.out 0
  have hfz15_1 := blk_frozen BK141.out 1
  have hfz15_2 := blk_frozen BK141.out 2
  have hfz15_3 := blk_frozen BK141.out 3
  have hfz15_4 := blk_frozen BK141.out 4
  have hfz15_5 := blk_frozen BK141.out 5
  have hfz15_6 := blk_frozen BK141.out 6
  have hfz15_7 := blk_frozen BK141.out 7
  have hfz15_8 := blk_frozen BK141.out 8
  have hfz15_9 := blk_frozen BK141.out 9
  have hfz15_10 := blk_frozen BK141.out 10
  have hfz15_11 := blk_frozen BK141.out 11
  have hfz15_12 := blk_frozen BK141.out 12
  try go_wp2
  refine bodyPost_ret (results_cell_row rfl _ _ gb141 27 #[.int .i64 a0_0, .slice Ao9 t142.length co9, .int .i64 a0_2, .int .i64 a0_3, .int .i64 a0_4, .int .i64 a0_5, .slice Ao11 t145.length co11, .int .i64 a0_7, .int .i64 a0_8, .int .i64 a0_9, .int .i64 a0_10, .int .i64 a0_11, .int .i64 a0_12] (0, 0) _ rfl (by (with_reducible repeat (first | refine blk_drewN ?_ _ | refine blk_drew ?_ | refine blk_alloc ?_ _)); refine blk_put (cs := #[.int .i64 a0_0, .slice Ao9 t142.length co9, .int .i64 a0_2, .int .i64 a0_3, .int .i64 a0_4, .int .i64 a0_5, .slice Ao11 t145.length co11, .int .i64 a0_7, .int .i64 a0_8, .int .i64 a0_9, .int .i64 a0_10, .int .i64 a0_11, .int .i64 0]) ?_ 12 _ rfl; (with_reducible repeat (first | refine blk_drewN ?_ _ | refine blk_drew ?_ | refine blk_alloc ?_ _)); refine blk_put (cs := #[.int .i64 a0_0, .slice Ao9 t142.length co9, .int .i64 a0_2, .int .i64 a0_3, .int .i64 a0_4, .int .i64 a0_5, .slice Ao11 t145.length co11, .int .i64 a0_7, .int .i64 a0_8, .int .i64 a0_9, .int .i64 a0_10, .int .i64 0, .int .i64 0]) ?_ 11 _ rfl; (with_reducible repeat (first | refine blk_drewN ?_ _ | refine blk_drew ?_ | refine blk_alloc ?_ _)); refine blk_put (cs := #[.int .i64 a0_0, .slice Ao9 t142.length co9, .int .i64 a0_2, .int .i64 a0_3, .int .i64 a0_4, .int .i64 a0_5, .slice Ao11 t145.length co11, .int .i64 a0_7, .int .i64 a0_8, .int .i64 a0_9, .int .i64 0, .int .i64 0, .int .i64 0]) ?_ 10 _ rfl; (with_reducible repeat (first | refine blk_drewN ?_ _ | refine blk_drew ?_ | refine blk_alloc ?_ _)); refine blk_put (cs := #[.int .i64 a0_0, .slice Ao9 t142.length co9, .int .i64 a0_2, .int .i64 a0_3, .int .i64 a0_4, .int .i64 a0_5, .slice Ao11 t145.length co11, .int .i64 a0_7, .int .i64 a0_8, .int .i64 0, .int .i64 0, .int .i64 0, .int .i64 0]) ?_ 9 _ rfl; (with_reducible repeat (first | refine blk_drewN ?_ _ | refine blk_drew ?_ | refine blk_alloc ?_ _)); refine blk_put (cs := #[.int .i64 a0_0, .slice Ao9 t142.length co9, .int .i64 a0_2, .int .i64 a0_3, .int .i64 a0_4, .int .i64 a0_5, .slice Ao11 t145.length co11, .int .i64 a0_7, .int .i64 0, .int .i64 0, .int .i64 0, .int .i64 0, .int .i64 0]) ?_ 8 _ rfl; (with_reducible repeat (first | refine blk_drewN ?_ _ | refine blk_drew ?_ | refine blk_alloc ?_ _)); refine blk_put (cs := #[.int .i64 a0_0, .slice Ao9 t142.length co9, .int .i64 a0_2, .int .i64 a0_3, .int .i64 a0_4, .int .i64 a0_5, .slice Ao11 t145.length co11, .int .i64 0, .int .i64 0, .int .i64 0, .int .i64 0, .int .i64 0, .int .i64 0]) ?_ 7 _ rfl; (with_reducible repeat (first | refine blk_drewN ?_ _ | refine blk_drew ?_ | refine blk_alloc ?_ _)); refine blk_put (cs := #[.int .i64 a0_0, .slice Ao9 t142.length co9, .int .i64 a0_2, .int .i64 a0_3, .int .i64 a0_4, .int .i64 a0_5, .slice none 0 0, .int .i64 0, .int .i64 0, .int .i64 0, .int .i64 0, .int .i64 0, .int .i64 0]) ?_ 6 _ rfl; (with_reducible repeat (first | refine blk_drewN ?_ _ | refine blk_drew ?_ | refine blk_alloc ?_ _)); refine blk_put (cs := #[.int .i64 a0_0, .slice Ao9 t142.length co9, .int .i64 a0_2, .int .i64 a0_3, .int .i64 a0_4, .int .i64 0, .slice none 0 0, .int .i64 0, .int .i64 0, .int .i64 0, .int .i64 0, .int .i64 0, .int .i64 0]) ?_ 5 _ rfl; (with_reducible repeat (first | refine blk_drewN ?_ _ | refine blk_drew ?_ | refine blk_alloc ?_ _)); refine blk_put (cs := #[.int .i64 a0_0, .slice Ao9 t142.length co9, .int .i64 a0_2, .int .i64 a0_3, .int .i64 0, .int .i64 0, .slice none 0 0, .int .i64 0, .int .i64 0, .int .i64 0, .int .i64 0, .int .i64 0, .int .i64 0]) ?_ 4 _ rfl; (with_reducible repeat (first | refine blk_drewN ?_ _ | refine blk_drew ?_ | refine blk_alloc ?_ _)); refine blk_put (cs := #[.int .i64 a0_0, .slice Ao9 t142.length co9, .int .i64 a0_2, .int .i64 0, .int .i64 0, .int .i64 0, .slice none 0 0, .int .i64 0, .int .i64 0, .int .i64 0, .int .i64 0, .int .i64 0, .int .i64 0]) ?_ 3 _ rfl; (with_reducible repeat (first | refine blk_drewN ?_ _ | refine blk_drew ?_ | refine blk_alloc ?_ _)); refine blk_put (cs := #[.int .i64 a0_0, .slice Ao9 t142.length co9, .int .i64 0, .int .i64 0, .int .i64 0, .int .i64 0, .slice none 0 0, .int .i64 0, .int .i64 0, .int .i64 0, .int .i64 0, .int .i64 0, .int .i64 0]) ?_ 2 _ rfl; (with_reducible repeat (first | refine blk_drewN ?_ _ | refine blk_drew ?_ | refine blk_alloc ?_ _)); refine blk_put (cs := #[.int .i64 a0_0, .slice none 0 0, .int .i64 0, .int .i64 0, .int .i64 0, .int .i64 0, .slice none 0 0, .int .i64 0, .int .i64 0, .int .i64 0, .int .i64 0, .int .i64 0, .int .i64 0]) ?_ 1 _ rfl; (with_reducible repeat (first | refine blk_drewN ?_ _ | refine blk_drew ?_ | refine blk_alloc ?_ _)); refine blk_put (cs := #[.int .i64 0, .slice none 0 0, .int .i64 0, .int .i64 0, .int .i64 0, .int .i64 0, .slice none 0 0, .int .i64 0, .int .i64 0, .int .i64 0, .int .i64 0, .int .i64 0, .int .i64 0]) ?_ 0 _ rfl; (with_reducible repeat (first | refine blk_drewN ?_ _ | refine blk_drew ?_ | refine blk_alloc ?_ _)); refine blk_far ?_ NB141_140.out _; (with_reducible repeat (first | refine blk_drewN ?_ _ | refine blk_drew ?_ | refine blk_alloc ?_ _)); refine blk_far ?_ NB141_140.out _; (with_reducible repeat (first | refine blk_drewN ?_ _ | refine blk_drew ?_ | refine blk_alloc ?_ _)); exact BK141.out) Try.underlying27 rfl (by kernel_rfl)) rfl ?_
  exact ⟨_, _, by first | rfl | (simp [errW_none, errW_some] <;> rfl) | (simp [*, errW_none, errW_some] <;> rfl), by (with_reducible repeat (first | apply Kd.R_alloc | apply Kd.R_drewN | apply Kd.R_drew)); exact Kd.R_mono (Kd.R_far (p := ⟨gb141, 12, none⟩) (Kd.R_far (p := ⟨gb141, 11, none⟩) (Kd.R_far (p := ⟨gb141, 10, none⟩) (Kd.R_far (p := ⟨gb141, 9, none⟩) (Kd.R_far (p := ⟨gb141, 8, none⟩) (Kd.R_far (p := ⟨gb141, 7, none⟩) (Kd.R_far (p := ⟨gb141, 6, none⟩) (Kd.R_far (p := ⟨gb141, 5, none⟩) (Kd.R_far (p := ⟨gb141, 4, none⟩) (Kd.R_far (p := ⟨gb141, 3, none⟩) (Kd.R_far (p := ⟨gb141, 2, none⟩) (Kd.R_far (p := ⟨gb141, 1, none⟩) (Kd.R_far (p := ⟨gb141, 0, none⟩) (Kd.R_far (p := ⟨gb140, 6, none⟩) (Kd.R_far (p := ⟨gb140, 1, none⟩) (Kd.R_types (Kd.R_types HO144.out BK140.out (by decide)) BK141.out (by decide)) (fun _ hk => hk.1.2) (.slice Ao9 t142.length co9)) (fun _ hk => hk.1.2) (.slice Ao11 t145.length co11)) (fun _ hk => hk.2) (.int .i64 a0_0)) (fun _ hk => hk.2) (.slice Ao9 t142.length co9)) (fun _ hk => hk.2) (.int .i64 a0_2)) (fun _ hk => hk.2) (.int .i64 a0_3)) (fun _ hk => hk.2) (.int .i64 a0_4)) (fun _ hk => hk.2) (.int .i64 a0_5)) (fun _ hk => hk.2) (.slice Ao11 t145.length co11)) (fun _ hk => hk.2) (.int .i64 a0_7)) (fun _ hk => hk.2) (.int .i64 a0_8)) (fun _ hk => hk.2) (.int .i64 a0_9)) (fun _ hk => hk.2) (.int .i64 a0_10)) (fun _ hk => hk.2) (.int .i64 a0_11)) (fun _ hk => hk.2) (.int .i64 a0_12)) (fun _ hk => trivial), by (with_reducible repeat (first | apply Kd.S_alloc | apply Kd.S_drewN | apply Kd.S_drew)); exact Kd.S_mono (Kd.S_far (p := ⟨gb141, 12, none⟩) (Kd.S_far (p := ⟨gb141, 11, none⟩) (Kd.S_far (p := ⟨gb141, 10, none⟩) (Kd.S_far (p := ⟨gb141, 9, none⟩) (Kd.S_far (p := ⟨gb141, 8, none⟩) (Kd.S_far (p := ⟨gb141, 7, none⟩) (Kd.S_far (p := ⟨gb141, 6, none⟩) (Kd.S_far (p := ⟨gb141, 5, none⟩) (Kd.S_far (p := ⟨gb141, 4, none⟩) (Kd.S_far (p := ⟨gb141, 3, none⟩) (Kd.S_far (p := ⟨gb141, 2, none⟩) (Kd.S_far (p := ⟨gb141, 1, none⟩) (Kd.S_far (p := ⟨gb141, 0, none⟩) (Kd.S_far (p := ⟨gb140, 6, none⟩) (Kd.S_far (p := ⟨gb140, 1, none⟩) (Kd.S_types (Kd.S_types HO147.out BK140.out (by decide)) BK141.out (by decide)) (fun _ hk => hk.1.2) (.slice Ao9 t142.length co9)) (fun _ hk => hk.1.2) (.slice Ao11 t145.length co11)) (fun _ hk => hk.2) (.int .i64 a0_0)) (fun _ hk => hk.2) (.slice Ao9 t142.length co9)) (fun _ hk => hk.2) (.int .i64 a0_2)) (fun _ hk => hk.2) (.int .i64 a0_3)) (fun _ hk => hk.2) (.int .i64 a0_4)) (fun _ hk => hk.2) (.int .i64 a0_5)) (fun _ hk => hk.2) (.slice Ao11 t145.length co11)) (fun _ hk => hk.2) (.int .i64 a0_7)) (fun _ hk => hk.2) (.int .i64 a0_8)) (fun _ hk => hk.2) (.int .i64 a0_9)) (fun _ hk => hk.2) (.int .i64 a0_10)) (fun _ hk => hk.2) (.int .i64 a0_11)) (fun _ hk => hk.2) (.int .i64 a0_12)) (fun _ hk => trivial), by repeat (first | (with_reducible first | exact HB.out | apply below_alloc | apply pw_below_drewN | apply below_drew1 | refine below_set ?_ GE140.out | refine below_set ?_ GE141.out) | exact HB.out)⟩

-- NOT PRINTED: function 25 (annuityref26_ids)

/-! ### annuityref26_of: function 26 -/
def annuityref26_of.l0 : Nat → List (S54) → Int → Int → Int → Option (Int)
  | 0, _, _, _, _ => none
  | k + 1, x0, x1, x2, x7 => if x7 < (x0.length : Int) then (if 0 ≤ x7 then (if ((rd_T54 x0 x7).f0) = x1 then ((some (([(rd_T54 x0 x7).f1, (rd_T54 x0 x7).f2, (rd_T54 x0 x7).f4] : List Int) : List Int)).bind fun y237 => (if 0 ≤ (wrap64 (x2 - 1)) then (if (wrap64 (x2 - 1)) < (y237.length : Int) then (some (rd y237 (wrap64 (x2 - 1)))) else (none)) else (none))) else (annuityref26_of.l0 k x0 x1 x2 (wrap64 (x7 + 1)))) else (none)) else (some 0)
def annuityref26_of.f (k : Nat) (l0 : List (S54)) (a1 : Int) (a2 : Int) : Option (Int) := annuityref26_of.l0 k l0 a1 a2 0
theorem annuityref26_of.mono_l : ∀ k, (∀ y0 y1 y2 y3, LeO (annuityref26_of.l0 k y0 y1 y2 y3) (annuityref26_of.l0 (k + 1) y0 y1 y2 y3))
  | 0 => fun _ _ _ _ r h => by simp [annuityref26_of.l0] at h
  | k + 1 => by
    have ih0 := annuityref26_of.mono_l k
    · intro y0 y1 y2 y3
      unfold annuityref26_of.l0
      repeat' first
      | (with_reducible exact ih0 _ _ _ _)
      | (with_reducible exact LeO.refl _)
      | (with_reducible exact LeO.none _)
      | (with_reducible refine LeO.ite ?_ ?_)
      | (with_reducible refine LeO.bind ?_ (fun _ => ?_))
      | exact ih0 _ _ _ _
      | exact LeO.none _
      | refine LeO.ite ?_ ?_
      | refine LeO.bind ?_ (fun _ => ?_)
theorem annuityref26_of.mono : ∀ a0 a1 a2 k, LeO (annuityref26_of.f k a0 a1 a2) (annuityref26_of.f (k + 1) a0 a1 a2) := by
  intro a0 a1 a2 k
  have ih0 := annuityref26_of.mono_l k
  unfold annuityref26_of.f
  repeat' first
      | (with_reducible exact ih0 _ _ _ _)
      | (with_reducible exact LeO.refl _)
      | (with_reducible exact LeO.none _)
      | (with_reducible refine LeO.ite ?_ ?_)
      | (with_reducible refine LeO.bind ?_ (fun _ => ?_))
      | exact ih0 _ _ _ _
      | exact LeO.none _
      | refine LeO.ite ?_ ?_
      | refine LeO.bind ?_ (fun _ => ?_)
def annuityref26_of.T5 : Bool × List (List Nat × List Nat) := (true, [([], []), ([], []), ([0, 1], [0, 1]), ([2], [2]), ([3], [3]), ([], []), ([], []), ([5, 6], [5, 6]), ([7], [7]), ([8], [8]), ([], []), ([], []), ([10, 11], [10, 11]), ([12], [12]), ([13], [13]), ([4, 9, 14], [4, 9, 14]), ([], []), ([16], [16]), ([15, 17], [15, 17]), ([18], [18]), ([19, 0, 1, 2, 3, 4, 5, 6, 7, 8, 9, 10, 11, 12, 13, 14, 15, 16, 17, 18, 19], [19])])
def annuityref26_of.B5 : List Nat := [0, 0, 3, 7, 15, 0, 0, 96, 224, 480, 0, 0, 3072, 7168, 15360, 32767, 0, 65536, 262143, 524287, 1048575]
theorem annuityref26_of.tab5 : rtab .any (opsOf Try.f26 5) = annuityref26_of.T5 := by kernel_rfl
theorem annuityref26_of.bits5 : waitsOk annuityref26_of.T5.2 annuityref26_of.B5 = true := by kernel_rfl
set_option maxHeartbeats 8000000 in
set_option maxRecDepth 100000 in
theorem annuityref26_of.calls (k : Nat) (A0 : Option Addr) (c0 : Nat) (l0 : List (S54)) (a1 : Int) (a2 : Int) (r : Int) (w : World) (hr0 : Kd.C k54 w A0 l0.length l0) (hc0 : l0.length ≤ c0) (h : annuityref26_of.f k l0 a1 a2 = some r) :
    Calls Try.prog 26 #[.slice A0 l0.length c0, .int .i64 a1, .int .i64 a2] w fun e w' => e = .returned (.int .i64 r) ∧ Below w.heap.size w w' := by
  have HR0 := Aside0.mk hr0
  have HC0 := Aside0.mk hc0
  clear hr0 hc0
  have HB := Aside0.mk (Below.refl w.heap.size w)
  have H : (annuityref26_of.l0 k l0 a1 a2 0) = some r := h
  clear h
  have H' := Aside0.mk H
  clear H
  go_enter Try.func26, Try.ntmps26
  go_wp2
  go_loopg [7] k (fun kq v7 w' => ∃ (x7_1 : Int), v7 = .int .i64 x7_1 ∧ Aside0 (annuityref26_of.l0 kq l0 a1 a2 x7_1 = some r) ∧ Aside0 (kq ≤ k) ∧ Aside0 (Below w.heap.size w w'))
  case atStart => exact ⟨(0), (by first | rfl | (simp; done) | (simp [*]; done)), H', ⟨Nat.le_refl _⟩, ⟨by repeat (first | (with_reducible first | exact HB.out | apply below_alloc | apply pw_below_drewN | apply below_drew1) | exact HB.out)⟩⟩
  case round =>
    clear H'
    try clear c2
    try clear p2
    obtain ⟨x7_1, rfl, HA, HK1, HB⟩ := hrel
    cases gk with
    | zero => exact absurd HA.out (by simp [annuityref26_of.l0])
    | succ k1 =>
      have H := HA.out
      clear HA
      simp only [annuityref26_of.l0] at H
      by_cases c4 : x7_1 < (l0.length : Int)
      · rw [if_pos c4] at H
        have c4b0 : decide (x7_1 < (l0.length : Int)) = true := decide_eq_true c4
        clear c4
        by_cases c5 : 0 ≤ x7_1
        · rw [if_pos c5] at H
          have c5b0 : decide (0 ≤ x7_1) = true := decide_eq_true c5
          clear c5
          by_cases c6 : ((rd_T54 l0 x7_1).f0) = a1
          · rw [if_pos c6] at H
            have c6b0 : (((rd_T54 l0 x7_1).f0) == a1) = true := beq_iff_eq.mpr c6
            have c6b1 : (((rd_T54 l0 x7_1).f0) != a1) = false := bne_eq_false_iff_eq.mpr c6
            clear c6
            obtain ⟨y237, hy237⟩ : ∃ y_ : List Int, y_ = (([(rd_T54 l0 x7_1).f1, (rd_T54 l0 x7_1).f2, (rd_T54 l0 x7_1).f4] : List Int)) := ⟨_, rfl⟩
            replace H : (if 0 ≤ (wrap64 (a2 - 1)) then (if (wrap64 (a2 - 1)) < (y237.length : Int) then (some (rd y237 (wrap64 (a2 - 1)))) else (none)) else (none)) = some r := by first | (rw [hy237]; with_reducible exact H) | (have H2_ := (Option.bind_some _ _).symm.trans H; rw [hy237]; with_reducible exact H2_) | (have H2_ := (Option.bind_some _ _).symm.trans H; with_reducible exact H2_) | with_reducible exact H | (rw [hy237]; exact H) | exact H
            have Ny237 := Aside0.mk hy237
            clear hy237
            obtain ⟨ji7, hji7⟩ : ∃ j_ : Int, (wrap64 (a2 - 1)) = j_ := ⟨_, rfl⟩
            replace H : (if 0 ≤ (ji7) then (if (ji7) < (y237.length : Int) then (some (rd y237 (ji7))) else (none)) else (none)) = some r := by first | (rw [hji7] at H; exact H) | (simp only [hji7] at H ⊢; exact H)
            have hji7w : (IntKind.i64.wrap (a2 - 1)) = ji7 := (i64_w _).trans hji7
            by_cases c8 : 0 ≤ (ji7)
            · rw [if_pos c8] at H
              have c8b0 : decide (0 ≤ (ji7)) = true := decide_eq_true c8
              clear c8
              by_cases c9 : (ji7) < (y237.length : Int)
              · rw [if_pos c9] at H
                have c9b0 : decide ((ji7) < (y237.length : Int)) = true := decide_eq_true c9
                clear c9
                obtain rfl := Option.some.inj H
                have p233 : 0 ≤ (x7_1 : Int) := of_decide_eq_true (by first | (with_reducible assumption) | assumption)
                have q233 : x7_1 < (l0.length : Int) := of_decide_eq_true (by first | (with_reducible assumption) | assumption)
                obtain ⟨ad233, e233, hx233_0, hx233_1, hx233_2, hx233_3, hx233_4, hx233_5, hx233_6, hx233_7, hx233_8, hx233_9, hx233_10, hx233_11, hx233_12⟩ := at_T54 HR0.out x7_1 p233 q233
                cases e233
                replace hx233_0 := (HB.out.cell (World.block_lt_of_cell? w _ hx233_0)).trans hx233_0
                replace hx233_1 := (HB.out.cell (World.block_lt_of_cell? w _ hx233_1)).trans hx233_1
                replace hx233_2 := (HB.out.cell (World.block_lt_of_cell? w _ hx233_2)).trans hx233_2
                replace hx233_3 := (HB.out.cell (World.block_lt_of_cell? w _ hx233_3)).trans hx233_3
                replace hx233_4 := (HB.out.cell (World.block_lt_of_cell? w _ hx233_4)).trans hx233_4
                replace hx233_5 := (HB.out.cell (World.block_lt_of_cell? w _ hx233_5)).trans hx233_5
                replace hx233_6 := (HB.out.cell (World.block_lt_of_cell? w _ hx233_6)).trans hx233_6
                replace hx233_7 := (HB.out.cell (World.block_lt_of_cell? w _ hx233_7)).trans hx233_7
                replace hx233_8 := (HB.out.cell (World.block_lt_of_cell? w _ hx233_8)).trans hx233_8
                replace hx233_9 := (HB.out.cell (World.block_lt_of_cell? w _ hx233_9)).trans hx233_9
                replace hx233_10 := (HB.out.cell (World.block_lt_of_cell? w _ hx233_10)).trans hx233_10
                replace hx233_11 := (HB.out.cell (World.block_lt_of_cell? w _ hx233_11)).trans hx233_11
                replace hx233_12 := (HB.out.cell (World.block_lt_of_cell? w _ hx233_12)).trans hx233_12
                replace p233 := eq_true p233
                replace q233 := eq_true q233
                try go_wp2
                have pi240 : (0 ≤ ((ji7) : Int)) = True := eq_true (of_decide_eq_true (by first | (with_reducible assumption) | assumption))
                have qi240 : ((ji7) < (y237.length : Int)) = True := eq_true (of_decide_eq_true (by first | (with_reducible assumption) | assumption))
                have n0_ := Aside0.mk (below_drew1 HB.out)
                clear HB
                have HB := n0_
                clear n0_
                have p234 : 0 ≤ (x7_1 : Int) := of_decide_eq_true (by first | (with_reducible assumption) | assumption)
                have q234 : x7_1 < (l0.length : Int) := of_decide_eq_true (by first | (with_reducible assumption) | assumption)
                obtain ⟨ad234, e234, hx234_0, hx234_1, hx234_2, hx234_3, hx234_4, hx234_5, hx234_6, hx234_7, hx234_8, hx234_9, hx234_10, hx234_11, hx234_12⟩ := at_T54 HR0.out x7_1 p234 q234
                have hw234_12 := hx234_12
                have hw234_11 := hx234_11
                have hw234_10 := hx234_10
                have hw234_9 := hx234_9
                have hw234_8 := hx234_8
                have hw234_7 := hx234_7
                have hw234_6 := hx234_6
                have hw234_5 := hx234_5
                have hw234_4 := hx234_4
                have hw234_3 := hx234_3
                have hw234_2 := hx234_2
                have hw234_1 := hx234_1
                have hw234_0 := hx234_0
                obtain rfl : ad233 = ad234 := (by injection e234)
                replace hx234_0 := (HB.out.cell (World.block_lt_of_cell? w _ hx234_0)).trans hx234_0
                replace hx234_1 := (HB.out.cell (World.block_lt_of_cell? w _ hx234_1)).trans hx234_1
                replace hx234_2 := (HB.out.cell (World.block_lt_of_cell? w _ hx234_2)).trans hx234_2
                replace hx234_3 := (HB.out.cell (World.block_lt_of_cell? w _ hx234_3)).trans hx234_3
                replace hx234_4 := (HB.out.cell (World.block_lt_of_cell? w _ hx234_4)).trans hx234_4
                replace hx234_5 := (HB.out.cell (World.block_lt_of_cell? w _ hx234_5)).trans hx234_5
                replace hx234_6 := (HB.out.cell (World.block_lt_of_cell? w _ hx234_6)).trans hx234_6
                replace hx234_7 := (HB.out.cell (World.block_lt_of_cell? w _ hx234_7)).trans hx234_7
                replace hx234_8 := (HB.out.cell (World.block_lt_of_cell? w _ hx234_8)).trans hx234_8
                replace hx234_9 := (HB.out.cell (World.block_lt_of_cell? w _ hx234_9)).trans hx234_9
                replace hx234_10 := (HB.out.cell (World.block_lt_of_cell? w _ hx234_10)).trans hx234_10
                replace hx234_11 := (HB.out.cell (World.block_lt_of_cell? w _ hx234_11)).trans hx234_11
                replace hx234_12 := (HB.out.cell (World.block_lt_of_cell? w _ hx234_12)).trans hx234_12
                replace p234 := eq_true p234
                replace q234 := eq_true q234
                have p235 : 0 ≤ (x7_1 : Int) := of_decide_eq_true (by first | (with_reducible assumption) | assumption)
                have q235 : x7_1 < (l0.length : Int) := of_decide_eq_true (by first | (with_reducible assumption) | assumption)
                obtain ⟨ad235, e235, hx235_0, hx235_1, hx235_2, hx235_3, hx235_4, hx235_5, hx235_6, hx235_7, hx235_8, hx235_9, hx235_10, hx235_11, hx235_12⟩ := at_T54 HR0.out x7_1 p235 q235
                have hw235_12 := hx235_12
                have hw235_11 := hx235_11
                have hw235_10 := hx235_10
                have hw235_9 := hx235_9
                have hw235_8 := hx235_8
                have hw235_7 := hx235_7
                have hw235_6 := hx235_6
                have hw235_5 := hx235_5
                have hw235_4 := hx235_4
                have hw235_3 := hx235_3
                have hw235_2 := hx235_2
                have hw235_1 := hx235_1
                have hw235_0 := hx235_0
                obtain rfl : ad233 = ad235 := (by injection e235)
                replace hx235_0 := (HB.out.cell (World.block_lt_of_cell? w _ hx235_0)).trans hx235_0
                replace hx235_1 := (HB.out.cell (World.block_lt_of_cell? w _ hx235_1)).trans hx235_1
                replace hx235_2 := (HB.out.cell (World.block_lt_of_cell? w _ hx235_2)).trans hx235_2
                replace hx235_3 := (HB.out.cell (World.block_lt_of_cell? w _ hx235_3)).trans hx235_3
                replace hx235_4 := (HB.out.cell (World.block_lt_of_cell? w _ hx235_4)).trans hx235_4
                replace hx235_5 := (HB.out.cell (World.block_lt_of_cell? w _ hx235_5)).trans hx235_5
                replace hx235_6 := (HB.out.cell (World.block_lt_of_cell? w _ hx235_6)).trans hx235_6
                replace hx235_7 := (HB.out.cell (World.block_lt_of_cell? w _ hx235_7)).trans hx235_7
                replace hx235_8 := (HB.out.cell (World.block_lt_of_cell? w _ hx235_8)).trans hx235_8
                replace hx235_9 := (HB.out.cell (World.block_lt_of_cell? w _ hx235_9)).trans hx235_9
                replace hx235_10 := (HB.out.cell (World.block_lt_of_cell? w _ hx235_10)).trans hx235_10
                replace hx235_11 := (HB.out.cell (World.block_lt_of_cell? w _ hx235_11)).trans hx235_11
                replace hx235_12 := (HB.out.cell (World.block_lt_of_cell? w _ hx235_12)).trans hx235_12
                replace p235 := eq_true p235
                replace q235 := eq_true q235
                have p236 : 0 ≤ (x7_1 : Int) := of_decide_eq_true (by first | (with_reducible assumption) | assumption)
                have q236 : x7_1 < (l0.length : Int) := of_decide_eq_true (by first | (with_reducible assumption) | assumption)
                obtain ⟨ad236, e236, hx236_0, hx236_1, hx236_2, hx236_3, hx236_4, hx236_5, hx236_6, hx236_7, hx236_8, hx236_9, hx236_10, hx236_11, hx236_12⟩ := at_T54 HR0.out x7_1 p236 q236
                have hw236_12 := hx236_12
                have hw236_11 := hx236_11
                have hw236_10 := hx236_10
                have hw236_9 := hx236_9
                have hw236_8 := hx236_8
                have hw236_7 := hx236_7
                have hw236_6 := hx236_6
                have hw236_5 := hx236_5
                have hw236_4 := hx236_4
                have hw236_3 := hx236_3
                have hw236_2 := hx236_2
                have hw236_1 := hx236_1
                have hw236_0 := hx236_0
                obtain rfl : ad233 = ad236 := (by injection e236)
                replace hx236_0 := (HB.out.cell (World.block_lt_of_cell? w _ hx236_0)).trans hx236_0
                replace hx236_1 := (HB.out.cell (World.block_lt_of_cell? w _ hx236_1)).trans hx236_1
                replace hx236_2 := (HB.out.cell (World.block_lt_of_cell? w _ hx236_2)).trans hx236_2
                replace hx236_3 := (HB.out.cell (World.block_lt_of_cell? w _ hx236_3)).trans hx236_3
                replace hx236_4 := (HB.out.cell (World.block_lt_of_cell? w _ hx236_4)).trans hx236_4
                replace hx236_5 := (HB.out.cell (World.block_lt_of_cell? w _ hx236_5)).trans hx236_5
                replace hx236_6 := (HB.out.cell (World.block_lt_of_cell? w _ hx236_6)).trans hx236_6
                replace hx236_7 := (HB.out.cell (World.block_lt_of_cell? w _ hx236_7)).trans hx236_7
                replace hx236_8 := (HB.out.cell (World.block_lt_of_cell? w _ hx236_8)).trans hx236_8
                replace hx236_9 := (HB.out.cell (World.block_lt_of_cell? w _ hx236_9)).trans hx236_9
                replace hx236_10 := (HB.out.cell (World.block_lt_of_cell? w _ hx236_10)).trans hx236_10
                replace hx236_11 := (HB.out.cell (World.block_lt_of_cell? w _ hx236_11)).trans hx236_11
                replace hx236_12 := (HB.out.cell (World.block_lt_of_cell? w _ hx236_12)).trans hx236_12
                replace p236 := eq_true p236
                replace q236 := eq_true q236
                refine start_ (n := 21) (S := fun w' => w'.cell? (ad233.add ((x7_1).toNat * 13)) = some (.int .i64 ((rd_T54 l0 x7_1).f0)) ∧ w'.cell? ⟨(ad233.add ((x7_1).toNat * 13)).block, (ad233.add ((x7_1).toNat * 13)).off + 1, none⟩ = some (.int .i64 ((rd_T54 l0 x7_1).f1)) ∧ w'.cell? ⟨(ad233.add ((x7_1).toNat * 13)).block, (ad233.add ((x7_1).toNat * 13)).off + 2, none⟩ = some (.int .i64 ((rd_T54 l0 x7_1).f2)) ∧ w'.cell? ⟨(ad233.add ((x7_1).toNat * 13)).block, (ad233.add ((x7_1).toNat * 13)).off + 3, none⟩ = some (.int .i64 ((rd_T54 l0 x7_1).f3)) ∧ w'.cell? ⟨(ad233.add ((x7_1).toNat * 13)).block, (ad233.add ((x7_1).toNat * 13)).off + 4, none⟩ = some (.int .i64 ((rd_T54 l0 x7_1).f4)) ∧ w'.cell? ⟨(ad233.add ((x7_1).toNat * 13)).block, (ad233.add ((x7_1).toNat * 13)).off + 5, none⟩ = some (.int .i64 ((rd_T54 l0 x7_1).f5)) ∧ w'.cell? ⟨(ad233.add ((x7_1).toNat * 13)).block, (ad233.add ((x7_1).toNat * 13)).off + 6, none⟩ = some (.bool ((rd_T54 l0 x7_1).f6)) ∧ w'.cell? ⟨(ad233.add ((x7_1).toNat * 13)).block, (ad233.add ((x7_1).toNat * 13)).off + 7, none⟩ = some (.int .i64 ((rd_T54 l0 x7_1).f7)) ∧ w'.cell? ⟨(ad233.add ((x7_1).toNat * 13)).block, (ad233.add ((x7_1).toNat * 13)).off + 8, none⟩ = some (.int .i64 ((rd_T54 l0 x7_1).f8)) ∧ w'.cell? ⟨(ad233.add ((x7_1).toNat * 13)).block, (ad233.add ((x7_1).toNat * 13)).off + 9, none⟩ = some (.int .i64 ((rd_T54 l0 x7_1).f9)) ∧ w'.cell? ⟨(ad233.add ((x7_1).toNat * 13)).block, (ad233.add ((x7_1).toNat * 13)).off + 10, none⟩ = some (.int .i64 ((rd_T54 l0 x7_1).f10)) ∧ w'.cell? ⟨(ad233.add ((x7_1).toNat * 13)).block, (ad233.add ((x7_1).toNat * 13)).off + 11, none⟩ = some (.int .i64 ((rd_T54 l0 x7_1).f11)) ∧ w'.cell? ⟨(ad233.add ((x7_1).toNat * 13)).block, (ad233.add ((x7_1).toNat * 13)).off + 12, none⟩ = some (.int .i64 ((rd_T54 l0 x7_1).f12)) ∧ w'.cell? (ad233.add ((x7_1).toNat * 13)) = some (.int .i64 ((rd_T54 l0 x7_1).f0)) ∧ w'.cell? ⟨(ad233.add ((x7_1).toNat * 13)).block, (ad233.add ((x7_1).toNat * 13)).off + 1, none⟩ = some (.int .i64 ((rd_T54 l0 x7_1).f1)) ∧ w'.cell? ⟨(ad233.add ((x7_1).toNat * 13)).block, (ad233.add ((x7_1).toNat * 13)).off + 2, none⟩ = some (.int .i64 ((rd_T54 l0 x7_1).f2)) ∧ w'.cell? ⟨(ad233.add ((x7_1).toNat * 13)).block, (ad233.add ((x7_1).toNat * 13)).off + 3, none⟩ = some (.int .i64 ((rd_T54 l0 x7_1).f3)) ∧ w'.cell? ⟨(ad233.add ((x7_1).toNat * 13)).block, (ad233.add ((x7_1).toNat * 13)).off + 4, none⟩ = some (.int .i64 ((rd_T54 l0 x7_1).f4)) ∧ w'.cell? ⟨(ad233.add ((x7_1).toNat * 13)).block, (ad233.add ((x7_1).toNat * 13)).off + 5, none⟩ = some (.int .i64 ((rd_T54 l0 x7_1).f5)) ∧ w'.cell? ⟨(ad233.add ((x7_1).toNat * 13)).block, (ad233.add ((x7_1).toNat * 13)).off + 6, none⟩ = some (.bool ((rd_T54 l0 x7_1).f6)) ∧ w'.cell? ⟨(ad233.add ((x7_1).toNat * 13)).block, (ad233.add ((x7_1).toNat * 13)).off + 7, none⟩ = some (.int .i64 ((rd_T54 l0 x7_1).f7)) ∧ w'.cell? ⟨(ad233.add ((x7_1).toNat * 13)).block, (ad233.add ((x7_1).toNat * 13)).off + 8, none⟩ = some (.int .i64 ((rd_T54 l0 x7_1).f8)) ∧ w'.cell? ⟨(ad233.add ((x7_1).toNat * 13)).block, (ad233.add ((x7_1).toNat * 13)).off + 9, none⟩ = some (.int .i64 ((rd_T54 l0 x7_1).f9)) ∧ w'.cell? ⟨(ad233.add ((x7_1).toNat * 13)).block, (ad233.add ((x7_1).toNat * 13)).off + 10, none⟩ = some (.int .i64 ((rd_T54 l0 x7_1).f10)) ∧ w'.cell? ⟨(ad233.add ((x7_1).toNat * 13)).block, (ad233.add ((x7_1).toNat * 13)).off + 11, none⟩ = some (.int .i64 ((rd_T54 l0 x7_1).f11)) ∧ w'.cell? ⟨(ad233.add ((x7_1).toNat * 13)).block, (ad233.add ((x7_1).toNat * 13)).off + 12, none⟩ = some (.int .i64 ((rd_T54 l0 x7_1).f12)) ∧ w'.cell? (ad233.add ((x7_1).toNat * 13)) = some (.int .i64 ((rd_T54 l0 x7_1).f0)) ∧ w'.cell? ⟨(ad233.add ((x7_1).toNat * 13)).block, (ad233.add ((x7_1).toNat * 13)).off + 1, none⟩ = some (.int .i64 ((rd_T54 l0 x7_1).f1)) ∧ w'.cell? ⟨(ad233.add ((x7_1).toNat * 13)).block, (ad233.add ((x7_1).toNat * 13)).off + 2, none⟩ = some (.int .i64 ((rd_T54 l0 x7_1).f2)) ∧ w'.cell? ⟨(ad233.add ((x7_1).toNat * 13)).block, (ad233.add ((x7_1).toNat * 13)).off + 3, none⟩ = some (.int .i64 ((rd_T54 l0 x7_1).f3)) ∧ w'.cell? ⟨(ad233.add ((x7_1).toNat * 13)).block, (ad233.add ((x7_1).toNat * 13)).off + 4, none⟩ = some (.int .i64 ((rd_T54 l0 x7_1).f4)) ∧ w'.cell? ⟨(ad233.add ((x7_1).toNat * 13)).block, (ad233.add ((x7_1).toNat * 13)).off + 5, none⟩ = some (.int .i64 ((rd_T54 l0 x7_1).f5)) ∧ w'.cell? ⟨(ad233.add ((x7_1).toNat * 13)).block, (ad233.add ((x7_1).toNat * 13)).off + 6, none⟩ = some (.bool ((rd_T54 l0 x7_1).f6)) ∧ w'.cell? ⟨(ad233.add ((x7_1).toNat * 13)).block, (ad233.add ((x7_1).toNat * 13)).off + 7, none⟩ = some (.int .i64 ((rd_T54 l0 x7_1).f7)) ∧ w'.cell? ⟨(ad233.add ((x7_1).toNat * 13)).block, (ad233.add ((x7_1).toNat * 13)).off + 8, none⟩ = some (.int .i64 ((rd_T54 l0 x7_1).f8)) ∧ w'.cell? ⟨(ad233.add ((x7_1).toNat * 13)).block, (ad233.add ((x7_1).toNat * 13)).off + 9, none⟩ = some (.int .i64 ((rd_T54 l0 x7_1).f9)) ∧ w'.cell? ⟨(ad233.add ((x7_1).toNat * 13)).block, (ad233.add ((x7_1).toNat * 13)).off + 10, none⟩ = some (.int .i64 ((rd_T54 l0 x7_1).f10)) ∧ w'.cell? ⟨(ad233.add ((x7_1).toNat * 13)).block, (ad233.add ((x7_1).toNat * 13)).off + 11, none⟩ = some (.int .i64 ((rd_T54 l0 x7_1).f11)) ∧ w'.cell? ⟨(ad233.add ((x7_1).toNat * 13)).block, (ad233.add ((x7_1).toNat * 13)).off + 12, none⟩ = some (.int .i64 ((rd_T54 l0 x7_1).f12))) (ds := []) #[false, false, false, false, false, false, false, false, false, false, false, false, false, false, false, false, false, false, false, false, false] (by kernel_rfl) rfl rfl ⟨((HB.out.cell (World.block_lt_of_cell? w _ hw234_0)).trans hw234_0), ((HB.out.cell (World.block_lt_of_cell? w _ hw234_1)).trans hw234_1), ((HB.out.cell (World.block_lt_of_cell? w _ hw234_2)).trans hw234_2), ((HB.out.cell (World.block_lt_of_cell? w _ hw234_3)).trans hw234_3), ((HB.out.cell (World.block_lt_of_cell? w _ hw234_4)).trans hw234_4), ((HB.out.cell (World.block_lt_of_cell? w _ hw234_5)).trans hw234_5), ((HB.out.cell (World.block_lt_of_cell? w _ hw234_6)).trans hw234_6), ((HB.out.cell (World.block_lt_of_cell? w _ hw234_7)).trans hw234_7), ((HB.out.cell (World.block_lt_of_cell? w _ hw234_8)).trans hw234_8), ((HB.out.cell (World.block_lt_of_cell? w _ hw234_9)).trans hw234_9), ((HB.out.cell (World.block_lt_of_cell? w _ hw234_10)).trans hw234_10), ((HB.out.cell (World.block_lt_of_cell? w _ hw234_11)).trans hw234_11), ((HB.out.cell (World.block_lt_of_cell? w _ hw234_12)).trans hw234_12), ((HB.out.cell (World.block_lt_of_cell? w _ hw235_0)).trans hw235_0), ((HB.out.cell (World.block_lt_of_cell? w _ hw235_1)).trans hw235_1), ((HB.out.cell (World.block_lt_of_cell? w _ hw235_2)).trans hw235_2), ((HB.out.cell (World.block_lt_of_cell? w _ hw235_3)).trans hw235_3), ((HB.out.cell (World.block_lt_of_cell? w _ hw235_4)).trans hw235_4), ((HB.out.cell (World.block_lt_of_cell? w _ hw235_5)).trans hw235_5), ((HB.out.cell (World.block_lt_of_cell? w _ hw235_6)).trans hw235_6), ((HB.out.cell (World.block_lt_of_cell? w _ hw235_7)).trans hw235_7), ((HB.out.cell (World.block_lt_of_cell? w _ hw235_8)).trans hw235_8), ((HB.out.cell (World.block_lt_of_cell? w _ hw235_9)).trans hw235_9), ((HB.out.cell (World.block_lt_of_cell? w _ hw235_10)).trans hw235_10), ((HB.out.cell (World.block_lt_of_cell? w _ hw235_11)).trans hw235_11), ((HB.out.cell (World.block_lt_of_cell? w _ hw235_12)).trans hw235_12), ((HB.out.cell (World.block_lt_of_cell? w _ hw236_0)).trans hw236_0), ((HB.out.cell (World.block_lt_of_cell? w _ hw236_1)).trans hw236_1), ((HB.out.cell (World.block_lt_of_cell? w _ hw236_2)).trans hw236_2), ((HB.out.cell (World.block_lt_of_cell? w _ hw236_3)).trans hw236_3), ((HB.out.cell (World.block_lt_of_cell? w _ hw236_4)).trans hw236_4), ((HB.out.cell (World.block_lt_of_cell? w _ hw236_5)).trans hw236_5), ((HB.out.cell (World.block_lt_of_cell? w _ hw236_6)).trans hw236_6), ((HB.out.cell (World.block_lt_of_cell? w _ hw236_7)).trans hw236_7), ((HB.out.cell (World.block_lt_of_cell? w _ hw236_8)).trans hw236_8), ((HB.out.cell (World.block_lt_of_cell? w _ hw236_9)).trans hw236_9), ((HB.out.cell (World.block_lt_of_cell? w _ hw236_10)).trans hw236_10), ((HB.out.cell (World.block_lt_of_cell? w _ hw236_11)).trans hw236_11), ((HB.out.cell (World.block_lt_of_cell? w _ hw236_12)).trans hw236_12)⟩ (fun hHeld => ?_); refine with_tabW annuityref26_of.tab5 annuityref26_of.bits5 (fun HT_ HW_ => ?_)
                generalize wr.drew = w10 at HB hx234_0 hx234_1 hx234_10 hx234_11 hx234_12 hx234_2 hx234_3 hx234_4 hx234_5 hx234_6 hx234_7 hx234_8 hx234_9 hx235_0 hx235_1 hx235_10 hx235_11 hx235_12 hx235_2 hx235_3 hx235_4 hx235_5 hx235_6 hx235_7 hx235_8 hx235_9 hx236_0 hx236_1 hx236_10 hx236_11 hx236_12 hx236_2 hx236_3 hx236_4 hx236_5 hx236_6 hx236_7 hx236_8 hx236_9 hHeld ⊢
                refine pure_ (i := 0) (N := some 21) (v := ?_) (a' := ?_) #[true, false, false, false, false, false, false, false, false, false, false, false, false, false, false, false, false, false, false, false, false] rfl rfl (any_of HT_.out (by kernel_rfl)) (fun _ _ _ h => h) (Or.inl ⟨by rfl, ?_⟩) ?_ ?_
                rotate_left
                · intro w'
                  go_simp
                  with_reducible rfl
                rotate_left
                · simp only [Act.put, List.setIfInBounds_toArray, List.set_cons_zero, List.set_cons_succ, i64_w, i32_w]
                  rfl
                refine pure_ (i := 1) (N := some 22) (v := ?_) (a' := ?_) #[true, true, false, false, false, false, false, false, false, false, false, false, false, false, false, false, false, false, false, false, false] rfl rfl (any_of HT_.out (by kernel_rfl)) (fun _ _ _ h => h) (Or.inl ⟨by rfl, ?_⟩) ?_ ?_
                rotate_left
                · intro w'
                  go_simp
                  with_reducible rfl
                rotate_left
                · simp only [Act.put, List.setIfInBounds_toArray, List.set_cons_zero, List.set_cons_succ, i64_w, i32_w]
                  rfl
                refine pure_ (i := 2) (N := some 23) (v := ?_) (a' := ?_) #[true, true, true, false, false, false, false, false, false, false, false, false, false, false, false, false, false, false, false, false, false] rfl rfl (any_of HT_.out (by kernel_rfl)) (fun _ _ _ h => h) (Or.inl ⟨by rfl, ?_⟩) ?_ ?_
                rotate_left
                · intro w'
                  go_simp
                  with_reducible rfl
                rotate_left
                · simp only [Act.put, List.setIfInBounds_toArray, List.set_cons_zero, List.set_cons_succ, i64_w, i32_w]
                  rfl
                refine pure_ (i := 3) (N := some 24) (v := ?_) (a' := ?_) #[true, true, true, true, false, false, false, false, false, false, false, false, false, false, false, false, false, false, false, false, false] rfl rfl (any_of HT_.out (by kernel_rfl)) (fun _ _ _ h => h) (Or.inl ⟨by rfl, ?_⟩) ?_ ?_
                rotate_left
                · intro w'
                  go_simp
                  with_reducible rfl
                rotate_left
                · simp only [Act.put, List.setIfInBounds_toArray, List.set_cons_zero, List.set_cons_succ, i64_w, i32_w]
                  rfl
                refine pure_ (i := 5) (N := some 26) (v := ?_) (a' := ?_) #[true, true, true, true, false, true, false, false, false, false, false, false, false, false, false, false, false, false, false, false, false] rfl rfl (any_of HT_.out (by kernel_rfl)) (fun _ _ _ h => h) (Or.inl ⟨by rfl, ?_⟩) ?_ ?_
                rotate_left
                · intro w'
                  go_simp
                  with_reducible rfl
                rotate_left
                · simp only [Act.put, List.setIfInBounds_toArray, List.set_cons_zero, List.set_cons_succ, i64_w, i32_w]
                  rfl
                refine pure_ (i := 6) (N := some 27) (v := ?_) (a' := ?_) #[true, true, true, true, false, true, true, false, false, false, false, false, false, false, false, false, false, false, false, false, false] rfl rfl (any_of HT_.out (by kernel_rfl)) (fun _ _ _ h => h) (Or.inl ⟨by rfl, ?_⟩) ?_ ?_
                rotate_left
                · intro w'
                  go_simp
                  with_reducible rfl
                rotate_left
                · simp only [Act.put, List.setIfInBounds_toArray, List.set_cons_zero, List.set_cons_succ, i64_w, i32_w]
                  rfl
                refine pure_ (i := 7) (N := some 28) (v := ?_) (a' := ?_) #[true, true, true, true, false, true, true, true, false, false, false, false, false, false, false, false, false, false, false, false, false] rfl rfl (any_of HT_.out (by kernel_rfl)) (fun _ _ _ h => h) (Or.inl ⟨by rfl, ?_⟩) ?_ ?_
                rotate_left
                · intro w'
                  go_simp
                  with_reducible rfl
                rotate_left
                · simp only [Act.put, List.setIfInBounds_toArray, List.set_cons_zero, List.set_cons_succ, i64_w, i32_w]
                  rfl
                refine pure_ (i := 8) (N := some 29) (v := ?_) (a' := ?_) #[true, true, true, true, false, true, true, true, true, false, false, false, false, false, false, false, false, false, false, false, false] rfl rfl (any_of HT_.out (by kernel_rfl)) (fun _ _ _ h => h) (Or.inl ⟨by rfl, ?_⟩) ?_ ?_
                rotate_left
                · intro w'
                  go_simp
                  with_reducible rfl
                rotate_left
                · simp only [Act.put, List.setIfInBounds_toArray, List.set_cons_zero, List.set_cons_succ, i64_w, i32_w]
                  rfl
                refine pure_ (i := 10) (N := some 31) (v := ?_) (a' := ?_) #[true, true, true, true, false, true, true, true, true, false, true, false, false, false, false, false, false, false, false, false, false] rfl rfl (any_of HT_.out (by kernel_rfl)) (fun _ _ _ h => h) (Or.inl ⟨by rfl, ?_⟩) ?_ ?_
                rotate_left
                · intro w'
                  go_simp
                  with_reducible rfl
                rotate_left
                · simp only [Act.put, List.setIfInBounds_toArray, List.set_cons_zero, List.set_cons_succ, i64_w, i32_w]
                  rfl
                refine pure_ (i := 11) (N := some 32) (v := ?_) (a' := ?_) #[true, true, true, true, false, true, true, true, true, false, true, true, false, false, false, false, false, false, false, false, false] rfl rfl (any_of HT_.out (by kernel_rfl)) (fun _ _ _ h => h) (Or.inl ⟨by rfl, ?_⟩) ?_ ?_
                rotate_left
                · intro w'
                  go_simp
                  with_reducible rfl
                rotate_left
                · simp only [Act.put, List.setIfInBounds_toArray, List.set_cons_zero, List.set_cons_succ, i64_w, i32_w]
                  rfl
                refine pure_ (i := 12) (N := some 33) (v := ?_) (a' := ?_) #[true, true, true, true, false, true, true, true, true, false, true, true, true, false, false, false, false, false, false, false, false] rfl rfl (any_of HT_.out (by kernel_rfl)) (fun _ _ _ h => h) (Or.inl ⟨by rfl, ?_⟩) ?_ ?_
                rotate_left
                · intro w'
                  go_simp
                  with_reducible rfl
                rotate_left
                · simp only [Act.put, List.setIfInBounds_toArray, List.set_cons_zero, List.set_cons_succ, i64_w, i32_w]
                  rfl
                refine pure_ (i := 13) (N := some 34) (v := ?_) (a' := ?_) #[true, true, true, true, false, true, true, true, true, false, true, true, true, true, false, false, false, false, false, false, false] rfl rfl (any_of HT_.out (by kernel_rfl)) (fun _ _ _ h => h) (Or.inl ⟨by rfl, ?_⟩) ?_ ?_
                rotate_left
                · intro w'
                  go_simp
                  with_reducible rfl
                rotate_left
                · simp only [Act.put, List.setIfInBounds_toArray, List.set_cons_zero, List.set_cons_succ, i64_w, i32_w]
                  rfl
                refine pure_ (i := 16) (N := some 37) (v := ?_) (a' := ?_) #[true, true, true, true, false, true, true, true, true, false, true, true, true, true, false, false, true, false, false, false, false] rfl rfl (any_of HT_.out (by kernel_rfl)) (fun _ _ _ h => h) (Or.inl ⟨by rfl, ?_⟩) ?_ ?_
                rotate_left
                · intro w'
                  go_simp
                  with_reducible rfl
                rotate_left
                · simp only [Act.put, List.setIfInBounds_toArray, List.set_cons_zero, List.set_cons_succ, i64_w, i32_w]
                  rfl
                refine pure_ (i := 17) (N := some 38) (v := ?_) (a' := ?_) #[true, true, true, true, false, true, true, true, true, false, true, true, true, true, false, false, true, true, false, false, false] rfl rfl (any_of HT_.out (by kernel_rfl)) (fun _ _ _ h => h) (Or.inl ⟨by rfl, ?_⟩) ?_ ?_
                rotate_left
                · intro w'
                  go_simp
                  with_reducible rfl
                rotate_left
                · simp only [Act.put, List.setIfInBounds_toArray, List.set_cons_zero, List.set_cons_succ, i64_w, i32_w]
                  rfl
                refine take_ (i := 4) (N := some 25) (v := ?_) (a' := ?_) #[true, true, true, true, true, true, true, true, true, false, true, true, true, true, false, false, true, true, false, false, false] rfl rfl (take_ofW HT_.out HW_.out (by kernel_rfl)) (fun _ _ _ h => h) (Or.inl ⟨by rfl, ?_⟩) hHeld ?_ ?_
                rotate_left
                · rintro w' ⟨s0, s1, s2, s3, s4, s5, s6, s7, s8, s9, s10, s11, s12, s13, s14, s15, s16, s17, s18, s19, s20, s21, s22, s23, s24, s25, s26, s27, s28, s29, s30, s31, s32, s33, s34, s35, s36, s37, s38⟩
                  go_simp
                  with_reducible rfl
                rotate_left
                · simp only [Act.put, List.setIfInBounds_toArray, List.set_cons_zero, List.set_cons_succ, i64_w, i32_w]
                  rfl
                refine take_ (i := 9) (N := some 30) (v := ?_) (a' := ?_) #[true, true, true, true, true, true, true, true, true, true, true, true, true, true, false, false, true, true, false, false, false] rfl rfl (take_ofW HT_.out HW_.out (by kernel_rfl)) (fun _ _ _ h => h) (Or.inl ⟨by rfl, ?_⟩) hHeld ?_ ?_
                rotate_left
                · rintro w' ⟨s0, s1, s2, s3, s4, s5, s6, s7, s8, s9, s10, s11, s12, s13, s14, s15, s16, s17, s18, s19, s20, s21, s22, s23, s24, s25, s26, s27, s28, s29, s30, s31, s32, s33, s34, s35, s36, s37, s38⟩
                  go_simp
                  with_reducible rfl
                rotate_left
                · simp only [Act.put, List.setIfInBounds_toArray, List.set_cons_zero, List.set_cons_succ, i64_w, i32_w]
                  rfl
                refine take_ (i := 14) (N := some 35) (v := ?_) (a' := ?_) #[true, true, true, true, true, true, true, true, true, true, true, true, true, true, true, false, true, true, false, false, false] rfl rfl (take_ofW HT_.out HW_.out (by kernel_rfl)) (fun _ _ _ h => h) (Or.inl ⟨by rfl, ?_⟩) hHeld ?_ ?_
                rotate_left
                · rintro w' ⟨s0, s1, s2, s3, s4, s5, s6, s7, s8, s9, s10, s11, s12, s13, s14, s15, s16, s17, s18, s19, s20, s21, s22, s23, s24, s25, s26, s27, s28, s29, s30, s31, s32, s33, s34, s35, s36, s37, s38⟩
                  go_simp
                  with_reducible rfl
                rotate_left
                · simp only [Act.put, List.setIfInBounds_toArray, List.set_cons_zero, List.set_cons_succ, i64_w, i32_w]
                  rfl
                refine one_ (i := 15) (N := some 36) #[true, true, true, true, true, true, true, true, true, true, true, true, true, true, true, true, true, true, false, false, false] rfl rfl (one_of HT_.out (by kernel_rfl)) (by decide) (fun K hK => ?_)
                refine Kd.R_lit_step (Kd.int .i64) _ 2 ?hg (N := 36) ?hd (xs := ([(rd_T54 l0 x7_1).f1, (rd_T54 l0 x7_1).f2, (rd_T54 l0 x7_1).f4] : List Int)) (inner := [.int .i64 ((rd_T54 l0 x7_1).f1), .int .i64 ((rd_T54 l0 x7_1).f2), .int .i64 ((rd_T54 l0 x7_1).f4)]) (ok := fun _ => True) (okp := fun _ => True) ?hr ?hp (fun _ hk => hk) trivial (Below.refl _ _) (Nat.le_refl _) (by simp) ?_; (case hd => rfl); (case hg => rfl); (case hr => first | (go_simp; done) | (go_simp; rfl)); (case hp => exact (Reps.one (show Kd.M (Kd.int .i64) _ _ _ ((rd_T54 l0 x7_1).f1) [.int .i64 ((rd_T54 l0 x7_1).f1)] from rfl) (Reps.one (show Kd.M (Kd.int .i64) _ _ _ ((rd_T54 l0 x7_1).f2) [.int .i64 ((rd_T54 l0 x7_1).f2)] from rfl) (Reps.one (show Kd.M (Kd.int .i64) _ _ _ ((rd_T54 l0 x7_1).f4) [.int .i64 ((rd_T54 l0 x7_1).f4)] from rfl) (Reps.none _ _)))))
                intro v238 w11 ho12 hb hg_ hnew_
                clear hg_ hnew_
                (first | rw [← Ny237.out] at ho12 | (simp only [Int.reduceToNat] at ho12; rw [← Ny237.out] at ho12))
                have n0_ := Aside0.mk (Kd.R_lower ho12 (below_size (by repeat (first | (with_reducible first | exact HB.out | apply below_alloc | apply pw_below_drewN | apply below_drew1) | exact HB.out))))
                have n1_ := Aside0.mk (below_step (by repeat (first | (with_reducible first | exact HB.out | apply below_alloc | apply pw_below_drewN | apply below_drew1) | exact HB.out)) hb)
                clear HB
                have HO239 := n0_
                have HB := n1_
                clear n0_ n1_
                clear hb ho12
                obtain ⟨Ao13, co13, eo13⟩ := Kd.R_slice HO239.out
                subst eo13
                obtain ⟨ado13, fo13, _⟩ := Kd.at_int (Kd.R_reads' HO239.out).2.2 0 (by decide) (by rw [Ny237.out]; simp)
                cases fo13
                refine hK.out _ _ ⟨((HB.out.cell (World.block_lt_of_cell? w _ hw234_0)).trans hw234_0), ((HB.out.cell (World.block_lt_of_cell? w _ hw234_1)).trans hw234_1), ((HB.out.cell (World.block_lt_of_cell? w _ hw234_2)).trans hw234_2), ((HB.out.cell (World.block_lt_of_cell? w _ hw234_3)).trans hw234_3), ((HB.out.cell (World.block_lt_of_cell? w _ hw234_4)).trans hw234_4), ((HB.out.cell (World.block_lt_of_cell? w _ hw234_5)).trans hw234_5), ((HB.out.cell (World.block_lt_of_cell? w _ hw234_6)).trans hw234_6), ((HB.out.cell (World.block_lt_of_cell? w _ hw234_7)).trans hw234_7), ((HB.out.cell (World.block_lt_of_cell? w _ hw234_8)).trans hw234_8), ((HB.out.cell (World.block_lt_of_cell? w _ hw234_9)).trans hw234_9), ((HB.out.cell (World.block_lt_of_cell? w _ hw234_10)).trans hw234_10), ((HB.out.cell (World.block_lt_of_cell? w _ hw234_11)).trans hw234_11), ((HB.out.cell (World.block_lt_of_cell? w _ hw234_12)).trans hw234_12), ((HB.out.cell (World.block_lt_of_cell? w _ hw235_0)).trans hw235_0), ((HB.out.cell (World.block_lt_of_cell? w _ hw235_1)).trans hw235_1), ((HB.out.cell (World.block_lt_of_cell? w _ hw235_2)).trans hw235_2), ((HB.out.cell (World.block_lt_of_cell? w _ hw235_3)).trans hw235_3), ((HB.out.cell (World.block_lt_of_cell? w _ hw235_4)).trans hw235_4), ((HB.out.cell (World.block_lt_of_cell? w _ hw235_5)).trans hw235_5), ((HB.out.cell (World.block_lt_of_cell? w _ hw235_6)).trans hw235_6), ((HB.out.cell (World.block_lt_of_cell? w _ hw235_7)).trans hw235_7), ((HB.out.cell (World.block_lt_of_cell? w _ hw235_8)).trans hw235_8), ((HB.out.cell (World.block_lt_of_cell? w _ hw235_9)).trans hw235_9), ((HB.out.cell (World.block_lt_of_cell? w _ hw235_10)).trans hw235_10), ((HB.out.cell (World.block_lt_of_cell? w _ hw235_11)).trans hw235_11), ((HB.out.cell (World.block_lt_of_cell? w _ hw235_12)).trans hw235_12), ((HB.out.cell (World.block_lt_of_cell? w _ hw236_0)).trans hw236_0), ((HB.out.cell (World.block_lt_of_cell? w _ hw236_1)).trans hw236_1), ((HB.out.cell (World.block_lt_of_cell? w _ hw236_2)).trans hw236_2), ((HB.out.cell (World.block_lt_of_cell? w _ hw236_3)).trans hw236_3), ((HB.out.cell (World.block_lt_of_cell? w _ hw236_4)).trans hw236_4), ((HB.out.cell (World.block_lt_of_cell? w _ hw236_5)).trans hw236_5), ((HB.out.cell (World.block_lt_of_cell? w _ hw236_6)).trans hw236_6), ((HB.out.cell (World.block_lt_of_cell? w _ hw236_7)).trans hw236_7), ((HB.out.cell (World.block_lt_of_cell? w _ hw236_8)).trans hw236_8), ((HB.out.cell (World.block_lt_of_cell? w _ hw236_9)).trans hw236_9), ((HB.out.cell (World.block_lt_of_cell? w _ hw236_10)).trans hw236_10), ((HB.out.cell (World.block_lt_of_cell? w _ hw236_11)).trans hw236_11), ((HB.out.cell (World.block_lt_of_cell? w _ hw236_12)).trans hw236_12)⟩ (fun hHeld => ?_)
                clear hK K
                refine norm_ (a' := ?_) ?_ ?_
                rotate_left
                · show Act.put _ (some 36) _ = _
                  simp only [Act.put, List.setIfInBounds_toArray, List.set_cons_zero, List.set_cons_succ, i64_w, i32_w]
                  rfl
                refine pure_ (i := 18) (N := some 39) (v := ?_) (a' := ?_) #[true, true, true, true, true, true, true, true, true, true, true, true, true, true, true, true, true, true, true, false, false] rfl rfl (any_of HT_.out (by kernel_rfl)) (fun _ _ _ h => h) (Or.inl ⟨by rfl, ?_⟩) ?_ ?_
                rotate_left
                · intro w'
                  go_simp
                  with_reducible rfl
                rotate_left
                · simp only [Act.put, List.setIfInBounds_toArray, List.set_cons_zero, List.set_cons_succ, i64_w, i32_w]
                  rfl
                refine one_ (i := 19) (N := some 40) #[true, true, true, true, true, true, true, true, true, true, true, true, true, true, true, true, true, true, true, true, false] rfl rfl (one_of HT_.out (by kernel_rfl)) (by decide) (fun K hK => ?_)
                (have p240 : 0 ≤ ((ji7) : Int) := of_decide_eq_true (by first | (with_reducible assumption) | assumption); have q240 : (ji7) < (y237.length : Int) := of_decide_eq_true (by first | (with_reducible assumption) | assumption); obtain ⟨ad240, e240, hx240_0⟩ := Kd.at_int (Kd.R_reads' HO239.out).2.2 (ji7) p240 q240; obtain rfl : ado13 = ad240 := (by injection e240))
                refine value_ (w1 := ?_) (v := ?_) (by rfl) rfl ?_ ?_
                rotate_left 2
                · go_simp
                  constructor
                  · rfl
                  · rfl
                clear hx240_0
                refine hK.out _ _ ⟨((HB.out.cell (World.block_lt_of_cell? w _ hw234_0)).trans hw234_0), ((HB.out.cell (World.block_lt_of_cell? w _ hw234_1)).trans hw234_1), ((HB.out.cell (World.block_lt_of_cell? w _ hw234_2)).trans hw234_2), ((HB.out.cell (World.block_lt_of_cell? w _ hw234_3)).trans hw234_3), ((HB.out.cell (World.block_lt_of_cell? w _ hw234_4)).trans hw234_4), ((HB.out.cell (World.block_lt_of_cell? w _ hw234_5)).trans hw234_5), ((HB.out.cell (World.block_lt_of_cell? w _ hw234_6)).trans hw234_6), ((HB.out.cell (World.block_lt_of_cell? w _ hw234_7)).trans hw234_7), ((HB.out.cell (World.block_lt_of_cell? w _ hw234_8)).trans hw234_8), ((HB.out.cell (World.block_lt_of_cell? w _ hw234_9)).trans hw234_9), ((HB.out.cell (World.block_lt_of_cell? w _ hw234_10)).trans hw234_10), ((HB.out.cell (World.block_lt_of_cell? w _ hw234_11)).trans hw234_11), ((HB.out.cell (World.block_lt_of_cell? w _ hw234_12)).trans hw234_12), ((HB.out.cell (World.block_lt_of_cell? w _ hw235_0)).trans hw235_0), ((HB.out.cell (World.block_lt_of_cell? w _ hw235_1)).trans hw235_1), ((HB.out.cell (World.block_lt_of_cell? w _ hw235_2)).trans hw235_2), ((HB.out.cell (World.block_lt_of_cell? w _ hw235_3)).trans hw235_3), ((HB.out.cell (World.block_lt_of_cell? w _ hw235_4)).trans hw235_4), ((HB.out.cell (World.block_lt_of_cell? w _ hw235_5)).trans hw235_5), ((HB.out.cell (World.block_lt_of_cell? w _ hw235_6)).trans hw235_6), ((HB.out.cell (World.block_lt_of_cell? w _ hw235_7)).trans hw235_7), ((HB.out.cell (World.block_lt_of_cell? w _ hw235_8)).trans hw235_8), ((HB.out.cell (World.block_lt_of_cell? w _ hw235_9)).trans hw235_9), ((HB.out.cell (World.block_lt_of_cell? w _ hw235_10)).trans hw235_10), ((HB.out.cell (World.block_lt_of_cell? w _ hw235_11)).trans hw235_11), ((HB.out.cell (World.block_lt_of_cell? w _ hw235_12)).trans hw235_12), ((HB.out.cell (World.block_lt_of_cell? w _ hw236_0)).trans hw236_0), ((HB.out.cell (World.block_lt_of_cell? w _ hw236_1)).trans hw236_1), ((HB.out.cell (World.block_lt_of_cell? w _ hw236_2)).trans hw236_2), ((HB.out.cell (World.block_lt_of_cell? w _ hw236_3)).trans hw236_3), ((HB.out.cell (World.block_lt_of_cell? w _ hw236_4)).trans hw236_4), ((HB.out.cell (World.block_lt_of_cell? w _ hw236_5)).trans hw236_5), ((HB.out.cell (World.block_lt_of_cell? w _ hw236_6)).trans hw236_6), ((HB.out.cell (World.block_lt_of_cell? w _ hw236_7)).trans hw236_7), ((HB.out.cell (World.block_lt_of_cell? w _ hw236_8)).trans hw236_8), ((HB.out.cell (World.block_lt_of_cell? w _ hw236_9)).trans hw236_9), ((HB.out.cell (World.block_lt_of_cell? w _ hw236_10)).trans hw236_10), ((HB.out.cell (World.block_lt_of_cell? w _ hw236_11)).trans hw236_11), ((HB.out.cell (World.block_lt_of_cell? w _ hw236_12)).trans hw236_12)⟩ (fun hHeld => ?_)
                clear hK K
                refine norm_ (a' := ?_) ?_ ?_
                rotate_left
                · show Act.put _ (some 40) _ = _
                  simp only [Act.put, List.setIfInBounds_toArray, List.set_cons_zero, List.set_cons_succ, i64_w, i32_w]
                  rfl
                refine pure_ (i := 20) (N := some 6) (v := ?_) (a' := ?_) #[true, true, true, true, true, true, true, true, true, true, true, true, true, true, true, true, true, true, true, true, true] rfl rfl (any_of HT_.out (by kernel_rfl)) (fun _ _ _ h => h) (Or.inl ⟨by rfl, ?_⟩) ?_ ?_
                rotate_left
                · intro w'
                  go_simp
                  with_reducible rfl
                rotate_left
                · simp only [Act.put, List.setIfInBounds_toArray, List.set_cons_zero, List.set_cons_succ, i64_w, i32_w]
                  rfl
                refine done_ (done_of HT_.out (by kernel_rfl)) ?_
                try go_wp2
                go_ret
                exact ⟨by first | rfl | (simp [errW_none, errW_some] <;> rfl) | (simp only [← hji7]; first | rfl | (simp [errW_none, errW_some] <;> rfl)) | (simp [*, errW_none, errW_some] <;> rfl), by repeat (first | (with_reducible first | exact HB.out | apply below_alloc | apply pw_below_drewN | apply below_drew1) | exact HB.out)⟩
              · rw [if_neg c9] at H
                exact absurd H (by simp)
            · rw [if_neg c8] at H
              exact absurd H (by simp)
          · rw [if_neg c6] at H
            have c6b0 : (((rd_T54 l0 x7_1).f0) == a1) = false := beq_eq_false_iff_ne.mpr c6
            have c6b1 : (((rd_T54 l0 x7_1).f0) != a1) = true := bne_iff_ne.mpr c6
            have H' := Aside0.mk H
            clear H
            have p233 : 0 ≤ (x7_1 : Int) := of_decide_eq_true (by first | (with_reducible assumption) | assumption)
            have q233 : x7_1 < (l0.length : Int) := of_decide_eq_true (by first | (with_reducible assumption) | assumption)
            obtain ⟨ad233, e233, hx233_0, hx233_1, hx233_2, hx233_3, hx233_4, hx233_5, hx233_6, hx233_7, hx233_8, hx233_9, hx233_10, hx233_11, hx233_12⟩ := at_T54 HR0.out x7_1 p233 q233
            cases e233
            replace hx233_0 := (HB.out.cell (World.block_lt_of_cell? w _ hx233_0)).trans hx233_0
            replace hx233_1 := (HB.out.cell (World.block_lt_of_cell? w _ hx233_1)).trans hx233_1
            replace hx233_2 := (HB.out.cell (World.block_lt_of_cell? w _ hx233_2)).trans hx233_2
            replace hx233_3 := (HB.out.cell (World.block_lt_of_cell? w _ hx233_3)).trans hx233_3
            replace hx233_4 := (HB.out.cell (World.block_lt_of_cell? w _ hx233_4)).trans hx233_4
            replace hx233_5 := (HB.out.cell (World.block_lt_of_cell? w _ hx233_5)).trans hx233_5
            replace hx233_6 := (HB.out.cell (World.block_lt_of_cell? w _ hx233_6)).trans hx233_6
            replace hx233_7 := (HB.out.cell (World.block_lt_of_cell? w _ hx233_7)).trans hx233_7
            replace hx233_8 := (HB.out.cell (World.block_lt_of_cell? w _ hx233_8)).trans hx233_8
            replace hx233_9 := (HB.out.cell (World.block_lt_of_cell? w _ hx233_9)).trans hx233_9
            replace hx233_10 := (HB.out.cell (World.block_lt_of_cell? w _ hx233_10)).trans hx233_10
            replace hx233_11 := (HB.out.cell (World.block_lt_of_cell? w _ hx233_11)).trans hx233_11
            replace hx233_12 := (HB.out.cell (World.block_lt_of_cell? w _ hx233_12)).trans hx233_12
            replace p233 := eq_true p233
            replace q233 := eq_true q233
            go_wp2
            go_roundg k1
            case measure => have := HK1.out; omega
            case rel => exact ⟨(wrap64 (x7_1 + 1)), (by first | rfl | (simp; done) | (simp [*]; done)), H', ⟨by have := HK1.out; omega⟩, ⟨by repeat (first | (with_reducible first | exact HB.out | apply below_alloc | apply pw_below_drewN | apply below_drew1) | exact HB.out)⟩⟩
        · rw [if_neg c5] at H
          exact absurd H (by simp)
      · rw [if_neg c4] at H
        have c4b0 : decide (x7_1 < (l0.length : Int)) = false := decide_eq_false c4
        clear c4
        obtain rfl := Option.some.inj H
        go_wp2
        go_ret
        exact ⟨by first | rfl | (simp [errW_none, errW_some] <;> rfl) | (simp [*, errW_none, errW_some] <;> rfl), by repeat (first | (with_reducible first | exact HB.out | apply below_alloc | apply pw_below_drewN | apply below_drew1) | exact HB.out)⟩

/-! ### annuityref26_fits: function 27 -/
def annuityref26_fits.f (a0 : Int) (a1 : Int) : Option (Bool) := if a1 ≥ 0 then (some (decide (a0 ≥ (wrap64 ((-9223372036854775808) + a1))))) else (some (decide (a0 ≤ (wrap64 (9223372036854775807 + a1)))))
set_option maxHeartbeats 8000000 in
set_option maxRecDepth 100000 in
theorem annuityref26_fits.calls (a0 : Int) (a1 : Int) (r : Bool) (w : World) (h : annuityref26_fits.f a0 a1 = some r) :
    Calls Try.prog 27 #[.int .i64 a0, .int .i64 a1] w fun e w' => e = .returned (.bool r) ∧ Drawn0 w w' := by
  have H : (if a1 ≥ 0 then (some (decide (a0 ≥ (wrap64 ((-9223372036854775808) + a1))))) else (some (decide (a0 ≤ (wrap64 (9223372036854775807 + a1)))))) = some r := h
  clear h
  by_cases c3 : a1 ≥ 0
  · rw [if_pos c3] at H
    have c3b0 : decide (0 ≤ a1) = true := decide_eq_true c3
    clear c3
    obtain rfl := Option.some.inj H
    go_enter Try.func27, Try.ntmps27
    go_wp2
    go_ret
    exact ⟨by first | rfl | (simp; done) | (simp [*]; done), by repeat (first | exact Drawn0.refl _ | apply Drawn0.step)⟩
  · rw [if_neg c3] at H
    have c3b0 : decide (0 ≤ a1) = false := decide_eq_false c3
    clear c3
    obtain rfl := Option.some.inj H
    go_enter Try.func27, Try.ntmps27
    go_wp2
    go_ret
    exact ⟨by first | rfl | (simp; done) | (simp [*]; done), by repeat (first | exact Drawn0.refl _ | apply Drawn0.step)⟩

-- NOT PRINTED: function 12 (annuityref26_Diff)

-- NOT PRINTED: function 14 (annuityref26_Same)

-- NOT PRINTED: function 3 (annuitylaw26_EntryDiffers)

end Go.Proofs.Ytbgcmhakllodeaa.PEntryDiffers
