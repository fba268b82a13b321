/- The reference: entries together. -/
import Derived.Test.YtbgcmhakllodeaaI
import Derived.Test.YtbgcmhakllodeaaJp
import Derived.BigRegion
import Derived.Deep.DeepCutAuto
import Derived.Deep.CutBlock
namespace Go.Proofs.Ytbgcmhakllodeaa
open Go.RowKit Go.Proofs.YtbgcmhakllodeaaW.PrintWords Go.Proofs.YtbgcmhakllodeaaW.PrintLast Go.Proofs.YtbgcmhakllodeaaW.PrintMore
open PEntryDiffers

theorem C_one56 {W : World} {g : Nat} {x : S56} (h : W.heap[g]? = some (.cells #[.int .i64 x.f0, .int .i64 x.f1, .int .i64 x.f2] 57 (0, 0))) : Kd.C k56 W (some ⟨g, 0, none⟩) 1 [x] := by
  refine ⟨rfl, by decide, fun _ => ⟨⟨g, 0, none⟩, rfl, fun j p hj => ?_⟩⟩
  cases j with
  | succ j => simp at hj
  | zero =>
    obtain rfl : x = p := by simpa using hj
    refine ⟨_, rfl, k56_mk W x, fun i u hu => ?_⟩
    have := blk_cell h i
    rw [show (0 : Nat) * k56.sz + i = i by omega, add_plain, this]
    simpa using hu
theorem put56 {W : World} {base g cap e : Nat} {ok : Nat → Prop} {xs : List S56} {k : Nat} {y : S56} (v : Int) (h : k56.R e W base ok (.slice (some ⟨g, 0, none⟩) xs.length cap) xs) (hk : k < xs.length)
    (h0 : W.cell? ⟨g, k * 3, none⟩ = some (.int .i64 y.f0)) (h1 : W.cell? ⟨g, k * 3 + 1, none⟩ = some (.int .i64 y.f1)) (h2 : W.cell? ⟨g, k * 3 + 2, none⟩ = some (.int .i64 y.f2)) :
    k56.R e (W.setCell ⟨g, k * 3 + 2, none⟩ (.int .i64 v)) base ok (.slice (some ⟨g, 0, none⟩) xs.length cap) (xs.set k ⟨y.f0, y.f1, v⟩) := by
  have := (Kd.R_seg h (k : Int) (by omega) (by omega) (c := [.int .i64 y.f0, .int .i64 y.f1, .int .i64 y.f2]) (seg := [.int .i64 v]) (j := 2) (x' := ⟨y.f0, y.f1, v⟩) (okp := fun _ => False) rfl ?_ (show 2 + 1 ≤ 3 by omega) (k56_mkM _ _ _ _) (fun _ hk => hk.elim)).1
  · rw [Int.toNat_natCast] at this
    exact this
  · intro j u hu
    rw [Int.toNat_natCast]
    match j, hu with
    | 0, hu => rw [show k * k56.sz + 0 = k * 3 from rfl, h0]; exact hu
    | 1, hu => rw [show k * k56.sz + 1 = k * 3 + 1 from rfl, h1]; exact hu
    | 2, hu => rw [show k * k56.sz + 2 = k * 3 + 2 from rfl, h2]; exact hu
    | n + 3, hu => simp at hu
/-- What the reference's sum of entries answers. -/
def RefPost (w : World) (r : Option (List S56)) (e : Ending) (w' : World) : Prop :=
  match r with
  | none => e = .returned (.tuple #[.slice none 0 0, .int .i64 14]) ∧ Below w.heap.size w w'
  | some l => ∃ v, e = .returned (.tuple #[v, .int .i64 0]) ∧ Kd.R k56 57 w' w.heap.size (fun _ => True) v l ∧ Below w.heap.size w w'
theorem K_M56 {w : World} {base : Nat} {x : S56} {cs : List Value} (h : k56.K w x cs) : k56.M w base (fun _ => False) x cs := by
  obtain rfl := k56_open h
  exact k56_mkM _ _ _ _
set_option maxHeartbeats 4000000 in
set_option maxRecDepth 100000 in
theorem refAdd_calls (A1 B1 : Option Addr) (ca cb : Nat) (la lb : List S56) (w : World) (hra : Kd.C k56 w A1 la.length la) (hca : la.length ≤ ca) (hrb : Kd.C k56 w B1 lb.length lb) (hcb : lb.length ≤ cb)
    (ha : la.length ≤ 100000) (hb : lb.length ≤ 100000) :
    Calls Try.prog 16 #[.slice A1 la.length ca, .slice B1 lb.length cb] w (RefPost w (refAddL (la ++ lb))) := by
  have hB0 := (Below.refl w.heap.size w).alloc (Nat.le_refl _) (.cells #[] 57)
  have hR0 : Kd.R k56 57 (w.alloc (.cells #[] 57)) w.heap.size (fun _ => True) (.slice (some ⟨w.heap.size, 0, none⟩) 0 0) [] := R_empty k56 57 _ _ _ _ (fun _ => trivial) (Go.heap_alloc_new w _) (Nat.le_refl _)
  have HRA := Aside0.mk (Kd.C_below hra hB0)
  have HRB := Aside0.mk hrb
  have HR0 := Aside0.mk hR0
  have HB0 := Aside0.mk hB0
  clear hra hrb hR0 hB0
  go_enter Try.func16, Try.ntmps16
  go_wp2_with (first
    | (at_builtin; refine Kd.R_append_rows k56 (Rr := k56.K _) (w0 := w) w.heap.size rfl (.tmp 14) (.tmp 15) 32 57 _ 24 rfl Try.underlying32 info57 rfl (by decide) (by decide) _ [] la A1 la.length ca (fun _ => True) (fun _ => False) rfl rfl HR0.out HRA.out (fun _ _ h => K_M56 h) (fun _ h => h.elim) (fun _ _ => trivial) HB0.out (by simp) (by simp; omega) ?_; intro v1 w1 hR1 hB1 _ _)
    | (at_builtin; refine Kd.R_append_rows k56 (Rr := k56.K _) (w0 := w) w.heap.size rfl (.tmp 16) (.tmp 17) 32 57 _ 24 rfl Try.underlying32 info57 rfl (by decide) (by decide) _ la lb B1 lb.length cb (fun _ => True) (fun _ => False) rfl rfl hR1 (Kd.C_below HRB.out hB1) (fun _ _ h => K_M56 h) (fun _ h => h.elim) (fun _ _ => trivial) hB1 hB1.size (by omega) ?_; intro v2 w2 hR2 hB2 _ _; clear hR1 hB1))
  obtain ⟨A2, c2, rfl, hc2, hC2⟩ := Kd.R_reads hR2
  have hal : (la ++ lb).length ≤ 200000 := by simp; omega
  obtain ⟨all, hall⟩ : ∃ all, all = la ++ lb := ⟨_, rfl⟩
  rw [← hall] at hR2 hC2 hc2 hal ⊢
  have HALL := Lib.hid hall
  clear hall
  have hl2 : (all.length : Int) ≤ 200000 := by omega
  have HC2 := Aside0.mk hC2
  have HB2 := Lib.hid hB2
  have hsw := hB2.size
  clear hR2 hB2 hC2 HRA HRB HR0 HB0
  go_wp2
  go_loopw [6, 8] (fun v6 v8 wr => ∃ (i : Nat) (out : List S56), i ≤ all.length ∧ v8 = .int .i64 i ∧ addR (all.take i) [] = some out ∧ Kd.R k56 57 wr w2.heap.size (fun _ => True) v6 out ∧ Below w2.heap.size w2 wr) (fun _ v8 _ => all.length - (intOf v8).toNat)
  case atStart => exact ⟨0, [], by omega, rfl, rfl, Kd.R_nil _ _ _ _ _, Below.refl _ _⟩
  case round =>
    obtain ⟨i, out, hi, rfl, hA, hR6, hB6⟩ := hrel
    have hol := addR_len _ _ _ hA
    have hti := List.length_take_le i all
    simp only [List.length_nil, Nat.zero_add] at hol
    obtain ⟨Ao, co, hv6, hlo, hCo⟩ := Kd.R_reads hR6
    subst hv6
    by_cases hlt : i < all.length
    · have hlt' : (i : Int) < all.length := by omega
      obtain ⟨ad, rfl, hh⟩ := at_T56 HC2.out (i : Int) (by omega) (by omega)
      rw [Int.toNat_natCast] at hh
      have HSN := Lib.hid (addR_snoc all i hlt out hA)
      have hol2 : out.length ≤ 200000 := by omega
      clear hlt hol hti hA
      generalize rd_T56 all (i : Int) = x at hh HSN
      have hbw : ∀ a v, w2.cell? a = some v → wr.cell? a = some v := fun a v h => (hB6.cell (World.block_lt_of_cell? w2 a h)).trans h
      have c0 := hbw _ _ hh.1
      have c1 := hbw _ _ hh.2.1
      have c2' := hbw _ _ hh.2.2
      clear hh hbw
      have hpl := posA_le x out
      have hol' : (out.length : Int) ≤ 200000 := by omega
      go_upto_block 2 with fail
      obtain ⟨wo, rfl⟩ : ∃ wo : World, wo = wr := ⟨_, rfl⟩
      have hxb : (wo.alloc (Obj.cells #[.int .i64 x.f0, .int .i64 x.f1, .int .i64 x.f2] 57)).heap[wo.heap.size]? = some (Obj.cells #[.int .i64 x.f0, .int .i64 x.f1, .int .i64 x.f2] 57) := Go.heap_alloc_new _ _
      have hRx := Kd.R_alloc hR6 (Obj.cells #[.int .i64 x.f0, .int .i64 x.f1, .int .i64 x.f2] 57)
      have hBx := hB6.alloc hB6.size (Obj.cells #[.int .i64 x.f0, .int .i64 x.f1, .int .i64 x.f2] 57)
      have hgx : wo.heap.size < (wo.alloc (Obj.cells #[.int .i64 x.f0, .int .i64 x.f1, .int .i64 x.f2] 57)).heap.size := by simp
      have hgb := hB6.size
      clear c0 c1 c2' hR6 hB6 hCo
      generalize wo.alloc (Obj.cells #[.int .i64 x.f0, .int .i64 x.f1, .int .i64 x.f2] 57) = W at *
      generalize wo.heap.size = gx at *
      have Hxb := Lib.hid hxb
      clear hxb
      go_cut [10] (fun v10 wx => v10 = .int .i64 ((posA x out : Nat) : Int) ∧ Kd.R k56 57 wx w2.heap.size (fun _ => True) (.slice Ao out.length co) out ∧ Below w2.heap.size w2 wx ∧ wx.heap[gx]? = some (Obj.cells #[.int .i64 x.f0, .int .i64 x.f1, .int .i64 x.f2] 57))
      case first =>
        clear HSN
        go_wp2_with fail
        go_loopw [10] (fun v10 wr => ∃ k : Nat, k ≤ posA x out ∧ v10 = .int .i64 k ∧ Kd.R k56 57 wr w2.heap.size (fun _ => True) (.slice Ao out.length co) out ∧ Below w2.heap.size w2 wr ∧ wr.heap[gx]? = some (Obj.cells #[.int .i64 x.f0, .int .i64 x.f1, .int .i64 x.f2] 57)) (fun v10 _ => posA x out - (intOf v10).toNat)
        case atStart => exact ⟨0, by omega, rfl, hRx, hBx, Hxb.out⟩
        case round =>
          obtain ⟨k, hk, rfl, hRk, hBk, hxk⟩ := hrel
          have hCk := (Kd.R_reads' hRk).2.2
          have hBr := Below.refl wr.heap.size wr
          have hx0 : ∀ n, (wr.drewN n).cell? ⟨gx, 0, none⟩ = some (.int .i64 x.f0) := fun n => blk_cell (blk_drewN hxk n) 0
          have hx1 : ∀ n, (wr.drewN n).cell? ⟨gx, 1, none⟩ = some (.int .i64 x.f1) := fun n => blk_cell (blk_drewN hxk n) 1
          have hx2 : ∀ n, (wr.drewN n).cell? ⟨gx, 2, none⟩ = some (.int .i64 x.f2) := fun n => blk_cell (blk_drewN hxk n) 2
          have Hxk := Lib.hid hxk
          clear hxk
          by_cases hkp : k < posA x out
          · have hkl : k < out.length := by omega
            have hkl' : (k : Int) < out.length := by omega
            obtain ⟨ao, rfl, hh⟩ := at_T56 hCk (k : Int) (by omega) (by omega)
            rw [Int.toNat_natCast] at hh
            have hv := posA_get x out k hkp
            rw [show out.getD k z56 = rd_T56 out (k : Int) from by simp [rd_T56]] at hv
            generalize rd_T56 out (k : Int) = y at hh hv
            have hy0 := fun n => ((pw_below_drewN hBr n).cell (World.block_lt_of_cell? wr _ hh.1)).trans hh.1
            have hy1 := fun n => ((pw_below_drewN hBr n).cell (World.block_lt_of_cell? wr _ hh.2.1)).trans hh.2.1
            clear hkl hh
            rcases hv with hv | ⟨hv, hv1⟩
            · go_wp2
              go_quiet (fail)
              go_wp2
              go_roundw
              case rel => exact ⟨k + 1, by omega, by simp, Kd.R_drewN hRk _, pw_below_drewN hBk _, blk_drewN Hxk.out _⟩
              case measure => simp [intOf]; omega
            · have hv0 : ¬ y.f0 < x.f0 := by omega
              go_wp2
              go_quiet (fail)
              go_wp2
              go_roundw
              case rel => exact ⟨k + 1, by omega, by simp, Kd.R_drewN hRk _, pw_below_drewN hBk _, blk_drewN Hxk.out _⟩
              case measure => simp [intOf]; omega
          · have hkp' : k = posA x out := by omega
            clear hkp hk
            by_cases hend : posA x out = out.length
            · obtain rfl : k = out.length := by omega
              have HE := Lib.hid hend
              clear hkp' hend hpl
              go_wp2
              go_quiet (fail)
              go_wp2
              go_meet
              exact ⟨by rw [HE.out], Kd.R_drewN hRk _, pw_below_drewN hBk _, blk_drewN Hxk.out _⟩
            · have hlt2 : posA x out < out.length := by omega
              subst hkp'
              obtain ⟨ao, rfl, hh⟩ := at_T56 hCk ((posA x out : Nat) : Int) (by omega) (by omega)
              rw [Int.toNat_natCast] at hh
              have hge := posA_at x out hlt2
              rw [show out.getD (posA x out) z56 = rd_T56 out ((posA x out : Nat) : Int) from by simp [rd_T56]] at hge
              generalize rd_T56 out ((posA x out : Nat) : Int) = y at hh hge
              generalize posA x out = k at *
              have hkl' : (k : Int) < out.length := by omega
              have hy0 := fun n => ((pw_below_drewN hBr n).cell (World.block_lt_of_cell? wr _ hh.1)).trans hh.1
              have hy1 := fun n => ((pw_below_drewN hBr n).cell (World.block_lt_of_cell? wr _ hh.2.1)).trans hh.2.1
              clear hh
              have FIN := Lib.hid (fun n => (⟨Kd.R_drewN hRk _, pw_below_drewN hBk _, blk_drewN Hxk.out _⟩ : Kd.R k56 57 (wr.drewN n) w2.heap.size (fun _ => True) (.slice (some ao) out.length co) out ∧ Below w2.heap.size w2 (wr.drewN n) ∧ (wr.drewN n).heap[gx]? = some (Obj.cells #[.int .i64 x.f0, .int .i64 x.f1, .int .i64 x.f2] 57)))
              have hge0 : x.f0 ≤ y.f0 := by unfold lt56 at hge; omega
              by_cases he0 : y.f0 = x.f0
              · have hge1 : x.f1 ≤ y.f1 := by unfold lt56 at hge; omega
                clear hge hend hlt2
                go_wp2
                go_quiet (fail)
                go_wp2
                go_meet
                exact ⟨rfl, FIN.out _⟩
              · have hg1 : x.f0 < y.f0 := by omega
                clear hge hend hlt2
                go_wp2
                go_quiet (fail)
                go_wp2
                go_meet
                exact ⟨rfl, FIN.out _⟩
      case rest =>
        obtain ⟨rfl, hRk, hBk, hxk⟩ := hcut
        have hHk := Lib.hid hRk
        have HBk := Lib.hid hBk
        have Hxk := Lib.hid hxk
        obtain ⟨k, hk⟩ : ∃ k, k = posA x out := ⟨_, rfl⟩
        have hlo : k < out.length → x.f0 ≤ (out.getD k z56).f0 ∧ ((out.getD k z56).f0 = x.f0 → x.f1 ≤ (out.getD k z56).f1) := fun h => by
          subst hk
          have hge := posA_at x out h
          unfold lt56 at hge
          omega
        have hnew := insA_new (out := out) (x := x)
        have hold := insA_old (out := out) (x := x)
        rw [← hk] at hnew hold hpl ⊢
        rw [← HSN.out] at hnew hold
        have HNEW := Lib.hid hnew
        have HOLD := Lib.hid hold
        have HLO := Lib.hid hlo
        clear hnew hold hlo hk HSN
        go_upto_region 10 with fail
        have hCk := (Kd.R_reads' hRk).2.2
        have hBr := Below.refl wc.heap.size wc
        have hx0 : ∀ n, (wc.drewN n).cell? ⟨gx, 0, none⟩ = some (.int .i64 x.f0) := fun n => blk_cell (blk_drewN hxk n) 0
        have hx1 : ∀ n, (wc.drewN n).cell? ⟨gx, 1, none⟩ = some (.int .i64 x.f1) := fun n => blk_cell (blk_drewN hxk n) 1
        have hx2 : ∀ n, (wc.drewN n).cell? ⟨gx, 2, none⟩ = some (.int .i64 x.f2) := fun n => blk_cell (blk_drewN hxk n) 2
        clear hRk hBk hxk
        go_cut [88] (fun c wx => c = .bool (decide (¬ (k < out.length ∧ (out.getD k z56).f0 = x.f0 ∧ (out.getD k z56).f1 = x.f1))) ∧ ∃ n, wx = wc.drewN n)
        case first =>
          clear HNEW HOLD
          by_cases hend : k = out.length
          · have HB := Lib.hid (show decide (¬ (k < out.length ∧ (out.getD k z56).f0 = x.f0 ∧ (out.getD k z56).f1 = x.f1)) = true from decide_eq_true (fun h => absurd h.1 (by omega)))
            obtain rfl : k = out.length := hend
            clear hpl
            go_quiet (fail)
            go_wp2
            go_meet
            exact ⟨by rw [HB.out], _, rfl⟩
          · have hlt2 : k < out.length := by omega
            have hge := HLO.out hlt2
            obtain ⟨ao, rfl, hh⟩ := at_T56 hCk ((k : Nat) : Int) (by omega) (by omega)
            rw [Int.toNat_natCast] at hh
            rw [show out.getD k z56 = rd_T56 out ((k : Nat) : Int) from by simp [rd_T56]] at hge
            have hnb : decide (¬ (k < out.length ∧ (out.getD k z56).f0 = x.f0 ∧ (out.getD k z56).f1 = x.f1)) = decide (¬ ((rd_T56 out ((k : Nat) : Int)).f0 = x.f0 ∧ (rd_T56 out ((k : Nat) : Int)).f1 = x.f1)) := by
              rw [show out.getD k z56 = rd_T56 out ((k : Nat) : Int) from by simp [rd_T56]]
              simp [hlt2]
            have HNB := Lib.hid hnb
            clear hnb HLO
            generalize rd_T56 out ((k : Nat) : Int) = y at hh hge HNB
            have hkl' : (k : Int) < out.length := by omega
            have hbe : ((k : Int) == (out.length : Int)) = false := by rw [beq_eq_false_iff_ne]; omega
            have hy0 := fun n => ((pw_below_drewN hBr n).cell (World.block_lt_of_cell? wc _ hh.1)).trans hh.1
            have hy1 := fun n => ((pw_below_drewN hBr n).cell (World.block_lt_of_cell? wc _ hh.2.1)).trans hh.2.1
            obtain ⟨hge0, hge2⟩ := hge
            clear hh
            by_cases he0 : y.f0 = x.f0
            · have hge1 : x.f1 ≤ y.f1 := hge2 he0
              clear hge2 hend hlt2
              by_cases he1 : y.f1 = x.f1
              · have HB := Lib.hid (show decide (¬ (y.f0 = x.f0 ∧ y.f1 = x.f1)) = false from decide_eq_false (fun h => h ⟨he0, he1⟩))
                go_quiet (fail)
                go_wp2
                go_meet
                exact ⟨by (rw [HNB.out, HB.out]) <;> (first | done | rfl | exact congrArg Value.bool (by simp [he1]) | exact congrArg Value.bool (by simp [he0])), _, rfl⟩
              · have HB := Lib.hid (show decide (¬ (y.f0 = x.f0 ∧ y.f1 = x.f1)) = true from decide_eq_true (fun h => he1 h.2))
                have hg1 : x.f1 < y.f1 := by omega
                go_quiet (fail)
                go_wp2
                go_meet
                exact ⟨by (rw [HNB.out, HB.out]) <;> (first | done | rfl | exact congrArg Value.bool (by simp [he1]) | exact congrArg Value.bool (by simp [he0])), _, rfl⟩
            · have HB := Lib.hid (show decide (¬ (y.f0 = x.f0 ∧ y.f1 = x.f1)) = true from decide_eq_true (fun h => he0 h.1))
              have hg1 : x.f0 < y.f0 := by omega
              clear hge2 hend hlt2
              go_quiet (fail)
              go_wp2
              go_meet
              exact ⟨by (rw [HNB.out, HB.out]) <;> (first | done | rfl | exact congrArg Value.bool (by simp [he1]) | exact congrArg Value.bool (by simp [he0])), _, rfl⟩
        case rest =>
          obtain ⟨rfl, n9, rfl⟩ := hcut
          cases hnb : decide (¬ (k < out.length ∧ (out.getD k z56).f0 = x.f0 ∧ (out.getD k z56).f1 = x.f1)) with
          | true =>
            have hRk := Kd.R_drewN hHk.out n9
            have hBk := pw_below_drewN HBk.out n9
            have hxk := blk_drewN Hxk.out n9
            clear hx0 hx1 hx2 hCk hBr hHk HBk Hxk
            generalize wc.drewN n9 = wr at *
            have hCk := (Kd.R_reads' hRk).2.2
            have hBr := Below.refl wr.heap.size wr
            have hx0 : ∀ n, (wr.drewN n).cell? ⟨gx, 0, none⟩ = some (.int .i64 x.f0) := fun n => blk_cell (blk_drewN hxk n) 0
            have hx1 : ∀ n, (wr.drewN n).cell? ⟨gx, 1, none⟩ = some (.int .i64 x.f1) := fun n => blk_cell (blk_drewN hxk n) 1
            have hx2 : ∀ n, (wr.drewN n).cell? ⟨gx, 2, none⟩ = some (.int .i64 x.f2) := fun n => blk_cell (blk_drewN hxk n) 2
            clear hxk
            have HINS := Lib.hid (HNEW.out (of_decide_eq_true hnb))
            clear hnb HNEW HOLD HLO
            go_wp2
            have hx0' := hx0 0
            have hx1' := hx1 0
            have hx2' := hx2 0
            simp only [World.drewN_zero] at hx0' hx1' hx2'
            obtain ⟨Ai, hCt, hCd, hTo, hFr⟩ : ∃ Ad, Kd.C k56 wr Ao k (out.take k) ∧ Kd.C k56 wr Ad (out.length - k) (out.drop k) ∧ (∀ W : World, (Instr.slice 32 (.slice Ao out.length co) none (some (.int .i64 ((k : Nat) : Int))) none).run Try.prog W = .ok (.slice Ao k co) W) ∧ (∀ W : World, (Instr.slice 32 (.slice Ao out.length co) (some (.int .i64 ((k : Nat) : Int))) none none).run Try.prog W = .ok (.slice Ad (out.length - k) (co - k)) W) := by
              obtain ⟨i0, hi0, hz0⟩ := Option.map_eq_some_iff.1 info57
              simp only [Prod.mk.injEq] at hz0
              have h1 := Kd.C_take hCk (m := k) (by omega)
              have h2 := Kd.C_drop hCk (m := k) (c := co) (by omega) (by omega)
              rw [List.length_take, Nat.min_eq_left (by omega)] at h1
              rw [List.length_drop] at h2
              have h3 := cut_to 32 57 .i64 Try.underlying32 hi0 Ao out.length co ((k : Nat) : Int) (by omega) (by omega) (by omega)
              have h4 := cut_from 32 57 .i64 Try.underlying32 hi0 3 hz0.2.1 Ao out.length co ((k : Nat) : Int) (by omega) (by omega)
              rw [Int.toNat_natCast] at h3 h4
              exact ⟨_, h1, h2, h3, h4⟩
            try simp only [Nat.sub_self] at hCd
            have hS : ∀ W : World, Below wr.heap.size wr W → (Below wr.heap.size wr W ∧ W.cell? ⟨gx, 0, none⟩ = some (.int .i64 x.f0) ∧ W.cell? ⟨gx, 1, none⟩ = some (.int .i64 x.f1) ∧ W.cell? ⟨gx, 2, none⟩ = some (.int .i64 x.f2)) := fun W h => ⟨h, (h.cell (World.block_lt_of_cell? wr _ hx0')).trans hx0', (h.cell (World.block_lt_of_cell? wr _ hx1')).trans hx1', (h.cell (World.block_lt_of_cell? wr _ hx2')).trans hx2'⟩
            go_region_held3 (fun W : World => Below wr.heap.size wr W ∧ W.cell? ⟨gx, 0, none⟩ = some (.int .i64 x.f0) ∧ W.cell? ⟨gx, 1, none⟩ = some (.int .i64 x.f1) ∧ W.cell? ⟨gx, 2, none⟩ = some (.int .i64 x.f2)) ((refine hS _ ?_; with_reducible (repeat (first | assumption | exact (by assumption : Below wr.heap.size wr _ ∧ _).1 | apply below_alloc | apply pw_below_drewN | apply below_drew1))))
              (first | ((with_reducible refine gate_ap (xs := #[.tmp 89, .tmp 92]) rfl ?_); refine Kd.R_append_rows_step k56 (w0 := wr) wr.heap.size rfl (.tmp 89) (.tmp 92) 32 57 (.agg #[(.int .i64 0), (.int .i64 0), (.int .i64 0)]) 24 rfl Try.underlying32 info57 rfl (by decide) (by decide) _ [] (out.take k) _ _ _ (fun _ => True) (fun _ => False) rfl rfl (R_empty k56 57 _ _ _ _ (fun _ => trivial) (by first | exact Go.heap_alloc_new _ _ | exact blk_drewN (Go.heap_alloc_new _ _) _ | exact blk_alloc (Go.heap_alloc_new _ _) _ | exact blk_alloc (blk_drewN (Go.heap_alloc_new _ _) _) _ | exact blk_drewN (blk_alloc (Go.heap_alloc_new _ _) _) _ | exact blk_drewN (blk_alloc (blk_drewN (Go.heap_alloc_new _ _) _) _) _ | exact blk_next (by go_simp)) (by first | omega | (go_simp; omega))) (Kd.C_below hCt (by with_reducible (repeat (first | assumption | exact (by assumption : Below wr.heap.size wr _ ∧ _).1 | apply below_alloc | apply pw_below_drewN | apply below_drew1)))) (fun _ _ h => K_M56 h) (fun _ h => h.elim) (fun _ _ => trivial) (by with_reducible (repeat (first | assumption | exact (by assumption : Below wr.heap.size wr _ ∧ _).1 | apply below_alloc | apply pw_below_drewN | apply below_drew1))) (Below.size (by with_reducible (repeat (first | assumption | exact (by assumption : Below wr.heap.size wr _ ∧ _).1 | apply below_alloc | apply pw_below_drewN | apply below_drew1)))) (by simp; omega) ?_; intro v1 w1 hR1 hB1 hg1 ho1) | ((with_reducible refine gate_ap (xs := #[.tmp 96, .tmp 99]) rfl ?_); refine Kd.R_append_rows_step k56 (w0 := wr) wr.heap.size rfl (.tmp 96) (.tmp 99) 32 57 (.agg #[(.int .i64 0), (.int .i64 0), (.int .i64 0)]) 24 rfl Try.underlying32 info57 rfl (by decide) (by decide) v2 (([] ++ out.take k) ++ [x]) (out.drop k) _ _ _ (fun _ => True) (fun _ => False) rfl rfl (by with_reducible (first | exact Kd.R_drewN hR2 _ | exact hR2)) (Kd.C_below hCd (by with_reducible (repeat (first | assumption | exact (by assumption : Below wr.heap.size wr _ ∧ _).1 | apply below_alloc | apply pw_below_drewN | apply below_drew1)))) (fun _ _ h => K_M56 h) (fun _ h => h.elim) (fun _ _ => trivial) (by with_reducible (repeat (first | assumption | exact (by assumption : Below wr.heap.size wr _ ∧ _).1 | apply below_alloc | apply pw_below_drewN | apply below_drew1))) (Below.size (by with_reducible (repeat (first | assumption | exact (by assumption : Below wr.heap.size wr _ ∧ _).1 | apply below_alloc | apply pw_below_drewN | apply below_drew1)))) (by simp only [List.length_append, List.length_take, List.length_cons, List.length_nil]; omega) ?_; intro v3 w3 hR3 hB3 hg3 ho3) | ((with_reducible refine gate_ap (xs := #[.tmp 93, .tmp 95]) rfl ?_); refine Kd.R_append_step k56 (w0 := wr) wr.heap.size rfl (.tmp 93) (.tmp 95) 32 57 (.agg #[(.int .i64 0), (.int .i64 0), (.int .i64 0)]) 24 rfl Try.underlying32 info57 rfl (by decide) (by decide) v1 ([] ++ out.take k) x _ (fun _ => True) (fun _ => False) rfl rfl (k56_mkM _ _ _ _) (fun _ h => h.elim) (fun _ _ => trivial) (by with_reducible (first | exact Kd.R_drewN hR1 _ | exact hR1)) (by with_reducible (repeat (first | assumption | exact (by assumption : Below wr.heap.size wr _ ∧ _).1 | apply below_alloc | apply pw_below_drewN | apply below_drew1))) (Below.size (by with_reducible (repeat (first | assumption | exact (by assumption : Below wr.heap.size wr _ ∧ _).1 | apply below_alloc | apply pw_below_drewN | apply below_drew1)))) (by simp only [List.length_append, List.length_take, List.length_cons, List.length_nil]; omega) ?_; intro v2 w2' hR2 hB2 hg2 ho2) | ((with_reducible refine gate_ap (xs := #[.tmp 93, .tmp 95]) rfl ?_); refine Kd.R_append_rows_step k56 (w0 := wr) wr.heap.size rfl (.tmp 93) (.tmp 95) 32 57 (.agg #[(.int .i64 0), (.int .i64 0), (.int .i64 0)]) 24 rfl Try.underlying32 info57 rfl (by decide) (by decide) v1 ([] ++ out.take k) [x] _ _ _ (fun _ => True) (fun _ => False) rfl rfl (by with_reducible (first | exact Kd.R_drewN hR1 _ | exact hR1)) (C_one56 (by first | exact blk_drewN (blk_grown (by first | exact Go.heap_alloc_new _ _ | exact blk_drewN (Go.heap_alloc_new _ _) _ | exact blk_alloc (Go.heap_alloc_new _ _) _ | exact blk_alloc (blk_drewN (Go.heap_alloc_new _ _) _) _ | exact blk_drewN (blk_alloc (Go.heap_alloc_new _ _) _) _ | exact blk_drewN (blk_alloc (blk_drewN (Go.heap_alloc_new _ _) _) _) _ | exact blk_next (by go_simp)) hg1 (ob_ne (by omega))) _ | exact blk_grown (by first | exact Go.heap_alloc_new _ _ | exact blk_drewN (Go.heap_alloc_new _ _) _ | exact blk_alloc (Go.heap_alloc_new _ _) _ | exact blk_alloc (blk_drewN (Go.heap_alloc_new _ _) _) _ | exact blk_drewN (blk_alloc (Go.heap_alloc_new _ _) _) _ | exact blk_drewN (blk_alloc (blk_drewN (Go.heap_alloc_new _ _) _) _) _ | exact blk_next (by go_simp)) hg1 (ob_ne (by omega)))) (fun _ _ h => K_M56 h) (fun _ h => h.elim) (fun _ _ => trivial) (by with_reducible (repeat (first | assumption | exact (by assumption : Below wr.heap.size wr _ ∧ _).1 | apply below_alloc | apply pw_below_drewN | apply below_drew1))) (Below.size (by with_reducible (repeat (first | assumption | exact (by assumption : Below wr.heap.size wr _ ∧ _).1 | apply below_alloc | apply pw_below_drewN | apply below_drew1)))) (by simp only [List.length_append, List.length_take, List.length_cons, List.length_nil]; omega) ?_; intro v2 w2' hR2 hB2 hg2 ho2))
            all_goals
              go_wp2
              go_roundw
              case rel =>
                refine ⟨i + 1, _, by omega, by go_num, HINS.out, ?_, below_step hBk hB3⟩
                exact Kd.R_lower hR3 hBk.size
              case measure => simp [intOf]; omega
          | false =>
            have hRk := hHk.out
            have hBk := HBk.out
            obtain ⟨hlt2, he0, he1⟩ : k < out.length ∧ (out.getD k z56).f0 = x.f0 ∧ (out.getD k z56).f1 = x.f1 := Decidable.byContradiction fun h => by rw [decide_eq_true h] at hnb; cases hnb
            have hod := HOLD.out hlt2 he0 he1
            clear hnb HNEW HOLD HLO
            obtain ⟨ao, rfl, hh⟩ := at_T56 hCk ((k : Nat) : Int) (by omega) (by omega)
            rw [Int.toNat_natCast] at hh
            rw [show out.getD k z56 = rd_T56 out ((k : Nat) : Int) from by simp [rd_T56]] at he0 he1 hod
            generalize rd_T56 out ((k : Nat) : Int) = y at hh he0 he1 hod
            have hkl' : (k : Int) < out.length := by omega
            have hy0 := fun n => ((pw_below_drewN hBr n).cell (World.block_lt_of_cell? wc _ hh.1)).trans hh.1
            have hy1 := fun n => ((pw_below_drewN hBr n).cell (World.block_lt_of_cell? wc _ hh.2.1)).trans hh.2.1
            have hy2 := fun n => ((pw_below_drewN hBr n).cell (World.block_lt_of_cell? wc _ hh.2.2)).trans hh.2.2
            clear hh
            have hov : overA y.f2 x.f2 = decide ((x.f2 > 0 ∧ y.f2 > wrap64 (9223372036854775807 - x.f2)) ∨ (x.f2 < 0 ∧ y.f2 < wrap64 (-9223372036854775808 - x.f2))) := rfl
            obtain ⟨g1, cap1, hf1, hg1b, hg1l, cells1, hc1⟩ := Kd.R_form hRk (by omega)
            injection hf1 with hf1 hf2 hf3
            injection hf1 with hf1
            subst hf1 hf3
            simp only [add_plain] at hy0 hy1 hy2
            have HE0 := Lib.hid he0
            have HE1 := Lib.hid he1
            have hfz := blk_frozen hc1 (k * 3 + 2)
            have HOD := Lib.hid hod
            have HOV := Lib.hid hov
            clear he0 he1 hlt2 hod hov hf2 hc1
            by_cases p1 : 0 < x.f2
            · by_cases p2 : wrap64 (9223372036854775807 - x.f2) < y.f2
              · go_wp2
                go_ret2
                have hn : addR (all.take (i + 1)) [] = none := by rw [HOD.out, if_pos (by rw [HOV.out]; exact decide_eq_true (by omega))]
                have hr : refAddL all = none := by unfold refAddL; rw [addR_none hn]; rfl
                rw [hr]
                exact ⟨rfl, (below_step HB2.out hBk).trans (pw_below_drewN (Below.refl _ _) _)⟩
              · have p3 : y.f2 ≤ wrap64 (9223372036854775807 - x.f2) := by omega
                have p4 : ¬ x.f2 < 0 := by omega
                go_wp2
                go_region
                go_wp2
                go_roundw
                case rel =>
                  refine ⟨i + 1, _, by omega, by go_num, HOD.out.trans (if_neg (by rw [HOV.out, decide_eq_true_eq]; omega)), ?_, (pw_below_drewN hBk _).setCell hg1b _⟩
                  exact put56 _ (Kd.R_drewN hRk _) (by omega) (hy0 _) (hy1 _) (hy2 _)
                case measure => simp [intOf]; omega
            · by_cases p2 : x.f2 < 0
              · by_cases p3 : y.f2 < wrap64 (-9223372036854775808 - x.f2)
                · go_wp2
                  go_ret2
                  have hn : addR (all.take (i + 1)) [] = none := by rw [HOD.out, if_pos (by rw [HOV.out]; exact decide_eq_true (by omega))]
                  have hr : refAddL all = none := by unfold refAddL; rw [addR_none hn]; rfl
                  rw [hr]
                  exact ⟨rfl, (below_step HB2.out hBk).trans (pw_below_drewN (Below.refl _ _) _)⟩
                · have p4 : wrap64 (-9223372036854775808 - x.f2) ≤ y.f2 := by omega
                  go_wp2
                  go_region
                  go_wp2
                  go_roundw
                  case rel =>
                    refine ⟨i + 1, _, by omega, by go_num, HOD.out.trans (if_neg (by rw [HOV.out, decide_eq_true_eq]; omega)), ?_, (pw_below_drewN hBk _).setCell hg1b _⟩
                    exact put56 _ (Kd.R_drewN hRk _) (by omega) (hy0 _) (hy1 _) (hy2 _)
                  case measure => simp [intOf]; omega
              · go_wp2
                go_region
                go_wp2
                go_roundw
                case rel =>
                  refine ⟨i + 1, _, by omega, by go_num, HOD.out.trans (if_neg (by rw [HOV.out, decide_eq_true_eq]; omega)), ?_, (pw_below_drewN hBk _).setCell hg1b _⟩
                  exact put56 _ (Kd.R_drewN hRk _) (by omega) (hy0 _) (hy1 _) (hy2 _)
                case measure => simp [intOf]; omega
    · obtain rfl : i = all.length := by omega
      have hA2 : refAddL all = some (nz out) := by
        unfold refAddL
        rw [List.take_length] at hA
        rw [hA]
        rfl
      have HA2 := Lib.hid hA2
      have hol' : (out.length : Int) ≤ 200000 := by omega
      have HCo := Lib.hid hCo
      have HB6 := Lib.hid hB6
      clear hA hA2 hCo hR6 hB6 hlt
      go_wp2
      obtain ⟨wo, rfl⟩ : ∃ wo : World, wo = wr := ⟨_, rfl⟩
      go_loopw [12, 13] (fun v12 v13 wr => ∃ k : Nat, k ≤ out.length ∧ v13 = .int .i64 k ∧ Kd.R k56 57 wr wo.heap.size (fun _ => True) v12 (nz (out.take k)) ∧ Below wo.heap.size wo wr) (fun _ v13 _ => out.length - (intOf v13).toNat)
      case atStart => exact ⟨0, by omega, rfl, Kd.R_nil _ _ _ _ _, Below.refl _ _⟩
      case round =>
        obtain ⟨k, hk, rfl, hR, hB⟩ := hrel
        obtain ⟨An, cn, hv12, hln, hCn⟩ := Kd.R_reads hR
        subst hv12
        have hnl := nz_len (out.take k)
        have htk := List.length_take_le k out
        by_cases hkl : k < out.length
        · have hkl' : (k : Int) < out.length := by omega
          obtain ⟨ao, rfl, hh⟩ := at_T56 (Kd.C_below HCo.out hB) (k : Int) (by omega) (by omega)
          rw [Int.toNat_natCast] at hh
          obtain ⟨h0, h1, h2⟩ := hh
          have HNZ := Lib.hid (nz_snoc out k hkl)
          generalize rd_T56 out (k : Int) = y at h0 h1 h2 HNZ
          clear hkl hCn
          by_cases hz : y.f2 = 0
          · have HN := Lib.hid (HNZ.out.trans (by rw [if_pos hz, List.append_nil]))
            have HR := Lib.hid hR
            have HB := Lib.hid hB
            clear hR hB
            go_wp2
            go_roundw
            case rel => exact ⟨k + 1, by omega, by go_num, by rw [HN.out]; exact HR.out, HB.out⟩
            case measure => simp [intOf]; omega
          · have HN := Lib.hid (HNZ.out.trans (by rw [if_neg hz]))
            have HR := Aside0.mk hR
            have HB := Aside0.mk hB
            have hlq : (nz (out.take k)).length ≤ 200000 := by omega
            clear hR hB
            go_wp2_with (first | (at_builtin; refine Kd.R_append k56 (w0 := wo) wo.heap.size rfl (.tmp 150) (.tmp 155) 32 57 (.agg #[(.int .i64 0), (.int .i64 0), (.int .i64 0)]) 24 rfl Try.underlying32 info57 rfl (by decide) (by decide) _ (nz (out.take k)) y _ (fun _ => True) (fun _ => False) rfl rfl (k56_mkM _ _ _ _) (fun _ h => h.elim) (fun _ _ => trivial) HR.out HB.out HB.out.size (by omega) ?_; intro v3 u4 hR4 hB4 _ _))
            go_roundw
            case rel => exact ⟨k + 1, by omega, by go_num, by rw [HN.out]; exact hR4, hB4⟩
            case measure => simp [intOf]; omega
        · obtain rfl : k = out.length := by omega
          have HR := Lib.hid hR
          have HB := Lib.hid hB
          clear hR hB hCn
          go_wp2
          go_ret2
          first | rw [HA2.out] | rw [← HALL.out, HA2.out]
          refine ⟨_, rfl, ?_, below_step (below_step HB2.out HB6.out) HB.out⟩
          have e : nz (out.take out.length) = nz out := by rw [List.take_length]
          rw [← e]
          exact Kd.R_lower HR.out (below_step HB2.out HB6.out).size
end Go.Proofs.Ytbgcmhakllodeaa
