/- The reference: ids. -/
import Derived.Test.YtbgcmhakllodeaaG
namespace Go.Proofs.Ytbgcmhakllodeaa
open Go.RowKit Go.Proofs.YtbgcmhakllodeaaW.PrintWords Go.Proofs.YtbgcmhakllodeaaW.PrintLast Go.Proofs.YtbgcmhakllodeaaW.PrintMore
open PEntryDiffers

abbrev kI : Kd Int := Kd.int .i64
theorem R_empty {α : Type} (d : Kd α) (e : Nat) (w : World) (base g : Nat) (ok : Nat → Prop) (hok : ∀ k, ok k) (hg : w.heap[g]? = some (.cells #[] e (0, 0))) (hb : base ≤ g) : d.R e w base ok (.slice (some ⟨g, 0, none⟩) 0 0) [] := by
  refine ⟨fun k _ => hok k, ?_⟩
  refine ⟨[], ⟨by simp, .inr ⟨g, 0, #[], rfl, hb, hg, Nat.le_refl _, Nat.zero_le _, by simp, by simp⟩⟩, Reps.none _ _⟩
theorem K_M54 {w : World} {base : Nat} {x : S54} {cs : List Value} (h : k54.K w x cs) : k54.M w base (fun _ => False) x cs := by
  obtain rfl := k54_open h
  exact k54_mkM _ _ _ _
theorem at_I {w : World} {A : Option Addr} {n : Nat} {xs : List Int} (h : Kd.C kI w A n xs) (k : Nat) (hk : k < n) : ∃ ad, A = some ad ∧ w.cell? (ad.add k) = some (.int .i64 (xs.getD k 0)) := by
  obtain ⟨ad, c, e, hl, hK, hc⟩ := Kd.C_get h 0 (k : Int) (by omega) (by omega)
  refine ⟨ad, e, ?_⟩
  rw [Int.toNat_natCast] at hK hc
  obtain rfl : c = [.int .i64 (xs.getD k 0)] := hK
  have := hc 0 _ rfl
  rwa [show k * kI.sz + 0 = k from by show k * 1 + 0 = k; omega] at this
def posL (id : Int) (out : List Int) : Nat := (out.takeWhile fun y => decide (y < id)).length
def insId (out : List Int) (id : Int) : List Int := if out[posL id out]? = some id then out else out.take (posL id out) ++ [id] ++ out.drop (posL id out)
def idsL (ls : List S54) : List Int := ls.foldl (fun out x => insId out x.f0) []
theorem posL_le (id : Int) (out : List Int) : posL id out ≤ out.length := (List.takeWhile_sublist _).length_le
theorem idsL_snoc (ls : List S54) (k : Nat) (h : k < ls.length) : idsL (ls.take (k + 1)) = insId (idsL (ls.take k)) (rd_T54 ls (k : Int)).f0 := by
  unfold idsL
  rw [List.take_succ_eq_append_getElem h, List.foldl_append]
  simp [rd_T54, List.getD_eq_getElem?_getD, h]
theorem insId_len (out : List Int) (id : Int) : (insId out id).length ≤ out.length + 1 := by
  unfold insId
  have := posL_le id out
  split
  · omega
  · simp; omega
theorem foldl_ins_len : ∀ (ls : List S54) (out : List Int), (ls.foldl (fun out x => insId out x.f0) out).length ≤ out.length + ls.length
  | [], out => by simp
  | x :: r, out => by
    have h1 := insId_len out x.f0
    have h2 := foldl_ins_len r (insId out x.f0)
    simp only [List.foldl_cons, List.length_cons]
    omega
theorem idsL_len (ls : List S54) : (idsL ls).length ≤ ls.length := by
  have := foldl_ins_len ls []
  simpa [idsL] using this
theorem posL_get (id : Int) (out : List Int) (k : Nat) (h : k < posL id out) : out.getD k 0 < id := by
  induction out generalizing k with
  | nil => simp [posL] at h
  | cons y r ih =>
    unfold posL at h
    rw [List.takeWhile_cons] at h
    split at h
    · next hy =>
      cases k with
      | zero => simpa using hy
      | succ j =>
        simp only [List.length_cons] at h
        simpa using ih j (by unfold posL; omega)
    · simp at h
theorem posL_at (id : Int) (out : List Int) (h : posL id out < out.length) : ¬ out.getD (posL id out) 0 < id := by
  induction out with
  | nil => simp at h
  | cons y r ih =>
    unfold posL at h ⊢
    rw [List.takeWhile_cons] at h ⊢
    split
    · next hy =>
      rw [if_pos hy] at h
      simp only [List.length_cons] at h ⊢
      have := ih (by unfold posL; omega)
      unfold posL at this
      simpa using this
    · next hy => simpa using hy
theorem insId_end (id : Int) (out : List Int) (h : posL id out = out.length) : insId out id = out.take (posL id out) ++ [id] ++ out.drop (posL id out) := by
  unfold insId
  rw [if_neg]
  rw [h]; simp
theorem insId_eq (id : Int) (out : List Int) (h : posL id out < out.length) (he : out.getD (posL id out) 0 = id) : insId out id = out := by
  unfold insId
  rw [if_pos]
  rw [List.getD_eq_getElem?_getD, List.getElem?_eq_getElem h] at he
  rw [List.getElem?_eq_getElem h]
  simpa using he
theorem insId_ne (id : Int) (out : List Int) (h : posL id out < out.length) (he : ¬ out.getD (posL id out) 0 = id) : insId out id = out.take (posL id out) ++ [id] ++ out.drop (posL id out) := by
  unfold insId
  rw [if_neg]
  rw [List.getD_eq_getElem?_getD, List.getElem?_eq_getElem h] at he
  rw [List.getElem?_eq_getElem h]
  simpa using he
theorem gate_ap {P : Program} {o : Oper} {a : Act} {W : World} {Kc : Act → World → Prop} {Q : Exit → Act → World → Prop} {Y : Nat → Option Bool} {R : Prop} (xs : Array Operand) {ts : Array TypeId} (_h : o.op = .call { callee := .builtin .append, args := xs, argTypes := ts }) (g : if Region.wanted o Y = true then Oper.wp P o a W Kc Q else R) : if Region.wanted o Y = true then Oper.wp P o a W Kc Q else R := g
theorem ob_ne {g g' n c : Nat} (h : g ≠ g') : some g ≠ (Value.slice (some ⟨g', 0, none⟩) n c).ownBlock := fun e => h (by simpa [Value.ownBlock] using e)
theorem blk_next {w : World} {o : Obj} {g : Nat} (h : g = w.heap.size) : (w.alloc o).heap[g]? = some o := h ▸ Go.heap_alloc_new w o
theorem K_MI {w : World} {base : Nat} {x : Int} {cs : List Value} (h : kI.K w x cs) : kI.M w base (fun _ => False) x cs := by
  obtain rfl : cs = [.int .i64 x] := h
  exact rfl
theorem C_oneI {W : World} {g : Nat} {x : Int} (h : W.heap[g]? = some (.cells #[.int .i64 x] 3 (0, 0))) : Kd.C kI W (some ⟨g, 0, none⟩) 1 [x] := by
  refine ⟨rfl, by decide, fun _ => ⟨⟨g, 0, none⟩, rfl, fun j p hj => ?_⟩⟩
  cases j with
  | succ j => simp at hj
  | zero =>
    obtain rfl : x = p := by simpa using hj
    refine ⟨[.int .i64 x], rfl, rfl, fun i u hu => ?_⟩
    cases i with
    | succ i => simp at hu
    | zero =>
      obtain rfl : Value.int .i64 x = u := by simpa using hu
      exact blk_cell h 0
set_option maxHeartbeats 4000000 in
set_option maxRecDepth 100000 in
theorem ids_calls (A1 B1 : Option Addr) (ca cb : Nat) (la lb : List S54) (w : World) (hra : Kd.C k54 w A1 la.length la) (hca : la.length ≤ ca) (hrb : Kd.C k54 w B1 lb.length lb) (hcb : lb.length ≤ cb)
    (ha : la.length ≤ 100000) (hb : lb.length ≤ 100000) :
    Calls Try.prog 25 #[.slice A1 la.length ca, .slice B1 lb.length cb] w fun e w' => ∃ v, e = .returned v ∧ Kd.R kI 3 w' w.heap.size (fun _ => True) v (idsL (la ++ lb)) ∧ Below w.heap.size w w' := by
  have hB0 := (Below.refl w.heap.size w).alloc (Nat.le_refl _) (.cells #[] 54)
  have hR0 : Kd.R k54 54 (w.alloc (.cells #[] 54)) w.heap.size (fun _ => True) (.slice (some ⟨w.heap.size, 0, none⟩) 0 0) [] := R_empty k54 54 _ _ _ _ (fun _ => trivial) (Go.heap_alloc_new w _) (Nat.le_refl _)
  have HRA := Aside0.mk (Kd.C_below hra hB0)
  have HRB := Aside0.mk hrb
  have HR0 := Aside0.mk hR0
  have HB0 := Aside0.mk hB0
  clear hra hrb hR0 hB0
  go_enter Try.func25, Try.ntmps25
  go_wp2_with (first
    | (at_builtin; refine Kd.R_append_rows k54 (Rr := k54.K _) (w0 := w) w.heap.size rfl (.tmp 9) (.tmp 10) 22 54 _ 104 rfl Try.underlying22 info54 rfl (by decide) (by decide) _ [] la A1 la.length ca (fun _ => True) (fun _ => False) rfl rfl HR0.out HRA.out (fun _ _ h => K_M54 h) (fun _ h => h.elim) (fun _ _ => trivial) HB0.out (by simp) (by simp; omega) ?_; intro v1 w1 hR1 hB1 _ _)
    | (at_builtin; refine Kd.R_append_rows k54 (Rr := k54.K _) (w0 := w) w.heap.size rfl (.tmp 11) (.tmp 12) 22 54 _ 104 rfl Try.underlying22 info54 rfl (by decide) (by decide) _ la lb B1 lb.length cb (fun _ => True) (fun _ => False) rfl rfl hR1 (Kd.C_below HRB.out hB1) (fun _ _ h => K_M54 h) (fun _ h => h.elim) (fun _ _ => trivial) hB1 hB1.size (by omega) ?_; intro v2 w2 hR2 hB2 _ _; clear hR1 hB1))
  obtain ⟨A2, c2, rfl, hc2, hC2⟩ := Kd.R_reads hR2
  have hal : (la ++ lb).length ≤ 200000 := by simp; omega
  obtain ⟨all, hall⟩ : ∃ all, all = la ++ lb := ⟨_, rfl⟩
  rw [← hall] at hR2 hC2 hc2 hal ⊢
  have HALL := Lib.hid hall
  clear hall
  have hl2 : (all.length : Int) ≤ 200000 := by omega
  have HC2 := Aside0.mk hC2
  have HB2 := Lib.hid hB2
  have hsw := hB2.size
  clear hR2 hB2 hC2
  go_wp2
  go_loopw [5, 7] (fun v5 v7 wr => ∃ i : Nat, i ≤ all.length ∧ v7 = .int .i64 i ∧ Kd.R kI 3 wr w2.heap.size (fun _ => True) v5 (idsL (all.take i)) ∧ Below w2.heap.size w2 wr) (fun _ v7 _ => all.length - (intOf v7).toNat)
  case atStart => exact ⟨0, by omega, rfl, Kd.R_nil _ _ _ _ _, Below.refl _ _⟩
  case round =>
    obtain ⟨i, hi, rfl, hR5, hB5⟩ := hrel
    obtain ⟨Ao, co, hv5, hlo, hCo⟩ := Kd.R_reads hR5
    subst hv5
    by_cases hlt : i < all.length
    · have hlt' : (i : Int) < all.length := by omega
      obtain ⟨ad, rfl, hh⟩ := at_T54 HC2.out (i : Int) (by omega) (by omega)
      rw [Int.toNat_natCast] at hh
      have hid2 := hh.1
      have HSN := Lib.hid (idsL_snoc all i hlt)
      have hol : (idsL (all.take i)).length ≤ i := Nat.le_trans (idsL_len _) (List.length_take_le _ _)
      clear hh hlt
      generalize (rd_T54 all (i : Int)).f0 = id at hid2 HSN
      generalize idsL (all.take i) = out at hR5 hlo hCo HSN hol
      have hpl := posL_le id out
      have hol' : (out.length : Int) ≤ 200000 := by omega
      go_wp2
      obtain ⟨wo, rfl⟩ : ∃ wo : World, wo = wr := ⟨_, rfl⟩
      go_loopw [8] (fun v8 wr => ∃ k : Nat, k ≤ posL id out ∧ v8 = .int .i64 k ∧ Kd.R kI 3 wr w2.heap.size (fun _ => True) (.slice Ao out.length co) out ∧ Below w2.heap.size w2 wr) (fun v8 _ => posL id out - (intOf v8).toNat)
      case atStart => exact ⟨0, by omega, rfl, hR5, hB5⟩
      case round =>
        obtain ⟨k, hk, rfl, hRk, hBk⟩ := hrel
        have hCk := (Kd.R_reads' hRk).2.2
        have cid := fun n => (pw_below_drewN hBk n).cell (p := ad.add (i * 13)) (World.block_lt_of_cell? w2 _ hid2) |>.trans hid2
        have hBr := Below.refl wr.heap.size wr
        by_cases hkp : k < posL id out
        · have hkl : k < out.length := by omega
          have hkl' : (k : Int) < out.length := by omega
          obtain ⟨ao, rfl, ck⟩ := at_I hCk k hkl
          have ckn := fun n => ((pw_below_drewN hBr n).cell (World.block_lt_of_cell? wr _ ck)).trans ck
          have hv := posL_get id out k hkp
          generalize out.getD k 0 = y at ck ckn hv
          clear hkl
          go_wp2
          go_quiet (fail)
          go_wp2
          go_roundw
          case rel => exact ⟨k + 1, by omega, by simp, Kd.R_drewN hRk nq, pw_below_drewN hBk nq⟩
          case measure => simp [intOf]; omega
        · obtain rfl : k = posL id out := by omega
          by_cases hend : posL id out = out.length
          · have HINS := Lib.hid (insId_end id out hend)
            generalize posL id out = q at hend hpl hk hkp ⊢ hRk hBk HINS
            obtain rfl : q = out.length := hend
            go_wp2
            go_quiet (fail)
            go_wp2
            go_quiet (fail)
            go_wp2
            have hcid := cid 0
            simp only [World.drewN_zero] at hcid
            obtain ⟨Ai, hCt, hCd, hTo, hFr⟩ : ∃ Ad, Kd.C kI wr Ao out.length (out.take out.length) ∧ Kd.C kI wr Ad (out.length - out.length) (out.drop out.length) ∧ (∀ W : World, (Instr.slice 50 (.slice Ao out.length co) none (some (.int .i64 ((out.length : Nat) : Int))) none).run Try.prog W = .ok (.slice Ao out.length co) W) ∧ (∀ W : World, (Instr.slice 50 (.slice Ao out.length co) (some (.int .i64 ((out.length : Nat) : Int))) none none).run Try.prog W = .ok (.slice Ad (out.length - out.length) (co - out.length)) W) := by
              obtain ⟨i0, hi0, hz0⟩ := Option.map_eq_some_iff.1 info3
              simp only [Prod.mk.injEq] at hz0
              have h1 := Kd.C_take hCk (m := out.length) (by omega)
              have h2 := Kd.C_drop hCk (m := out.length) (c := co) (by omega) (by omega)
              rw [List.length_take, Nat.min_eq_left (by omega)] at h1
              rw [List.length_drop] at h2
              have h3 := cut_to 50 3 .i64 Try.underlying50 hi0 Ao out.length co ((out.length : Nat) : Int) (by omega) (by omega) (by omega)
              have h4 := cut_from 50 3 .i64 Try.underlying50 hi0 1 hz0.2.1 Ao out.length co ((out.length : Nat) : Int) (by omega) (by omega)
              rw [Int.toNat_natCast] at h3 h4
              exact ⟨_, h1, h2, h3, h4⟩
            try simp only [Nat.sub_self] at hCd
            have hS : ∀ W : World, Below wr.heap.size wr W → (Below wr.heap.size wr W ∧ W.cell? (ad.add (i * 13)) = some (.int .i64 id)) := fun W h => ⟨h, (h.cell (World.block_lt_of_cell? wr _ hcid)).trans hcid⟩
            go_region_held3 (fun W : World => Below wr.heap.size wr W ∧ W.cell? (ad.add (i * 13)) = some (.int .i64 id)) ((refine hS _ ?_; with_reducible (repeat (first | assumption | exact (by assumption : Below wr.heap.size wr _ ∧ _).1 | apply below_alloc | apply pw_below_drewN | apply below_drew1))))
              (first | ((with_reducible refine gate_ap (xs := #[.tmp 54, .tmp 57]) rfl ?_); refine Kd.R_append_rows_step kI (w0 := wr) wr.heap.size rfl (.tmp 54) (.tmp 57) 50 3 (.int .i64 0) 8 rfl Try.underlying50 info3 rfl (by decide) (by decide) _ [] (out.take out.length) _ _ _ (fun _ => True) (fun _ => False) rfl rfl (R_empty kI 3 _ _ _ _ (fun _ => trivial) (by first | exact Go.heap_alloc_new _ _ | exact blk_drewN (Go.heap_alloc_new _ _) _ | exact blk_alloc (Go.heap_alloc_new _ _) _ | exact blk_alloc (blk_drewN (Go.heap_alloc_new _ _) _) _ | exact blk_drewN (blk_alloc (Go.heap_alloc_new _ _) _) _ | exact blk_drewN (blk_alloc (blk_drewN (Go.heap_alloc_new _ _) _) _) _ | exact blk_next (by go_simp)) (by first | omega | (go_simp; omega))) (Kd.C_below hCt (by with_reducible (repeat (first | assumption | exact (by assumption : Below wr.heap.size wr _ ∧ _).1 | apply below_alloc | apply pw_below_drewN | apply below_drew1)))) (fun _ _ h => K_MI h) (fun _ h => h.elim) (fun _ _ => trivial) (by with_reducible (repeat (first | assumption | exact (by assumption : Below wr.heap.size wr _ ∧ _).1 | apply below_alloc | apply pw_below_drewN | apply below_drew1))) (Below.size (by with_reducible (repeat (first | assumption | exact (by assumption : Below wr.heap.size wr _ ∧ _).1 | apply below_alloc | apply pw_below_drewN | apply below_drew1)))) (by simp; omega) ?_; intro v1 w1 hR1 hB1 hg1 ho1) | ((with_reducible refine gate_ap (xs := #[.tmp 65, .tmp 68]) rfl ?_); refine Kd.R_append_rows_step kI (w0 := wr) wr.heap.size rfl (.tmp 65) (.tmp 68) 50 3 (.int .i64 0) 8 rfl Try.underlying50 info3 rfl (by decide) (by decide) v2 (([] ++ out.take out.length) ++ [id]) (out.drop out.length) _ _ _ (fun _ => True) (fun _ => False) rfl rfl (by with_reducible (first | exact Kd.R_drewN hR2 _ | exact hR2)) (Kd.C_below hCd (by with_reducible (repeat (first | assumption | exact (by assumption : Below wr.heap.size wr _ ∧ _).1 | apply below_alloc | apply pw_below_drewN | apply below_drew1)))) (fun _ _ h => K_MI h) (fun _ h => h.elim) (fun _ _ => trivial) (by with_reducible (repeat (first | assumption | exact (by assumption : Below wr.heap.size wr _ ∧ _).1 | apply below_alloc | apply pw_below_drewN | apply below_drew1))) (Below.size (by with_reducible (repeat (first | assumption | exact (by assumption : Below wr.heap.size wr _ ∧ _).1 | apply below_alloc | apply pw_below_drewN | apply below_drew1)))) (by simp only [List.length_append, List.length_take, List.length_cons, List.length_nil]; omega) ?_; intro v3 w3 hR3 hB3 hg3 ho3) | ((with_reducible refine gate_ap (xs := #[.tmp 58, .tmp 64]) rfl ?_); refine Kd.R_append_step kI (w0 := wr) wr.heap.size rfl (.tmp 58) (.tmp 64) 50 3 (.int .i64 0) 8 rfl Try.underlying50 info3 rfl (by decide) (by decide) v1 ([] ++ out.take out.length) id _ (fun _ => True) (fun _ => False) rfl rfl rfl (fun _ h => h.elim) (fun _ _ => trivial) (by with_reducible (first | exact Kd.R_drewN hR1 _ | exact hR1)) (by with_reducible (repeat (first | assumption | exact (by assumption : Below wr.heap.size wr _ ∧ _).1 | apply below_alloc | apply pw_below_drewN | apply below_drew1))) (Below.size (by with_reducible (repeat (first | assumption | exact (by assumption : Below wr.heap.size wr _ ∧ _).1 | apply below_alloc | apply pw_below_drewN | apply below_drew1)))) (by simp only [List.length_append, List.length_take, List.length_cons, List.length_nil]; omega) ?_; intro v2 w2' hR2 hB2 hg2 ho2) | ((with_reducible refine gate_ap (xs := #[.tmp 58, .tmp 64]) rfl ?_); refine Kd.R_append_rows_step kI (w0 := wr) wr.heap.size rfl (.tmp 58) (.tmp 64) 50 3 (.int .i64 0) 8 rfl Try.underlying50 info3 rfl (by decide) (by decide) v1 ([] ++ out.take out.length) [id] _ _ _ (fun _ => True) (fun _ => False) rfl rfl (by with_reducible (first | exact Kd.R_drewN hR1 _ | exact hR1)) (C_oneI (by first | exact blk_drewN (blk_grown (by first | exact Go.heap_alloc_new _ _ | exact blk_drewN (Go.heap_alloc_new _ _) _ | exact blk_alloc (Go.heap_alloc_new _ _) _ | exact blk_alloc (blk_drewN (Go.heap_alloc_new _ _) _) _ | exact blk_drewN (blk_alloc (Go.heap_alloc_new _ _) _) _ | exact blk_drewN (blk_alloc (blk_drewN (Go.heap_alloc_new _ _) _) _) _ | exact blk_next (by go_simp)) hg1 (ob_ne (by omega))) _ | exact blk_grown (by first | exact Go.heap_alloc_new _ _ | exact blk_drewN (Go.heap_alloc_new _ _) _ | exact blk_alloc (Go.heap_alloc_new _ _) _ | exact blk_alloc (blk_drewN (Go.heap_alloc_new _ _) _) _ | exact blk_drewN (blk_alloc (Go.heap_alloc_new _ _) _) _ | exact blk_drewN (blk_alloc (blk_drewN (Go.heap_alloc_new _ _) _) _) _ | exact blk_next (by go_simp)) hg1 (ob_ne (by omega)))) (fun _ _ h => K_MI h) (fun _ h => h.elim) (fun _ _ => trivial) (by with_reducible (repeat (first | assumption | exact (by assumption : Below wr.heap.size wr _ ∧ _).1 | apply below_alloc | apply pw_below_drewN | apply below_drew1))) (Below.size (by with_reducible (repeat (first | assumption | exact (by assumption : Below wr.heap.size wr _ ∧ _).1 | apply below_alloc | apply pw_below_drewN | apply below_drew1)))) (by simp only [List.length_append, List.length_take, List.length_cons, List.length_nil]; omega) ?_; intro v2 w2' hR2 hB2 hg2 ho2))
            all_goals
              go_wp2
              go_roundw
              case rel =>
                refine ⟨i + 1, by omega, by simp, ?_, below_step hBk hB3⟩
                rw [HSN.out, HINS.out]
                exact Kd.R_lower hR3 hBk.size
              case measure => simp [intOf]; omega
          · have hlt2 : posL id out < out.length := by omega
            obtain ⟨ao, rfl, ck⟩ := at_I hCk _ hlt2
            have ckn := fun n => ((pw_below_drewN hBr n).cell (World.block_lt_of_cell? wr _ ck)).trans ck
            have hge := posL_at id out hlt2
            have HE := Lib.hid (insId_eq id out hlt2)
            have HN := Lib.hid (insId_ne id out hlt2)
            generalize out.getD (posL id out) 0 = y at ck ckn hge HE HN
            generalize posL id out = k at hend hpl hk hkp hlt2 ⊢ hRk hBk HE HN ck ckn
            have hkl' : (k : Int) < out.length := by omega
            have hge' : id ≤ y := by omega
            have hbe : ((k : Int) == (out.length : Int)) = false := by rw [beq_eq_false_iff_ne]; omega
            by_cases hyi : y = id
            · have HEQ := Lib.hid (HE.out hyi)
              obtain rfl : id = y := hyi.symm
              clear hge'
              go_wp2
              go_quiet (fail)
              go_wp2
              go_quiet (fail)
              go_wp2
              go_roundw
              case rel =>
                refine ⟨i + 1, by omega, by simp, ?_, pw_below_drewN hBk _⟩
                rw [HSN.out, HEQ.out]
                exact Kd.R_drewN hRk _
              case measure => simp [intOf]; omega
            · have HINS := Lib.hid (HN.out hyi)
              have hcid := cid 0
              simp only [World.drewN_zero] at hcid
              go_wp2
              go_quiet (fail)
              go_wp2
              go_quiet (fail)
              go_wp2
              obtain ⟨Ai, hCt, hCd, hTo, hFr⟩ : ∃ Ad, Kd.C kI wr (some ao) k (out.take k) ∧ Kd.C kI wr Ad (out.length - k) (out.drop k) ∧ (∀ W : World, (Instr.slice 50 (.slice (some ao) out.length co) none (some (.int .i64 ((k : Nat) : Int))) none).run Try.prog W = .ok (.slice (some ao) k co) W) ∧ (∀ W : World, (Instr.slice 50 (.slice (some ao) out.length co) (some (.int .i64 ((k : Nat) : Int))) none none).run Try.prog W = .ok (.slice Ad (out.length - k) (co - k)) W) := by
                obtain ⟨i0, hi0, hz0⟩ := Option.map_eq_some_iff.1 info3
                simp only [Prod.mk.injEq] at hz0
                have h1 := Kd.C_take hCk (m := k) (by omega)
                have h2 := Kd.C_drop hCk (m := k) (c := co) (by omega) (by omega)
                rw [List.length_take, Nat.min_eq_left (by omega)] at h1
                rw [List.length_drop] at h2
                have h3 := cut_to 50 3 .i64 Try.underlying50 hi0 (some ao) out.length co ((k : Nat) : Int) (by omega) (by omega) (by omega)
                have h4 := cut_from 50 3 .i64 Try.underlying50 hi0 1 hz0.2.1 (some ao) out.length co ((k : Nat) : Int) (by omega) (by omega)
                rw [Int.toNat_natCast] at h3 h4
                exact ⟨_, h1, h2, h3, h4⟩
              try simp only [Nat.sub_self] at hCd
              have hS : ∀ W : World, Below wr.heap.size wr W → (Below wr.heap.size wr W ∧ W.cell? (ad.add (i * 13)) = some (.int .i64 id)) := fun W h => ⟨h, (h.cell (World.block_lt_of_cell? wr _ hcid)).trans hcid⟩
              go_region_held3 (fun W : World => Below wr.heap.size wr W ∧ W.cell? (ad.add (i * 13)) = some (.int .i64 id)) ((refine hS _ ?_; with_reducible (repeat (first | assumption | exact (by assumption : Below wr.heap.size wr _ ∧ _).1 | apply below_alloc | apply pw_below_drewN | apply below_drew1))))
                (first | ((with_reducible refine gate_ap (xs := #[.tmp 54, .tmp 57]) rfl ?_); refine Kd.R_append_rows_step kI (w0 := wr) wr.heap.size rfl (.tmp 54) (.tmp 57) 50 3 (.int .i64 0) 8 rfl Try.underlying50 info3 rfl (by decide) (by decide) _ [] (out.take k) _ _ _ (fun _ => True) (fun _ => False) rfl rfl (R_empty kI 3 _ _ _ _ (fun _ => trivial) (by first | exact Go.heap_alloc_new _ _ | exact blk_drewN (Go.heap_alloc_new _ _) _ | exact blk_alloc (Go.heap_alloc_new _ _) _ | exact blk_alloc (blk_drewN (Go.heap_alloc_new _ _) _) _ | exact blk_drewN (blk_alloc (Go.heap_alloc_new _ _) _) _ | exact blk_drewN (blk_alloc (blk_drewN (Go.heap_alloc_new _ _) _) _) _ | exact blk_next (by go_simp)) (by first | omega | (go_simp; omega))) (Kd.C_below hCt (by with_reducible (repeat (first | assumption | exact (by assumption : Below wr.heap.size wr _ ∧ _).1 | apply below_alloc | apply pw_below_drewN | apply below_drew1)))) (fun _ _ h => K_MI h) (fun _ h => h.elim) (fun _ _ => trivial) (by with_reducible (repeat (first | assumption | exact (by assumption : Below wr.heap.size wr _ ∧ _).1 | apply below_alloc | apply pw_below_drewN | apply below_drew1))) (Below.size (by with_reducible (repeat (first | assumption | exact (by assumption : Below wr.heap.size wr _ ∧ _).1 | apply below_alloc | apply pw_below_drewN | apply below_drew1)))) (by simp; omega) ?_; intro v1 w1 hR1 hB1 hg1 ho1) | ((with_reducible refine gate_ap (xs := #[.tmp 65, .tmp 68]) rfl ?_); refine Kd.R_append_rows_step kI (w0 := wr) wr.heap.size rfl (.tmp 65) (.tmp 68) 50 3 (.int .i64 0) 8 rfl Try.underlying50 info3 rfl (by decide) (by decide) v2 (([] ++ out.take k) ++ [id]) (out.drop k) _ _ _ (fun _ => True) (fun _ => False) rfl rfl (by with_reducible (first | exact Kd.R_drewN hR2 _ | exact hR2)) (Kd.C_below hCd (by with_reducible (repeat (first | assumption | exact (by assumption : Below wr.heap.size wr _ ∧ _).1 | apply below_alloc | apply pw_below_drewN | apply below_drew1)))) (fun _ _ h => K_MI h) (fun _ h => h.elim) (fun _ _ => trivial) (by with_reducible (repeat (first | assumption | exact (by assumption : Below wr.heap.size wr _ ∧ _).1 | apply below_alloc | apply pw_below_drewN | apply below_drew1))) (Below.size (by with_reducible (repeat (first | assumption | exact (by assumption : Below wr.heap.size wr _ ∧ _).1 | apply below_alloc | apply pw_below_drewN | apply below_drew1)))) (by simp only [List.length_append, List.length_take, List.length_cons, List.length_nil]; omega) ?_; intro v3 w3 hR3 hB3 hg3 ho3) | ((with_reducible refine gate_ap (xs := #[.tmp 58, .tmp 64]) rfl ?_); refine Kd.R_append_step kI (w0 := wr) wr.heap.size rfl (.tmp 58) (.tmp 64) 50 3 (.int .i64 0) 8 rfl Try.underlying50 info3 rfl (by decide) (by decide) v1 ([] ++ out.take k) id _ (fun _ => True) (fun _ => False) rfl rfl rfl (fun _ h => h.elim) (fun _ _ => trivial) (by with_reducible (first | exact Kd.R_drewN hR1 _ | exact hR1)) (by with_reducible (repeat (first | assumption | exact (by assumption : Below wr.heap.size wr _ ∧ _).1 | apply below_alloc | apply pw_below_drewN | apply below_drew1))) (Below.size (by with_reducible (repeat (first | assumption | exact (by assumption : Below wr.heap.size wr _ ∧ _).1 | apply below_alloc | apply pw_below_drewN | apply below_drew1)))) (by simp only [List.length_append, List.length_take, List.length_cons, List.length_nil]; omega) ?_; intro v2 w2' hR2 hB2 hg2 ho2) | ((with_reducible refine gate_ap (xs := #[.tmp 58, .tmp 64]) rfl ?_); refine Kd.R_append_rows_step kI (w0 := wr) wr.heap.size rfl (.tmp 58) (.tmp 64) 50 3 (.int .i64 0) 8 rfl Try.underlying50 info3 rfl (by decide) (by decide) v1 ([] ++ out.take k) [id] _ _ _ (fun _ => True) (fun _ => False) rfl rfl (by with_reducible (first | exact Kd.R_drewN hR1 _ | exact hR1)) (C_oneI (by first | exact blk_drewN (blk_grown (by first | exact Go.heap_alloc_new _ _ | exact blk_drewN (Go.heap_alloc_new _ _) _ | exact blk_alloc (Go.heap_alloc_new _ _) _ | exact blk_alloc (blk_drewN (Go.heap_alloc_new _ _) _) _ | exact blk_drewN (blk_alloc (Go.heap_alloc_new _ _) _) _ | exact blk_drewN (blk_alloc (blk_drewN (Go.heap_alloc_new _ _) _) _) _ | exact blk_next (by go_simp)) hg1 (ob_ne (by omega))) _ | exact blk_grown (by first | exact Go.heap_alloc_new _ _ | exact blk_drewN (Go.heap_alloc_new _ _) _ | exact blk_alloc (Go.heap_alloc_new _ _) _ | exact blk_alloc (blk_drewN (Go.heap_alloc_new _ _) _) _ | exact blk_drewN (blk_alloc (Go.heap_alloc_new _ _) _) _ | exact blk_drewN (blk_alloc (blk_drewN (Go.heap_alloc_new _ _) _) _) _ | exact blk_next (by go_simp)) hg1 (ob_ne (by omega)))) (fun _ _ h => K_MI h) (fun _ h => h.elim) (fun _ _ => trivial) (by with_reducible (repeat (first | assumption | exact (by assumption : Below wr.heap.size wr _ ∧ _).1 | apply below_alloc | apply pw_below_drewN | apply below_drew1))) (Below.size (by with_reducible (repeat (first | assumption | exact (by assumption : Below wr.heap.size wr _ ∧ _).1 | apply below_alloc | apply pw_below_drewN | apply below_drew1)))) (by simp only [List.length_append, List.length_take, List.length_cons, List.length_nil]; omega) ?_; intro v2 w2' hR2 hB2 hg2 ho2))
              all_goals
                go_wp2
                go_roundw
                case rel =>
                  refine ⟨i + 1, by omega, by simp, ?_, below_step hBk hB3⟩
                  rw [HSN.out, HINS.out]
                  exact Kd.R_lower hR3 hBk.size
                case measure => simp [intOf]; omega
    · obtain rfl : i = all.length := by omega
      go_wp2
      go_ret
      refine ⟨_, rfl, ?_, below_step HB2.out hB5⟩
      have e : idsL (all.take all.length) = idsL all := by rw [List.take_length]
      rw [← HALL.out, ← e]
      exact Kd.R_lower hR5 HB2.out.size
end Go.Proofs.Ytbgcmhakllodeaa
