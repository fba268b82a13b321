/- SortedFunc over maps.Keys; told. -/
import Derived.Test.YtbgcmhakllodeaaT
import Derived.Test.YtbgcmhakllodeaaB
namespace Go.Proofs.Ytbgcmhakllodeaa
open Go.RowKit Go.Proofs.YtbgcmhakllodeaaW.PrintWords Go.Proofs.YtbgcmhakllodeaaW.PrintLast Go.Proofs.YtbgcmhakllodeaaW.PrintMore
open PEntryDiffers

theorem ownsRow_lower {W : World} {base base' : Nat} {e : TypeId} {size : Nat} {v : Value} {k : Nat} {xs : List Value} (h : W.ownsRow base e size v k xs) (hb : base' ≤ base) : W.ownsRow base' e size v k xs := by
  refine ⟨h.1, ?_⟩
  rcases h.2 with hn | ⟨g, cap, cur, hv, hbg, rest⟩
  · exact .inl hn
  · exact .inr ⟨g, cap, cur, hv, Nat.le_trans hb hbg, rest⟩
set_option maxHeartbeats 1000000 in
theorem sortedKeys (b Bm : Nat) (M : List ((Int × Int) × Int)) (hN : M.length ≤ 8796093022208) (w : World) (hBm : Bm < w.heap.size) (hm : w.cell? ⟨Bm, 0, none⟩ = some (.map (some b))) (hM : MapIs w b M) :
    Calls Try.prog 32 #[.func (.func 39) #[] #[.pointer (some ⟨Bm, 0, none⟩)], .func (.func 34) #[] #[]] w fun e w' => ∃ (v : Value) (ts : List (Int × Int)), e = .returned v ∧ ts.Perm (M.map (·.1)) ∧ ts.Pairwise (fun x y => ltk y x = false) ∧ w'.ownsRow w.heap.size 61 2 v ts.length (kvl ts) ∧ Below w.heap.size w w' := by
  have hc := collect_keys b Bm M hN w hBm hm hM
  clear hm hM
  go_enter Try.func32, Try.ntmps32
  go_wp2_with fail
  refine hc.mono ?_
  rintro e w1 ⟨v, ss, rfl, hp, hR, hB⟩
  have hl := hp.length_eq
  rw [List.length_map] at hl
  have hs := sort_list w.heap.size v ss (by omega) w1 hR
  have HP := Lib.hid hp
  have HR := Lib.hid hR
  have HB := Lib.hid hB
  have HL := Lib.hid hl
  clear hp hR hB hl
  go_wp2_with fail
  refine hs.mono ?_
  rintro e w2 ⟨rfl, ts, hp2, hso, hR2, hg⟩
  have HP2 := Lib.hid hp2
  have HS := Lib.hid hso
  have HR2 := Lib.hid hR2
  have HG := Lib.hid hg
  clear hp2 hso hR2 hg
  go_wp2
  go_ret
  exact ⟨v, ts, rfl, HP2.out.trans HP.out, HS.out, HR2.out, HB.out.grown HG.out HB.out.size (fun k e => (HR.out.lt k e).1)⟩
/-- What is told of these keys. -/
def told1e (M : List ((Int × Int) × Int)) (k : Int × Int) : List S56 := if mget k M = 0 then [] else [⟨k.1, k.2, mget k M⟩]
def tolds (M : List ((Int × Int) × Int)) (ts : List (Int × Int)) : List S56 := ts.flatMap (told1e M)
theorem tolds_len (M : List ((Int × Int) × Int)) : ∀ ts, (tolds M ts).length ≤ ts.length
  | [] => by simp [tolds]
  | t :: r => by
    have := tolds_len M r
    simp only [tolds, List.flatMap_cons, List.length_append, List.length_cons] at this ⊢
    have h1 : (told1e M t).length ≤ 1 := by unfold told1e; split <;> simp
    omega
theorem info56 : (Try.prog.info? 56).map (fun i => (i.zero, i.size, i.bytes)) = some (some (.agg #[(.int .i64 0), (.int .i64 0), (.int .i64 0)]), 3, 24) := by kernel_rfl
theorem keys33 (mb : Option Nat) (w : World) : Calls Try.prog 33 #[.map mb] w fun e w' => e = .returned (.func (.func 39) #[] #[.pointer (some ⟨w.heap.size, 0, none⟩)]) ∧ w.alloc (.cells #[.map mb] 58) = w' := by
  go_enter Try.func33, Try.ntmps33
  go_wp2
  go_ret
  exact ⟨rfl, rfl⟩
/-- An owned row's cells at place k, as the walk spells them. -/
theorem key_at {w : World} {base n : Nat} {A : Option Addr} {c : Nat} {ts : List (Int × Int)} (h : w.ownsRow base 61 2 (.slice A n c) n (kvl ts)) (hn : ts.length = n) (k : Nat) (hk : k < n) :
    ∃ g, A = some ⟨g, 0, none⟩ ∧ w.cell? ⟨g, k * 2, none⟩ = some (.int .i64 (ts.getD k (0, 0)).1) ∧ w.cell? ⟨g, k * 2 + 1, none⟩ = some (.int .i64 (ts.getD k (0, 0)).2) := by
  obtain ⟨g, cap, hv, _, _⟩ := h.form (by omega)
  injection hv with hv _ _
  subst hv
  have e1 : ∀ j, j < 2 → (kvl ts)[k * 2 + j]? = some ((kvs (ts.getD k (0, 0)))[j]!) := fun j hj => by
    rw [kvl_get ts (k * 2 + j) (by omega)]
    have h1 : (k * 2 + j) / 2 = k := by omega
    have h2 : (k * 2 + j) % 2 = j := by omega
    rw [h1, h2, getElem!_pos ts.toArray k (by simp; omega)]
    simp [List.getD_eq_getElem?_getD, show k < ts.length by omega]
  refine ⟨g, rfl, ?_, ?_⟩
  · have := h.cells (g := g) rfl (k * 2) _ (by have := e1 0 (by omega); rwa [Nat.add_zero] at this)
    rw [add_plain] at this
    simpa [kvs] using this
  · have := h.cells (g := g) rfl (k * 2 + 1) _ (e1 1 (by omega))
    rw [add_plain] at this
    simpa [kvs] using this
theorem tolds_snoc (M : List ((Int × Int) × Int)) (ts : List (Int × Int)) (k : Nat) (h : k < ts.length) : tolds M (ts.take (k + 1)) = tolds M (ts.take k) ++ told1e M (ts.getD k (0, 0)) := by
  rw [List.take_succ_eq_append_getElem h]
  unfold tolds
  rw [List.flatMap_append]
  simp [List.getD_eq_getElem?_getD, h]
set_option maxHeartbeats 2000000 in
theorem told_calls (b : Nat) (M : List ((Int × Int) × Int)) (hN : M.length ≤ 1000000) (w : World) (hM : MapIs w b M) :
    Calls Try.prog 22 #[.map (some b)] w fun e w' => ∃ (v : Value) (ts : List (Int × Int)), e = .returned v ∧ ts.Perm (M.map (·.1)) ∧ ts.Pairwise (fun x y => ltk y x = false) ∧ Kd.R k56 56 w' w.heap.size (fun _ => True) v (tolds M ts) ∧ Below w.heap.size w w' := by
  have hM0 : MapIs (w.alloc (.cells #[.map (some b)] 58)) b M := hM.alloc _
  have hc := sortedKeys b w.heap.size M (by omega) (w.alloc (.cells #[.map (some b)] 58)) (by simp) (by go_simp) hM0
  have hB0 := (Below.refl w.heap.size w).alloc (Nat.le_refl _) (.cells #[.map (some b)] 58)
  have HM := Lib.hid hM
  clear hM
  go_enter Try.func22, Try.ntmps22
  go_wp2_with fail
  refine (keys33 _ _).mono ?_
  rintro e w' ⟨rfl, rfl⟩
  generalize hw1 : w.alloc (.cells #[.map (some b)] 58) = w1 at hc hM0 hB0 ⊢
  clear hw1
  go_wp2_with fail
  refine hc.mono ?_
  rintro e w2 ⟨v, ts, rfl, hp, hso, hR, hB⟩
  have hlen := hp.length_eq
  rw [List.length_map] at hlen
  have hMk := hM0.later hB
  obtain ⟨A, c, rfl⟩ : ∃ A c, v = .slice A ts.length c := by
    rcases hR.2 with ⟨rfl, h0⟩ | ⟨g', cap, cur, rfl, _⟩
    · exact ⟨none, 0, by rw [h0]⟩
    · exact ⟨_, cap, rfl⟩
  have hlm : (ts.length : Int) ≤ 1000000 := by omega
  have HP := Lib.hid hp
  have HS := Lib.hid hso
  have HR := Lib.hid hR
  have HB1 := Lib.hid (hB0.trans (hB.mono hB0.size))
  have HL := Lib.hid hlen
  clear hp hso hR hlen hM0 hB
  go_wp2
  go_loopw [3, 10] (fun v3 v wr => ∃ k : Nat, k ≤ ts.length ∧ v = .int .i64 k ∧ Kd.R k56 56 wr w2.heap.size (fun _ => True) v3 (tolds M (ts.take k)) ∧ Below w2.heap.size w2 wr) (fun _ v _ => ts.length - (intOf v).toNat)
  case atStart => exact ⟨0, Nat.zero_le _, rfl, Kd.R_nil _ _ _ _ _, Below.refl _ _⟩
  case round =>
    obtain ⟨k, hk, rfl, hR, hB⟩ := hrel
    by_cases hlt : k < ts.length
    · obtain ⟨g, rfl, hc0, hc1⟩ := key_at HR.out rfl k hlt
      have hlt' : (k : Int) < ts.length := by omega
      have hsn := Lib.hid (tolds_snoc M ts k hlt)
      have htl : (tolds M (ts.take k)).length ≤ k := Nat.le_trans (tolds_len M _) (List.length_take_le _ _)
      have d0 := (hB.cell (World.block_lt_of_cell? w2 _ hc0)).trans hc0
      have d1 := (hB.cell (World.block_lt_of_cell? w2 _ hc1)).trans hc1
      clear hc0 hc1 hlt
      generalize ts.getD k (0, 0) = K at d0 d1 hsn
      have hMr := hMk.later hB
      have hlk := fun o => run_look _ b M (hMr.alloc o) K false
      simp only [kv] at hlk
      by_cases hz : mget K M = 0
      · have HR3 := Lib.hid hR
        clear hR
        have hb0 : (mget K M == 0) = true := by simp [hz]
        go_wp2
        go_roundw
        case rel => exact ⟨k + 1, by omega, by go_num, by rw [hsn.out, told1e, if_pos hz, List.append_nil]; exact Kd.R_alloc HR3.out _, hB.alloc hB.size _⟩
        case measure => simp [intOf]; omega
      · have hb0 : (mget K M == 0) = false := by simp [hz]
        have HR3 := Lib.hid (Kd.R_drew (Kd.R_alloc hR (Obj.cells #[.int .i64 K.1, .int .i64 K.2] 61)))
        have hBd := below_drew (hB.alloc hB.size (Obj.cells #[.int .i64 K.1, .int .i64 K.2] 61))
        have HBd := Lib.hid hBd
        have hne : some wr.heap.size ≠ Value.ownBlock u3 := fun e => by
          obtain ⟨_, _, ho, _⟩ := hR
          have := own_lt ho _ e.symm
          omega
        clear hR
        go_wp2
        have f0 : (wr.alloc (Obj.cells #[.int .i64 K.1, .int .i64 K.2] 61)).drew.cell? ⟨wr.heap.size, 0, none⟩ = some (.int .i64 K.1) := by go_simp
        have f1 : (wr.alloc (Obj.cells #[.int .i64 K.1, .int .i64 K.2] 61)).drew.cell? ⟨wr.heap.size, 1, none⟩ = some (.int .i64 K.2) := by go_simp
        have hl2 : (Instr.lookup 58 (.map (some b)) (.agg #[.int .i64 K.1, .int .i64 K.2]) false).run Try.prog (wr.alloc (Obj.cells #[.int .i64 K.1, .int .i64 K.2] 61)).drew = .ok (.int .i64 (mget K M)) (wr.alloc (Obj.cells #[.int .i64 K.1, .int .i64 K.2] 61)).drew := run_look _ b M (hMr.alloc _).drew K false
        have hsz : wr.heap.size < (wr.alloc (Obj.cells #[.int .i64 K.1, .int .i64 K.2] 61)).heap.size := by simp
        clear hlk d0 d1
        generalize wr.alloc (Obj.cells #[.int .i64 K.1, .int .i64 K.2] 61) = W at *
        have p0 : ∀ o, (W.alloc o).drew.cell? ⟨wr.heap.size, 0, none⟩ = some (.int .i64 K.1) := fun o => cell_alloc f0
        have p1 : ∀ o, (W.alloc o).drew.cell? ⟨wr.heap.size, 1, none⟩ = some (.int .i64 K.2) := fun o => cell_alloc f1
        clear hB
        go_region_held3 (fun w' : World => w'.cell? ⟨wr.heap.size, 0, none⟩ = some (.int .i64 K.1) ∧ w'.cell? ⟨wr.heap.size, 1, none⟩ = some (.int .i64 K.2)) (first | exact ⟨f0, f1⟩ | exact ⟨p0 _, p1 _⟩ | exact ⟨(World.cell?_of_block (hg4.block _ hsz hne)).trans f0, (World.cell?_of_block (hg4.block _ hsz hne)).trans f1⟩) (first | (refine Kd.R_append_step k56 (w0 := w2) (W := W.drew) w2.heap.size rfl _ _ 28 56 _ 24 rfl Try.underlying28 info56 rfl (by decide) (by decide) u3 (tolds M (ts.take k)) ⟨K.1, K.2, mget K M⟩ _ (fun _ => True) (fun _ => False) rfl rfl (k56_mkM _ _ _ _) (fun _ h => h.elim) (fun _ _ => trivial) HR3.out HBd.out hBd.size (by omega) ?_; intro v1 w4 hR4 hB4 hg4 _))
        go_wp2
        go_roundw
        case rel => exact ⟨k + 1, by omega, by go_num, by rw [hsn.out, told1e, if_neg hz]; exact hR4, hB4⟩
        case measure => simp [intOf]; omega
    · have hlt' : ¬ (k : Int) < ts.length := by omega
      have HRR := Lib.hid hR
      clear hR
      go_wp2
      go_ret
      obtain rfl : k = ts.length := by omega
      have h := HRR.out
      rw [List.take_length] at h
      have hs2 := HB1.out.size
      exact ⟨_, rfl, ts, HP.out, HS.out, Kd.R_lower h hs2, HB1.out.trans (hB.mono hs2)⟩
end Go.Proofs.Ytbgcmhakllodeaa
