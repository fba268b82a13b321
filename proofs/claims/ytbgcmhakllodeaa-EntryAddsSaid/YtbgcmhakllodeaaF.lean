/- entry.Add. -/
import Derived.Test.YtbgcmhakllodeaaE
namespace Go.Proofs.Ytbgcmhakllodeaa
open Go.RowKit Go.Proofs.YtbgcmhakllodeaaW.PrintWords Go.Proofs.YtbgcmhakllodeaaW.PrintLast Go.Proofs.YtbgcmhakllodeaaW.PrintMore
open PEntryDiffers

def sumOk (a b : Int) : Bool := decide (Go.bits .and .i64 (Go.bits .xor .i64 a (wrap64 (a + b))) (Go.bits .xor .i64 b (wrap64 (a + b))) ≥ 0)
theorem sum_calls (a b : Int) (w : World) : Calls Try.prog 29 #[.int .i64 a, .int .i64 b] w fun e w' => e = .returned (.tuple #[.int .i64 (wrap64 (a + b)), .bool (sumOk a b)]) ∧ w' = w := by
  go_enter Try.func29, Try.ntmps29
  go_wp2
  go_ret2
  exact ⟨rfl, rfl⟩
def add1 (M : List ((Int × Int) × Int)) (x : S56) : Option (List ((Int × Int) × Int)) :=
  if sumOk (mget (x.f0, x.f1) M) x.f2 = true then some (mput (x.f0, x.f1) (wrap64 (mget (x.f0, x.f1) M + x.f2)) M) else none
def addAll : List S56 → List ((Int × Int) × Int) → Option (List ((Int × Int) × Int))
  | [], M => some M
  | x :: r, M => (add1 M x).bind (addAll r)
theorem addAll_append : ∀ (l r : List S56) (M : List ((Int × Int) × Int)), addAll (l ++ r) M = (addAll l M).bind (addAll r)
  | [], r, M => rfl
  | x :: l, r, M => by
    simp only [List.cons_append, addAll]
    cases add1 M x with
    | none => rfl
    | some M' => exact addAll_append l r M'
theorem addAll_len : ∀ (l : List S56) (M N : List ((Int × Int) × Int)), addAll l M = some N → N.length ≤ M.length + l.length
  | [], M, N, h => by simp [addAll] at h; subst h; simp
  | x :: r, M, N, h => by
    simp only [addAll, add1] at h
    split at h
    · have h1 := addAll_len r _ N h
      have h2 := mput_len (x.f0, x.f1) (wrap64 (mget (x.f0, x.f1) M + x.f2)) M
      simp only [List.length_cons]
      omega
    · cases h
/-- The parts gone through when i lists have been. -/
def Pk (l m : List S56) (i : Nat) : List S56 := (if 1 ≤ i then l else []) ++ (if 2 ≤ i then m else [])
theorem Pk_two (l m : List S56) : Pk l m 2 = l ++ m := by simp [Pk]
def AddPost (w : World) (r : Option (List ((Int × Int) × Int))) (e : Ending) (w' : World) : Prop :=
  (r = none ∧ e = .returned (.tuple #[.slice none 0 0, .int .i64 14]) ∧ Below w.heap.size w w') ∨
  ∃ M v ts, r = some M ∧ e = .returned (.tuple #[v, .int .i64 0]) ∧ ts.Perm (M.map (·.1)) ∧ ts.Pairwise (fun x y => ltk y x = false) ∧ Kd.R k56 56 w' w.heap.size (fun _ => True) v (tolds M ts) ∧ Below w.heap.size w w'
theorem rd56_take (ls : List S56) (k : Nat) (h : k < ls.length) : ls.take (k + 1) = ls.take k ++ [rd_T56 ls (k : Int)] := by
  rw [List.take_succ_eq_append_getElem h]
  simp [rd_T56, List.getD_eq_getElem?_getD, h]
set_option maxHeartbeats 4000000 in
set_option maxRecDepth 100000 in
theorem add_calls (A1 B1 : Option Addr) (ca cb : Nat) (la lb : List S56) (w : World) (hra : Kd.C k56 w A1 la.length la) (hca : la.length ≤ ca) (hrb : Kd.C k56 w B1 lb.length lb) (hcb : lb.length ≤ cb)
    (ha : la.length ≤ 300000) (hb : lb.length ≤ 300000) :
    Calls Try.prog 15 #[.slice A1 la.length ca, .slice B1 lb.length cb] w (AddPost w (addAll (la ++ lb) [])) := by
  have hmm := @run_makeMap Try.prog
  have HRA := Aside0.mk hra
  have HRB := Aside0.mk hrb
  clear hra hrb
  have hm0 := made_is w
  have hBm := (Below.refl w.heap.size w).alloc (Nat.le_refl _) (.map #[] 0)
  go_enter Try.func15, Try.ntmps15
  go_wp2
  generalize w.alloc (.map #[] 0) = w3 at hm0 hBm ⊢
  generalize hbm : w.heap.size = bm at hm0 hBm ⊢
  have Hbm := Lib.hid hbm
  clear hbm
  go_loopw [17] (fun v wr => ∃ i : Nat, i ≤ 2 ∧ v = .int .i64 i ∧ ∃ M, addAll (Pk la lb i) [] = some M ∧ MapIs wr bm M ∧ Below bm w wr) (fun v _ => 2 - (intOf v).toNat)
  case atStart => exact ⟨0, by omega, rfl, [], rfl, hm0, hBm⟩
  case round =>
    obtain ⟨i, hi, rfl, M, hA, hM, hB⟩ := hrel
    by_cases hlt : i < 2
    · have hlt' : (i : Int) < 2 := by omega
      obtain ⟨Af, cf, lf, hidx, hRF, hlf, hPk, hcf⟩ : ∃ Af cf lf, (∀ W : World, (Instr.index 71 (.agg #[.slice A1 la.length ca, .slice B1 lb.length cb]) (.int .i64 (i : Int))).run Try.prog W = .ok (.slice Af lf.length cf) W) ∧ Aside0 (Kd.C k56 w Af lf.length lf) ∧ lf.length ≤ 300000 ∧ (∃ r, Pk la lb (i + 1) = Pk la lb i ++ lf ∧ la ++ lb = Pk la lb (i + 1) ++ r) ∧ lf.length ≤ cf := by
        obtain rfl | rfl : i = 0 ∨ i = 1 := by omega
        · exact ⟨A1, ca, la, fun _ => by kernel_rfl, HRA, ha, ⟨lb, by simp [Pk], by simp [Pk]⟩, hca⟩
        · exact ⟨B1, cb, lb, fun _ => by kernel_rfl, HRB, hb, ⟨[], by simp [Pk], by simp [Pk]⟩, hcb⟩
      have HP := Lib.hid hPk
      have HA := Lib.hid hA
      clear hPk hA
      have hlf' : (lf.length : Int) ≤ 300000 := by omega
      go_wp2
      obtain ⟨wo, rfl⟩ : ∃ wo : World, wo = wr := ⟨_, rfl⟩
      go_loopw [22] (fun v wr => ∃ k : Nat, k ≤ lf.length ∧ v = .int .i64 k ∧ ∃ Mq, addAll (Pk la lb i ++ lf.take k) [] = some Mq ∧ MapIs wr bm Mq ∧ Below bm w wr) (fun v _ => lf.length - (intOf v).toNat)
      case atStart => exact ⟨0, by omega, rfl, M, by rw [List.take_zero, List.append_nil]; exact HA.out, hM, hB⟩
      case round =>
        obtain ⟨k, hk, rfl, Mq, hAq, hMq, hBq⟩ := hrel
        by_cases hkl : k < lf.length
        · have hkl' : (k : Int) < lf.length := by omega
          obtain ⟨ad, rfl, hh⟩ := at_T56 hRF.out (k : Int) (by omega) (by omega)
          rw [Int.toNat_natCast] at hh
          obtain ⟨h0, h1, h2⟩ := hh
          have HT := Lib.hid (rd56_take lf k hkl)
          have HAq := Lib.hid hAq
          clear hkl hAq
          generalize rd_T56 lf (k : Int) = L at h0 h1 h2 HT
          have hbw : ∀ a v, w.cell? a = some v → wr.cell? a = some v := fun a v h => (hBq.cell (by have := World.block_lt_of_cell? w a h; have := Hbm.out; omega)).trans h
          have c0 := hbw _ _ h0
          have c1 := hbw _ _ h1
          have c2 := hbw _ _ h2
          clear h0 h1 h2 hbw
          have hMa := hMq.alloc (Obj.cells #[.int .i64 L.f0, .int .i64 L.f1, .int .i64 L.f2] 56)
          have hBa := hBq.alloc (Nat.le_of_lt hMq.lt) (Obj.cells #[.int .i64 L.f0, .int .i64 L.f1, .int .i64 L.f2] 56)
          go_wp2
          have f0 : ∀ n, ((wr.alloc (Obj.cells #[.int .i64 L.f0, .int .i64 L.f1, .int .i64 L.f2] 56)).drewN n).cell? ⟨wr.heap.size, 0, none⟩ = some (.int .i64 L.f0) := fun n => by go_simp
          have f1 : ∀ n, ((wr.alloc (Obj.cells #[.int .i64 L.f0, .int .i64 L.f1, .int .i64 L.f2] 56)).drewN n).cell? ⟨wr.heap.size, 1, none⟩ = some (.int .i64 L.f1) := fun n => by go_simp
          have f2 : ∀ n, ((wr.alloc (Obj.cells #[.int .i64 L.f0, .int .i64 L.f1, .int .i64 L.f2] 56)).drewN n).cell? ⟨wr.heap.size, 2, none⟩ = some (.int .i64 L.f2) := fun n => by go_simp
          clear c0 c1 c2
          generalize wr.alloc (Obj.cells #[.int .i64 L.f0, .int .i64 L.f1, .int .i64 L.f2] 56) = W at *
          have hlk := fun n => run_look (W.drewN n) bm Mq hMa (L.f0, L.f1) false
          have hup := fun n => run_upd (W.drewN n) bm Mq hMa (L.f0, L.f1) (wrap64 (mget (L.f0, L.f1) Mq + L.f2))
          simp only [kv] at hlk hup
          have hMn := fun n => setMap_is (w := W.drewN n) (b := bm) hMa.lt (mput (L.f0, L.f1) (wrap64 (mget (L.f0, L.f1) Mq + L.f2)) Mq)
          have hBn := fun n => below_setMap (pw_below_drewN hBa n) (b := bm) (Nat.le_refl _) (mput (L.f0, L.f1) (wrap64 (mget (L.f0, L.f1) Mq + L.f2)) Mq)
          have hst : add1 Mq L = if sumOk (mget (L.f0, L.f1) Mq) L.f2 = true then some (mput (L.f0, L.f1) (wrap64 (mget (L.f0, L.f1) Mq + L.f2)) Mq) else none := rfl
          have HST := Lib.hid hst
          clear hst
          generalize mput (L.f0, L.f1) (wrap64 (mget (L.f0, L.f1) Mq + L.f2)) Mq = Mn at *
          generalize mget (L.f0, L.f1) Mq = x at *
          cases hs : sumOk x L.f2 with
          | false =>
            go_quiet ((go_at_call 29; exact Calls.quiet_of_same (sum_calls _ _ _)))
            go_wp2
            go_ret2
            refine .inl ⟨?_, rfl, ?_⟩
            · obtain ⟨r, h1, h2⟩ := HP.out
              rw [h2, h1, ← List.take_append_drop k lf, ← List.append_assoc, addAll_append, addAll_append, HAq.out, Option.bind_some, List.drop_eq_getElem_cons (by omega)]
              have hx : lf.take k ++ [lf[k]'(by omega)] = lf.take k ++ [L] := by rw [← List.take_succ_eq_append_getElem]; exact HT.out
              have hL : lf[k]'(by omega) = L := by simpa using List.append_cancel_left hx
              rw [hL]
              simp [addAll, HST.out, hs]
            · rw [Hbm.out]; exact pw_below_drewN hBa _
          | true =>
            go_quiet ((go_at_call 29; exact Calls.quiet_of_same (sum_calls _ _ _)))
            go_wp2
            go_roundw
            case rel => exact ⟨k + 1, by omega, by go_num, Mn, by rw [HT.out, ← List.append_assoc, addAll_append, HAq.out, Option.bind_some]; simp [addAll, HST.out, hs], hMn _, hBn _⟩
            case measure => simp [intOf]; omega
        · have hkl' : ¬ (k : Int) < lf.length := by omega
          obtain rfl : k = lf.length := by omega
          have HAq := Lib.hid hAq
          clear hAq
          go_wp2
          go_roundw
          case rel => exact ⟨i + 1, by omega, by go_num, Mq, by obtain ⟨r, h1, h2⟩ := HP.out; rw [h1]; have := HAq.out; rwa [List.take_length] at this, hMq, hBq⟩
          case measure => simp [intOf]; omega
    · have hlt' : ¬ (i : Int) < 2 := by omega
      obtain rfl : i = 2 := by omega
      have hl3 := addAll_len _ _ _ hA
      rw [Pk_two, List.length_append] at hl3
      simp at hl3
      have ht := told_calls bm M (by omega) wr hM
      have HA := Lib.hid hA
      have HBr := Lib.hid hB
      clear hA hl3 hB
      go_wp2_with fail
      refine ht.mono ?_
      rintro e w9 ⟨v, ts, rfl, hp, hso, hR, hB9⟩
      have HP := Lib.hid hp
      have HS := Lib.hid hso
      have HR := Lib.hid hR
      have HB9 := Lib.hid hB9
      clear hp hso hR hB9
      go_wp2
      go_ret2
      have hb := HBr.out
      rw [← Hbm.out] at hb
      refine .inr ⟨M, v, ts, ?_, rfl, HP.out, HS.out, Kd.R_lower HR.out hb.size, hb.trans (HB9.out.mono hb.size)⟩
      have := HA.out
      rwa [Pk_two] at this
end Go.Proofs.Ytbgcmhakllodeaa
