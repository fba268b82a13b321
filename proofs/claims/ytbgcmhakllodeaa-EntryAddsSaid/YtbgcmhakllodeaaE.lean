/- entry.Diff. -/
import Derived.Test.YtbgcmhakllodeaaD
import Derived.Deep.QuietTactic
import Derived.BigQuiet
namespace Go.Proofs.Ytbgcmhakllodeaa
open Go.RowKit Go.Proofs.YtbgcmhakllodeaaW.PrintWords Go.Proofs.YtbgcmhakllodeaaW.PrintLast Go.Proofs.YtbgcmhakllodeaaW.PrintMore
open PEntryDiffers
open Go.ChangeMaps (setBlock)

theorem bk1_len (M : List ((Int × Int) × Int)) (l : S54) : (bk1 M l).length ≤ M.length + 3 := by
  unfold bk1
  split
  · omega
  · have h1 := mput_len (l.f0, 1) l.f1 M
    have h2 := mput_len (l.f0, 2) l.f2 (mput (l.f0, 1) l.f1 M)
    have h3 := mput_len (l.f0, 3) l.f4 (mput (l.f0, 2) l.f2 (mput (l.f0, 1) l.f1 M))
    omega
theorem foldl_bk_len : ∀ (ls : List S54) (M : List ((Int × Int) × Int)), (ls.foldl bk1 M).length ≤ M.length + 3 * ls.length
  | [], M => by simp
  | l :: r, M => by
    have h1 := bk1_len M l
    have h2 := foldl_bk_len r (bk1 M l)
    simp only [List.foldl_cons, List.length_cons]
    omega
theorem bk_len (ls : List S54) : (bk ls).length ≤ 3 * ls.length := by
  have := foldl_bk_len ls []
  simpa [bk] using this
/-- The keys gone through when i maps have been. -/
def Dk (A B : List ((Int × Int) × Int)) (i : Nat) : List (Int × Int) := (if 1 ≤ i then A.map (·.1) else []) ++ (if 2 ≤ i then B.map (·.1) else [])
theorem Dk_len (A B : List ((Int × Int) × Int)) (i : Nat) : (Dk A B i).length ≤ A.length + B.length := by
  unfold Dk
  split <;> split <;> simp
set_option maxHeartbeats 4000000 in
set_option maxRecDepth 100000 in
theorem diff_calls (a0 a2 a3 a4 a5 a6 a7 a8 a9 a10 a11 a12 b0 b2 b3 b4 b5 b6 b7 b8 b9 b10 b11 b12 : Value) (A1 B1 : Option Addr) (ca cb : Nat) (la lb : List S54) (w : World) (hra : Kd.C k54 w A1 la.length la) (hca : la.length ≤ ca) (hrb : Kd.C k54 w B1 lb.length lb) (hcb : lb.length ≤ cb)
    (ha : la.length ≤ 100) (hb : lb.length ≤ 100) :
    Calls Try.prog 10 #[.agg #[a0, .slice A1 la.length ca, a2, a3, a4, a5, a6, a7, a8, a9, a10, a11, a12], .agg #[b0, .slice B1 lb.length cb, b2, b3, b4, b5, b6, b7, b8, b9, b10, b11, b12]] w fun e w' => ∃ (v : Value) (M : List ((Int × Int) × Int)) (ts : List (Int × Int)), e = .returned v ∧ DMap (bk la) (bk lb) (Dk (bk la) (bk lb) 2) M ∧ ts.Perm (M.map (·.1)) ∧ ts.Pairwise (fun x y => ltk y x = false) ∧ Kd.R k56 56 w' w.heap.size (fun _ => True) v (tolds M ts) ∧ Below w.heap.size w w' := by
  have hmm := @run_makeMap Try.prog
  have HRA := Aside0.mk hra
  have HRB := Aside0.mk hrb
  clear hra hrb
  go_enter Try.func10, Try.ntmps10
  go_wp2
  have fA : ∀ i, ((w.alloc (Obj.cells #[a0, .slice A1 la.length ca, a2, a3, a4, a5, a6, a7, a8, a9, a10, a11, a12] 27)).alloc (Obj.cells #[b0, .slice B1 lb.length cb, b2, b3, b4, b5, b6, b7, b8, b9, b10, b11, b12] 27)).drew.cell? ⟨w.heap.size, i, none⟩ = (#[a0, .slice A1 la.length ca, a2, a3, a4, a5, a6, a7, a8, a9, a10, a11, a12] : Array Value)[i]? := fun i => blk_cell (show (((w.alloc (Obj.cells #[a0, .slice A1 la.length ca, a2, a3, a4, a5, a6, a7, a8, a9, a10, a11, a12] 27)).alloc (Obj.cells #[b0, .slice B1 lb.length cb, b2, b3, b4, b5, b6, b7, b8, b9, b10, b11, b12] 27))).drew.heap[w.heap.size]? = some (.cells #[a0, .slice A1 la.length ca, a2, a3, a4, a5, a6, a7, a8, a9, a10, a11, a12] 27 (0, 0)) from (Go.heap_alloc_old _ _ (by simp)).trans (Go.heap_alloc_new w _)) i
  have fB : ∀ i, ((w.alloc (Obj.cells #[a0, .slice A1 la.length ca, a2, a3, a4, a5, a6, a7, a8, a9, a10, a11, a12] 27)).alloc (Obj.cells #[b0, .slice B1 lb.length cb, b2, b3, b4, b5, b6, b7, b8, b9, b10, b11, b12] 27)).drew.cell? ⟨w.heap.size + 1, i, none⟩ = (#[b0, .slice B1 lb.length cb, b2, b3, b4, b5, b6, b7, b8, b9, b10, b11, b12] : Array Value)[i]? := fun i => blk_cell (show (((w.alloc (Obj.cells #[a0, .slice A1 la.length ca, a2, a3, a4, a5, a6, a7, a8, a9, a10, a11, a12] 27)).alloc (Obj.cells #[b0, .slice B1 lb.length cb, b2, b3, b4, b5, b6, b7, b8, b9, b10, b11, b12] 27))).drew.heap[w.heap.size + 1]? = some (.cells #[b0, .slice B1 lb.length cb, b2, b3, b4, b5, b6, b7, b8, b9, b10, b11, b12] 27 (0, 0)) from by
    have := Go.heap_alloc_new (w.alloc (Obj.cells #[a0, .slice A1 la.length ca, a2, a3, a4, a5, a6, a7, a8, a9, a10, a11, a12] 27)) (Obj.cells #[b0, .slice B1 lb.length cb, b2, b3, b4, b5, b6, b7, b8, b9, b10, b11, b12] 27)
    rw [World.size_alloc] at this
    exact this) i
  have hBW : Below w.heap.size w ((w.alloc (Obj.cells #[a0, .slice A1 la.length ca, a2, a3, a4, a5, a6, a7, a8, a9, a10, a11, a12] 27)).alloc (Obj.cells #[b0, .slice B1 lb.length cb, b2, b3, b4, b5, b6, b7, b8, b9, b10, b11, b12] 27)).drew := below_drew (((Below.refl _ w).alloc (Nat.le_refl _) _).alloc (by simp) _)
  have hsz : w.heap.size + 1 < ((w.alloc (Obj.cells #[a0, .slice A1 la.length ca, a2, a3, a4, a5, a6, a7, a8, a9, a10, a11, a12] 27)).alloc (Obj.cells #[b0, .slice B1 lb.length cb, b2, b3, b4, b5, b6, b7, b8, b9, b10, b11, b12] 27)).heap.size := by simp
  generalize ((w.alloc (Obj.cells #[a0, .slice A1 la.length ca, a2, a3, a4, a5, a6, a7, a8, a9, a10, a11, a12] 27)).alloc (Obj.cells #[b0, .slice B1 lb.length cb, b2, b3, b4, b5, b6, b7, b8, b9, b10, b11, b12] 27)) = W at *
  go_region_held3 (fun w' : World => (∀ i, w'.cell? ⟨w.heap.size, i, none⟩ = (#[a0, .slice A1 la.length ca, a2, a3, a4, a5, a6, a7, a8, a9, a10, a11, a12] : Array Value)[i]?) ∧ (∀ i, w'.cell? ⟨w.heap.size + 1, i, none⟩ = (#[b0, .slice B1 lb.length cb, b2, b3, b4, b5, b6, b7, b8, b9, b10, b11, b12] : Array Value)[i]?))
    (first | exact ⟨fA, fB⟩ | exact ⟨fun i => (hB1.cell (p := ⟨w.heap.size, i, none⟩) (by simp; omega)).trans (fA i), fun i => (hB1.cell (p := ⟨w.heap.size + 1, i, none⟩) (by simp; omega)).trans (fB i)⟩ | exact ⟨fun i => (hB2.cell (p := ⟨w.heap.size, i, none⟩) (by simp; omega)).trans (fA i), fun i => (hB2.cell (p := ⟨w.heap.size + 1, i, none⟩) (by simp; omega)).trans (fB i)⟩)
    (first
      | (go_at_call 20; with_reducible refine (buckets_calls a0 a2 a3 a4 a5 a7 a8 a9 a10 a11 a12 a6 A1 ca la _ (Kd.C_below HRA.out hBW) hca).mono ?_; rintro e w1 ⟨ba, rfl, hMa, hla, hB1⟩; have hBW1 := hBW.trans (hB1.mono hBW.size))
      | (go_at_call 20; with_reducible refine (buckets_calls b0 b2 b3 b4 b5 b7 b8 b9 b10 b11 b12 b6 B1 cb lb _ (Kd.C_below HRB.out hBW1) hcb).mono ?_; rintro e w2 ⟨bb, rfl, hMb, hlb, hB3⟩; have hB2 := hB1.trans (hB3.mono hB1.size)))
  have hA2 := hMa.later hB3
  have hB2' := Lib.hid (hBW1.trans (hB3.mono hBW1.size))
  have hAl := bk_len la
  have hBl := bk_len lb
  clear fA fB hB1 hB2 hB3 hBW hBW1 hMa hla hsz hlb
  obtain ⟨A, hA⟩ : ∃ A, A = bk la := ⟨_, rfl⟩
  obtain ⟨B, hB⟩ : ∃ B, B = bk lb := ⟨_, rfl⟩
  rw [← hA] at hA2 hAl
  rw [← hB] at hMb hBl
  have HA := Lib.hid hA
  have HB := Lib.hid hB
  clear hA hB
  have hlA := hA2.lt
  have hlB := hMb.lt
  have hm0 := made_is w2
  have hBm := (Below.refl w2.heap.size w2).alloc (Nat.le_refl _) (.map #[] 0)
  go_wp2
  generalize w2.alloc (.map #[] 0) = w3 at hm0 hBm ⊢
  generalize hbm : w2.heap.size = bm at hlA hlB hm0 hBm ⊢
  have Hbm := Lib.hid hbm
  clear hbm
  go_loopw [21] (fun v wr => ∃ i : Nat, i ≤ 2 ∧ v = .int .i64 i ∧ ∃ M, MapIs wr bm M ∧ DMap A B (Dk A B i) M ∧ Below bm w2 wr) (fun v _ => 2 - (intOf v).toNat)
  case atStart => exact ⟨0, by omega, rfl, [], hm0, DMap.nil A B, hBm⟩
  case round =>
    obtain ⟨i, hi, rfl, M, hM, hD, hBr⟩ := hrel
    by_cases hlt : i < 2
    · have hlt' : (i : Int) < 2 := by omega
      obtain ⟨bf, Fm, hidx, hF, hDk, hbf⟩ : ∃ bf Fm, (∀ W : World, (Instr.index 60 (.agg #[.map (some ba), .map (some bb)]) (.int .i64 (i : Int))).run Try.prog W = .ok (.map (some bf)) W) ∧ MapIs w2 bf Fm ∧ Dk A B (i + 1) = Dk A B i ++ Fm.map (·.1) ∧ bf < bm := by
        obtain rfl | rfl : i = 0 ∨ i = 1 := by omega
        · exact ⟨ba, A, fun _ => by kernel_rfl, hA2, by simp [Dk], hlA⟩
        · exact ⟨bb, B, fun _ => by kernel_rfl, hMb, by simp [Dk], hlB⟩
      have hFl : Fm.length ≤ 300 := by
        have h1 := congrArg List.length hDk
        have h2 := Dk_len A B (i + 1)
        simp at h1
        obtain rfl | rfl : i = 0 ∨ i = 1 := by omega
        · simp [Dk] at h1; omega
        · simp [Dk] at h1; omega
      have laterA : ∀ W, Below bm w2 W → MapIs W ba A := fun W h => (h.block ba hlA).trans hA2
      have laterB : ∀ W, Below bm w2 W → MapIs W bb B := fun W h => (h.block bb hlB).trans hMb
      have laterF : ∀ W, Below bm w2 W → MapIs W bf Fm := fun W h => (h.block bf hbf).trans hF
      have hFr := laterF wr hBr
      have hrg : (Instr.range 58 (.map (some bf))).run Try.prog wr = .ok (.pointer (some ⟨wr.heap.size, 0, none⟩)) (wr.alloc (.mapIter (some bf) Fm.length #[] Fm.length)) := by
        have u58 := run_underlying Try.underlying58 wr
        have hg : (getObj bf).run Try.prog wr = .ok (.map (ents 0 Fm).toArray Fm.length) wr := by simp [getObj, Sem.run, show wr.heap[bf]? = _ from hFr]
        simp [Instr.range, u58, hg]
      have HDk := Lib.hid hDk
      clear hDk
      have hMr : MapIs (wr.alloc (.mapIter (some bf) Fm.length #[] Fm.length)) bm M := hM.alloc _
      have hBr0 : Below bm w2 (wr.alloc (.mapIter (some bf) Fm.length #[] Fm.length)) := hBr.alloc (Nat.le_of_lt hM.lt) _
      have hit0 : (wr.alloc (.mapIter (some bf) Fm.length #[] Fm.length)).heap[wr.heap.size]? = some (.mapIter (some bf) Fm.length #[] Fm.length) := Go.heap_alloc_new wr _
      have hmr0 := hM.lt
      go_wp2
      clear hrg hFr hBr
      generalize wr.alloc (.mapIter (some bf) Fm.length #[] Fm.length) = wi at hMr hBr0 hit0 ⊢
      generalize hr : wr.heap.size = r at hit0 hmr0 ⊢
      have Hr := Lib.hid hr
      clear hr
      obtain ⟨wo, rfl⟩ : ∃ wo : World, wo = wr := ⟨_, rfl⟩
      go_loopw [10] (fun _ wq => ∃ (seen : Array Nat) (ss : List (Int × Int)) (Mq : List ((Int × Int) × Int)), wq.heap[r]? = some (.mapIter (some bf) Fm.length seen Fm.length) ∧ MapIs wq bm Mq ∧ Came Fm seen ss ∧ DMap A B (Dk A B i ++ ss) Mq ∧ Below bm w2 wq) (fun _ wq => toCome Fm r wq)
      case atStart => exact ⟨#[], [], M, hit0, hMr, Came.start Fm, by rw [List.append_nil]; exact hD, hBr0⟩
      case round =>
        obtain ⟨seen, ss, Mq, hit, hMq, hC, hDq, hBq⟩ := hrel
        have hFq := laterF wr hBq
        have hold : ∀ x ∈ (ents 0 Fm).toArray.toList, x.born < Fm.length := fun x hx => by
          obtain ⟨j, p, hj, rfl⟩ := mem_ents (by simpa using hx)
          have := (List.getElem?_eq_some_iff.1 hj).1
          simp; omega
        rcases run_next_at (P := Try.prog) wr 0 r bf Fm.length Fm.length seen (ents 0 Fm).toArray Fm.length hit hFq hold (Nat.le_refl _) with ⟨hz, hnx⟩ | ⟨e, he, w1, hw1, hnx⟩
        · have Hz := Lib.hid hz
          clear hold hz
          go_wp2
          go_roundw
          case rel => exact ⟨i + 1, by omega, by go_num, Mq, hMq, by rw [HDk.out]; exact hDq.perm ((List.Perm.refl _).append (hC.all Hz.out)), hBq⟩
          case measure => simp [intOf]; omega
        · obtain ⟨j, p, hj, rfl⟩ := mem_ents (i := 0) (M := Fm) (x := e) (by unfold leftOf at he; simp at he; exact he.1)
          have hlt2 := left_lt he
          have hns : j ∉ seen.toList := by unfold leftOf at he; simp at he; simpa using he.2
          rw [Nat.zero_add] at hnx he hlt2
          have hC2 := hC.step hj hns
          have hit1 : w1.heap[r]? = some (.mapIter (some bf) Fm.length seen Fm.length) := by rcases hw1 with rfl | rfl <;> exact hit
          have hB1 : Below bm w2 w1 := by rcases hw1 with rfl | rfl; exact hBq; exact below_drew hBq
          have hM1 : MapIs w1 bm Mq := by rcases hw1 with rfl | rfl <;> exact hMq
          have hF1 := laterF w1 hB1
          have hrl := (Array.getElem?_eq_some_iff.1 hit1).1
          have hbr : r ≠ bf := fun e => by rw [e] at hit1; rw [show w1.heap[bf]? = _ from hF1] at hit1; cases hit1
          have hmr : r ≠ bm := fun e => by rw [e] at hit1; rw [show w1.heap[bm]? = _ from hM1] at hit1; cases hit1
          have hit2 : (setBlock w1 r (.mapIter (some bf) Fm.length (seen.push j) Fm.length)).heap[r]? = some (.mapIter (some bf) Fm.length (seen.push j) Fm.length) := by simp [setBlock, hrl]
          have hM2 : MapIs (setBlock w1 r (.mapIter (some bf) Fm.length (seen.push j) Fm.length)) bm Mq := by
            unfold MapIs setBlock
            simp only [Array.getElem?_setIfInBounds, if_neg hmr]
            exact hM1
          have hB2 : Below bm w2 (setBlock w1 r (.mapIter (some bf) Fm.length (seen.push j) Fm.length)) :=
            ⟨hB1.os, hB1.tape, hB1.output, by simpa [setBlock] using hB1.size, fun q hq => by
              simp only [setBlock, Array.getElem?_setIfInBounds]
              rw [if_neg (by omega)]
              exact hB1.block q hq⟩
          have hen := run_entry_at (P := Try.prog) _ r bf Fm.length seen (ents 0 Fm).toArray Fm.length { key := kv p.1, val := .int .i64 p.2, born := j } hit2 (laterF _ hB2) (by have := List.mem_of_getElem? (ents_at (i := 0) hj); rwa [Nat.zero_add] at this) (by rw [ents_born]; exact List.nodup_range')
          generalize setBlock w1 r (.mapIter (some bf) Fm.length (seen.push j) Fm.length) = w5 at hnx hit2 hM2 hB2 hen
          have hit6 : ∀ o, (w5.alloc o).heap[r]? = some (.mapIter (some bf) Fm.length (seen.push j) Fm.length) := fun o => (Go.heap_alloc_old w5 o (Array.getElem?_eq_some_iff.1 hit2).1).trans hit2
          have hM6 := fun o => hM2.alloc o
          have hs5 : w2.heap.size ≤ w5.heap.size := hB2.size
          simp only [kv] at hnx hen
          have Hlt := Lib.hid hlt2
          have Hit := Lib.hid hit
          clear hit1 hM1 hlt2 hw1 he hold hit hMq hBq hFq hB1 hF1
          have hBa := hB2.alloc (Nat.le_of_lt hM2.lt) (Obj.cells #[.int .i64 p.1.1, .int .i64 p.1.2] 61)
          go_wp2
          have hMa := hM6 (Obj.cells #[.int .i64 p.1.1, .int .i64 p.1.2] 61)
          have hita := hit6 (Obj.cells #[.int .i64 p.1.1, .int .i64 p.1.2] 61)
          have f0 : ∀ n, ((w5.alloc (Obj.cells #[.int .i64 p.1.1, .int .i64 p.1.2] 61)).drewN n).cell? ⟨w5.heap.size, 0, none⟩ = some (.int .i64 p.1.1) := fun n => by go_simp
          have f1 : ∀ n, ((w5.alloc (Obj.cells #[.int .i64 p.1.1, .int .i64 p.1.2] 61)).drewN n).cell? ⟨w5.heap.size, 1, none⟩ = some (.int .i64 p.1.2) := fun n => by go_simp
          clear hnx hen hit2 hM2 hB2 hit6 hM6
          generalize w5.alloc (Obj.cells #[.int .i64 p.1.1, .int .i64 p.1.2] 61) = W at *
          have hlA := fun n => run_look (W.drewN n) ba A (laterA _ (pw_below_drewN hBa n)) p.1 false
          have hlB := fun n => run_look (W.drewN n) bb B (laterB _ (pw_below_drewN hBa n)) p.1 false
          have hup := fun n => run_upd (W.drewN n) bm Mq hMa p.1 (wrap64 (mget p.1 B - mget p.1 A))
          simp only [kv] at hlA hlB hup
          cases hk : lessOk (mget p.1 B) (mget p.1 A) with
          | false =>
            have hDn := hDq.skip p.1 hk
            rw [List.append_assoc] at hDn
            generalize mget p.1 B = x at *
            generalize mget p.1 A = y at *
            go_quiet ((go_at_call 21; exact Calls.quiet_of_same (less_calls _ _ _)))
            go_wp2
            go_roundw
            case rel => exact ⟨seen.push j, ss ++ [p.1], Mq, hita, hMa, hC2, hDn, pw_below_drewN hBa _⟩
            case measure =>
              have := Hlt.out
              simp only [toCome, show (W.drewN _).heap[r]? = _ from hita, Hit.out]
              exact this
          | true =>
            have hDn := hDq.put p.1 hk
            rw [List.append_assoc] at hDn
            have hMn := fun n => setMap_is (w := W.drewN n) (b := bm) hMa.lt (mput p.1 (wrap64 (mget p.1 B - mget p.1 A)) Mq)
            have hBn := fun n => below_setMap (pw_below_drewN hBa n) (b := bm) (Nat.le_refl _) (mput p.1 (wrap64 (mget p.1 B - mget p.1 A)) Mq)
            have hin := fun n => (setMap_other (w := W.drewN n) (b := bm) hmr (mput p.1 (wrap64 (mget p.1 B - mget p.1 A)) Mq)).trans hita
            generalize mput p.1 (wrap64 (mget p.1 B - mget p.1 A)) Mq = Mn at *
            generalize mget p.1 B = x at *
            generalize mget p.1 A = y at *
            have g0 : ∀ n, (W.drewN n).cell? ⟨w5.heap.size, 0, none⟩ = some (.int .i64 p.1.1) := f0
            clear hDq hD
            go_quiet ((go_at_call 21; exact Calls.quiet_of_same (less_calls _ _ _)))
            go_wp2
            go_roundw
            case rel => exact ⟨seen.push j, ss ++ [p.1], Mn, hin _, hMn _, hC2, hDn, hBn _⟩
            case measure =>
              have := Hlt.out
              simp only [toCome, hin, Hit.out]
              exact this
    · have hlt' : ¬ (i : Int) < 2 := by omega
      obtain rfl : i = 2 := by omega
      have hl2 := Dk_len A B 2
      have hl3 := hD.len
      have ht := told_calls bm M (by omega) wr hM
      have HD := Lib.hid hD
      have HBr := Lib.hid hBr
      clear hD hl2 hl3
      go_wp2_with fail
      refine ht.mono ?_
      rintro e w9 ⟨v, ts, rfl, hp, hso, hR, hB9⟩
      have HP := Lib.hid hp
      have HS := Lib.hid hso
      have HR := Lib.hid hR
      have HB9 := Lib.hid hB9
      clear hp hso hR hB9
      go_wp2
      go_ret
      have hs := hB2'.out.size
      have hb := HBr.out
      rw [← Hbm.out] at hb
      have hwr : w.heap.size ≤ wr.heap.size := Nat.le_trans hs hb.size
      have hf := hB2'.out.trans (hb.mono hs)
      refine ⟨v, M, ts, rfl, ?_, HP.out, HS.out, Kd.R_lower HR.out hwr, hf.trans (HB9.out.mono hwr)⟩
      rw [← HA.out, ← HB.out]
      exact HD.out
end Go.Proofs.Ytbgcmhakllodeaa
