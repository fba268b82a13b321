/- buckets. -/
import Derived.Test.YtbgcmhakllodeaaM
import Derived.Test.YtbgcmhakllodeaaPEntryDiffersx0
import Derived.Deep.RegionHeld3
import Derived.Maps.OwnSet
namespace Go.Proofs.Ytbgcmhakllodeaa
open Go.RowKit Go.Proofs.YtbgcmhakllodeaaW.PrintWords Go.Proofs.YtbgcmhakllodeaaW.PrintLast Go.Proofs.YtbgcmhakllodeaaW.PrintMore
open PEntryDiffers

def bk1 (M : List ((Int × Int) × Int)) (l : S54) : List ((Int × Int) × Int) :=
  if mhas (l.f0, 1) M then M else mput (l.f0, 3) l.f4 (mput (l.f0, 2) l.f2 (mput (l.f0, 1) l.f1 M))
def bk (ls : List S54) : List ((Int × Int) × Int) := ls.foldl bk1 []

theorem MapIs.alloc {w : World} {b : Nat} {M : List ((Int × Int) × Int)} (h : MapIs w b M) (o : Obj) : MapIs (w.alloc o) b M := (Go.heap_alloc_old w o h.lt).trans h
theorem MapIs.drew {w : World} {b : Nat} {M : List ((Int × Int) × Int)} (h : MapIs w b M) : MapIs w.drew b M := h
theorem MapIs.cast {w : World} {b : Nat} {M M' : List ((Int × Int) × Int)} (h : MapIs w b M) (e : M = M') : MapIs w b M' := e ▸ h
theorem below_setMap {B : Nat} {w w1 : World} (h : Below B w w1) {b : Nat} (hb : B ≤ b) (M : List ((Int × Int) × Int)) : Below B w (setMap w1 b M) :=
  ⟨h.os, h.tape, h.output, by rw [setMap_size]; exact h.size, fun i hi => (setMap_other (by omega) M).trans (h.block i hi)⟩
theorem bk_snoc (ls : List S54) (k : Nat) (h : k < ls.length) : bk (ls.take (k + 1)) = bk1 (bk (ls.take k)) (rd_T54 ls (k : Int)) := by
  unfold bk
  rw [List.take_succ_eq_append_getElem h, List.foldl_append]
  simp [rd_T54, List.getD_eq_getElem?_getD, h]

set_option maxHeartbeats 1000000 in
set_option maxRecDepth 100000 in
theorem buckets_calls (d0 d2 d3 d4 d5 d7 d8 d9 d10 d11 d12 B : Value) (A : Option Addr) (c : Nat) (ls : List S54) (w : World) (hr : Kd.C k54 w A ls.length ls) (hc : ls.length ≤ c) :
    Calls Try.prog 20 #[.agg #[d0, .slice A ls.length c, d2, d3, d4, d5, B, d7, d8, d9, d10, d11, d12]] w fun e w' =>
      ∃ b, e = .returned (.map (some b)) ∧ MapIs w' b (bk ls) ∧ w.heap.size ≤ b ∧ Below w.heap.size w w' := by
  have HR := Aside0.mk hr
  have HC := Aside0.mk hc
  clear hr hc
  have hmm := @run_makeMap Try.prog
  go_enter Try.func20, Try.ntmps20
  go_wp2
  go_loopw [12] (fun v wr => ∃ k : Nat, k ≤ ls.length ∧ v = .int .i64 k ∧ MapIs wr (w.heap.size + 1) (bk (ls.take k)) ∧ Below w.heap.size w wr ∧ w.heap.size + 2 ≤ wr.heap.size) (fun v _ => ls.length - (intOf v).toNat)
  case atStart =>
    exact ⟨0, Nat.zero_le _, rfl, (by have := made_is (w.alloc (Obj.cells #[d0, Value.slice A ls.length c, d2, d3, d4, d5, B, d7, d8, d9, d10, d11, d12] 27)); simpa [bk] using this), ((Below.refl _ _).alloc (Nat.le_refl _) _).alloc (by simp) _, by simp⟩
  case round =>
    obtain ⟨k, hk, rfl, hM, hB, hS⟩ := hrel
    have hl : ls.length ≤ 9223372036854775807 := HR.out.2.1
    by_cases hlt : k < ls.length
    · obtain ⟨ad, rfl, hh⟩ := at_T54 (Kd.C_below HR.out hB) (k : Int) (by omega) (by omega)
      rw [Int.toNat_natCast] at hh
      obtain ⟨h0, h1, h2, h3, h4, h5, h6, h7, h8, h9, h10, h11, h12⟩ := hh
      have hlt' : (k : Int) < ls.length := by omega
      have hsn := Aside0.mk (bk_snoc ls k hlt)
      clear hlt
      generalize hrd : rd_T54 ls (k : Int) = L at h0 h1 h2 h3 h4 h5 h6 h7 h8 h9 h10 h11 h12 hsn
      clear hrd
      generalize bk (ls.take k) = M at hM hsn
      generalize hb : w.heap.size + 1 = b at hM ⊢
      have Hb := Aside0.mk hb
      clear hb
      have hlk := fun o => run_look _ b M (hM.alloc o) (L.f0, 1) true
      simp only [kv, if_true] at hlk
      cases hh : mhas (L.f0, 1) M with
      | true =>
        go_wp2
        go_roundw
        case rel => exact ⟨k + 1, by omega, by go_num, by rw [hsn.out]; unfold bk1; rw [hh, if_pos rfl]; exact hM.alloc _, hB.alloc (by omega) _, by simp; omega⟩
        case measure => simp [intOf]; omega
      | false =>
        have hW : MapIs (wr.alloc (Obj.cells #[.int .i64 L.f0, .int .i64 L.f1, .int .i64 L.f2, .int .i64 L.f3, .int .i64 L.f4, .int .i64 L.f5, .bool L.f6, .int .i64 L.f7, .int .i64 L.f8, .int .i64 L.f9, .int .i64 L.f10, .int .i64 L.f11, .int .i64 L.f12] 54)) b M := hM.alloc _
        have hBW := below_drew (hB.alloc (by omega) (Obj.cells #[.int .i64 L.f0, .int .i64 L.f1, .int .i64 L.f2, .int .i64 L.f3, .int .i64 L.f4, .int .i64 L.f5, .bool L.f6, .int .i64 L.f7, .int .i64 L.f8, .int .i64 L.f9, .int .i64 L.f10, .int .i64 L.f11, .int .i64 L.f12] 54))
        have hne : wr.heap.size ≠ b := by have := hM.lt; omega
        go_wp2
        clear hlk h0 h1 h2 h3 h4 h5 h6 h7 h8 h9 h10 h11 h12
        have c0 : (wr.alloc (Obj.cells #[.int .i64 L.f0, .int .i64 L.f1, .int .i64 L.f2, .int .i64 L.f3, .int .i64 L.f4, .int .i64 L.f5, .bool L.f6, .int .i64 L.f7, .int .i64 L.f8, .int .i64 L.f9, .int .i64 L.f10, .int .i64 L.f11, .int .i64 L.f12] 54)).drew.cell? ⟨wr.heap.size, 0, none⟩ = some (.int .i64 L.f0) := by go_simp
        have c1 : (wr.alloc (Obj.cells #[.int .i64 L.f0, .int .i64 L.f1, .int .i64 L.f2, .int .i64 L.f3, .int .i64 L.f4, .int .i64 L.f5, .bool L.f6, .int .i64 L.f7, .int .i64 L.f8, .int .i64 L.f9, .int .i64 L.f10, .int .i64 L.f11, .int .i64 L.f12] 54)).drew.cell? ⟨wr.heap.size, 1, none⟩ = some (.int .i64 L.f1) := by go_simp
        have c2 : (wr.alloc (Obj.cells #[.int .i64 L.f0, .int .i64 L.f1, .int .i64 L.f2, .int .i64 L.f3, .int .i64 L.f4, .int .i64 L.f5, .bool L.f6, .int .i64 L.f7, .int .i64 L.f8, .int .i64 L.f9, .int .i64 L.f10, .int .i64 L.f11, .int .i64 L.f12] 54)).drew.cell? ⟨wr.heap.size, 2, none⟩ = some (.int .i64 L.f2) := by go_simp
        have c4 : (wr.alloc (Obj.cells #[.int .i64 L.f0, .int .i64 L.f1, .int .i64 L.f2, .int .i64 L.f3, .int .i64 L.f4, .int .i64 L.f5, .bool L.f6, .int .i64 L.f7, .int .i64 L.f8, .int .i64 L.f9, .int .i64 L.f10, .int .i64 L.f11, .int .i64 L.f12] 54)).drew.cell? ⟨wr.heap.size, 4, none⟩ = some (.int .i64 L.f4) := by go_simp
        have hWd := hW.drew
        clear hW hM
        have hsz : wr.heap.size + 1 = (wr.alloc (Obj.cells #[.int .i64 L.f0, .int .i64 L.f1, .int .i64 L.f2, .int .i64 L.f3, .int .i64 L.f4, .int .i64 L.f5, .bool L.f6, .int .i64 L.f7, .int .i64 L.f8, .int .i64 L.f9, .int .i64 L.f10, .int .i64 L.f11, .int .i64 L.f12] 54)).drew.heap.size := by simp
        have Hsz := Aside0.mk hsz
        clear hsz
        generalize (wr.alloc (Obj.cells #[.int .i64 L.f0, .int .i64 L.f1, .int .i64 L.f2, .int .i64 L.f3, .int .i64 L.f4, .int .i64 L.f5, .bool L.f6, .int .i64 L.f7, .int .i64 L.f8, .int .i64 L.f9, .int .i64 L.f10, .int .i64 L.f11, .int .i64 L.f12] 54)) = W at *
        have m1 := run_upd _ b _ hWd (L.f0, 1) L.f1
        have hM1 := setMap_is hWd.lt (mput (L.f0, 1) L.f1 M)
        have k1 := setMap_cell hWd (mput (L.f0, 1) L.f1 M)
        generalize hW1 : setMap W.drew b (mput (L.f0, 1) L.f1 M) = W1 at *
        have m2 := run_upd _ b _ hM1 (L.f0, 2) L.f2
        have hM2 := setMap_is hM1.lt (mput (L.f0, 2) L.f2 (mput (L.f0, 1) L.f1 M))
        have k2 := setMap_cell hM1 (mput (L.f0, 2) L.f2 (mput (L.f0, 1) L.f1 M))
        generalize hW2 : setMap W1 b (mput (L.f0, 2) L.f2 (mput (L.f0, 1) L.f1 M)) = W2 at *
        have m3 := run_upd _ b _ hM2 (L.f0, 3) L.f4
        have hM3 := setMap_is hM2.lt (mput (L.f0, 3) L.f4 (mput (L.f0, 2) L.f2 (mput (L.f0, 1) L.f1 M)))
        have k3 := setMap_cell hM2 (mput (L.f0, 3) L.f4 (mput (L.f0, 2) L.f2 (mput (L.f0, 1) L.f1 M)))
        generalize hW3 : setMap W2 b (mput (L.f0, 3) L.f4 (mput (L.f0, 2) L.f2 (mput (L.f0, 1) L.f1 M))) = W3 at *
        simp only [kv] at m1 m2 m3
        have HW1 := Aside0.mk hW1
        have HW2 := Aside0.mk hW2
        have HW3 := Aside0.mk hW3
        clear hW1 hW2 hW3
        go_region_held3 (fun w' : World => w'.cell? ⟨wr.heap.size, 0, none⟩ = some (.int .i64 L.f0) ∧ w'.cell? ⟨wr.heap.size, 1, none⟩ = some (.int .i64 L.f1) ∧ w'.cell? ⟨wr.heap.size, 2, none⟩ = some (.int .i64 L.f2) ∧ w'.cell? ⟨wr.heap.size, 4, none⟩ = some (.int .i64 L.f4)) (first | exact ⟨c0, c1, c2, c4⟩ | simp only [k3, k2, k1, c0, c1, c2, c4, and_self]) (fail)
        go_wp2
        go_roundw
        case rel =>
          refine ⟨k + 1, by omega, by go_num, ?_, ?_, ?_⟩
          · rw [hsn.out]; unfold bk1; rw [hh, if_neg (by simp)]; exact hM3
          · rw [← HW3.out, ← HW2.out, ← HW1.out]
            have hbb : w.heap.size ≤ b := by have := Hb.out; omega
            exact below_setMap (below_setMap (below_setMap hBW hbb _) hbb _) hbb _
          · rw [← HW3.out, ← HW2.out, ← HW1.out]; simp only [setMap_size]; have := Hsz.out; omega
        case measure => simp [intOf]; omega
    · have hlt' : ¬ (k : Int) < ls.length := by omega
      go_wp2
      go_ret
      obtain rfl : k = ls.length := by omega
      rw [List.take_length] at hM
      exact ⟨_, rfl, hM, by omega, hB⟩
end Go.Proofs.Ytbgcmhakllodeaa
