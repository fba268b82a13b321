/- wakes: the statements' own example is true. -/
import Derived.Test.YtbgcmhakllodeaaL
namespace Go.Proofs.Ytbgcmhakllodeaa
open Go.RowKit Go.Proofs.YtbgcmhakllodeaaW.PrintWords Go.Proofs.YtbgcmhakllodeaaW.PrintLast Go.Proofs.YtbgcmhakllodeaaW.PrintMore
open PEntryDiffers

def wkL : S54 := ⟨1, 100, 7, 0, 0, 0, false, 0, 0, 0, 0, 0, 0⟩
theorem wk_diff : refDiffL [] [wkL] = [⟨1, 1, 100⟩, ⟨1, 2, 7⟩] := by decide +kernel
theorem wk_add : refAddL ([⟨1, 1, 100⟩, ⟨1, 2, 7⟩] ++ [⟨1, 2, -7⟩]) = some [⟨1, 1, 100⟩] := by decide +kernel
theorem wk_of : ofL 1 1 [⟨1, 1, 100⟩] = 100 := by decide +kernel
theorem wk_rng : Rng [wkL] := fun x hx => by
  rw [List.mem_singleton] at hx
  subst hx
  unfold In64 wkL
  decide
theorem C_one54 {W : World} {g : Nat} {x : S54} (h : W.heap[g]? = some (.cells #[.int .i64 x.f0, .int .i64 x.f1, .int .i64 x.f2, .int .i64 x.f3, .int .i64 x.f4, .int .i64 x.f5, .bool x.f6, .int .i64 x.f7, .int .i64 x.f8, .int .i64 x.f9, .int .i64 x.f10, .int .i64 x.f11, .int .i64 x.f12] 54 (0, 0))) : Kd.C k54 W (some ⟨g, 0, none⟩) 1 [x] := by
  refine ⟨rfl, by decide, fun _ => ⟨⟨g, 0, none⟩, rfl, fun j p hj => ?_⟩⟩
  cases j with
  | succ j => simp at hj
  | zero =>
    obtain rfl : x = p := by simpa using hj
    refine ⟨_, rfl, k54_mk W x, fun i u hu => ?_⟩
    have := blk_cell h i
    rw [show (0 : Nat) * k54.sz + i = i by omega, add_plain, this]
    simpa using hu
theorem C_one56' {W : World} {g : Nat} {x : S56} (h : W.heap[g]? = some (.cells #[.int .i64 x.f0, .int .i64 x.f1, .int .i64 x.f2] 56 (0, 0))) : Kd.C k56 W (some ⟨g, 0, none⟩) 1 [x] := by
  refine ⟨rfl, by decide, fun _ => ⟨⟨g, 0, none⟩, rfl, fun j p hj => ?_⟩⟩
  cases j with
  | succ j => simp at hj
  | zero =>
    obtain rfl : x = p := by simpa using hj
    refine ⟨_, rfl, k56_mk W x, fun i u hu => ?_⟩
    have := blk_cell h i
    rw [show (0 : Nat) * k56.sz + i = i by omega, add_plain, this]
    simpa using hu
set_option maxHeartbeats 4000000 in
theorem wakes_calls (w : World) : Calls Try.prog 7 #[] w fun e w' => e = .returned (.bool true) ∧ Below w.heap.size w w' := by
  have hC : Kd.C k54 (((w.alloc (Obj.cells #[.int .i64 1, .int .i64 100, .int .i64 7, .int .i64 0, .int .i64 0, .int .i64 0, .bool false, .int .i64 0, .int .i64 0, .int .i64 0, .int .i64 0, .int .i64 0, .int .i64 0] 54)).alloc (Obj.cells #[.int .i64 0, .slice none 0 0, .int .i64 0, .int .i64 0, .int .i64 0, .int .i64 0, .slice none 0 0, .int .i64 0, .int .i64 0, .int .i64 0, .int .i64 0, .int .i64 0, .int .i64 0] 27)).alloc (Obj.cells #[.int .i64 0, .slice (some ⟨w.heap.size, 0, none⟩) 1 1, .int .i64 0, .int .i64 0, .int .i64 0, .int .i64 0, .slice none 0 0, .int .i64 0, .int .i64 0, .int .i64 0, .int .i64 0, .int .i64 0, .int .i64 0] 27)) (some ⟨w.heap.size, 0, none⟩) 1 [wkL] := C_one54 (x := wkL) (blk_alloc (blk_alloc (Go.heap_alloc_new w _) _) _)
  have hBW : Below w.heap.size w (((w.alloc (Obj.cells #[.int .i64 1, .int .i64 100, .int .i64 7, .int .i64 0, .int .i64 0, .int .i64 0, .bool false, .int .i64 0, .int .i64 0, .int .i64 0, .int .i64 0, .int .i64 0, .int .i64 0] 54)).alloc (Obj.cells #[.int .i64 0, .slice none 0 0, .int .i64 0, .int .i64 0, .int .i64 0, .int .i64 0, .slice none 0 0, .int .i64 0, .int .i64 0, .int .i64 0, .int .i64 0, .int .i64 0, .int .i64 0] 27)).alloc (Obj.cells #[.int .i64 0, .slice (some ⟨w.heap.size, 0, none⟩) 1 1, .int .i64 0, .int .i64 0, .int .i64 0, .int .i64 0, .slice none 0 0, .int .i64 0, .int .i64 0, .int .i64 0, .int .i64 0, .int .i64 0, .int .i64 0] 27)) := (((Below.refl _ w).alloc (Nat.le_refl _) _).alloc (by simp) _).alloc (by simp; omega) _
  have hbl : (((w.alloc (Obj.cells #[.int .i64 1, .int .i64 100, .int .i64 7, .int .i64 0, .int .i64 0, .int .i64 0, .bool false, .int .i64 0, .int .i64 0, .int .i64 0, .int .i64 0, .int .i64 0, .int .i64 0] 54)).alloc (Obj.cells #[.int .i64 0, .slice none 0 0, .int .i64 0, .int .i64 0, .int .i64 0, .int .i64 0, .slice none 0 0, .int .i64 0, .int .i64 0, .int .i64 0, .int .i64 0, .int .i64 0, .int .i64 0] 27)).alloc (Obj.cells #[.int .i64 0, .slice (some ⟨w.heap.size, 0, none⟩) 1 1, .int .i64 0, .int .i64 0, .int .i64 0, .int .i64 0, .slice none 0 0, .int .i64 0, .int .i64 0, .int .i64 0, .int .i64 0, .int .i64 0, .int .i64 0] 27)).heap[w.heap.size + 1 + 1]? = some (Obj.cells #[.int .i64 0, .slice (some ⟨w.heap.size, 0, none⟩) 1 1, .int .i64 0, .int .i64 0, .int .i64 0, .int .i64 0, .slice none 0 0, .int .i64 0, .int .i64 0, .int .i64 0, .int .i64 0, .int .i64 0, .int .i64 0] 27) := blk_next (by simp)
  have HC := Aside0.mk hC
  have HBW := Lib.hid hBW
  have HBL := Lib.hid hbl
  clear hC hBW hbl
  go_enter Try.func7, Try.ntmps7
  go_wp2_with fail
  generalize ((w.alloc (Obj.cells #[.int .i64 1, .int .i64 100, .int .i64 7, .int .i64 0, .int .i64 0, .int .i64 0, .bool false, .int .i64 0, .int .i64 0, .int .i64 0, .int .i64 0, .int .i64 0, .int .i64 0] 54)).alloc (Obj.cells #[.int .i64 0, .slice none 0 0, .int .i64 0, .int .i64 0, .int .i64 0, .int .i64 0, .slice none 0 0, .int .i64 0, .int .i64 0, .int .i64 0, .int .i64 0, .int .i64 0, .int .i64 0] 27)).alloc (Obj.cells #[.int .i64 0, .slice (some ⟨w.heap.size, 0, none⟩) 1 1, .int .i64 0, .int .i64 0, .int .i64 0, .int .i64 0, .slice none 0 0, .int .i64 0, .int .i64 0, .int .i64 0, .int .i64 0, .int .i64 0, .int .i64 0] 27) = W at *
  refine (diff_ref _ _ _ _ _ _ _ _ _ _ _ _ _ _ _ _ _ _ _ _ _ _ _ _ none (some ⟨w.heap.size, 0, none⟩) 0 1 [] [wkL] W (C_nil _ _) (Nat.le_refl _) HC.out (Nat.le_refl _) (by simp) (by simp) (fun x hx => by cases hx) wk_rng).mono ?_
  rintro e w1 ⟨v, rfl, hR, hB⟩
  rw [wk_diff] at hR
  obtain ⟨A1, c1, rfl, hc1, hC1⟩ := Kd.R_reads hR
  have HC1 := Aside0.mk hC1
  have HB1 := Lib.hid hB
  clear hC1 hR hB
  go_wp2_with fail
  have hb1 : Below w1.heap.size w1 (w1.alloc (Obj.cells #[.int .i64 1, .int .i64 2, .int .i64 (-7)] 56)) := (Below.refl _ w1).alloc (Nat.le_refl _) _
  have hc2 : Kd.C k56 (w1.alloc (Obj.cells #[.int .i64 1, .int .i64 2, .int .i64 (-7)] 56)) (some ⟨w1.heap.size, 0, none⟩) 1 [⟨1, 2, -7⟩] := C_one56' (x := ⟨1, 2, -7⟩) (Go.heap_alloc_new w1 _)
  have hcl := Kd.C_below HC1.out hb1
  refine (add_ref A1 (some ⟨w1.heap.size, 0, none⟩) c1 1 [⟨1, 1, 100⟩, ⟨1, 2, 7⟩] [⟨1, 2, -7⟩] _ hcl hc1 hc2 (Nat.le_refl _) (by simp) (by simp) (fun x hx => by simp only [List.cons_append, List.nil_append, List.mem_cons, List.not_mem_nil, or_false] at hx; unfold In64; rcases hx with rfl | rfl | rfl <;> decide)).mono ?_
  rintro e w2 ⟨hB2, hor⟩
  rw [wk_add] at hor
  obtain ⟨l9, v9, hl9, rfl, hR9⟩ : ∃ l v, some [(⟨1, 1, 100⟩ : S56)] = some l ∧ e = .returned (.tuple #[v, .int .i64 0]) ∧ Kd.R k56 56 w2 (w1.alloc (Obj.cells #[.int .i64 1, .int .i64 2, .int .i64 (-7)] 56)).heap.size (fun _ => True) v l := by
    rcases hor with ⟨h, _⟩ | h
    · cases h
    · exact h
  obtain rfl : [(⟨1, 1, 100⟩ : S56)] = l9 := by injection hl9
  clear hl9 hor
  obtain ⟨A2, c2, rfl, hc9, hC9⟩ := Kd.R_reads hR9
  have hBw := Lib.hid ((HBW.out.trans (HB1.out.mono HBW.out.size)).trans ((hb1.trans (hB2.mono hb1.size)).mono (HBW.out.trans (HB1.out.mono HBW.out.size)).size))
  have hW2 : Below W.heap.size W w2 := HB1.out.trans ((hb1.trans (hB2.mono hb1.size)).mono HB1.out.size)
  have hblk : w2.heap[w.heap.size + 1 + 1]? = some (Obj.cells #[.int .i64 0, .slice (some ⟨w.heap.size, 0, none⟩) 1 1, .int .i64 0, .int .i64 0, .int .i64 0, .int .i64 0, .slice none 0 0, .int .i64 0, .int .i64 0, .int .i64 0, .int .i64 0, .int .i64 0, .int .i64 0] 27) := (hW2.block _ (Array.getElem?_eq_some_iff.1 HBL.out).1).trans HBL.out
  have hL2 := Kd.C_below HC1.out (hb1.trans (hB2.mono hb1.size))
  obtain ⟨ad, rfl, h0, h1, h2⟩ := at_T56 hL2 0 (by decide) (by decide)
  have hLs := Kd.C_below HC.out hW2
  rw [show (rd_T56 [⟨1, 1, 100⟩, ⟨1, 2, 7⟩] 0).f2 = 100 from rfl, show ad.add (Int.toNat 0 * 3) = ad from by cases ad; simp [Addr.add]] at h2
  have HL2 := Aside0.mk hL2
  have HLs := Aside0.mk hLs
  have HC9 := Aside0.mk hC9
  have HBK := Lib.hid hblk
  have H9 := Lib.hid hc9
  have H1 := Lib.hid hc1
  clear hL2 hLs hC9 hblk hcl hc2 hb1 hB2 hR9 HC1 HC HBL HBW HB1 hW2 h0 h1 hc9 hc1
  go_wp2_with fail
  refine (of_calls A2 c2 [⟨1, 1, 100⟩] 1 1 w2 HC9.out H9.out).mono ?_
  rintro e w3 ⟨rfl, hB3⟩
  rw [wk_of]
  have f3 : ∀ i, w3.cell? ⟨w.heap.size + 1 + 1, i, none⟩ = (#[.int .i64 0, .slice (some ⟨w.heap.size, 0, none⟩) 1 1, .int .i64 0, .int .i64 0, .int .i64 0, .int .i64 0, .slice none 0 0, .int .i64 0, .int .i64 0, .int .i64 0, .int .i64 0, .int .i64 0, .int .i64 0] : Array Value)[i]? := fun i => blk_cell ((hB3.block _ (Array.getElem?_eq_some_iff.1 HBK.out).1).trans HBK.out) i
  have HB3 := Lib.hid hB3
  clear hB3 h2
  go_wp2_with fail
  refine (entrySame_calls _ _ _ _ _ _ _ _ _ _ _ _ (some ad) (some ⟨w.heap.size, 0, none⟩) c1 1 [⟨1, 1, 100⟩, ⟨1, 2, 7⟩] [wkL] w3 (Kd.C_below HL2.out HB3.out) H1.out (Kd.C_below HLs.out HB3.out) (Nat.le_refl _) (by simp) (by simp) wk_rng).mono ?_
  rintro e w4 ⟨rfl, hB4⟩
  rw [wk_diff, decide_eq_true rfl]
  have f4 : ∀ i, w4.cell? ⟨w.heap.size + 1 + 1, i, none⟩ = (#[.int .i64 0, .slice (some ⟨w.heap.size, 0, none⟩) 1 1, .int .i64 0, .int .i64 0, .int .i64 0, .int .i64 0, .slice none 0 0, .int .i64 0, .int .i64 0, .int .i64 0, .int .i64 0, .int .i64 0, .int .i64 0] : Array Value)[i]? := fun i => (hB4.cell (p := ⟨w.heap.size + 1 + 1, i, none⟩) (Nat.lt_of_lt_of_le (Array.getElem?_eq_some_iff.1 HBK.out).1 HB3.out.size)).trans (f3 i)
  have HB4 := Lib.hid (HB3.out.trans (hB4.mono HB3.out.size))
  clear hB4 f3
  go_wp2_with fail
  refine (entrySame_calls _ _ _ _ _ _ _ _ _ _ _ _ A2 (some ⟨w.heap.size, 0, none⟩) c2 1 [⟨1, 1, 100⟩] [wkL] w4 (Kd.C_below HC9.out HB4.out) H9.out (Kd.C_below HLs.out HB4.out) (Nat.le_refl _) (by simp) (by simp) wk_rng).mono ?_
  rintro e w5 ⟨rfl, hB5⟩
  rw [wk_diff, decide_eq_false (by decide)]
  have HB5 := Lib.hid (hBw.out.trans ((HB4.out.trans (hB5.mono HB4.out.size)).mono hBw.out.size))
  clear hB5 f4
  go_wp2_with fail
  go_ret
  exact ⟨rfl, HB5.out⟩
end Go.Proofs.Ytbgcmhakllodeaa
