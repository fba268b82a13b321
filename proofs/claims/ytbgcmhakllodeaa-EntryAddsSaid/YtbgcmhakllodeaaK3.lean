/- A pair of numbers that came in, opened. -/
import Derived.Test.YtbgcmhakllodeaaK2
import Derived.OpenShut
namespace Go.Proofs.Ytbgcmhakllodeaa
open Go.RowKit Go.Proofs.YtbgcmhakllodeaaW.PrintWords Go.Proofs.YtbgcmhakllodeaaW.PrintLast Go.Proofs.YtbgcmhakllodeaaW.PrintMore
open PEntryDiffers Go.ChangeShapes Go.WideShapes Go.Deep

set_option maxRecDepth 100000 in
theorem open_pair {H : Type} {enc : TypeId × Value → H} {w : World} {base b0 : Nat} {spare : Nat → Bool} {held : Bool} {r : Reach} {v : Value} {d : DataW H} {ps : List MemPlace} (hv : Value.okWide Try.prog w r b0 40 v) (h : DataW.Trod enc Try.prog w base spare held 40 v d ps) :
    ∃ (x y : Int), v = .agg #[.int .i64 x, .int .i64 y] := by
  have u40 := Try.underlying40
  unfold Value.okWide at hv
  rw [u40] at hv
  obtain ⟨cs, rfl, hsz, _⟩ := hv
  have c40 : Try.prog.cellsOf 40 = 2 := by kernel_rfl
  have c3 : Try.prog.cellsOf 3 = 1 := by kernel_rfl
  rw [c40] at hsz
  obtain ⟨fuel, hf⟩ := h
  obtain ⟨xs, m, _, _, _, hl, hg⟩ := DataW.trod_array u40 hf
  obtain ⟨l⟩ := cs
  match l, hsz with
  | [a, b], _ =>
    match xs, hl with
    | [y0, y1], _ =>
      have h0 := hg 0 (by decide)
      have h1 := hg 1 (by decide)
      simp only [c3, Value.cells, Nat.zero_mul, Nat.one_mul, List.drop_zero, List.take_succ_cons, List.take_zero, List.drop_succ_cons, List.getElem?_cons_zero, List.getElem?_cons_succ] at h0 h1
      obtain ⟨x, hx, _⟩ := DataW.trod_int Try.underlying3 h0
      obtain ⟨y, hy, _⟩ := DataW.trod_int Try.underlying3 h1
      simp only [List.cons.injEq, and_true] at hx hy
      exact ⟨x, y, by rw [hx, hy]⟩
end Go.Proofs.Ytbgcmhakllodeaa
