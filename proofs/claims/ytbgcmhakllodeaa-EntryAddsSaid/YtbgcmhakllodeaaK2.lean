/- A state and a list of entries that came in, opened. -/
import Derived.Test.YtbgcmhakllodeaaK
import Derived.Test.YtbgcmhakllodeaaV
namespace Go.Proofs.Ytbgcmhakllodeaa
open Go.RowKit Go.Proofs.YtbgcmhakllodeaaW.PrintWords Go.Proofs.YtbgcmhakllodeaaW.PrintLast Go.Proofs.YtbgcmhakllodeaaW.PrintMore
open PEntryDiffers Go.ChangeShapes Go.WideShapes Go.Deep

theorem wf_in {n : Int} (h : (Lit.int .i64 n).wf = true) : In64 n := by
  simp only [Lit.wf, Bool.and_eq_true, decide_eq_true_eq] at h
  exact ⟨h.1, h.2⟩
theorem op2 : OpT Try.prog 2 (Kd.int .i64) In64 := (OpT.int Try.underlying2 (by kernel_rfl)).mono fun _ h => wf_in h
theorem op3 : OpT Try.prog 3 (Kd.int .i64) In64 := (OpT.int Try.underlying3 (by kernel_rfl)).mono fun _ h => wf_in h
theorem op4 : OpT Try.prog 4 Kd.bool (fun _ => True) := OpT.bool Try.underlying4 (by kernel_rfl)
theorem op54 : OpT Try.prog 54 k54 (fun x => In64 x.f1 ∧ In64 x.f2 ∧ In64 x.f4) :=
  ((OpT.struct Try.underlying54 (OpF.cons rfl op3 (OpF.cons rfl op2 (OpF.cons rfl op2 (OpF.cons rfl op2 (OpF.cons rfl op2 (OpF.cons rfl op3 (OpF.cons rfl op4 (OpF.cons rfl op3 (OpF.cons rfl op3 (OpF.cons rfl op3 (OpF.cons rfl op2 (OpF.cons rfl op2 (OpF.one rfl op3))))))))))))) (by kernel_rfl)).iso (fun x : S54 => (x.f0, (x.f1, (x.f2, (x.f3, (x.f4, (x.f5, (x.f6, (x.f7, (x.f8, (x.f9, (x.f10, (x.f11, x.f12))))))))))))) (fun p => ⟨p.1, p.2.1, p.2.2.1, p.2.2.2.1, p.2.2.2.2.1, p.2.2.2.2.2.1, p.2.2.2.2.2.2.1, p.2.2.2.2.2.2.2.1, p.2.2.2.2.2.2.2.2.1, p.2.2.2.2.2.2.2.2.2.1, p.2.2.2.2.2.2.2.2.2.2.1, p.2.2.2.2.2.2.2.2.2.2.2.1, p.2.2.2.2.2.2.2.2.2.2.2.2⟩) (fun _ => rfl)).mono fun x h => ⟨h.2.1, h.2.2.1, h.2.2.2.2.1⟩
theorem op50 : OpT Try.prog 50 (Kd.slice 3 (Kd.int .i64)) (fun _ => True) := (OpT.slice (e' := 3) op3 Try.underlying50 (by kernel_rfl)).mono fun _ _ => trivial
theorem op52 : OpT Try.prog 52 k52 (fun _ => True) :=
  ((OpT.struct Try.underlying52 (OpF.cons rfl op3 (OpF.cons rfl op2 (OpF.cons rfl op2 (OpF.cons rfl op3 (OpF.cons rfl op3 (OpF.one rfl op50)))))) (by kernel_rfl)).iso (fun x : S52 => (x.f0, (x.f1, (x.f2, (x.f3, (x.f4, x.f5)))))) (fun p => ⟨p.1, p.2.1, p.2.2.1, p.2.2.2.1, p.2.2.2.2.1, p.2.2.2.2.2⟩) (fun _ => rfl)).mono fun x h => trivial
theorem op56 : OpT Try.prog 56 k56 (fun x => In64 x.f2) :=
  ((OpT.struct Try.underlying56 (OpF.cons rfl op3 (OpF.cons rfl op3 (OpF.one rfl op2))) (by kernel_rfl)).iso (fun x : S56 => (x.f0, (x.f1, x.f2))) (fun p => ⟨p.1, p.2.1, p.2.2⟩) (fun _ => rfl)).mono fun x h => h.2.2
theorem op25 : OpT Try.prog 25 (Kd.pair (Kd.int .i64) (Kd.pair (Kd.int .i64) (Kd.pair (Kd.int .i64) (Kd.int .i64)))) (fun _ => True) :=
  (OpT.struct Try.underlying25 (OpF.cons rfl op2 (OpF.cons rfl op2 (OpF.cons rfl op2 (OpF.one rfl op2)))) (by kernel_rfl)).mono fun _ _ => trivial
abbrev kP : Kd (Int × Int × Int × Int) := Kd.pair (Kd.int .i64) (Kd.pair (Kd.int .i64) (Kd.pair (Kd.int .i64) (Kd.int .i64)))
abbrev k27 : Kd (Int × List S54 × Int × Int × Int × Int × List S52 × Int × (Int × Int × Int × Int) × Int) :=
  Kd.pair (Kd.int .i64) (Kd.pair (Kd.slice 54 k54) (Kd.pair (Kd.int .i64) (Kd.pair (Kd.int .i64) (Kd.pair (Kd.int .i64) (Kd.pair (Kd.int .i64) (Kd.pair (Kd.slice 52 k52) (Kd.pair (Kd.int .i64) (Kd.pair kP (Kd.int .i64)))))))))
theorem op22 : OpT Try.prog 22 (Kd.slice 54 k54) Rng := (OpT.slice (e' := 54) op54 Try.underlying22 (by kernel_rfl)).mono fun _ h => h
theorem op23 : OpT Try.prog 23 (Kd.slice 52 k52) (fun _ => True) := (OpT.slice (e' := 52) op52 Try.underlying23 (by kernel_rfl)).mono fun _ _ => trivial
theorem op27 : OpT Try.prog 27 k27 (fun p => Rng p.2.1) :=
  (OpT.struct Try.underlying27 (OpF.cons rfl op3 (OpF.cons rfl op22 (OpF.cons rfl op3 (OpF.cons rfl op3 (OpF.cons rfl op2 (OpF.cons rfl op3 (OpF.cons rfl op23 (OpF.cons rfl op2 (OpF.cons rfl op25 (OpF.one rfl op2)))))))))) (by kernel_rfl)).mono fun _ h => h.2.1
set_option maxRecDepth 100000 in
theorem open_state {H : Type} {enc : TypeId × Value → H} {w : World} {base b0 : Nat} {spare : Nat → Bool} {held : Bool} {r : Reach} {v : Value} {d : DataW H} {ps : List MemPlace} (hv : Value.okWide Try.prog w r b0 27 v) (h : DataW.Trod enc Try.prog w base spare held 27 v d ps) :
    ∃ (a0 a2 a3 a4 a5 a7 a8 a9 a10 a11 a12 : Int) (A B : Option Addr) (c e : Nat) (l : List S54) (m : List S52), v = .agg #[.int .i64 a0, .slice A l.length c, .int .i64 a2, .int .i64 a3, .int .i64 a4, .int .i64 a5, .slice B m.length e, .int .i64 a7, .int .i64 a8, .int .i64 a9, .int .i64 a10, .int .i64 a11, .int .i64 a12] ∧
      Kd.C k54 w A l.length l ∧ l.length ≤ c ∧ Kd.C k52 w B m.length m ∧ m.length ≤ e ∧ Rng l := by
  obtain ⟨cs, rfl, hsz⟩ := okWide_struct Try.underlying27 hv
  obtain ⟨fuel, hf⟩ := h
  obtain ⟨⟨x0, x1, x2, x3, x4, x5, x6, x7, ⟨y0, y1, y2, y3⟩, x9⟩, hk, ho⟩ := op27.rd hf
  obtain ⟨c0, r0, e0, rfl, c1, r1, e1, ⟨A, c, rfl, hl, hC⟩, c2, r2, e2, rfl, c3, r3, e3, rfl, c4, r4, e4, rfl, c5, r5, e5, rfl, c6, r6, e6, ⟨B, e, rfl, hm, hD⟩, c7, r7, e7, rfl, c8, r8, e8, ⟨p0, q0, f0, rfl, p1, q1, f1, rfl, p2, q2, f2, rfl, rfl⟩, rfl⟩ := hk
  refine ⟨x0, x2, x3, x4, x5, x7, y0, y1, y2, y3, x9, A, B, c, e, x1, x6, ?_, hC, hl, hD, hm, ho⟩
  have : cs.toList = _ := e0
  rw [e1, e2, e3, e4, e5, e6, e7, e8, f0, f1, f2] at this
  rw [← Array.toArray_toList (xs := cs), this]
  rfl
set_option maxRecDepth 100000 in
theorem open_entries {H : Type} {enc : TypeId × Value → H} {w : World} {base b0 : Nat} {spare : Nat → Bool} {held : Bool} {r : Reach} {v : Value} {d : DataW H} {ps : List MemPlace} (hv : Value.okWide Try.prog w r b0 28 v) (h : DataW.Trod enc Try.prog w base spare held 28 v d ps) :
    ∃ (A : Option Addr) (c : Nat) (l : List S56), v = .slice A l.length c ∧ Kd.C k56 w A l.length l ∧ l.length ≤ c ∧ ∀ x ∈ l, In64 x.f2 := by
  obtain ⟨a, n, c, rfl⟩ := okWide_slice Try.underlying28 hv
  obtain ⟨fuel, hf⟩ := h
  obtain ⟨A, c', l, he, hl, hC, ho⟩ := op56.row Try.underlying28 hf
  simp only [Value.cells, List.cons.injEq, and_true] at he
  exact ⟨A, c', l, he, hC, hl, ho⟩
end Go.Proofs.Ytbgcmhakllodeaa
