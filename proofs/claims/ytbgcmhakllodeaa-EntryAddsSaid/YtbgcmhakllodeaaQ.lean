/- slices.AppendSeq(nil, maps.Keys(m)), Collect. -/
import Derived.Test.YtbgcmhakllodeaaR
import Derived.RangeFuncNested
import Derived.RangeFuncLeaves
import Derived.Deep.AppendLies
import Derived.Test.YtbgcmhakllodeaaS1
namespace Go.Proofs.Ytbgcmhakllodeaa
open Go.RowKit

def kvs (p : Int × Int) : List Value := [.int .i64 p.1, .int .i64 p.2]
def kvl (ss : List (Int × Int)) : List Value := ss.flatMap kvs
theorem kvl_snoc (ss : List (Int × Int)) (p : Int × Int) : kvl (ss ++ [p]) = kvl ss ++ kvs p := by simp [kvl]
/-- What lies between two rounds: the box holds what has come. -/
structure ApI (w0 : World) (ss : List (Int × Int)) (W : World) : Prop where
  box : ∃ v, W.heap[w0.heap.size]? = some (.cells #[v] 74 (0, 0)) ∧ W.ownsRow w0.heap.size 61 2 v ss.length (kvl ss) 
  below : Below w0.heap.size w0 W
theorem not_cells_row {W : World} {base : Nat} {e : TypeId} {size : Nat} {v : Value} {k : Nat} {xs : List Value} (h : W.ownsRow base e size v k xs) {row : Option Nat} (hr : ∀ r, row = some r → ∃ o : Obj, W.heap[r]? = some o ∧ o.isCells = false) :
    v.ownBlock = none ∨ v.ownBlock ≠ row := by
  rcases h.2 with ⟨rfl, _⟩ | ⟨g, cap, cur, rfl, _, hgb, _⟩
  · exact .inl rfl
  · refine .inr fun e' => ?_
    obtain ⟨o, ho, hc⟩ := hr g (by simpa [Value.ownBlock] using e'.symm)
    rw [hgb] at ho; cases ho; cases hc
theorem ApI.own (w0 : World) (B : Nat) (hB : w0.heap.size ≤ B) : OwnFrom B (ApI w0) := fun ss W W' row h hg hr => by
  have hr' : ∀ r, row = some r → ∃ o : Obj, W.heap[r]? = some o ∧ o.isCells = false := fun r e => (hr r e).2
  obtain ⟨v, hv, hrow⟩ := h.box
  exact ⟨⟨v, (grownBy_keeps_cells hg hr' hv rfl).trans hv, hrow.kept hg (not_cells_row hrow hr')⟩, h.below.grown hg h.below.size (fun k e => Nat.le_trans hB (hr k e).1)⟩
/-- A round's frame: the key boxed. -/
def ApX (Bs : Nat) (sv : Value) (x : Int × Int) (a : Act) (W : World) : Prop :=
  ∃ g, a = { tmps := #[.slice none 0 0, sv, .pointer (some ⟨Bs, 0, none⟩), undef, .slice none 0 0, .pointer (some ⟨g, 0, none⟩), sv, kv x, undef, undef, undef, undef, undef], defers := [] } ∧ g ≠ Bs ∧ W.heap[g]? = some (.cells #[.int .i64 x.1, .int .i64 x.2] 61 (0, 0))
theorem ApX.own (Bs : Nat) (sv : Value) (B : Nat) (x : Int × Int) (a : Act) : OwnFrom B (fun (_ : Unit) W => ApX Bs sv x a W) := fun _ W W' row h hg hr => by
  obtain ⟨g, h1, h2, h3⟩ := h
  exact ⟨g, h1, h2, (grownBy_keeps_cells hg (fun r e => (hr r e).2) h3 rfl).trans h3⟩
theorem info61 : (Try.prog.info? 61).map (fun i => (i.zero, i.size, i.bytes)) = some (some (.agg #[(.int .i64 0), (.int .i64 0)]), 2, 16) := by kernel_rfl
set_option maxRecDepth 100000 in
set_option maxHeartbeats 2000000 in
theorem appendSeq_in (F : Fence) (n : Nat) (h41 : F.fn 41) (hro : F.round = none) (hn : 2 ≤ n) (g : Nat) (lb : Array Value) (hFg : F.fn g) (eg : ∀ args w, (callFunc g args).run Try.prog w = .ok (.enter g args) w)
    (S Sp : List (Int × Int) → Prop) (N : Nat) (hN : N ≤ 8796093022208) (w : World) (hseq : SeqStops F (n - 1) Try.prog g lb kv S Sp N w) :
    CallsIn F n Try.prog 41 #[.slice none 0 0, .func (.func g) #[] lb] w fun e w' => ∃ (v : Value) (ss : List (Int × Int)), e = .returned v ∧ S ss ∧ w'.ownsRow w.heap.size 61 2 v ss.length (kvl ss) ∧ Below w.heap.size w w' := by
  obtain ⟨i0, hi, hzz⟩ := Option.map_eq_some_iff.1 info61
  simp only [Prod.mk.injEq] at hzz
  obtain ⟨hz0, hz1, hz2⟩ := hzz
  refine callsIn_of_wp_marks Try.func41 rfl h41 ?_ hro
  simp only [Try.ntmps41, List.size_toArray, List.length_cons, List.length_nil, Nat.reduceAdd, Nat.reduceSub, Array.replicate_succ, Array.replicate_zero, List.push_toArray, List.append_toArray, List.nil_append, List.cons_append]
  gi_wp2
  have hw1 : (w.alloc (.cells #[.slice none 0 0] 74)).heap.size = w.heap.size + 1 := by simp
  have hb1 : Below w.heap.size w (w.alloc (.cells #[.slice none 0 0] 74)) := (Below.refl _ _).alloc (Nat.le_refl _) _
  have hbx : (w.alloc (.cells #[.slice none 0 0] 74)).heap[w.heap.size]? = some (.cells #[.slice none 0 0] 74 (0, 0)) := Go.heap_alloc_new w _
  generalize w.alloc (.cells #[.slice none 0 0] 74) = w1 at hw1 hb1 hbx ⊢
  refine wpIn_rangeFunc_ownH (α := Int × Int) (encs := fun x => #[kv x]) (Kp := KeepsWalks) hro (by omega) rfl hFg eg hseq (fun h k => h.trans k) (fun W l o o' _ h1 _ h2 => KeepsWalks.putObj o' h1 h2) hb1 (fun _ => rfl) (ApI w) (fun _ _ _ => False) (ApI.own w _ (by omega)) (fun _ _ _ _ _ h => h.elim)
    ⟨⟨_, hbx, rfl, .inl ⟨rfl, rfl⟩⟩, hb1⟩ (ApX w.heap.size (.func (.func g) #[] lb)) (fun x a' => ApX.own _ _ _ x a') ?_ ?_ ?_ ?_
  · intro l pre x W K hI hK
    simp only [List.zip, List.zipWith, Array.foldl, kv]
    have hIa := (ApI.own w w1.heap.size (by omega)).alloc (.cells #[.int .i64 x.1, .int .i64 x.2] 61) hI
    have hx : (W.alloc (.cells #[.int .i64 x.1, .int .i64 x.2] 61)).heap[W.heap.size]? = some (.cells #[.int .i64 x.1, .int .i64 x.2] 61 (0, 0)) := Go.heap_alloc_new W _
    have hlt : w.heap.size < W.heap.size := by obtain ⟨v, hv, _⟩ := hI.box; exact (Array.getElem?_eq_some_iff.1 hv).1
    gi_wp2_with (rw [Oper.semAt_eq _ _ _ (fun c h => by cases h)]; go_simp; try go_bits)
    exact hK _ _ ((KeepsOthers.alloc W _).from _) (KeepsWalks.alloc W _) hIa ⟨_, rfl, by omega, hx⟩
  · rintro l pre x a' W _ _ hI ⟨gx, rfl, hgx, hx⟩ hlen
    obtain ⟨v, hv, hrow⟩ := hI.box
    have hB := hI.below
    have cx0 : W.cell? ⟨gx, 0, none⟩ = some (.int .i64 x.1) := by simp [World.cell?, hx]
    have cx1 : W.cell? ⟨gx, 1, none⟩ = some (.int .i64 x.2) := by simp [World.cell?, hx]
    have cv : W.cell? ⟨w.heap.size, 0, none⟩ = some v := by simp [World.cell?, hv]
    have hlt : w.heap.size < W.heap.size := (Array.getElem?_eq_some_iff.1 hv).1
    have hvn : some w.heap.size ≠ v.ownBlock := by
      rcases hrow.2 with ⟨rfl, _⟩ | ⟨g', cap, cur, rfl, _, hgb, _⟩
      · simp [Value.ownBlock]
      · intro e; simp [Value.ownBlock] at e; subst e; rw [hgb] at hv; injection hv with hv; injection hv with _ hv; cases hv
    clear hx hv hgx
    gi_wp2_with (first
      | (gi_at_builtin; refine wpListIn_append_own _ rfl _ _ 74 rfl w.heap.size 61 i0 (.agg #[(.int .i64 0), (.int .i64 0)]) 2 16 Try.underlying74 hi hz0 hz1 hz2 rfl (by decide) _ _ _ rfl (hrow.alloc _) ⟨W.heap.size, 0, none⟩ 1 1 [.int .i64 x.1, .int .i64 x.2] rfl rfl ?c1 ?c2 ?c3 ?c4 ?c5 ?_)
      | (rw [Oper.semAt_eq _ _ _ (fun c h => by cases h)]; go_simp; try go_bits))
    case c1 => simpa using World.news_of_block (cs := #[.int .i64 x.1, .int .i64 x.2]) (t := 61) (fr := (0, 0)) (Go.heap_alloc_new W (.cells #[.int .i64 x.1, .int .i64 x.2] 61))
    case c2 => intro u hu; simp at hu; rcases hu with rfl | rfl <;> rfl
    case c3 => simp only [maxLen]; omega
    case c4 => omega
    case c5 => simp; omega
    intro v' w3 hown' hg3 _
    obtain ⟨A3, c3, rfl⟩ : ∃ A3 c3, v' = .slice A3 (pre.length + 1) c3 := by
      rcases hown'.2 with ⟨rfl, h0⟩ | ⟨g', cap, cur, rfl, _⟩
      · omega
      · exact ⟨_, cap, rfl⟩
    have hal : (W.alloc (Obj.cells #[Value.int IntKind.i64 x.1, Value.int IntKind.i64 x.2] 61)).heap[w.heap.size]? = W.heap[w.heap.size]? := Go.heap_alloc_old W _ hlt
    obtain ⟨v0, hv0, _⟩ := hI.box
    have hv0' : v0 = v := by simpa [World.cell?, hv0] using cv
    subst hv0'
    have hv3 : w3.heap[w.heap.size]? = some (.cells #[v0] 74 (0, 0)) := (hg3.block _ (by simp; omega) hvn).trans (hal.trans hv0)
    have cv3 : w3.cell? ⟨w.heap.size, 0, none⟩ = some v0 := by simp [World.cell?, hv3]
    have fv3 : w3.frozen? ⟨w.heap.size, 0, none⟩ = false := by simp [World.frozen?, hv3]
    have HG := Lib.hid hg3
    have HO := Lib.hid hown'
    clear hg3 hown' hv0 cx0 cx1 cv hal
    have HV := Lib.hid hv3
    clear hv3
    gi_wp2_with (rw [Oper.semAt_eq _ _ _ (fun c h => by cases h)]; go_simp; try go_bits)
    have hB1 : Below w.heap.size w (W.alloc (Obj.cells #[Value.int IntKind.i64 x.1, Value.int IntKind.i64 x.2] 61)) := hB.alloc (by omega) _
    have hB3 : Below w.heap.size w w3 := hB1.grown HG.out (by simp; omega) (fun k e => (hrow.lt k e).1)
    have hne3 : some w.heap.size ≠ (Value.slice A3 (pre.length + 1) c3).ownBlock := by
      rcases HO.out.2 with ⟨_, h0⟩ | ⟨g', cap, cur, e, _, hgb, _⟩
      · omega
      · rw [e]; intro e'; simp [Value.ownBlock] at e'; subst e'; rw [hgb] at HV; have := HV.out; injection this with this; injection this with _ this; cases this
    have hk1 : KeepsOthers W (w3.setCell ⟨w.heap.size, 0, none⟩ (.slice A3 (pre.length + 1) c3)) := ((KeepsOthers.alloc W _).trans (KeepsOthers.of_grownBy HG.out (fun j o hj ho => by
      rcases (hrow.alloc (Obj.cells #[Value.int IntKind.i64 x.1, Value.int IntKind.i64 x.2] 61)).2 with ⟨rfl, _⟩ | ⟨g', cap, cur, rfl, _, hgb, _⟩
      · simp [Value.ownBlock] at hj
      · have : g' = j := by simpa [Value.ownBlock] using hj
        subst this; rw [hgb] at ho; cases ho; rfl))).trans (KeepsOthers.setCell _ _ _)
    refine ⟨hk1.from _, hk1.walks, ⟨⟨.slice A3 (pre.length + 1) c3, ?_, ?_⟩, hB3.setCell (Nat.le_refl _) _⟩⟩
    · have := HV.out
      simp [World.setCell, Array.getElem?_modify, this]
    · rw [kvl_snoc]
      have h := HO.out.kept (grownBy_setCell' w3 w.heap.size (.slice A3 (pre.length + 1) c3)) (.inr (fun e => hne3 e.symm))
      simpa [kvs] using h
  · intro D xs W hD hS hI hdef
    obtain ⟨v, hv, hrow⟩ := hI.box
    have cv : W.cell? ⟨w.heap.size, 0, none⟩ = some v := by simp [World.cell?, hv]
    have HB := Lib.hid hI.below
    have HR := Lib.hid hrow
    have HI := Lib.hid hI
    clear hrow hv hI
    gi_wp2
    refine ⟨by simp, .inl ⟨_, _, rfl, run_takeDeferred hdef, ?_⟩⟩
    have hne : ∀ r, some D = some r → ∃ o : Obj, W.heap[r]? = some o ∧ o.isCells = false := fun r e => by cases e; exact ⟨_, hdef, rfl⟩
    exact ⟨_, results_tmp rfl _ _ _, v, xs, rfl, hS, HR.out.kept (grownBy_putObj' _ _ _) (not_cells_row HR.out hne), HB.out.grown (grownBy_putObj' _ _ _) HB.out.size (fun k e => by cases e; omega)⟩
  · intro D c pre W _ _ h
    exact h.elim
theorem collect_in (F : Fence) (n : Nat) (h41 : F.fn 41) (h37 : F.fn 37) (hro : F.round = none) (hn : 3 ≤ n) (g : Nat) (lb : Array Value) (hFg : F.fn g) (eg : ∀ args w, (callFunc g args).run Try.prog w = .ok (.enter g args) w)
    (S Sp : List (Int × Int) → Prop) (N : Nat) (hN : N ≤ 8796093022208) (w : World) (hseq : SeqStops F (n - 1 - 1) Try.prog g lb kv S Sp N w) :
    CallsIn F n Try.prog 37 #[.func (.func g) #[] lb] w fun e w' => ∃ (v : Value) (ss : List (Int × Int)), e = .returned v ∧ S ss ∧ w'.ownsRow w.heap.size 61 2 v ss.length (kvl ss) ∧ Below w.heap.size w w' := by
  have hcon := appendSeq_in F (n - 1) h41 hro (by omega) g lb hFg eg S Sp N hN w hseq
  refine callsIn_of_wp Try.func37 rfl h37 ?_ hro
  simp only [Try.ntmps37, List.size_toArray, List.length_cons, List.length_nil, Nat.reduceAdd, Nat.reduceSub, Array.replicate_succ, Array.replicate_zero, List.push_toArray, List.append_toArray, List.nil_append, List.cons_append]
  clear hseq
  gi_wp2
  refine ⟨fun _ => by omega, hcon.mono ?_⟩
  rintro e w' ⟨v, ss, rfl, hS, hR, hB⟩
  have HR := Lib.hid hR
  have HB := Lib.hid hB
  clear hR hB
  gi_wp2
  go_ret
  exact ⟨v, ss, rfl, hS, HR.out, HB.out⟩
theorem enter39 : ∀ args w, (callFunc 39 args).run Try.prog w = .ok (.enter 39 args) w := enters_of Try.func39 (by kernel_rfl) rfl
/-- The keys of a map, each once, in some order, in new memory. -/
theorem collect_keys (b Bm : Nat) (M : List ((Int × Int) × Int)) (hN : M.length ≤ 8796093022208) (w : World) (hBm : Bm < w.heap.size) (hm : w.cell? ⟨Bm, 0, none⟩ = some (.map (some b))) (hM : MapIs w b M) :
    Calls Try.prog 37 #[.func (.func 39) #[] #[.pointer (some ⟨Bm, 0, none⟩)]] w fun e w' => ∃ (v : Value) (ss : List (Int × Int)), e = .returned v ∧ ss.Perm (M.map (·.1)) ∧ w'.ownsRow w.heap.size 61 2 v ss.length (kvl ss) ∧ Below w.heap.size w w' :=
  (callsIn_wide (n := 5)).1 (collect_in Fence.wide 5 trivial trivial rfl (by omega) 39 _ trivial enter39 _ _ M.length hN w (keys1_stops Fence.wide 3 trivial rfl (by omega) Bm b M w hBm hm hM))
end Go.Proofs.Ytbgcmhakllodeaa
