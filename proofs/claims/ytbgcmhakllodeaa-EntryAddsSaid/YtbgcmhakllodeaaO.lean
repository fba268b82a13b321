/- The order of keys: cmp.Or, the comparing function, SortedFunc over maps.Keys. -/
import Derived.Test.YtbgcmhakllodeaaQ
import Derived.Deep.RegionHeld3
namespace Go.Proofs.Ytbgcmhakllodeaa
open Go.RowKit Go.Shelf Go.Sort

def pickc (a b : Int) : Int := if a = 0 then b else a
set_option maxHeartbeats 1000000 in
theorem or2 (g : Nat) (c1 c2 : Int) (W : World) (h0 : W.cell? ⟨g, 0, none⟩ = some (.int .i64 c1)) (h1 : W.cell? ⟨g, 1, none⟩ = some (.int .i64 c2)) :
    Calls Try.prog 35 #[.slice (some ⟨g, 0, none⟩) 2 2] W fun e w' => e = .returned (.int .i64 (pickc c1 c2)) ∧ W = w' := by
  go_enter Try.func35, Try.ntmps35
  go_wp2
  go_loop [5, 8] (fun _ v => ∃ k : Nat, k ≤ 2 ∧ v = .int .i64 k ∧ (1 ≤ k → c1 = 0) ∧ (2 ≤ k → c2 = 0)) (fun _ v => 2 - (intOf v).toNat)
  case atStart => exact ⟨0, by omega, rfl, by omega, by omega⟩
  case round =>
    obtain ⟨k, hk, rfl, hc1, hc2⟩ := hrel
    obtain rfl | rfl | rfl : k = 0 ∨ k = 1 ∨ k = 2 := by omega
    · by_cases h : c1 = 0
      · subst h
        go_wp2
        go_round
        case rel => exact ⟨1, by omega, rfl, by simp, by omega⟩
        case measure => simp [intOf]
      · have hb : (c1 == 0) = false := by simp [h]
        go_wp2
        go_ret
        exact ⟨by simp [pickc, h], rfl⟩
    · obtain rfl := hc1 (by omega)
      by_cases h : c2 = 0
      · subst h
        go_wp2
        go_round
        case rel => exact ⟨2, by omega, rfl, by simp, by simp⟩
        case measure => simp [intOf]
      · have hb : (c2 == 0) = false := by simp [h]
        go_wp2
        go_ret
        exact ⟨by simp [pickc], rfl⟩
    · obtain rfl := hc1 (by omega)
      obtain rfl := hc2 (by omega)
      go_wp2
      go_ret
      exact ⟨by simp [pickc], rfl⟩
theorem cell_alloc {w : World} {o : Obj} {a : Addr} {v : Value} (h : w.cell? a = some v) : (w.alloc o).cell? a = some v := by
  have hl := World.block_lt_of_cell? w a h
  unfold World.cell? at *
  rwa [Go.heap_alloc_old w o hl]
/-- What the comparing function tells. -/
def cf (x y : Int × Int) : Int := pickc (Lib.compareInt x.1 y.1) (Lib.compareInt x.2 y.2)
set_option maxHeartbeats 1000000 in
theorem told1 (x y : Int × Int) (W : World) : Calls Try.prog 34 #[kv x, kv y] W fun e w' => e = .returned (.int .i64 (cf x y)) ∧ ∃ q os', w' = grow (W.drewN q) os' := by
  have c1 := fun W' => AnyG.cmp_Compare_int Try.cmpInt x.1 y.1 W'
  have c2 := fun W' => AnyG.cmp_Compare_int Try.cmpInt x.2 y.2 W'
  change ∀ W', Calls Try.prog 36 _ _ _ at c1
  change ∀ W', Calls Try.prog 36 _ _ _ at c2
  unfold cf kv
  generalize Lib.compareInt x.1 y.1 = r1 at c1 ⊢
  generalize Lib.compareInt x.2 y.2 = r2 at c2 ⊢
  obtain ⟨x1, x2⟩ := x
  obtain ⟨y1, y2⟩ := y
  simp only at c1 c2 ⊢
  go_enter Try.func34, Try.ntmps34
  go_wp2
  have a0 : ((W.alloc (Obj.cells #[.int .i64 x1, .int .i64 x2] 61)).alloc (Obj.cells #[.int .i64 y1, .int .i64 y2] 61)).drew.cell? ⟨W.heap.size, 0, none⟩ = some (.int .i64 x1) := by go_simp
  have a1 : ((W.alloc (Obj.cells #[.int .i64 x1, .int .i64 x2] 61)).alloc (Obj.cells #[.int .i64 y1, .int .i64 y2] 61)).drew.cell? ⟨W.heap.size, 1, none⟩ = some (.int .i64 x2) := by go_simp
  have b0 : ((W.alloc (Obj.cells #[.int .i64 x1, .int .i64 x2] 61)).alloc (Obj.cells #[.int .i64 y1, .int .i64 y2] 61)).drew.cell? ⟨W.heap.size + 1, 0, none⟩ = some (.int .i64 y1) := by go_simp
  have b1 : ((W.alloc (Obj.cells #[.int .i64 x1, .int .i64 x2] 61)).alloc (Obj.cells #[.int .i64 y1, .int .i64 y2] 61)).drew.cell? ⟨W.heap.size + 1, 1, none⟩ = some (.int .i64 y2) := by go_simp
  have e0 : ((W.alloc (Obj.cells #[.int .i64 x1, .int .i64 x2] 61)).alloc (Obj.cells #[.int .i64 y1, .int .i64 y2] 61)) = grow W #[Obj.cells #[.int .i64 x1, .int .i64 x2] 61, Obj.cells #[.int .i64 y1, .int .i64 y2] 61] := by rw [alloc_eq_grow, alloc_eq_grow, grow_grow]; rfl
  have hs : W.heap.size + 1 < ((W.alloc (Obj.cells #[.int .i64 x1, .int .i64 x2] 61)).alloc (Obj.cells #[.int .i64 y1, .int .i64 y2] 61)).heap.size := by simp
  have E0 := Lib.hid e0
  clear e0
  generalize hW : (W.alloc (Obj.cells #[.int .i64 x1, .int .i64 x2] 61)).alloc (Obj.cells #[.int .i64 y1, .int .i64 y2] 61) = W2 at *
  clear hW
  have hs' : W.heap.size < W2.heap.size := by omega
  have n0 : ∀ t, (W2.alloc (Obj.cells #[.int .i64 r1, .int .i64 r2] t)).drew.cell? ⟨W2.heap.size, 0, none⟩ = some (.int .i64 r1) := fun t => by go_simp
  have n1 : ∀ t, (W2.alloc (Obj.cells #[.int .i64 r1, .int .i64 r2] t)).drew.cell? ⟨W2.heap.size, 1, none⟩ = some (.int .i64 r2) := fun t => by go_simp
  have p0 : ∀ o, (W2.alloc o).drew.cell? ⟨W.heap.size, 0, none⟩ = some (.int .i64 x1) := fun o => cell_alloc a0
  have p1 : ∀ o, (W2.alloc o).drew.cell? ⟨W.heap.size, 1, none⟩ = some (.int .i64 x2) := fun o => cell_alloc a1
  have p2 : ∀ o, (W2.alloc o).drew.cell? ⟨W.heap.size + 1, 0, none⟩ = some (.int .i64 y1) := fun o => cell_alloc b0
  have p3 : ∀ o, (W2.alloc o).drew.cell? ⟨W.heap.size + 1, 1, none⟩ = some (.int .i64 y2) := fun o => cell_alloc b1
  have o2 := fun t => or2 W2.heap.size r1 r2 (W2.alloc (Obj.cells #[.int .i64 r1, .int .i64 r2] t)).drew (n0 t) (n1 t)
  go_region_held3 (fun w' : World => w'.cell? ⟨W.heap.size, 0, none⟩ = some (.int .i64 x1) ∧ w'.cell? ⟨W.heap.size, 1, none⟩ = some (.int .i64 x2) ∧ w'.cell? ⟨W.heap.size + 1, 0, none⟩ = some (.int .i64 y1) ∧ w'.cell? ⟨W.heap.size + 1, 1, none⟩ = some (.int .i64 y2)) (first | exact ⟨a0, a1, b0, b1⟩ | exact ⟨p0 _, p1 _, p2 _, p3 _⟩) (first | (go_at_call 36; with_reducible refine (c1 _).mono ?_; rintro e w' ⟨rfl, rfl⟩) | (go_at_call 36; with_reducible refine (c2 _).mono ?_; rintro e w' ⟨rfl, rfl⟩) | (go_at_call 35; refine (o2 _).mono ?_; rintro e w' ⟨rfl, rfl⟩))
  go_wp2
  go_ret
  exact ⟨rfl, 1, _, by rw [E0.out, alloc_eq_grow, grow_grow]; rfl⟩
/-- One pair ahead of another. -/
def ltk (x y : Int × Int) : Bool := decide (x.1 < y.1 ∨ x.1 = y.1 ∧ x.2 < y.2)
theorem lt_cf (x y : Int × Int) : ltOf cf x y = ltk x y := by
  unfold ltOf cf pickc Lib.compareInt ltk
  by_cases h1 : x.1 < y.1
  · simp [h1]
  · by_cases h2 : y.1 < x.1
    · simp [h1, h2]; omega
    · have : x.1 = y.1 := by omega
      by_cases h3 : x.2 < y.2
      · simp [this, h3]
      · by_cases h4 : y.2 < x.2 <;> simp [this, h3, h4]
theorem swo_cf : SWO (ltOf cf) where
  irrefl x := by rw [lt_cf]; simp [ltk]
  trans x y z h1 h2 := by rw [lt_cf] at *; simp [ltk] at *; omega
  ntrans x y z h1 h2 := by rw [lt_cf] at *; simp [ltk] at *; omega
theorem agg61 (w : World) : (isAgg 61).run Try.prog w = .ok true w := by kernel_rfl
theorem size61 (w : World) : (Go.sizeOf 61).run Try.prog w = .ok 2 w := by kernel_rfl
theorem enter34 : ∀ args w, (callFunc 34 args).run Try.prog w = .ok (.enter 34 args) w := enters_of Try.func34 (by kernel_rfl) rfl
theorem lays34 (blk off size : Nat) (w : World) : CmpLays Try.prog 34 #[] kvs 2 cf blk off size w := fun _ _ _ _ x y => told1 x y _
/-- SortFunc, at keys. -/
theorem sortKeys (blk off cap : Nat) (d : Array (Int × Int)) (w : World) (hH : HoldsK kvs 2 w blk off d) (hblk : blk < w.heap.size) (hsz : d.size < 4611686018427387904) :
    Calls Try.prog 38 #[.slice (some ⟨blk, off, none⟩) d.size cap, .func (.func 34) #[] #[]] w fun e w' => e = .returned (.tuple #[]) ∧ ∃ d' n os, PermIn 0 d.size d d' ∧ SortedIn (ltOf cf) 0 d.size d' ∧ w' = sortWorldK kvs 2 w blk off n d' os :=
  AnyQ.slices_SortFunc Try.sortKey 2 agg61 size61 kvs (fun _ => rfl) (fun x v hv => by simp [kvs] at hv; rcases hv with rfl | rfl <;> rfl) cf swo_cf 34 #[] blk off cap d w enter34 (lays34 blk off d.size w) hH hblk hsz
end Go.Proofs.Ytbgcmhakllodeaa
