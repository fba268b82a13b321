/- The plain law: what the entries are, and that both ways to put them together tell the same. -/
import Derived.Test.YtbgcmhakllodeaaI
import Derived.Test.YtbgcmhakllodeaaJp
namespace Go.Proofs.Ytbgcmhakllodeaa
open Go.RowKit Go.Proofs.YtbgcmhakllodeaaW.PrintWords Go.Proofs.YtbgcmhakllodeaaW.PrintLast Go.Proofs.YtbgcmhakllodeaaW.PrintMore
open PEntryDiffers

def In64 (x : Int) : Prop := -9223372036854775808 ≤ x ∧ x ≤ 9223372036854775807
theorem in_wrap (x : Int) : In64 (wrap64 x) := by unfold In64 wrap64; omega
theorem wrap_in {x : Int} (h : In64 x) : wrap64 x = x := by unfold In64 at h; unfold wrap64; omega
theorem wrap_bv (v : BitVec 64) : IntKind.i64.wrap (v.toNat : Int) = v.toInt := by
  rw [IntKind.wrap_i64, BitVec.toInt_eq_toNat_bmod]
  simp only [Int.bmod]
  have := v.isLt
  split <;> omega
theorem msb_of {x : Int} (h : In64 x) : (BitVec.ofInt 64 x).msb = decide (x < 0) := by
  rw [BitVec.msb_eq_toInt, BitVec.toInt_ofInt]
  have : x.bmod (2 ^ 64) = x := by
    unfold In64 at h
    simp only [Int.bmod]
    split <;> omega
  rw [this]
theorem in_bits (op : BinOp) (x y : Int) : In64 (Go.bits op .i64 x y) := by
  unfold Go.bits In64
  rw [IntKind.wrap_i64]
  omega
theorem xor_neg {x y : Int} (h : In64 x) (g : In64 y) : decide (Go.bits .xor .i64 x y < 0) = (decide (x < 0) ^^ decide (y < 0)) := by
  show decide (IntKind.i64.wrap ((BitVec.ofInt 64 x ^^^ BitVec.ofInt 64 y).toNat : Int) < 0) = _
  rw [wrap_bv, ← BitVec.msb_eq_toInt, BitVec.msb_xor, msb_of h, msb_of g]
theorem and_neg {x y : Int} (h : In64 x) (g : In64 y) : decide (Go.bits .and .i64 x y < 0) = (decide (x < 0) && decide (y < 0)) := by
  show decide (IntKind.i64.wrap ((BitVec.ofInt 64 x &&& BitVec.ofInt 64 y).toNat : Int) < 0) = _
  rw [wrap_bv, ← BitVec.msb_eq_toInt, BitVec.msb_and, msb_of h, msb_of g]
theorem two_neg {a b c d : Int} (ha : In64 a) (hb : In64 b) (hc : In64 c) (hd : In64 d) : (Go.bits .and .i64 (Go.bits .xor .i64 a b) (Go.bits .xor .i64 c d) ≥ 0) ↔ ((a < 0 ↔ b < 0) ∨ (c < 0 ↔ d < 0)) := by
  have h := and_neg (in_bits .xor a b) (in_bits .xor c d)
  rw [xor_neg ha hb, xor_neg hc hd] at h
  rw [show (Go.bits .and .i64 (Go.bits .xor .i64 a b) (Go.bits .xor .i64 c d) ≥ 0) ↔ ¬ (Go.bits .and .i64 (Go.bits .xor .i64 a b) (Go.bits .xor .i64 c d) < 0) from by omega, ← decide_eq_true_iff (p := Go.bits .and .i64 _ _ < 0), h]
  by_cases h1 : a < 0 <;> by_cases h2 : b < 0 <;> by_cases h3 : c < 0 <;> by_cases h4 : d < 0 <;> simp [h1, h2, h3, h4]
theorem lessOk_iff {a b : Int} (ha : In64 a) (hb : In64 b) : lessOk a b = true ↔ In64 (a - b) := by
  unfold lessOk
  rw [decide_eq_true_iff, two_neg ha hb ha (in_wrap _)]
  unfold In64 at *
  unfold wrap64
  omega
theorem sumOk_iff {a b : Int} (ha : In64 a) (hb : In64 b) : sumOk a b = true ↔ In64 (a + b) := by
  unfold sumOk
  rw [decide_eq_true_iff, two_neg ha (in_wrap _) hb (in_wrap _)]
  unfold In64 at *
  unfold wrap64
  omega
theorem fitsR_iff {a b : Int} (ha : In64 a) (hb : In64 b) : fitsR a b = true ↔ In64 (a - b) := by
  unfold fitsR In64 at *
  unfold wrap64
  split <;> rw [decide_eq_true_iff] <;> omega
theorem overA_iff {a b : Int} (ha : In64 a) (hb : In64 b) : overA a b = true ↔ ¬ In64 (a + b) := by
  unfold overA In64 at *
  unfold wrap64
  rw [decide_eq_true_iff]
  omega
/-- In order, each pair once, and none of 0. -/
structure Canon (L : List S56) (g : Int × Int → Int) : Prop where
  so : L.Pairwise lt56
  mem : ∀ x, x ∈ L ↔ x.f2 = g (x.f0, x.f1) ∧ x.f2 ≠ 0
theorem lt56_irr {x y : S56} (h : lt56 x y) (h' : lt56 y x) : False := by unfold lt56 at *; omega
theorem lt56_nodup {L : List S56} (h : L.Pairwise lt56) : L.Nodup := h.imp fun {a b} h e => by subst e; exact lt56_irr h h
theorem Canon.eq {L L' : List S56} {g g' : Int × Int → Int} (h : Canon L g) (h' : Canon L' g') (e : ∀ k, g k = g' k) : L = L' := by
  refine List.Perm.eq_of_pairwise (le := lt56) (fun a b _ _ h1 h2 => (lt56_irr h1 h2).elim) h.so h'.so ?_
  rw [List.perm_ext_iff_of_nodup (lt56_nodup h.so) (lt56_nodup h'.so)]
  intro x
  rw [h.mem, h'.mem, e]
theorem mem_told1e {M : List ((Int × Int) × Int)} {k : Int × Int} {x : S56} : x ∈ told1e M k ↔ x.f2 ≠ 0 ∧ (x.f0, x.f1) = k ∧ x.f2 = mget k M := by
  unfold told1e
  split
  · next h =>
    constructor
    · intro h; cases h
    · rintro ⟨h1, rfl, h3⟩; rw [h3] at h1; exact absurd h h1
  · next h =>
    rw [List.mem_singleton]
    constructor
    · rintro rfl; exact ⟨h, rfl, rfl⟩
    · obtain ⟨a, b, c⟩ := x
      rintro ⟨h1, rfl, h3⟩
      simp only at h3 ⊢
      rw [h3]
theorem mem_keys_of {M : List ((Int × Int) × Int)} {k : Int × Int} (h : mget k M ≠ 0) : k ∈ M.map (·.1) := Decidable.byContradiction fun e => h (by rw [mget_lk, lk_none.2 e]; rfl)
theorem tolds_canon {M : List ((Int × Int) × Int)} {ts : List (Int × Int)} (hp : ts.Perm (M.map (·.1))) (hn : (M.map (·.1)).Nodup) (hs : ts.Pairwise (fun x y => ltk y x = false)) : Canon (tolds M ts) (fun k => mget k M) := by
  constructor
  · have hnd : ts.Nodup := hp.nodup_iff.2 hn
    have hst : ts.Pairwise (fun x y => x.1 < y.1 ∨ x.1 = y.1 ∧ x.2 < y.2) := by
      refine (hs.and hnd).imp ?_
      rintro ⟨a, b⟩ ⟨c, d⟩ ⟨h1, h2⟩
      unfold ltk at h1
      simp only [decide_eq_false_iff_not] at h1
      simp only [ne_eq, Prod.mk.injEq] at h2
      simp only
      omega
    unfold tolds
    rw [List.pairwise_flatMap]
    refine ⟨fun k _ => ?_, hst.imp ?_⟩
    · unfold told1e
      split <;> simp
    · intro k k' hk x hx y hy
      rw [mem_told1e] at hx hy
      obtain ⟨_, rfl, _⟩ := hx
      obtain ⟨_, rfl, _⟩ := hy
      exact hk
  · intro x
    unfold tolds
    rw [List.mem_flatMap]
    constructor
    · rintro ⟨k, _, hx⟩
      rw [mem_told1e] at hx
      obtain ⟨h1, rfl, h3⟩ := hx
      exact ⟨h3, h1⟩
    · rintro ⟨h1, h2⟩
      exact ⟨(x.f0, x.f1), hp.mem_iff.2 (mem_keys_of (by rw [← h1]; exact h2)), mem_told1e.2 ⟨h2, rfl, h1⟩⟩
/-- By how much a bucket rose, where that goes into a number. -/
def gD (A B : List ((Int × Int) × Int)) (k : Int × Int) : Int := if lessOk (mget k B) (mget k A) = true then wrap64 (mget k B - mget k A) else 0
theorem DMap.get {A B : List ((Int × Int) × Int)} {D : List (Int × Int)} {M : List ((Int × Int) × Int)} (h : DMap A B D M) (hD : ∀ k, k ∈ A.map (·.1) ∨ k ∈ B.map (·.1) → k ∈ D) (k : Int × Int) : mget k M = gD A B k := by
  rw [mget_lk, h.at_ k]
  unfold gD
  by_cases hk : k ∈ D
  · simp only [hk, true_and]
    split <;> rfl
  · have hA : mget k A = 0 := Decidable.byContradiction fun e => hk (hD k (.inl (mem_keys_of e)))
    have hB : mget k B = 0 := Decidable.byContradiction fun e => hk (hD k (.inr (mem_keys_of e)))
    rw [hA, hB, if_neg (fun h => hk h.1)]
    split <;> simp [wrap64]
def pickB (L : S54) (b : Int) : Option Int := if b = 1 then some L.f1 else if b = 2 then some L.f2 else if b = 3 then some L.f4 else none
theorem lk_bk1 {M : List ((Int × Int) × Int)} {ls : List S54} (h : ∀ id b, lk (id, b) M = (ls.find? (fun L => decide (L.f0 = id))).bind (fun L => pickB L b)) (l : S54) (id b : Int) : lk (id, b) (bk1 M l) = ((ls ++ [l]).find? (fun L => decide (L.f0 = id))).bind (fun L => pickB L b) := by
  rw [List.find?_append]
  unfold bk1
  have h1 := h l.f0 1
  have hm : mhas (l.f0, 1) M = (lk (l.f0, 1) M).isSome := by unfold mhas lk; cases find (l.f0, 1) M 0 <;> rfl
  rw [hm, h1]
  cases hf : ls.find? (fun L => decide (L.f0 = l.f0)) with
  | some L =>
    rw [if_pos (by simp [pickB]), h]
    by_cases e : l.f0 = id
    · subst e
      rw [hf]
      rfl
    · cases ls.find? (fun L => decide (L.f0 = id)) <;> simp [e]
  | none =>
    rw [if_neg (by simp), lk_mput, lk_mput, lk_mput]
    by_cases e : l.f0 = id
    · subst e
      rw [hf]
      simp only [Option.none_or, List.find?_cons, decide_true, Option.bind_some, pickB, Prod.mk.injEq, true_and]
      by_cases h3 : b = 3
      · subst h3; simp
      · by_cases h2 : b = 2
        · subst h2; simp
        · by_cases h1 : b = 1
          · subst h1; simp
          · simp [h1, h2, h3, h, hf]
    · rw [if_neg (by simp [Ne.symm e]), if_neg (by simp [Ne.symm e]), if_neg (by simp [Ne.symm e]), h]
      cases ls.find? (fun L => decide (L.f0 = id)) <;> simp [e]
theorem lk_foldl : ∀ (ls pre : List S54) (M : List ((Int × Int) × Int)), (∀ id b, lk (id, b) M = (pre.find? (fun L => decide (L.f0 = id))).bind (fun L => pickB L b)) → ∀ id b, lk (id, b) (ls.foldl bk1 M) = ((pre ++ ls).find? (fun L => decide (L.f0 = id))).bind (fun L => pickB L b)
  | [], pre, M, h, id, b => by simpa using h id b
  | l :: r, pre, M, h, id, b => by
    rw [List.foldl_cons, lk_foldl r (pre ++ [l]) (bk1 M l) (lk_bk1 h l) id b, List.append_assoc]
    rfl
theorem lk_bk (ls : List S54) (id b : Int) : lk (id, b) (bk ls) = (ls.find? (fun L => decide (L.f0 = id))).bind (fun L => pickB L b) := by
  have := lk_foldl ls [] [] (by simp [lk, find]) id b
  simpa [bk] using this
theorem mget_bk (ls : List S54) (id b : Int) : mget (id, b) (bk ls) = if 1 ≤ b ∧ b ≤ 3 then ofR ls id b else 0 := by
  rw [mget_lk, lk_bk]
  unfold ofR
  split
  · next h =>
    obtain rfl | rfl | rfl : b = 1 ∨ b = 2 ∨ b = 3 := by omega
    all_goals cases ls.find? (fun L => decide (L.f0 = id)) <;> rfl
  · next h =>
    have : ∀ L : S54, pickB L b = none := fun L => by
      unfold pickB
      rw [if_neg (by omega), if_neg (by omega), if_neg (by omega)]
    cases ls.find? (fun L => decide (L.f0 = id)) <;> simp [this]
theorem take_posL (id : Int) : ∀ out : List Int, out.take (posL id out) = out.takeWhile (fun y => decide (y < id)) ∧ out.drop (posL id out) = out.dropWhile (fun y => decide (y < id))
  | [] => by simp [posL]
  | y :: r => by
    have h := take_posL id r
    unfold posL at h ⊢
    rw [List.takeWhile_cons, List.dropWhile_cons]
    split
    · simp only [List.length_cons, List.take_succ_cons, List.drop_succ_cons]
      rw [h.1, h.2]
      exact ⟨rfl, rfl⟩
    · simp
theorem insId_split {l1 l2 : List Int} {id : Int} (h1 : ∀ y ∈ l1, y < id) (h2 : ∀ y ∈ l2.head?, ¬ y < id) : insId (l1 ++ l2) id = if l2.head? = some id then l1 ++ l2 else l1 ++ id :: l2 := by
  have hp : posL id (l1 ++ l2) = l1.length := by
    unfold posL
    rw [List.takeWhile_append_of_pos (fun y hy => decide_eq_true (h1 y hy))]
    cases l2 with
    | nil => simp
    | cons y r =>
      rw [List.takeWhile_cons, if_neg (by simpa using h2 y (by simp))]
      simp
  unfold insId
  rw [hp]
  have e : (l1 ++ l2)[l1.length]? = l2.head? := by
    rw [List.getElem?_append_right (Nat.le_refl _), Nat.sub_self]
    cases l2 <;> rfl
  rw [e]
  split
  · rfl
  · simp
theorem insId_ok {out : List Int} (h : out.Pairwise (· < ·)) (id : Int) : (insId out id).Pairwise (· < ·) ∧ ∀ z, z ∈ insId out id ↔ z ∈ out ∨ z = id := by
  have e := List.takeWhile_append_dropWhile (p := fun y => decide (y < id)) (l := out)
  have h1 : ∀ y ∈ out.takeWhile (fun y => decide (y < id)), y < id := fun y hy => by simpa using (List.all_eq_true.1 (List.all_takeWhile (p := fun y => decide (y < id)) (l := out))) y hy
  have h2 : ∀ y ∈ (out.dropWhile (fun y => decide (y < id))).head?, ¬ y < id := fun y hy => by
    have := List.head?_dropWhile_not (fun y => decide (y < id)) out
    cases hq : (out.dropWhile (fun y => decide (y < id))).head? with
    | none => rw [hq] at hy; simp at hy
    | some q =>
      rw [hq] at hy this
      obtain rfl : q = y := by simpa using hy
      simpa using this
  generalize out.takeWhile (fun y => decide (y < id)) = l1 at *
  generalize out.dropWhile (fun y => decide (y < id)) = l2 at *
  subst e
  rw [insId_split h1 h2]
  split
  · next hh =>
    refine ⟨h, fun z => ⟨.inl, ?_⟩⟩
    rintro (hz | rfl)
    · exact hz
    · cases l2 with
      | nil => simp at hh
      | cons y r => simp at hh; simp [hh]
  · next hh =>
    rw [List.pairwise_append] at h
    obtain ⟨p1, p2, p3⟩ := h
    have h3 : ∀ y ∈ l2, id < y := fun y hy => by
      cases l2 with
      | nil => cases hy
      | cons q r =>
        have hq := h2 q (by simp)
        have hne : q ≠ id := fun e => hh (by rw [e]; rfl)
        rw [List.mem_cons] at hy
        rcases hy with rfl | hy
        · omega
        · have := List.rel_of_pairwise_cons p2 hy
          omega
    have hm : ∀ z, z ∈ l1 ++ id :: l2 ↔ z ∈ l1 ++ l2 ∨ z = id := fun z => by
      simp only [List.mem_append, List.mem_cons]
      constructor
      · rintro (h | h | h)
        · exact .inl (.inl h)
        · exact .inr h
        · exact .inl (.inr h)
      · rintro ((h | h) | h)
        · exact .inl h
        · exact .inr (.inr h)
        · exact .inr (.inl h)
    refine ⟨?_, hm⟩
    rw [List.pairwise_append, List.pairwise_cons]
    refine ⟨p1, ⟨h3, p2⟩, fun y hy z hz => ?_⟩
    rw [List.mem_cons] at hz
    rcases hz with rfl | hz
    · exact h1 y hy
    · exact p3 y hy z hz
theorem idsL_fold : ∀ (ls : List S54) (out : List Int), out.Pairwise (· < ·) → (ls.foldl (fun out x => insId out x.f0) out).Pairwise (· < ·) ∧ ∀ z, z ∈ ls.foldl (fun out x => insId out x.f0) out ↔ z ∈ out ∨ ∃ x ∈ ls, x.f0 = z
  | [], out, h => ⟨h, by simp⟩
  | x :: r, out, h => by
    obtain ⟨h1, h2⟩ := insId_ok h x.f0
    obtain ⟨h3, h4⟩ := idsL_fold r _ h1
    refine ⟨h3, fun z => ?_⟩
    rw [List.foldl_cons, h4, h2]
    simp only [List.mem_cons, exists_eq_or_imp]
    rw [or_assoc, eq_comm (a := z)]
theorem idsL_ok (ls : List S54) : (idsL ls).Pairwise (· < ·) ∧ ∀ z, z ∈ idsL ls ↔ ∃ x ∈ ls, x.f0 = z := by
  have := idsL_fold ls [] List.Pairwise.nil
  refine ⟨this.1, fun z => ?_⟩
  have h := this.2 z
  simpa [idsL] using h
theorem ofR_none {l : List S54} {id b : Int} (h : ¬ ∃ x ∈ l, x.f0 = id) : ofR l id b = 0 := by
  unfold ofR
  rw [List.find?_eq_none.2 (fun x hx => by simpa using fun e => h ⟨x, hx, e⟩)]
def Rng (l : List S54) : Prop := ∀ x ∈ l, In64 x.f1 ∧ In64 x.f2 ∧ In64 x.f4
theorem ofR_in {l : List S54} (h : Rng l) (id b : Int) (hb : 1 ≤ b ∧ b ≤ 3) : In64 (ofR l id b) := by
  unfold ofR
  cases hf : l.find? (fun L => decide (L.f0 = id)) with
  | none => exact ⟨(by decide : (-9223372036854775808 : Int) ≤ 0), (by decide : (0 : Int) ≤ 9223372036854775807)⟩
  | some L =>
    have := h L (List.mem_of_find?_eq_some hf)
    obtain rfl | rfl | rfl : b = 1 ∨ b = 2 ∨ b = 3 := by omega
    · exact this.1
    · exact this.2.1
    · exact this.2.2
theorem mem_dE {la lb : List S54} {id b : Int} {x : S56} : x ∈ dE la lb id b ↔ (ofR lb id b ≠ ofR la id b ∧ fitsR (ofR lb id b) (ofR la id b) = true) ∧ x = ⟨id, b, wrap64 (ofR lb id b - ofR la id b)⟩ := by
  unfold dE
  split
  · next h => simp [h]
  · next h => simp [h]
theorem rowD3 (la lb : List S54) (id : Int) : rowD la lb id 3 = dE la lb id 1 ++ (dE la lb id 2 ++ (dE la lb id 3 ++ [])) := rfl
theorem mem_rowD {la lb : List S54} {id : Int} {x : S56} : x ∈ rowD la lb id 3 ↔ ∃ b : Int, (1 ≤ b ∧ b ≤ 3) ∧ x ∈ dE la lb id b := by
  rw [rowD3]
  simp only [List.mem_append, List.not_mem_nil, or_false]
  constructor
  · rintro (h | h | h)
    · exact ⟨1, by omega, h⟩
    · exact ⟨2, by omega, h⟩
    · exact ⟨3, by omega, h⟩
  · rintro ⟨b, hb, h⟩
    obtain rfl | rfl | rfl : b = 1 ∨ b = 2 ∨ b = 3 := by omega
    · exact .inl h
    · exact .inr (.inl h)
    · exact .inr (.inr h)
theorem dE_so (la lb : List S54) (id b : Int) : (dE la lb id b).Pairwise lt56 := by unfold dE; split <;> simp
theorem refDiff_canon {la lb : List S54} (ha : Rng la) (hb : Rng lb) : Canon (refDiffL la lb) (gD (bk la) (bk lb)) := by
  have hids := idsL_ok (la ++ lb)
  unfold refDiffL outD
  constructor
  · rw [List.pairwise_flatMap]
    refine ⟨fun id _ => ?_, hids.1.imp ?_⟩
    · rw [rowD3]
      have hc : ∀ {b b' : Int}, b < b' → ∀ x ∈ dE la lb id b, ∀ y ∈ dE la lb id b', lt56 x y := fun h x hx y hy => by
        rw [mem_dE] at hx hy
        rw [hx.2, hy.2]
        exact .inr ⟨rfl, h⟩
      rw [List.pairwise_append, List.pairwise_append, List.append_nil]
      refine ⟨dE_so _ _ _ _, ⟨dE_so _ _ _ _, dE_so _ _ _ _, hc (by decide)⟩, fun x hx y hy => ?_⟩
      rw [List.mem_append] at hy
      rcases hy with hy | hy
      · exact hc (by decide) x hx y hy
      · exact hc (by decide) x hx y hy
    · intro i j hij x hx y hy
      rw [mem_rowD] at hx hy
      obtain ⟨b, _, hx⟩ := hx
      obtain ⟨c, _, hy⟩ := hy
      rw [mem_dE] at hx hy
      rw [hx.2, hy.2]
      exact .inl hij
  · intro x
    rw [List.mem_flatMap]
    unfold gD
    rw [mget_bk, mget_bk]
    constructor
    · rintro ⟨id, hid, hx⟩
      rw [mem_rowD] at hx
      obtain ⟨b, hb', hx⟩ := hx
      rw [mem_dE] at hx
      obtain ⟨⟨hne, hf⟩, rfl⟩ := hx
      simp only [hb', and_self, if_true]
      have hb1 := ofR_in hb id b hb'
      have ha1 := ofR_in ha id b hb'
      rw [fitsR_iff hb1 ha1] at hf
      rw [if_pos ((lessOk_iff hb1 ha1).2 hf), wrap_in hf]
      exact ⟨rfl, by omega⟩
    · obtain ⟨id, b, d⟩ := x
      rintro ⟨h1, h2⟩
      simp only at h1 h2
      by_cases hb' : 1 ≤ b ∧ b ≤ 3
      · simp only [hb', and_self, if_true] at h1
        have hb1 := ofR_in hb id b hb'
        have ha1 := ofR_in ha id b hb'
        by_cases hl : lessOk (ofR lb id b) (ofR la id b) = true
        · rw [if_pos hl] at h1
          have hf := (lessOk_iff hb1 ha1).1 hl
          have hne : ofR lb id b ≠ ofR la id b := fun e => h2 (by rw [h1, e, Int.sub_self]; simp [wrap64])
          refine ⟨id, ?_, mem_rowD.2 ⟨b, hb', mem_dE.2 ⟨⟨hne, (fitsR_iff hb1 ha1).2 hf⟩, by rw [h1]⟩⟩⟩
          rw [hids.2]
          refine Decidable.byContradiction fun hn => hne ?_
          rw [ofR_none (fun ⟨x, hx, e⟩ => hn ⟨x, List.mem_append_right _ hx, e⟩), ofR_none (fun ⟨x, hx, e⟩ => hn ⟨x, List.mem_append_left _ hx, e⟩)]
        · rw [if_neg hl] at h1; exact absurd h1 h2
      · simp only [hb', if_false] at h1
        exfalso
        apply h2
        rw [h1]
        split <;> simp [wrap64]
/-- The map's entries and the reference's list tell the same. -/
structure AR (M : List ((Int × Int) × Int)) (out : List S56) : Prop where
  nd : (M.map (·.1)).Nodup
  so : out.Pairwise lt56
  mem : ∀ x, x ∈ out ↔ lk (x.f0, x.f1) M = some x.f2
  rng : ∀ x ∈ out, In64 x.f2
theorem AR.nil : AR [] [] := ⟨by simp, by simp, by simp [lk, find], by simp⟩
theorem lt56_key {x y : S56} {v : Int} : lt56 x ⟨y.f0, y.f1, v⟩ ↔ lt56 x y := Iff.rfl
theorem posA_split {l1 l2 : List S56} {x : S56} (h1 : ∀ y ∈ l1, lt56 y x) (h2 : ∀ y ∈ l2.head?, ¬ lt56 y x) : posA x (l1 ++ l2) = l1.length := by
  unfold posA
  rw [List.takeWhile_append_of_pos (fun y hy => decide_eq_true (h1 y hy))]
  cases l2 with
  | nil => simp
  | cons y r =>
    rw [List.takeWhile_cons, if_neg (by simpa using h2 y (by simp))]
    simp
theorem insA_nil {l1 : List S56} {x : S56} (h1 : ∀ y ∈ l1, lt56 y x) : insA l1 x = some (l1 ++ [x]) := by
  have hp := posA_split (l2 := []) h1 (by simp)
  rw [List.append_nil] at hp
  unfold insA midA
  rw [hp, if_neg (by omega)]
  simp
theorem insA_cons {l1 r : List S56} {x y : S56} (h1 : ∀ y ∈ l1, lt56 y x) (h2 : ¬ lt56 y x) : insA (l1 ++ y :: r) x = if y.f0 = x.f0 ∧ y.f1 = x.f1 then (if overA y.f2 x.f2 = true then none else some (l1 ++ ⟨y.f0, y.f1, wrap64 (y.f2 + x.f2)⟩ :: r)) else some (l1 ++ x :: y :: r) := by
  have hp := posA_split (l2 := y :: r) h1 (by simpa using h2)
  have hg : (l1 ++ y :: r).getD l1.length z56 = y := by rw [List.getD_eq_getElem?_getD, List.getElem?_append_right (Nat.le_refl _)]; simp
  unfold insA midA
  rw [hp, hg]
  have hl : l1.length < (l1 ++ y :: r).length := by simp
  simp only [hl, true_and]
  split
  · split
    · rfl
    · rw [List.set_append_right _ _ (Nat.le_refl _)]; simp
  · simp
theorem AR.step {M : List ((Int × Int) × Int)} {out : List S56} (h : AR M out) {x : S56} (hx : In64 x.f2) :
    (add1 M x = none ∧ insA out x = none) ∨ ∃ M' out', add1 M x = some M' ∧ insA out x = some out' ∧ AR M' out' := by
  have e := List.takeWhile_append_dropWhile (p := fun y => decide (lt56 y x)) (l := out)
  have h1 : ∀ y ∈ out.takeWhile (fun y => decide (lt56 y x)), lt56 y x := fun y hy => by simpa using (List.all_eq_true.1 (List.all_takeWhile (p := fun y => decide (lt56 y x)) (l := out))) y hy
  have h2 : ∀ y ∈ (out.dropWhile (fun y => decide (lt56 y x))).head?, ¬ lt56 y x := fun y hy => by
    have := List.head?_dropWhile_not (fun y => decide (lt56 y x)) out
    cases hq : (out.dropWhile (fun y => decide (lt56 y x))).head? with
    | none => rw [hq] at hy; simp at hy
    | some q =>
      rw [hq] at hy this
      obtain rfl : q = y := by simpa using hy
      simpa using this
  generalize out.takeWhile (fun y => decide (lt56 y x)) = l1 at *
  generalize out.dropWhile (fun y => decide (lt56 y x)) = l2 at *
  subst e
  obtain ⟨nd, so, mem, rng⟩ := h
  have hx0 : In64 (0 + x.f2) := by rwa [Int.zero_add]
  have hnew : (x.f0, x.f1) ∉ M.map (·.1) → add1 M x = some (mput (x.f0, x.f1) x.f2 M) := fun hn => by
    have hg : mget (x.f0, x.f1) M = 0 := by rw [mget_lk, lk_none.2 hn]; rfl
    unfold add1
    rw [hg, if_pos ((sumOk_iff ⟨by decide, by decide⟩ hx).2 hx0), wrap_in hx0, Int.zero_add]
  have hmemn : (x.f0, x.f1) ∉ M.map (·.1) → ∀ (L : List S56), (∀ z, z ∈ L ↔ z ∈ l1 ++ l2 ∨ z = x) → ∀ z, z ∈ L ↔ lk (z.f0, z.f1) (mput (x.f0, x.f1) x.f2 M) = some z.f2 := fun hn L hL z => by
    rw [hL, lk_mput, mem]
    obtain ⟨a, b, c⟩ := z
    obtain ⟨a', b', c'⟩ := x
    simp only [Prod.mk.injEq, S56.mk.injEq]
    by_cases hk : a = a' ∧ b = b'
    · obtain ⟨rfl, rfl⟩ := hk
      simp only [true_and, and_self, if_true, lk_none.2 hn, Option.some.injEq, eq_comm (a := c)]
      simp
    · rw [if_neg hk]
      constructor
      · rintro (h | ⟨h1, h2, _⟩)
        · exact h
        · exact absurd ⟨h1, h2⟩ hk
      · exact .inl
  cases l2 with
  | nil =>
    rw [List.append_nil] at so mem rng hmemn ⊢
    have hn : (x.f0, x.f1) ∉ M.map (·.1) := fun hm => by
      have : lk (x.f0, x.f1) M ≠ none := fun e => (lk_none.1 e) hm
      obtain ⟨v, hv⟩ := Option.ne_none_iff_exists'.1 this
      have := h1 _ ((mem ⟨x.f0, x.f1, v⟩).2 hv)
      unfold lt56 at this
      simp only at this
      omega
    refine .inr ⟨_, _, hnew hn, insA_nil h1, mput_nodup nd, ?_, hmemn hn _ (fun z => by simp), fun z hz => ?_⟩
    · rw [List.pairwise_append]
      exact ⟨so, by simp, fun a ha b hb => by rw [List.mem_singleton] at hb; subst hb; exact h1 a ha⟩
    · rw [List.mem_append, List.mem_singleton] at hz
      rcases hz with hz | rfl
      · exact rng z hz
      · exact hx
  | cons y r =>
    have hy : ¬ lt56 y x := h2 y (by simp)
    have hym : y ∈ l1 ++ y :: r := by simp
    rw [List.pairwise_append] at so
    obtain ⟨p1, p2, p3⟩ := so
    have hyr := fun z hz => List.rel_of_pairwise_cons p2 (a' := z) hz
    rw [insA_cons h1 hy]
    by_cases hk : y.f0 = x.f0 ∧ y.f1 = x.f1
    · rw [if_pos hk]
      have hly := (mem y).1 hym
      rw [hk.1, hk.2] at hly
      have hg : mget (x.f0, x.f1) M = y.f2 := by rw [mget_lk, hly]; rfl
      have hyi := rng y hym
      have hadd : add1 M x = if overA y.f2 x.f2 = true then none else some (mput (x.f0, x.f1) (wrap64 (y.f2 + x.f2)) M) := by
        unfold add1
        rw [hg]
        have h1 := sumOk_iff hyi hx
        have h2 := overA_iff hyi hx
        by_cases ho : overA y.f2 x.f2 = true
        · rw [if_pos ho, if_neg (fun h => h2.1 ho (h1.1 h))]
        · rw [if_neg ho, if_pos (h1.2 (Classical.byContradiction fun e => ho (h2.2 e)))]
      rw [hadd]
      split
      · exact .inl ⟨rfl, rfl⟩
      · refine .inr ⟨_, _, rfl, rfl, mput_nodup nd, ?_, fun z => ?_, fun z hz => ?_⟩
        · rw [List.pairwise_append, List.pairwise_cons]
          rw [List.pairwise_cons] at p2
          refine ⟨p1, p2, fun a ha b hb => ?_⟩
          rw [List.mem_cons] at hb
          rcases hb with rfl | hb
          · exact p3 a ha y (by simp)
          · exact p3 a ha b (by simp [hb])
        · rw [lk_mput]
          by_cases hz : (z.f0, z.f1) = (x.f0, x.f1)
          · rw [if_pos hz]
            simp only [Prod.mk.injEq] at hz
            rw [List.mem_append, List.mem_cons, Option.some.injEq]
            obtain ⟨a, b, c⟩ := z
            simp only at hz ⊢
            obtain ⟨rfl, rfl⟩ := hz
            constructor
            · rintro (h | h | h)
              · have := p3 _ h y (by simp)
                unfold lt56 at this
                simp only at this
                omega
              · simp only [S56.mk.injEq] at h
                exact h.2.2.symm
              · have := hyr _ h
                unfold lt56 at this
                simp only at this
                omega
            · intro h
              subst h
              exact .inr (.inl (by simp [hk.1, hk.2]))
          · rw [if_neg hz, ← mem z, List.mem_append, List.mem_append, List.mem_cons, List.mem_cons]
            simp only [Prod.mk.injEq] at hz
            constructor
            · rintro (h | h | h)
              · exact .inl h
              · subst h; exact absurd ⟨hk.1, hk.2⟩ hz
              · exact .inr (.inr h)
            · rintro (h | h | h)
              · exact .inl h
              · subst h; exact absurd ⟨hk.1, hk.2⟩ hz
              · exact .inr (.inr h)
        · rw [List.mem_append, List.mem_cons] at hz
          rcases hz with hz | rfl | hz
          · exact rng z (by simp [hz])
          · exact in_wrap _
          · exact rng z (by simp [hz])
    · rw [if_neg hk]
      have hxy : lt56 x y := by unfold lt56 at *; omega
      have hn : (x.f0, x.f1) ∉ M.map (·.1) := fun hm => by
        have : lk (x.f0, x.f1) M ≠ none := fun e => (lk_none.1 e) hm
        obtain ⟨v, hv⟩ := Option.ne_none_iff_exists'.1 this
        have hz := (mem ⟨x.f0, x.f1, v⟩).2 hv
        rw [List.mem_append, List.mem_cons] at hz
        rcases hz with hz | hz | hz
        · have := h1 _ hz
          unfold lt56 at this
          simp only at this
          omega
        · rw [← hz] at hk
          exact hk ⟨rfl, rfl⟩
        · have := hyr _ hz
          unfold lt56 at this hxy
          simp only at this
          omega
      refine .inr ⟨_, _, hnew hn, rfl, mput_nodup nd, ?_, hmemn hn _ (fun z => ?_), fun z hz => ?_⟩
      · rw [List.pairwise_append, List.pairwise_cons]
        refine ⟨p1, ⟨fun z hz => ?_, p2⟩, fun a ha b hb => ?_⟩
        · rw [List.mem_cons] at hz
          rcases hz with rfl | hz
          · exact hxy
          · have := hyr _ hz
            unfold lt56 at *
            omega
        · rw [List.mem_cons] at hb
          rcases hb with rfl | hb
          · exact h1 a ha
          · exact p3 a ha b hb
      · simp only [List.mem_append, List.mem_cons]
        constructor
        · rintro (h | h | h)
          · exact .inl (.inl h)
          · exact .inr h
          · exact .inl (.inr h)
        · rintro ((h | h) | h)
          · exact .inl h
          · exact .inr (.inr h)
          · exact .inr (.inl h)
      · rw [List.mem_append, List.mem_cons] at hz
        rcases hz with hz | rfl | hz
        · exact rng z (List.mem_append_left _ hz)
        · exact hx
        · exact rng z (List.mem_append_right _ hz)
theorem AR.all : ∀ (l : List S56) (M : List ((Int × Int) × Int)) (out : List S56), AR M out → (∀ x ∈ l, In64 x.f2) → (addAll l M = none ∧ addR l out = none) ∨ ∃ M' out', addAll l M = some M' ∧ addR l out = some out' ∧ AR M' out'
  | [], M, out, h, _ => .inr ⟨M, out, rfl, rfl, h⟩
  | x :: r, M, out, h, hr => by
    unfold addAll addR
    rcases h.step (hr x (by simp)) with ⟨h1, h2⟩ | ⟨M', out', h1, h2, h3⟩
    · rw [h1, h2]; exact .inl ⟨rfl, rfl⟩
    · rw [h1, h2]
      exact AR.all r M' out' h3 (fun z hz => hr z (by simp [hz]))
theorem AR.canon {M : List ((Int × Int) × Int)} {out : List S56} (h : AR M out) : Canon (nz out) (fun k => mget k M) := by
  refine ⟨h.so.filter _, fun x => ?_⟩
  unfold nz
  rw [List.mem_filter, h.mem, decide_eq_true_iff, mget_lk]
  constructor
  · rintro ⟨h1, h2⟩
    exact ⟨by rw [h1]; rfl, h2⟩
  · rintro ⟨h1, h2⟩
    refine ⟨?_, h2⟩
    cases hl : lk (x.f0, x.f1) M with
    | none => rw [hl] at h1; exact absurd h1 h2
    | some v => rw [hl] at h1; rw [h1]; rfl
/-- Both come to the same. -/
theorem add_same {l : List S56} (hl : ∀ x ∈ l, In64 x.f2) : (addAll l [] = none ∧ refAddL l = none) ∨ ∃ M, addAll l [] = some M ∧ (M.map (·.1)).Nodup ∧ ∀ ts, ts.Perm (M.map (·.1)) → ts.Pairwise (fun x y => ltk y x = false) → refAddL l = some (tolds M ts) := by
  unfold refAddL
  rcases AR.all l [] [] AR.nil hl with ⟨h1, h2⟩ | ⟨M, out, h1, h2, h3⟩
  · exact .inl ⟨h1, by rw [h2]; rfl⟩
  · refine .inr ⟨M, h1, h3.nd, fun ts hp hs => ?_⟩
    rw [h2, Option.map_some, h3.canon.eq (tolds_canon hp h3.nd hs) (fun _ => rfl)]
/-- Each pair once: the sums. -/
theorem add_apart : ∀ (l : List S56) (M : List ((Int × Int) × Int)), l.Pairwise lt56 → (M.map (·.1)).Nodup → (∀ x ∈ l, In64 x.f2) → (∀ k, In64 (mget k M)) → (∀ x ∈ l, In64 (mget (x.f0, x.f1) M + x.f2)) →
    ∃ N, addAll l M = some N ∧ (N.map (·.1)).Nodup ∧ ∀ k, mget k N = mget k M + ((l.find? (fun x => decide ((x.f0, x.f1) = k))).map (·.f2)).getD 0
  | [], M, _, hn, _, _, _ => ⟨M, rfl, hn, fun k => by simp⟩
  | x :: r, M, hp, hn, hr, hm, hs => by
    have hg : ∀ k, mget k (mput (x.f0, x.f1) (wrap64 (mget (x.f0, x.f1) M + x.f2)) M) = if k = (x.f0, x.f1) then mget (x.f0, x.f1) M + x.f2 else mget k M := fun k => by
      rw [mget_lk, lk_mput, mget_lk]
      split
      · exact wrap_in (hs x (by simp))
      · exact (mget_lk _ _).symm
    have hx := fun z hz => List.rel_of_pairwise_cons hp (a' := z) hz
    have hne : ∀ z ∈ r, (z.f0, z.f1) ≠ (x.f0, x.f1) := fun z hz e => by
      have := hx z hz
      simp only [Prod.mk.injEq] at e
      unfold lt56 at this
      omega
    obtain ⟨N, h1, h2, h3⟩ := add_apart r (mput (x.f0, x.f1) (wrap64 (mget (x.f0, x.f1) M + x.f2)) M) (List.Pairwise.of_cons hp) (mput_nodup hn) (fun z hz => hr z (by simp [hz])) (fun k => by rw [hg]; split; exact hs x (by simp); exact hm k) (fun z hz => by rw [hg, if_neg (hne z hz)]; exact hs z (by simp [hz]))
    refine ⟨N, ?_, h2, fun k => ?_⟩
    · unfold addAll add1
      rw [if_pos ((sumOk_iff (hm _) (hr x (by simp))).2 (hs x (by simp)))]
      exact h1
    · rw [h3, hg, List.find?_cons]
      by_cases hk : k = (x.f0, x.f1)
      · subst hk
        have : r.find? (fun z => decide ((z.f0, z.f1) = (x.f0, x.f1))) = none := List.find?_eq_none.2 (fun z hz => by rw [decide_eq_true_iff]; exact hne z hz)
        rw [this, if_pos rfl, decide_eq_true rfl]
        simp
      · rw [if_neg hk]
        simp [Ne.symm hk]
theorem Canon.find {L : List S56} {g : Int × Int → Int} (h : Canon L g) (k : Int × Int) : ((L.find? (fun x => decide ((x.f0, x.f1) = k))).map (·.f2)).getD 0 = g k := by
  cases hf : L.find? (fun x => decide ((x.f0, x.f1) = k)) with
  | none =>
    rw [List.find?_eq_none] at hf
    refine Decidable.byContradiction fun e => ?_
    have := hf ⟨k.1, k.2, g k⟩ ((h.mem _).2 ⟨rfl, fun e' => e e'.symm⟩)
    simp at this
  | some x =>
    have h1 := List.find?_some hf
    have h2 := (h.mem x).1 (List.mem_of_find?_eq_some hf)
    rw [decide_eq_true_iff] at h1
    rw [h1] at h2
    exact h2.1
/-- Two lists, each pair once in each. -/
theorem add_two {L1 L2 : List S56} {g1 g2 : Int × Int → Int} (h1 : Canon L1 g1) (h2 : Canon L2 g2) (r1 : ∀ k, In64 (g1 k)) (r2 : ∀ k, In64 (g2 k)) (r3 : ∀ k, In64 (g1 k + g2 k)) :
    ∃ N, addAll (L1 ++ L2) [] = some N ∧ (N.map (·.1)).Nodup ∧ ∀ k, mget k N = g1 k + g2 k := by
  have z : ∀ k, mget k ([] : List ((Int × Int) × Int)) = 0 := fun k => rfl
  have i0 : In64 0 := ⟨by decide, by decide⟩
  obtain ⟨M, a1, a2, a3⟩ := add_apart L1 [] h1.so (by simp) (fun x hx => by rw [((h1.mem x).1 hx).1]; exact r1 _) (fun k => by rw [z]; exact i0) (fun x hx => by rw [z, Int.zero_add, ((h1.mem x).1 hx).1]; exact r1 _)
  have a4 : ∀ k, mget k M = g1 k := fun k => by rw [a3, h1.find, z, Int.zero_add]
  obtain ⟨N, b1, b2, b3⟩ := add_apart L2 M h2.so a2 (fun x hx => by rw [((h2.mem x).1 hx).1]; exact r2 _) (fun k => by rw [a4]; exact r1 _) (fun x hx => by rw [a4, ((h2.mem x).1 hx).1]; exact r3 _)
  refine ⟨N, by rw [addAll_append, a1]; exact b1, b2, fun k => by rw [b3, h2.find, a4]⟩
/-- A state whose buckets are small. -/
def Sml (l : List S54) : Prop := ∀ x ∈ l, (0 ≤ x.f1 ∧ x.f1 ≤ 1000000000000000000) ∧ (0 ≤ x.f2 ∧ x.f2 ≤ 1000000000000000000) ∧ (0 ≤ x.f4 ∧ x.f4 ≤ 1000000000000000000)
theorem Sml.get {l : List S54} (h : Sml l) (k : Int × Int) : 0 ≤ mget k (bk l) ∧ mget k (bk l) ≤ 1000000000000000000 := by
  obtain ⟨id, b⟩ := k
  rw [mget_bk]
  split
  · next hb =>
    unfold ofR
    cases hf : l.find? (fun L => decide (L.f0 = id)) with
    | none => exact ⟨Int.le_refl 0, (by decide : (0 : Int) ≤ 1000000000000000000)⟩
    | some L =>
      have := h L (List.mem_of_find?_eq_some hf)
      obtain rfl | rfl | rfl : b = 1 ∨ b = 2 ∨ b = 3 := by omega
      · exact this.1
      · exact this.2.1
      · exact this.2.2
  · exact ⟨Int.le_refl 0, by decide⟩
theorem Sml.gD {la lb : List S54} (ha : Sml la) (hb : Sml lb) (k : Int × Int) : gD (bk la) (bk lb) k = mget k (bk lb) - mget k (bk la) := by
  have h1 := ha.get k
  have h2 := hb.get k
  have i1 : In64 (mget k (bk la)) := by unfold In64; omega
  have i2 : In64 (mget k (bk lb)) := by unfold In64; omega
  have i3 : In64 (mget k (bk lb) - mget k (bk la)) := by unfold In64; omega
  unfold Ytbgcmhakllodeaa.gD
  rw [if_pos ((lessOk_iff i2 i1).2 i3), wrap_in i3]
theorem Canon.zero {L : List S56} {g : Int × Int → Int} (h : Canon L g) (hz : ∀ k, g k = 0) : L = [] := List.eq_nil_iff_forall_not_mem.2 fun x hx => by
  have := (h.mem x).1 hx
  rw [hz] at this
  exact this.2 this.1
theorem diff_same {la lb : List S54} (ha : Rng la) (hb : Rng lb) {M : List ((Int × Int) × Int)} {ts : List (Int × Int)} (hD : DMap (bk la) (bk lb) (Dk (bk la) (bk lb) 2) M) (hp : ts.Perm (M.map (·.1))) (hs : ts.Pairwise (fun x y => ltk y x = false)) : tolds M ts = refDiffL la lb :=
  (tolds_canon hp hD.nd hs).eq (refDiff_canon ha hb) (fun k => hD.get (fun k hk => by rw [Dk]; simp only [Nat.reduceLeDiff, if_true, List.mem_append]; exact hk) k)
/-- From one state to another, and from that to a third. -/
theorem chain_same {la lb lc : List S54} (ra : Rng la) (rb : Rng lb) (rc : Rng lc) (ha : Sml la) (hb : Sml lb) (hc : Sml lc) : ∃ N, addAll (refDiffL la lb ++ refDiffL lb lc) [] = some N ∧ ∀ ts, ts.Perm (N.map (·.1)) → ts.Pairwise (fun x y => ltk y x = false) → tolds N ts = refDiffL la lc := by
  have s1 := Sml.gD ha hb
  have s2 := Sml.gD hb hc
  have s3 := Sml.gD ha hc
  obtain ⟨N, h1, h2, h3⟩ := add_two (refDiff_canon ra rb) (refDiff_canon rb rc)
    (fun k => by have := ha.get k; have := hb.get k; rw [s1]; unfold In64; omega)
    (fun k => by have := hb.get k; have := hc.get k; rw [s2]; unfold In64; omega)
    (fun k => by have := ha.get k; have := hb.get k; have := hc.get k; rw [s1, s2]; unfold In64; omega)
  exact ⟨N, h1, fun ts hp hs => (tolds_canon hp h2 hs).eq (refDiff_canon ra rc) (fun k => by rw [h3, s1, s2, s3]; omega)⟩
theorem self_none {lb : List S54} (rb : Rng lb) (hb : Sml lb) : refDiffL lb lb = [] := (refDiff_canon rb rb).zero (fun k => by rw [Sml.gD hb hb]; omega)
end Go.Proofs.Ytbgcmhakllodeaa
