/- Plain: padding, blocks one behind the other, words as bytes; arrays of bytes. -/
import Derived.Test.YtlncnjcbgfeaoaaDoorG3
import Derived.Test.YtlncnjcbgfeaoaaDoorG4
import Derived.Test.YtlncnjcbgfeaoaaDoorJN
set_option maxRecDepth 100000
set_option linter.unusedVariables false
namespace Go.Proofs.YtlncnjcbgfeaoaaDoor
open Go.RowKit
/-- the zeros of the padding -/
def zerosN (L : Nat) : Nat := (120 - (L + 1) % 64) % 64
theorem padS_len (p : List UInt8) : (padS p).length = p.length + 1 + zerosN p.length + 8 := by
  unfold padS zerosN be8; simp; omega
theorem pad_blocks (L : Nat) : 64 * ((L + 1 + zerosN L + 8) / 64) = L + 1 + zerosN L + 8 := by unfold zerosN; omega
theorem blocksS_snoc (n : Nat) : ∀ s p, blocksS (n + 1) s p = blockS (blocksS n s p) ((p.drop (64 * n)).take 64) := by
  induction n with
  | zero => intro s p; simp [blocksS]
  | succ n ih =>
    intro s p
    show blocksS (n + 1) (blockS s (p.take 64)) (p.drop 64) = _
    rw [ih]
    show _ = blockS (blocksS n (blockS s (p.take 64)) (p.drop 64)) _
    rw [List.drop_drop, show 64 + 64 * n = 64 * (n + 1) by omega]
/-- what the rounds of a range over the blocks make of the state -/
def foldB (m : List UInt8) (xs : List Nat) : List Nat := xs.foldl (fun s x => blockS s ((m.drop (64 * x)).take 64)) hS
theorem foldB_nil (m : List UInt8) : foldB m [] = hS := rfl
theorem foldB_snoc (m : List UInt8) (xs : List Nat) (x : Nat) : foldB m (xs ++ [x]) = blockS (foldB m xs) ((m.drop (64 * x)).take 64) := by
  unfold foldB; rw [List.foldl_append]; rfl
theorem foldB_range (m : List UInt8) (n : Nat) : foldB m (List.range n) = blocksS n hS m := by
  induction n with
  | zero => rfl
  | succ n ih => rw [List.range_succ, foldB_snoc, ih, blocksS_snoc]
theorem hS_len : hS.length = 8 := by decide +kernel
theorem hS_lt : ∀ x ∈ hS, x < 4294967296 := by decide +kernel
theorem roundS_len (k w : Nat) (v : List Nat) (h : v.length = 8) : (roundS k w v).length = 8 := by
  obtain ⟨a, b, c, d, e, f, g, i, rfl⟩ := eight h; rfl
theorem roundsS_len (l : List (Nat × Nat)) : ∀ v : List Nat, v.length = 8 → (roundsS l v).length = 8 := by
  induction l with
  | nil => intro v h; exact h
  | cons x l ih => obtain ⟨k, w⟩ := x; intro v h; exact ih _ (roundS_len k w v h)
theorem blockS_len (s : List Nat) (p : List UInt8) (h : s.length = 8) : (blockS s p).length = 8 := by
  unfold blockS; rw [List.length_map, List.length_zip, h, roundsS_len _ _ h]; rfl
theorem blockS_lt (s : List Nat) (p : List UInt8) : ∀ x ∈ blockS s p, x < 4294967296 := by
  intro x hx
  obtain ⟨y, _, rfl⟩ := List.mem_map.1 hx
  exact Nat.mod_lt _ (by decide)
theorem foldB_ok (m : List UInt8) (xs : List Nat) : (foldB m xs).length = 8 ∧ ∀ x ∈ foldB m xs, x < 4294967296 := by
  suffices h : ∀ (xs : List Nat) (s : List Nat), s.length = 8 → (∀ x ∈ s, x < 4294967296) → (xs.foldl (fun s x => blockS s ((m.drop (64 * x)).take 64)) s).length = 8 ∧ ∀ x ∈ xs.foldl (fun s x => blockS s ((m.drop (64 * x)).take 64)) s, x < 4294967296 from h xs hS hS_len hS_lt
  intro xs
  induction xs with
  | nil => intro s h1 h2; exact ⟨h1, h2⟩
  | cons y ys ih => intro s h1 h2; exact ih _ (blockS_len _ _ h1) (blockS_lt _ _)
theorem wordsB_get (s : List Nat) : ∀ (i k : Nat) (x : Nat), s[i]? = some x → k < 4 → (s.flatMap wordB)[4 * i + k]? = (wordB x)[k]? := by
  induction s with
  | nil => intro i k x h; simp at h
  | cons y s ih =>
    intro i k x h hk
    have hl : (wordB y).length = 4 := rfl
    rw [List.flatMap_cons]
    cases i with
    | zero =>
      simp at h; subst h
      rw [show 4 * 0 + k = k by omega, List.getElem?_append_left (by omega)]
    | succ i =>
      rw [List.getElem?_append_right (by omega), hl, show 4 * (i + 1) + k - 4 = 4 * i + k by omega]
      exact ih i k x (by simpa using h) hk
theorem wordsB_len (s : List Nat) : (s.flatMap wordB).length = 4 * s.length := by
  induction s with
  | nil => rfl
  | cons y s ih => rw [List.flatMap_cons, List.length_append, ih]; simp [wordB]; omega
/-- the first m bytes, then zeros -/
def outF (d : List UInt8) (m : Nat) : List UInt8 := d.take m ++ List.replicate (d.length - m) 0
theorem outF_len (d : List UInt8) (m : Nat) (h : m ≤ d.length) : (outF d m).length = d.length := by
  unfold outF; rw [List.length_append, List.length_take, List.length_replicate]; omega
theorem outF_all (d : List UInt8) (m : Nat) (h : m = d.length) : outF d m = d := by subst h; unfold outF; simp
theorem outF_set (d : List UInt8) (m : Nat) (x : UInt8) (h : d[m]? = some x) : (outF d m).set m x = outF d (m + 1) := by
  have hm : m < d.length := (List.getElem?_eq_some_iff.1 h).1
  unfold outF
  have hl : (d.take m).length = m := by rw [List.length_take]; omega
  rw [List.set_append_right _ _ (by omega), hl, Nat.sub_self, show d.length - m = (d.length - (m + 1)) + 1 by omega, List.replicate_succ, List.set_cons_zero, List.take_add_one, h]
  simp
/-- the block g is just the bytes vs -/
def AB (w : World) (g : Nat) (t : TypeId) (vs : List UInt8) : Prop := w.heap[g]? = some (.cells (vs.map B).toArray t (0, 0))
section
variable {w w' : World} {g : Nat} {t : TypeId} {vs : List UInt8}
theorem AB.lt (h : AB w g t vs) : g < w.heap.size := (Array.getElem?_eq_some_iff.1 h).1
theorem AB.cell (h : AB w g t vs) (i : Nat) (x : UInt8) (hx : vs[i]? = some x) : w.cell? ⟨g, i, none⟩ = some (B x) := by
  unfold AB at h
  simp [World.cell?, h, hx]
theorem AB.fr (h : AB w g t vs) (i : Nat) : w.frozen? ⟨g, i, none⟩ = false := by
  unfold AB at h
  simp [World.frozen?, h]
theorem AB.set_ (h : AB w g t vs) (i : Nat) (x : UInt8) : AB (w.setCell ⟨g, i, none⟩ (B x)) g t (vs.set i x) := by
  unfold AB at h ⊢
  simp [World.setCell, Array.getElem?_modify, h]
theorem AB.grown {row : Option Nat} (h : AB w g t vs) (hg : w.grownBy w' row) (hb : some g ≠ row) : AB w' g t vs := by
  have := hg.block g h.lt hb
  unfold AB at h ⊢
  rw [this]; exact h
theorem AB.bs (h : AB w g t vs) (hm : vs.length ≤ maxLen) : BS w (some ⟨g, 0, none⟩) vs.length vs.length vs := by
  refine ⟨by simp, Nat.le_refl _, hm, one_B _, (fun h => by cases h), fun ad had => ?_⟩
  cases had
  refine ⟨fun _ => rfl, fun q v hq => ?_⟩
  rw [List.getElem?_map] at hq
  obtain ⟨x, hx, rfl⟩ := Option.map_eq_some_iff.1 hq
  rw [show (0 + q) = q by omega]
  exact h.cell q x hx
end
/-- ring's table of constants, as start-up code lays it -/
def KT (w : World) : Prop := ∀ (j x : Nat), kS[j]? = some x → w.cell? ⟨3, j, none⟩ = some (.int .u32 (x : Int))
theorem KT.lt {w : World} (h : KT w) : 3 < w.heap.size := by
  obtain ⟨x, hx⟩ : ∃ x, kS[0]? = some x := ⟨_, List.getElem?_eq_getElem (by rw [kS_len]; omega)⟩
  exact World.block_lt_of_cell? w _ (h 0 x hx)
theorem KT.below {w w' : World} {B : Nat} (h : KT w) (hb : Below B w w') (hB : w.heap.size ≤ B) : KT w' := fun j x hx =>
  (hb.cell (p := ⟨3, j, none⟩) (Nat.lt_of_lt_of_le h.lt hB)).trans (h j x hx)
theorem PS.keepb {w w' : World} {a : Option Addr} {n c : Nat} {ps : List (List UInt8)} (h : PS w a n c ps) (hb : ∀ k, k < w.heap.size → w'.heap[k]? = w.heap[k]?) : PS w' a n c ps := by
  obtain ⟨vs, hv, hn, hp⟩ := h
  refine ⟨vs, hv.keepb fun ad _ hl => hb _ hl, hn, fun i p hi => ?_⟩
  obtain ⟨a', m, c', h1, h2⟩ := hp i p hi
  exact ⟨a', m, c', h1, RS.keepb h2 fun ad _ hl => hb _ hl⟩
theorem PS.below {w w' : World} {a : Option Addr} {n c : Nat} {ps : List (List UInt8)} {B : Nat} (h : PS w a n c ps) (hb : Below B w w') (hB : w.heap.size ≤ B) : PS w' a n c ps :=
  h.keepb fun k hk => hb.block k (by omega)
theorem block_ar (w : World) {sb : Nat} {st : TypeId} {ss : List Nat} {a : Option Addr} {c : Nat} {p : List UInt8} (hs : AR w sb st ss) (hl : ss.length = 8) (hb8 : ∀ x ∈ ss, x < 4294967296) (hp : BS w a 64 c p) (hK : KT w) :
    Calls Tryd.prog 85 #[.pointer (some ⟨sb, 0, none⟩), .slice a 64 c] w fun e w' => (∃ v, e = .returned v) ∧ AR w' sb st (blockS ss p) ∧ w.grownBy w' (some sb) := by
  obtain ⟨s0, s1, s2, s3, s4, s5, s6, s7, rfl⟩ := eight hl
  exact block_any w hs hb8 hp hK
theorem bs_part {w : World} {g n c : Nat} {m : List UInt8} (h : BS w (some ⟨g, 0, none⟩) n c m) (i : Nat) (hi : i + 64 ≤ n) : BS w (some ⟨g, i, none⟩) 64 64 ((m.drop i).take 64) := by
  have hl := BS.len h
  refine ⟨by simp [List.length_take, List.length_drop]; omega, Nat.le_refl _, by unfold maxLen; omega, one_B _, (fun h => by cases h), fun ad had => ?_⟩
  cases had
  refine ⟨fun _ => rfl, fun j v hj => ?_⟩
  rw [List.getElem?_map] at hj
  obtain ⟨x, hx, rfl⟩ := Option.map_eq_some_iff.1 hj
  rw [List.getElem?_take] at hx
  split at hx
  · rw [List.getElem?_drop] at hx
    have := (h.2.2.2.2.2 ⟨g, 0, none⟩ rfl).2 (i + j) (B x) (by rw [List.getElem?_map, hx]; rfl)
    simpa using this
  · cases hx
theorem index_state (v0 v1 v2 v3 v4 v5 v6 v7 i x : Nat) (hx : [v0, v1, v2, v3, v4, v5, v6, v7][i]? = some x) (W : World) :
    (Instr.index 129 (.agg #[.int .u32 (v0 : Int), .int .u32 (v1 : Int), .int .u32 (v2 : Int), .int .u32 (v3 : Int), .int .u32 (v4 : Int), .int .u32 (v5 : Int), .int .u32 (v6 : Int), .int .u32 (v7 : Int)]) (.int .i64 (i : Int))).run Tryd.prog W = .ok (.int .u32 (x : Int)) W := by
  have hi : i < 8 := by have := (List.getElem?_eq_some_iff.1 hx).1; simpa using this
  have h8 : i = 0 ∨ i = 1 ∨ i = 2 ∨ i = 3 ∨ i = 4 ∨ i = 5 ∨ i = 6 ∨ i = 7 := by omega
  rcases h8 with rfl | rfl | rfl | rfl | rfl | rfl | rfl | rfl <;> (simp at hx; subst hx; rfl)
theorem grownBy_setRow (w : World) (g : Nat) (cs : Array Value) : w.grownBy (w.setRow g cs) (some g) := by
  refine ⟨rfl, rfl, rfl, by simp, fun k _ hk => ?_⟩
  have : g ≠ k := fun h => hk (by rw [h])
  simp [World.setRow, Array.getElem?_modify, this]
/-- what stands between two rounds of Sum's range over the blocks -/
structure RI (w : World) (s6 g n c : Nat) (m : List UInt8) (pre : List Nat) (W : World) : Prop where
  st : AR W s6 129 (foldB m pre)
  bs : BS W (some ⟨g, 0, none⟩) n c m
  out : AB W w.heap.size 22 (List.replicate 32 0)
  bel : Below w.heap.size w W
  sz : s6 + 3 ≤ W.heap.size
theorem RI.grown {w : World} {s6 g n c : Nat} {m : List UInt8} {pre : List Nat} {W W' : World} {row : Option Nat} (h : RI w s6 g n c m pre W) (hg : W.grownBy W' row) (h1 : some s6 ≠ row) (h2 : some g ≠ row) (h3 : ∀ k, row = some k → w.heap.size < k) : RI w s6 g n c m pre W' :=
  ⟨h.st.grown hg h1, RS.grown h.bs hg (by intro ad ha; cases ha; exact h2), h.out.grown hg (by intro he; have := h3 _ he.symm; omega), h.bel.grown hg h.bel.size (fun k hk => Nat.le_of_lt (h3 k hk)), Nat.le_trans h.sz hg.size⟩
theorem RI.step {w : World} {s6 g n c : Nat} {m : List UInt8} {pre : List Nat} {W W' : World} (x : Nat) (h : RI w s6 g n c m pre W) (ha : AR W' s6 129 (blockS (foldB m pre) ((m.drop (64 * x)).take 64))) (hg : W.grownBy W' (some s6)) (h2 : g ≠ s6) (h3 : w.heap.size < s6) : RI w s6 g n c m (pre ++ [x]) W' :=
  ⟨by rw [foldB_snoc]; exact ha, RS.grown h.bs hg (by intro ad ha; cases ha; simpa using h2), h.out.grown hg (by simp; omega), h.bel.grown hg h.bel.size (fun k hk => by cases hk; omega), Nat.le_trans h.sz hg.size⟩
end Go.Proofs.YtlncnjcbgfeaoaaDoor
