/- texts G5 G6 in one. -/
import Derived.Test.YtkhcpnmbhbhcgaaDoorYae
import Derived.Test.YtkhcpnmbhbhcgaaDoorYaf
import Derived.Test.YtkhcpnmbhbhcgaaDoorYag
import Derived.Test.YtkhcpnmbhbhcgaaDoorYaa

/- Plain: padding, blocks one behind the other, words as bytes; arrays of bytes. -/
set_option maxRecDepth 100000
set_option linter.unusedVariables false
namespace Go.Proofs.YtkhcpnmbhbhcgaaDoor
open Go.RowKit
/-- the zeros of the padding -/
def zerosN (L : Nat) : Nat := (120 - (L + 1) % 64) % 64
theorem padS_len (p : List UInt8) : (padS p).length = p.length + 1 + zerosN p.length + 8 := by
  unfold padS zerosN be8; simp; omega
theorem pad_blocks (L : Nat) : 64 * ((L + 1 + zerosN L + 8) / 64) = L + 1 + zerosN L + 8 := by unfold zerosN; omega
theorem blocksS_snoc (n : Nat) : ∀ s p, blocksS (n + 1) s p = blockS (blocksS n s p) ((p.drop (64 * n)).take 64) := by
  induction n with
  | zero => intro s p; simp [blocksS]
  | succ n ih =>
    intro s p
    show blocksS (n + 1) (blockS s (p.take 64)) (p.drop 64) = _
    rw [ih]
    show _ = blockS (blocksS n (blockS s (p.take 64)) (p.drop 64)) _
    rw [List.drop_drop, show 64 + 64 * n = 64 * (n + 1) by omega]
/-- what the rounds of a range over the blocks make of the state -/
def foldB (m : List UInt8) (xs : List Nat) : List Nat := xs.foldl (fun s x => blockS s ((m.drop (64 * x)).take 64)) hS
theorem foldB_nil (m : List UInt8) : foldB m [] = hS := rfl
theorem foldB_snoc (m : List UInt8) (xs : List Nat) (x : Nat) : foldB m (xs ++ [x]) = blockS (foldB m xs) ((m.drop (64 * x)).take 64) := by
  unfold foldB; rw [List.foldl_append]; rfl
theorem foldB_range (m : List UInt8) (n : Nat) : foldB m (List.range n) = blocksS n hS m := by
  induction n with
  | zero => rfl
  | succ n ih => rw [List.range_succ, foldB_snoc, ih, blocksS_snoc]
theorem hS_len : hS.length = 8 := by decide +kernel
theorem hS_lt : ∀ x ∈ hS, x < 4294967296 := by decide +kernel
theorem roundS_len (k w : Nat) (v : List Nat) (h : v.length = 8) : (roundS k w v).length = 8 := by
  obtain ⟨a, b, c, d, e, f, g, i, rfl⟩ := eight h; rfl
theorem roundsS_len (l : List (Nat × Nat)) : ∀ v : List Nat, v.length = 8 → (roundsS l v).length = 8 := by
  induction l with
  | nil => intro v h; exact h
  | cons x l ih => obtain ⟨k, w⟩ := x; intro v h; exact ih _ (roundS_len k w v h)
theorem blockS_len (s : List Nat) (p : List UInt8) (h : s.length = 8) : (blockS s p).length = 8 := by
  unfold blockS; rw [List.length_map, List.length_zip, h, roundsS_len _ _ h]; rfl
theorem blockS_lt (s : List Nat) (p : List UInt8) : ∀ x ∈ blockS s p, x < 4294967296 := by
  intro x hx
  obtain ⟨y, _, rfl⟩ := List.mem_map.1 hx
  exact Nat.mod_lt _ (by decide)
theorem foldB_ok (m : List UInt8) (xs : List Nat) : (foldB m xs).length = 8 ∧ ∀ x ∈ foldB m xs, x < 4294967296 := by
  suffices h : ∀ (xs : List Nat) (s : List Nat), s.length = 8 → (∀ x ∈ s, x < 4294967296) → (xs.foldl (fun s x => blockS s ((m.drop (64 * x)).take 64)) s).length = 8 ∧ ∀ x ∈ xs.foldl (fun s x => blockS s ((m.drop (64 * x)).take 64)) s, x < 4294967296 from h xs hS hS_len hS_lt
  intro xs
  induction xs with
  | nil => intro s h1 h2; exact ⟨h1, h2⟩
  | cons y ys ih => intro s h1 h2; exact ih _ (blockS_len _ _ h1) (blockS_lt _ _)
theorem wordsB_get (s : List Nat) : ∀ (i k : Nat) (x : Nat), s[i]? = some x → k < 4 → (s.flatMap wordB)[4 * i + k]? = (wordB x)[k]? := by
  induction s with
  | nil => intro i k x h; simp at h
  | cons y s ih =>
    intro i k x h hk
    have hl : (wordB y).length = 4 := rfl
    rw [List.flatMap_cons]
    cases i with
    | zero =>
      simp at h; subst h
      rw [show 4 * 0 + k = k by omega, List.getElem?_append_left (by omega)]
    | succ i =>
      rw [List.getElem?_append_right (by omega), hl, show 4 * (i + 1) + k - 4 = 4 * i + k by omega]
      exact ih i k x (by simpa using h) hk
theorem wordsB_len (s : List Nat) : (s.flatMap wordB).length = 4 * s.length := by
  induction s with
  | nil => rfl
  | cons y s ih => rw [List.flatMap_cons, List.length_append, ih]; simp [wordB]; omega
/-- the first m bytes, then zeros -/
def outF (d : List UInt8) (m : Nat) : List UInt8 := d.take m ++ List.replicate (d.length - m) 0
theorem outF_len (d : List UInt8) (m : Nat) (h : m ≤ d.length) : (outF d m).length = d.length := by
  unfold outF; rw [List.length_append, List.length_take, List.length_replicate]; omega
theorem outF_all (d : List UInt8) (m : Nat) (h : m = d.length) : outF d m = d := by subst h; unfold outF; simp
theorem outF_set (d : List UInt8) (m : Nat) (x : UInt8) (h : d[m]? = some x) : (outF d m).set m x = outF d (m + 1) := by
  have hm : m < d.length := (List.getElem?_eq_some_iff.1 h).1
  unfold outF
  have hl : (d.take m).length = m := by rw [List.length_take]; omega
  rw [List.set_append_right _ _ (by omega), hl, Nat.sub_self, show d.length - m = (d.length - (m + 1)) + 1 by omega, List.replicate_succ, List.set_cons_zero, List.take_add_one, h]
  simp
section
variable {w w' : World} {g : Nat} {t : TypeId} {vs : List UInt8}
theorem AB.bs (h : AB w g t vs) (hm : vs.length ≤ maxLen) : BS w (some ⟨g, 0, none⟩) vs.length vs.length vs := by
  refine ⟨by simp, Nat.le_refl _, hm, one_B _, (fun h => by cases h), fun ad had => ?_⟩
  cases had
  refine ⟨fun _ => rfl, fun q v hq => ?_⟩
  rw [List.getElem?_map] at hq
  obtain ⟨x, hx, rfl⟩ := Option.map_eq_some_iff.1 hq
  rw [show (0 + q) = q by omega]
  exact h.cell q x hx
end
/-- ring's table of constants, as start-up code lays it -/
def KT (w : World) : Prop := ∀ (j x : Nat), kS[j]? = some x → w.cell? ⟨3, j, none⟩ = some (.int .u32 (x : Int))
theorem KT.lt {w : World} (h : KT w) : 3 < w.heap.size := by
  obtain ⟨x, hx⟩ : ∃ x, kS[0]? = some x := ⟨_, List.getElem?_eq_getElem (by rw [kS_len]; omega)⟩
  exact World.block_lt_of_cell? w _ (h 0 x hx)
theorem KT.below {w w' : World} {B : Nat} (h : KT w) (hb : Below B w w') (hB : w.heap.size ≤ B) : KT w' := fun j x hx =>
  (hb.cell (p := ⟨3, j, none⟩) (Nat.lt_of_lt_of_le h.lt hB)).trans (h j x hx)
theorem PS.keepb {w w' : World} {a : Option Addr} {n c : Nat} {ps : List (List UInt8)} (h : PS w a n c ps) (hb : ∀ k, k < w.heap.size → w'.heap[k]? = w.heap[k]?) : PS w' a n c ps := by
  obtain ⟨vs, hv, hn, hp⟩ := h
  refine ⟨vs, hv.keepb fun ad _ hl => hb _ hl, hn, fun i p hi => ?_⟩
  obtain ⟨a', m, c', h1, h2⟩ := hp i p hi
  exact ⟨a', m, c', h1, RS.keepb h2 fun ad _ hl => hb _ hl⟩
theorem PS.below {w w' : World} {a : Option Addr} {n c : Nat} {ps : List (List UInt8)} {B : Nat} (h : PS w a n c ps) (hb : Below B w w') (hB : w.heap.size ≤ B) : PS w' a n c ps :=
  h.keepb fun k hk => hb.block k (by omega)
theorem block_ar (w : World) {sb : Nat} {st : TypeId} {ss : List Nat} {a : Option Addr} {c : Nat} {p : List UInt8} (hs : AR w sb st ss) (hl : ss.length = 8) (hb8 : ∀ x ∈ ss, x < 4294967296) (hp : BS w a 64 c p) (hK : KT w) :
    Calls Tryd.prog 78 #[.pointer (some ⟨sb, 0, none⟩), .slice a 64 c] w fun e w' => (∃ v, e = .returned v) ∧ AR w' sb st (blockS ss p) ∧ w.grownBy w' (some sb) := by
  obtain ⟨s0, s1, s2, s3, s4, s5, s6, s7, rfl⟩ := eight hl
  exact block_any w hs hb8 hp hK
theorem bs_part {w : World} {g n c : Nat} {m : List UInt8} (h : BS w (some ⟨g, 0, none⟩) n c m) (i : Nat) (hi : i + 64 ≤ n) : BS w (some ⟨g, i, none⟩) 64 64 ((m.drop i).take 64) := by
  have hl := BS.len h
  refine ⟨by simp [List.length_take, List.length_drop]; omega, Nat.le_refl _, by unfold maxLen; omega, one_B _, (fun h => by cases h), fun ad had => ?_⟩
  cases had
  refine ⟨fun _ => rfl, fun j v hj => ?_⟩
  rw [List.getElem?_map] at hj
  obtain ⟨x, hx, rfl⟩ := Option.map_eq_some_iff.1 hj
  rw [List.getElem?_take] at hx
  split at hx
  · rw [List.getElem?_drop] at hx
    have := (h.2.2.2.2.2 ⟨g, 0, none⟩ rfl).2 (i + j) (B x) (by rw [List.getElem?_map, hx]; rfl)
    simpa using this
  · cases hx
theorem index_state (v0 v1 v2 v3 v4 v5 v6 v7 i x : Nat) (hx : [v0, v1, v2, v3, v4, v5, v6, v7][i]? = some x) (W : World) :
    (Instr.index 127 (.agg #[.int .u32 (v0 : Int), .int .u32 (v1 : Int), .int .u32 (v2 : Int), .int .u32 (v3 : Int), .int .u32 (v4 : Int), .int .u32 (v5 : Int), .int .u32 (v6 : Int), .int .u32 (v7 : Int)]) (.int .i64 (i : Int))).run Tryd.prog W = .ok (.int .u32 (x : Int)) W := by
  have hi : i < 8 := by have := (List.getElem?_eq_some_iff.1 hx).1; simpa using this
  have h8 : i = 0 ∨ i = 1 ∨ i = 2 ∨ i = 3 ∨ i = 4 ∨ i = 5 ∨ i = 6 ∨ i = 7 := by omega
  rcases h8 with rfl | rfl | rfl | rfl | rfl | rfl | rfl | rfl <;> (simp at hx; subst hx; rfl)
/-- what stands between two rounds of Sum's range over the blocks -/
structure RI (w : World) (s6 g n c : Nat) (m : List UInt8) (pre : List Nat) (W : World) : Prop where
  st : AR W s6 127 (foldB m pre)
  bs : BS W (some ⟨g, 0, none⟩) n c m
  out : AB W w.heap.size 26 (List.replicate 32 0)
  bel : Below w.heap.size w W
  sz : s6 + 3 ≤ W.heap.size
theorem RI.grown {w : World} {s6 g n c : Nat} {m : List UInt8} {pre : List Nat} {W W' : World} {row : Option Nat} (h : RI w s6 g n c m pre W) (hg : W.grownBy W' row) (h1 : some s6 ≠ row) (h2 : some g ≠ row) (h3 : ∀ k, row = some k → w.heap.size < k) : RI w s6 g n c m pre W' :=
  ⟨h.st.grown hg h1, RS.grown h.bs hg (by intro ad ha; cases ha; exact h2), h.out.grown hg (by intro he; have := h3 _ he.symm; omega), h.bel.grown hg h.bel.size (fun k hk => Nat.le_of_lt (h3 k hk)), Nat.le_trans h.sz hg.size⟩
theorem RI.step {w : World} {s6 g n c : Nat} {m : List UInt8} {pre : List Nat} {W W' : World} (x : Nat) (h : RI w s6 g n c m pre W) (ha : AR W' s6 127 (blockS (foldB m pre) ((m.drop (64 * x)).take 64))) (hg : W.grownBy W' (some s6)) (h2 : g ≠ s6) (h3 : w.heap.size < s6) : RI w s6 g n c m (pre ++ [x]) W' :=
  ⟨by rw [foldB_snoc]; exact ha, RS.grown h.bs hg (by intro ad ha; cases ha; simpa using h2), h.out.grown hg (by simp; omega), h.bel.grown hg h.bel.size (fun k hk => by cases hk; omega), Nat.le_trans h.sz hg.size⟩
end Go.Proofs.YtkhcpnmbhbhcgaaDoor

/- ring.Sum: SHA-256 of all parts. -/
set_option maxRecDepth 100000
set_option linter.unusedVariables false
namespace Go.Proofs.YtkhcpnmbhbhcgaaDoor
open Go.RowKit Go.Shelf
attribute [local go_sem] Oper.semAt_some
theorem row_ne {a : Option Addr} {B g : Nat} (h : ∀ ad, a = some ad → B ≤ ad.block) (hg : g < B) : some g ≠ a.map (·.block) := by
  intro he
  obtain ⟨ad, h1, h2⟩ := Option.map_eq_some_iff.1 he.symm
  have := h ad h1; omega
theorem row_ge {a : Option Addr} {B C : Nat} (h : ∀ ad, a = some ad → B ≤ ad.block) (hC : C ≤ B) : ∀ k, a.map (·.block) = some k → C ≤ k := by
  intro k he
  obtain ⟨ad, h1, h2⟩ := Option.map_eq_some_iff.1 he
  have := h ad h1; omega
/-- what Sum has so far: bytes of its own, the array for what it hands back -/
structure SR (w wr : World) (a : Option Addr) (n c : Nat) (bs : List UInt8) : Prop where
  own : OW wr (w.heap.size + 1) 5 1 a n c (bs.map B)
  out : AB wr w.heap.size 26 (List.replicate 32 0)
  bel : Below w.heap.size w wr
theorem SR.alloc {w wr : World} {a : Option Addr} {n c : Nat} {bs : List UInt8} (h : SR w wr a n c bs) (o : Obj) : SR w (wr.alloc o) a n c bs :=
  ⟨h.own.alloc o, h.out.grown (World.grownBy_alloc wr o none) (by simp), h.bel.alloc h.bel.size o⟩
theorem SR.app {w wr w2 : World} {a a' : Option Addr} {n n' c c' : Nat} {bs : List UInt8} {vs : List Value} (us : List UInt8) (h : SR w wr a n c bs) (h2 : OW w2 (w.heap.size + 1) 5 1 a' n' c' vs) (hg : wr.grownBy w2 (a.map (·.block))) (he : vs = (bs ++ us).map B) : SR w w2 a' n' c' (bs ++ us) :=
  ⟨he ▸ h2, h.out.grown hg (row_ne (fun ad ha => (h.own.base_le ha).1) (by omega)), h.bel.grown hg h.bel.size (row_ge (fun ad ha => (h.own.base_le ha).1) (by omega))⟩
theorem SR.size {w wr : World} {a : Option Addr} {n c : Nat} {bs : List UInt8} (h : SR w wr a n c bs) : w.heap.size + 1 ≤ wr.heap.size := h.out.lt
theorem bx (n : Nat) (v : Int) (h : v = ((n % 256 : Nat) : Int)) : Value.int .u8 v = B (UInt8.ofNat n) := by
  subst h; simp [B]
theorem map_snoc (l : List UInt8) (x : UInt8) (v : Value) (h : v = B x) : l.map B ++ [v] = (l ++ [x]).map B := by
  subst h; simp
set_option maxHeartbeats 4000000 in
theorem sum_any (w : World) {a : Option Addr} {n c : Nat} (ps : List (List UInt8)) (h : PS w a n c ps) (hlen : ps.flatten.length ≤ 1099511627776) (hK : KT w) :
    Calls Tryd.prog 70 #[.slice a n c] w fun e w' => e = .returned (.agg ((shaS ps.flatten).map B).toArray) ∧ Below w.heap.size w w' := by
  obtain ⟨P, hP⟩ : ∃ P, ps.flatten = P := ⟨_, rfl⟩
  have HP := Lib.hid hP
  have HL := Lib.hid hlen
  have HPS := Lib.hid h
  have HK := Lib.hid hK
  clear hlen h hK
  refine (callsIn_wide (n := 9)).1 (callsIn_of_wp_marks Tryd.func70 rfl trivial ?_ rfl)
  simp only [Tryd.ntmps70, List.size_toArray, List.length_cons, List.length_nil, Nat.reduceAdd, Nat.reduceSub, Array.replicate_succ, Array.replicate_zero, List.push_toArray, List.append_toArray, List.nil_append, List.cons_append]
  refine wpIn_wide.2 ?_
  go_upto_region 2 with (first
    | (go_at_call 43; refine (join_any _ ps (HPS.out.below (below_alloc w _) (Nat.le_refl _)) HL.out).mono ?_; rintro e w1 ⟨a1, c1, rfl, hJ1, hB1⟩))
  have hJ := hJ1.mono (base' := w.heap.size + 1) (by simp)
  have hAB : AB w1 w.heap.size 26 (List.replicate 32 0) := (hB1.block _ (by simp)).trans (heap_alloc_new w _)
  have hB := (below_alloc w _).trans (hB1.mono (by simp))
  clear hB1 hJ1
  have hK1 := Lib.hid (HK.out.below hB (Nat.le_refl _))
  have hsz := hB.size
  have hs1 := hAB.lt
  have hL := HL.out
  rw [HP.out] at hJ hL
  clear hsz
  obtain ⟨L, hLL⟩ : ∃ L, P.length = L := ⟨_, rfl⟩
  have HLL := Lib.hid hLL
  rw [hLL] at hJ hL ⊢
  clear hLL
  obtain ⟨Z, hZ⟩ : ∃ Z, zerosN L = Z := ⟨_, rfl⟩
  have HZ := Lib.hid hZ
  have hZ2 : (120 - (L + 1) % 64) % 64 = Z := hZ
  have hZ3 : Z < 64 := by omega
  clear hZ
  have HZ2 := Lib.hid hZ2
  clear hZ2
  go_upto_region 5 with (first
    | (at_builtin; refine L_append_J tB (hJ.alloc _) (RS_one _ _ _ rfl) (by omega) _ _ rfl rfl rfl rfl (by omega) (by unfold maxLen; omega) (by simp; omega) ?_; intro a2 c2 w2 o2 g2)
    | (at_builtin; refine L_append_zerosN tB rfl rfl o2 3 Tryd.underlying3 Z _ _ rfl rfl _ rfl rfl (by have := HZ2.out; omega) (by omega) (by have := g2.size; simp at this; omega) ?_; intro a3 c3 w3 o3 g3))
  have hR2 : SR w w2 a2 (L + 1) c2 (P ++ [128]) := ⟨(map_snoc P 128 _ rfl) ▸ o2, (hAB.grown (World.grownBy_alloc w1 _ none) (by simp)).grown g2 (row_ne (fun ad ha => hJ.base_le ad ha) (by omega)), (hB.alloc hB.size _).grown g2 (by have := hB.size; simp; omega) (row_ge (fun ad ha => hJ.base_le ad ha) (by omega))⟩
  have hR3 : SR w w3 a3 (L + 1 + Z) c3 (P ++ [128] ++ List.replicate Z 0) := hR2.app _ o3 g3 (by simp [B])
  clear hR2 o2 g2 o3 g3 hAB hJ hB
  obtain ⟨M, hM⟩ : ∃ M, L + 1 + Z = M := ⟨_, rfl⟩
  have hMb : M ≤ 1099511627776 + 65 := by omega
  have HM := Lib.hid hM
  rw [hM] at hR3 ⊢
  clear hM
  obtain ⟨m0, hm0⟩ : ∃ m0, P ++ [128] ++ List.replicate Z 0 = m0 := ⟨_, rfl⟩
  have Hm0 := Lib.hid hm0
  rw [hm0] at hR3
  clear hm0
  go_wp2
  go_loopw [3, 5] (fun s3 s5 wr => ∃ (j : Nat) (a : Option Addr) (c : Nat), j ≤ 8 ∧ s3 = .slice a (M + j) c ∧ s5 = .int .i64 (7 - (j : Int)) ∧ SR w wr a (M + j) c (m0 ++ (be8 (L * 8)).take j)) (fun _ s5 _ => (intOf s5 + 1).toNat)
  case atStart => exact ⟨0, a3, c3, by omega, rfl, rfl, by simpa using hR3⟩
  case round =>
    obtain ⟨j, a4, c4, hj, rfl, rfl, hR⟩ := hrel
    by_cases hlt : j < 8
    · have hsz := hR.size
      have hj8 : j = 0 ∨ j = 1 ∨ j = 2 ∨ j = 3 ∨ j = 4 ∨ j = 5 ∨ j = 6 ∨ j = 7 := by omega
      rcases hj8 with rfl | rfl | rfl | rfl | rfl | rfl | rfl | rfl
      · go_wp2_with (at_builtin; refine L_append tB (hR.own.alloc _) (RS_one _ _ _ rfl) _ _ rfl rfl rfl rfl (by omega) (by unfold maxLen; omega) (by simp; omega) ?_; intro a5 c5 w5 o5 g5)
        have hn := (hR.alloc _).app [UInt8.ofNat (L * 8 / 72057594037927936)] o5 g5 (map_snoc _ _ _ (bx _ _ (by omega)))
        refine ⟨⟨0 + 1, a5, c5, by omega, rfl, rfl, ?_⟩, by simp [intOf]⟩
        rw [List.append_assoc] at hn
        exact hn
      · go_wp2_with (at_builtin; refine L_append tB (hR.own.alloc _) (RS_one _ _ _ rfl) _ _ rfl rfl rfl rfl (by omega) (by unfold maxLen; omega) (by simp; omega) ?_; intro a5 c5 w5 o5 g5)
        have hn := (hR.alloc _).app [UInt8.ofNat (L * 8 / 281474976710656)] o5 g5 (map_snoc _ _ _ (bx _ _ (by omega)))
        refine ⟨⟨1 + 1, a5, c5, by omega, rfl, rfl, ?_⟩, by simp [intOf]⟩
        rw [List.append_assoc] at hn
        exact hn
      · go_wp2_with (at_builtin; refine L_append tB (hR.own.alloc _) (RS_one _ _ _ rfl) _ _ rfl rfl rfl rfl (by omega) (by unfold maxLen; omega) (by simp; omega) ?_; intro a5 c5 w5 o5 g5)
        have hn := (hR.alloc _).app [UInt8.ofNat (L * 8 / 1099511627776)] o5 g5 (map_snoc _ _ _ (bx _ _ (by omega)))
        refine ⟨⟨2 + 1, a5, c5, by omega, rfl, rfl, ?_⟩, by simp [intOf]⟩
        rw [List.append_assoc] at hn
        exact hn
      · go_wp2_with (at_builtin; refine L_append tB (hR.own.alloc _) (RS_one _ _ _ rfl) _ _ rfl rfl rfl rfl (by omega) (by unfold maxLen; omega) (by simp; omega) ?_; intro a5 c5 w5 o5 g5)
        have hn := (hR.alloc _).app [UInt8.ofNat (L * 8 / 4294967296)] o5 g5 (map_snoc _ _ _ (bx _ _ (by omega)))
        refine ⟨⟨3 + 1, a5, c5, by omega, rfl, rfl, ?_⟩, by simp [intOf]⟩
        rw [List.append_assoc] at hn
        exact hn
      · go_wp2_with (at_builtin; refine L_append tB (hR.own.alloc _) (RS_one _ _ _ rfl) _ _ rfl rfl rfl rfl (by omega) (by unfold maxLen; omega) (by simp; omega) ?_; intro a5 c5 w5 o5 g5)
        have hn := (hR.alloc _).app [UInt8.ofNat (L * 8 / 16777216)] o5 g5 (map_snoc _ _ _ (bx _ _ (by omega)))
        refine ⟨⟨4 + 1, a5, c5, by omega, rfl, rfl, ?_⟩, by simp [intOf]⟩
        rw [List.append_assoc] at hn
        exact hn
      · go_wp2_with (at_builtin; refine L_append tB (hR.own.alloc _) (RS_one _ _ _ rfl) _ _ rfl rfl rfl rfl (by omega) (by unfold maxLen; omega) (by simp; omega) ?_; intro a5 c5 w5 o5 g5)
        have hn := (hR.alloc _).app [UInt8.ofNat (L * 8 / 65536)] o5 g5 (map_snoc _ _ _ (bx _ _ (by omega)))
        refine ⟨⟨5 + 1, a5, c5, by omega, rfl, rfl, ?_⟩, by simp [intOf]⟩
        rw [List.append_assoc] at hn
        exact hn
      · go_wp2_with (at_builtin; refine L_append tB (hR.own.alloc _) (RS_one _ _ _ rfl) _ _ rfl rfl rfl rfl (by omega) (by unfold maxLen; omega) (by simp; omega) ?_; intro a5 c5 w5 o5 g5)
        have hn := (hR.alloc _).app [UInt8.ofNat (L * 8 / 256)] o5 g5 (map_snoc _ _ _ (bx _ _ (by omega)))
        refine ⟨⟨6 + 1, a5, c5, by omega, rfl, rfl, ?_⟩, by simp [intOf]⟩
        rw [List.append_assoc] at hn
        exact hn
      · go_wp2_with (at_builtin; refine L_append tB (hR.own.alloc _) (RS_one _ _ _ rfl) _ _ rfl rfl rfl rfl (by omega) (by unfold maxLen; omega) (by simp; omega) ?_; intro a5 c5 w5 o5 g5)
        have hn := (hR.alloc _).app [UInt8.ofNat (L * 8)] o5 g5 (map_snoc _ _ _ (bx _ _ (by omega)))
        refine ⟨⟨7 + 1, a5, c5, by omega, rfl, rfl, ?_⟩, by simp [intOf]⟩
        rw [List.append_assoc] at hn
        exact hn
    · obtain rfl : j = 8 := by omega
      have hR8 : SR w wr a4 (M + 8) c4 (m0 ++ be8 (L * 8)) := hR
      clear hR
      obtain ⟨W5, rfl⟩ : ∃ W5, W5 = wr := ⟨wr, rfl⟩
      have hpad : m0 ++ be8 (L * 8) = padS P := by rw [← Hm0.out, ← HZ.out, ← HLL.out]; rfl
      rw [hpad] at hR8
      have hml : (padS P).length = M + 8 := by rw [padS_len, HLL.out, HZ.out, HM.out]
      have hk0 : 64 * ((padS P).length / 64) = M + 8 := by
        have := pad_blocks L
        rw [HZ.out, HM.out] at this
        rw [hml]; exact this
      obtain ⟨m, hm⟩ : ∃ m, padS P = m := ⟨_, rfl⟩
      rw [hm] at hR8 hml hk0
      obtain ⟨k0, hkk⟩ : ∃ k0, m.length / 64 = k0 := ⟨_, rfl⟩
      have Hs := Lib.hid (show shaS P = (blocksS k0 hS m).flatMap wordB by rw [← hkk, ← hm]; rfl)
      rw [hkk] at hk0
      clear hkk hm
      rcases hR8.own.shape with ⟨_, h0, _⟩ | ⟨g, cur, rfl, hg1, hg2, hg3, hg4, hg5, hg6, hg7⟩
      · omega
      have Hg3 := Lib.hid hg3
      have Hg6 := Lib.hid hg6
      have Hg7 := Lib.hid hg7
      have Hml := Lib.hid hml
      have hM8 : 64 * k0 = M + 8 := hk0
      rw [← hk0] at hR8 hg4 ⊢
      have HM8 := Lib.hid hM8
      clear hg3 hg6 hg7 hml hM8 hk0
      have hcm : 64 * k0 ≤ 140737488355328 := by have := HM8.out; omega
      go_upto_region 11 with (first
        | (go_at_call 76; refine (begin_any _).mono ?_; rintro e w6 ⟨rfl, hB6⟩)
        | (go_at_call 77; refine (chunk_any _ _ _ _).mono ?_; rintro e w7 ⟨rfl, rfl⟩))
      obtain ⟨s6, hs6⟩ : ∃ s6, w6.heap.size = s6 := ⟨_, rfl⟩
      have hz6 := hB6.size
      have hR6 := hR8
      have hI6 : RI w s6 g (64 * k0) c4 m [] (((w6.alloc (.cells #[.int .u32 1779033703, .int .u32 3144134277, .int .u32 1013904242, .int .u32 2773480762, .int .u32 1359893119, .int .u32 2600822924, .int .u32 528734635, .int .u32 1541459225] 127)).alloc (.cells #[.slice (some ⟨g, 0, none⟩) (64 * k0) c4] 22)).alloc (.cells #[.int .i64 64] 3)) := by
        have hst : AR (w6.alloc (.cells #[.int .u32 1779033703, .int .u32 3144134277, .int .u32 1013904242, .int .u32 2773480762, .int .u32 1359893119, .int .u32 2600822924, .int .u32 528734635, .int .u32 1541459225] 127)) s6 127 (foldB m []) := by
          rw [foldB_nil, hS_eq, ← hs6]; exact heap_alloc_new w6 _
        have hg56 : W5.grownBy w6 none := grown_of_below hB6
        refine ⟨(hst.grown (World.grownBy_alloc _ _ none) (by simp)).grown (World.grownBy_alloc _ _ none) (by simp), ?_, ?_, ?_, by simp; omega⟩
        · exact RS.alloc (RS.alloc (RS.alloc (RS.below hR8.own.rs hB6 (Nat.le_refl _)) _) _) _
        · exact (((hR8.out.grown hg56 (by simp)).grown (World.grownBy_alloc _ _ none) (by simp)).grown (World.grownBy_alloc _ _ none) (by simp)).grown (World.grownBy_alloc _ _ none) (by simp)
        · have hb := hR8.bel.trans (hB6.mono hR8.bel.size)
          exact ((hb.alloc hb.size _).alloc (by have := hb.size; simp; omega) _).alloc (by have := hb.size; simp; omega) _
      have c7 : (((w6.alloc (.cells #[.int .u32 1779033703, .int .u32 3144134277, .int .u32 1013904242, .int .u32 2773480762, .int .u32 1359893119, .int .u32 2600822924, .int .u32 528734635, .int .u32 1541459225] 127)).alloc (.cells #[.slice (some ⟨g, 0, none⟩) (64 * k0) c4] 22)).alloc (.cells #[.int .i64 64] 3)).cell? ⟨s6 + 1, 0, none⟩ = some (.slice (some ⟨g, 0, none⟩) (64 * k0) c4) := by
        have h := World.cell?_alloc_at (w := w6.alloc (.cells #[.int .u32 1779033703, .int .u32 3144134277, .int .u32 1013904242, .int .u32 2773480762, .int .u32 1359893119, .int .u32 2600822924, .int .u32 528734635, .int .u32 1541459225] 127)) #[.slice (some ⟨g, 0, none⟩) (64 * k0) c4] 22 (s6 + 1) 0 (by simp; omega)
        rw [World.cell?_alloc_past _ _ _ (by simp; omega)]
        exact h
      have c8 : (((w6.alloc (.cells #[.int .u32 1779033703, .int .u32 3144134277, .int .u32 1013904242, .int .u32 2773480762, .int .u32 1359893119, .int .u32 2600822924, .int .u32 528734635, .int .u32 1541459225] 127)).alloc (.cells #[.slice (some ⟨g, 0, none⟩) (64 * k0) c4] 22)).alloc (.cells #[.int .i64 64] 3)).cell? ⟨s6 + 1 + 1, 0, none⟩ = some (.int .i64 64) := by
        exact World.cell?_alloc_at (w := (w6.alloc (.cells #[.int .u32 1779033703, .int .u32 3144134277, .int .u32 1013904242, .int .u32 2773480762, .int .u32 1359893119, .int .u32 2600822924, .int .u32 528734635, .int .u32 1541459225] 127)).alloc (.cells #[.slice (some ⟨g, 0, none⟩) (64 * k0) c4] 22)) #[.int .i64 64] 3 (s6 + 1 + 1) 0 (by simp; omega)
      rw [hs6]
      obtain ⟨W7, hW7⟩ : ∃ W7, (((w6.alloc (.cells #[.int .u32 1779033703, .int .u32 3144134277, .int .u32 1013904242, .int .u32 2773480762, .int .u32 1359893119, .int .u32 2600822924, .int .u32 528734635, .int .u32 1541459225] 127)).alloc (.cells #[.slice (some ⟨g, 0, none⟩) (64 * k0) c4] 22)).alloc (.cells #[.int .i64 64] 3)) = W7 := ⟨_, rfl⟩
      have hz7 : W7.heap.size = s6 + 3 := by rw [← hW7]; simp; omega
      rw [hW7] at hI6 c7 c8 ⊢
      clear hW7
      have hK7 : KT w := HK.out
      have hgs : g < s6 := by omega
      have hws : w.heap.size < s6 := by omega
      refine (wpIn_wide (n := 9)).1 ?_
      refine wpIn_rangeFunc_ownF rfl (by omega) (gf := 80) (lb := #[.pointer (some ⟨s6 + 1, 0, none⟩), .pointer (some ⟨s6 + 1 + 1, 0, none⟩)]) rfl trivial (enters_of Tryd.func80 (by kernel_rfl) rfl)
        (chunk_stops 8 (by omega) (s6 + 1) (s6 + 1 + 1) g k0 c4 hg4 hcm W7 (by omega) (by omega) c7 c8) KB.trans (kb_b (by omega) (by omega)) (Below.refl _ _) (fun _ => rfl)
        (fun pre W => RI w s6 g (64 * k0) c4 m (pre.map Fin.val) W) (fun _ _ _ => False)
        (fun s A B row hs hg hr => hs.grown hg (fun he => by have := (hr _ he.symm).1; omega) (fun he => by have := (hr _ he.symm).1; omega) (fun k hk => by have := (hr k hk).1; omega))
        (fun _ _ _ _ _ hs _ _ => hs) hI6 ?a1 ?assign ?body ?done ?stop
      case assign =>
        intro l x W K hK
        gi_wp2
        exact hK
      case body =>
        rintro l pre x W hI hlen2
        have hAR := hI.st
        have hp := bs_part hI.bs (64 * x.val) (by have := x.isLt; omega)
        have hok := foldB_ok m (pre.map Fin.val)
        have hKW : KT W := hK7.below hI.bel (Nat.le_refl _)
        gi_wp2_with (refine ⟨trivial, ?_⟩; gi_at_call 78; refine (CallsIn.inRound l (callsIn_wide.2 (block_ar _ hAR hok.1 hok.2 hp hKW))).mono ?_; rintro e w' ⟨⟨v, rfl⟩, hA', hg'⟩)
        refine ⟨KeepsOthers.of_grownBy hg' (fun j o hj ho => ?_), ⟨hg'.block _ (by have := hI.sz; omega) (by simp), hg'.block _ (by have := hI.sz; omega) (by simp; omega)⟩, ?_⟩
        · cases hj
          have h1 := hI.st
          unfold AR at h1
          rw [h1] at ho; cases ho; rfl
        · show RI w s6 g (64 * k0) c4 m ((pre ++ [x]).map Fin.val) w'
          rw [List.map_append]; exact hI.step x.val hA' hg' (by omega) hws
      case done =>
        rintro D ys W hD hys hI hK
        have hfin : foldB m (ys.map Fin.val) = blocksS k0 hS m := by rw [hys, foldB_range]
        have hok := foldB_ok m (ys.map Fin.val)
        rw [hfin] at hok
        obtain ⟨v0, v1, v2, v3, v4, v5, v6, v7, hv⟩ := eight hok.1
        have hst := hI.st
        rw [hfin, hv] at hst
        rw [hv] at hok
        have hsl := hI.sz
        have y0 := hst.cell 0 _ rfl
        have y1 := hst.cell 1 _ rfl
        have y2 := hst.cell 2 _ rfl
        have y3 := hst.cell 3 _ rfl
        have y4 := hst.cell 4 _ rfl
        have y5 := hst.cell 5 _ rfl
        have y6 := hst.cell 6 _ rfl
        have y7 := hst.cell 7 _ rfl
        have Hv := Lib.hid hv
        have HI := Lib.hid hI
        have HKd := Lib.hid hK
        have HD := Lib.hid hD
        clear hv hI hK hD hst hys hfin
        have hs6lt : s6 < W.heap.size := by omega
        go_wp2
        generalize hW8 : W.alloc _ = W8
        obtain ⟨o8, ho8⟩ : ∃ o8, W.heap.size = o8 := ⟨_, rfl⟩
        obtain ⟨d, hd⟩ : ∃ d, [v0, v1, v2, v3, v4, v5, v6, v7].flatMap wordB = d := ⟨_, rfl⟩
        have hdl : d.length = 32 := by rw [← hd, wordsB_len]; rfl
        have hA8 : AB W8 o8 26 (outF d 0) := by
          have h0 : outF d 0 = List.replicate 32 0 := by unfold outF; rw [hdl]; rfl
          rw [h0, ← hW8, ← ho8]; exact heap_alloc_new W _
        have hg8 : W.grownBy W8 none := by rw [← hW8]; exact World.grownBy_alloc W _ _
        have Hd := Lib.hid hd
        have Hdl := Lib.hid hdl
        have Hg8 := Lib.hid hg8
        have Hok := Lib.hid hok.2
        rw [ho8]
        rw [ho8] at hs6lt hsl
        clear hd hdl hW8 hg8 hok y0 y1 y2 y3 y4 y5 y6 y7
        go_loopw [48] (fun s48 wr => ∃ i : Nat, i ≤ 8 ∧ s48 = .int .i64 (i : Int) ∧ AB wr o8 26 (outF d (4 * i)) ∧ W8.grownBy wr (some o8)) (fun s48 _ => 8 - (intOf s48).toNat)
        case atStart => exact ⟨0, by omega, rfl, hA8, World.grownBy.refl W8 _⟩
        case round =>
          obtain ⟨i, hi, rfl, hA, hgr⟩ := hrel
          by_cases hlt : i < 8
          · obtain ⟨x, hx⟩ : ∃ x, [v0, v1, v2, v3, v4, v5, v6, v7][i]? = some x := ⟨_, List.getElem?_eq_getElem (by simpa using hlt)⟩
            have hix := index_state _ _ _ _ _ _ _ _ i x hx
            have hxl : x < 4294967296 := Hok.out x (List.mem_of_getElem? hx)
            have HX := Lib.hid hx
            have HA := Lib.hid hA
            have Hgr := Lib.hid hgr
            clear hx hA hgr
            go_wp2
            obtain ⟨W9, rfl⟩ : ∃ W9, W9 = wr := ⟨wr, rfl⟩
            obtain ⟨m4, hm4⟩ : ∃ m4, 4 * i = m4 := ⟨_, rfl⟩
            have h4 : 4 * (i : Int) = (m4 : Int) := by omega
            have hm32 : m4 + 4 ≤ 32 := by omega
            have hA9 := HA.out
            rw [hm4] at hA9
            have Hm4 := Lib.hid hm4
            clear hm4
            go_loopw [52] (fun s52 wr => ∃ k : Nat, k ≤ 4 ∧ s52 = .int .i64 (k : Int) ∧ AB wr o8 26 (outF d (m4 + k)) ∧ W9.grownBy wr (some o8)) (fun s52 _ => 4 - (intOf s52).toNat)
            case atStart => exact ⟨0, by omega, rfl, hA9, World.grownBy.refl W9 _⟩
            case round =>
              obtain ⟨k, hk, rfl, hAk, hgk⟩ := hrel
              by_cases hkl : k < 4
              · obtain ⟨y, hy⟩ : ∃ y, (outF d (m4 + k))[m4 + k]? = some y := ⟨_, List.getElem?_eq_getElem (by rw [outF_len _ _ (by rw [Hdl.out]; omega), Hdl.out]; omega)⟩
                have q1 := hAk.cell _ _ hy
                have q2 := hAk.fr (m4 + k)
                have hk4 : k = 0 ∨ k = 1 ∨ k = 2 ∨ k = 3 := by omega
                have HAk := Lib.hid hAk
                have Hgk := Lib.hid hgk
                clear hy hAk hgk hA9
                rcases hk4 with rfl | rfl | rfl | rfl
                · have hb : d[m4 + 0]? = some (UInt8.ofNat (x / 16777216)) := by
                    rw [← Hd.out, ← Hm4.out, wordsB_get _ i 0 x HX.out (by omega)]; rfl
                  have Hb := Lib.hid hb
                  clear hb
                  try rw [Nat.add_zero] at q1 q2
                  rw [show ((0 : Nat) : Int) = 0 from rfl]
                  go_wp2
                  go_roundw
                  case rel =>
                    refine ⟨0 + 1, by omega, rfl, ?_, grown_trans Hgk.out (grownBy_setCell _ _ _)⟩
                    rw [bx (x / 16777216) _ (by omega)]
                    have h9 := HAk.out.set_ (m4 + 0) (UInt8.ofNat (x / 16777216))
                    rw [outF_set d _ _ Hb.out] at h9
                    exact h9
                  case measure => simp [intOf]
                · have hb : d[m4 + 1]? = some (UInt8.ofNat (x / 65536)) := by
                    rw [← Hd.out, ← Hm4.out, wordsB_get _ i 1 x HX.out (by omega)]; rfl
                  have Hb := Lib.hid hb
                  clear hb
                  try rw [Nat.add_zero] at q1 q2
                  rw [show ((1 : Nat) : Int) = 1 from rfl]
                  go_wp2
                  go_roundw
                  case rel =>
                    refine ⟨1 + 1, by omega, rfl, ?_, grown_trans Hgk.out (grownBy_setCell _ _ _)⟩
                    rw [bx (x / 65536) _ (by omega)]
                    have h9 := HAk.out.set_ (m4 + 1) (UInt8.ofNat (x / 65536))
                    rw [outF_set d _ _ Hb.out] at h9
                    exact h9
                  case measure => simp [intOf]
                · have hb : d[m4 + 2]? = some (UInt8.ofNat (x / 256)) := by
                    rw [← Hd.out, ← Hm4.out, wordsB_get _ i 2 x HX.out (by omega)]; rfl
                  have Hb := Lib.hid hb
                  clear hb
                  try rw [Nat.add_zero] at q1 q2
                  rw [show ((2 : Nat) : Int) = 2 from rfl]
                  go_wp2
                  go_roundw
                  case rel =>
                    refine ⟨2 + 1, by omega, rfl, ?_, grown_trans Hgk.out (grownBy_setCell _ _ _)⟩
                    rw [bx (x / 256) _ (by omega)]
                    have h9 := HAk.out.set_ (m4 + 2) (UInt8.ofNat (x / 256))
                    rw [outF_set d _ _ Hb.out] at h9
                    exact h9
                  case measure => simp [intOf]
                · have hb : d[m4 + 3]? = some (UInt8.ofNat (x)) := by
                    rw [← Hd.out, ← Hm4.out, wordsB_get _ i 3 x HX.out (by omega)]; rfl
                  have Hb := Lib.hid hb
                  clear hb
                  try rw [Nat.add_zero] at q1 q2
                  rw [show ((3 : Nat) : Int) = 3 from rfl]
                  go_wp2
                  go_roundw
                  case rel =>
                    refine ⟨3 + 1, by omega, rfl, ?_, grown_trans Hgk.out (grownBy_setCell _ _ _)⟩
                    rw [bx (x) _ (by omega)]
                    have h9 := HAk.out.set_ (m4 + 3) (UInt8.ofNat (x))
                    rw [outF_set d _ _ Hb.out] at h9
                    exact h9
                  case measure => simp [intOf]
              · obtain rfl : k = 4 := by omega
                rw [show ((4 : Nat) : Int) = 4 from rfl]
                have HA4 := Lib.hid (show AB wr o8 26 (outF d (4 * (i + 1))) by rw [show 4 * (i + 1) = m4 + 4 by have := Hm4.out; omega]; exact hAk)
                have Hg4 := Lib.hid (grown_trans Hgr.out hgk)
                clear hAk hgk
                go_wp2
                go_roundw
                case rel => exact ⟨i + 1, by omega, by go_num, HA4.out, Hg4.out⟩
                case measure => simp [intOf]; omega
          · obtain rfl : i = 8 := by omega
            rw [show ((8 : Nat) : Int) = 8 from rfl]
            rw [outF_all d (4 * 8) (by rw [Hdl.out])] at hA
            have hIw := HI.out
            have hAo : AB wr w.heap.size 26 (List.replicate 32 0) := (hIw.out.grown Hg8.out (by simp)).grown hgr (by simp; omega)
            have hi32 : (Tryd.prog.info? 26).map (·.size) = some (d.map B).toArray.size := by rw [List.size_toArray, List.length_map, Hdl.out]; kernel_rfl
            have h32 : ((List.replicate 32 (0 : UInt8)).map B).toArray.size = (d.map B).toArray.size := by simp [Hdl.out]
            have hone : (d.map B).toArray.all (·.oneCell') = true := by rw [Array.all_eq_true_iff_forall_mem]; intro v hv; exact one_B _ v (by simpa using hv)
            have Ha := Lib.hid hA
            have Hao := Lib.hid hAo
            have Hgr := Lib.hid hgr
            have HIw := Lib.hid hIw
            clear hgr hA hAo hIw
            go_upto_region 23 with (fail)
            go_wp2_with (first
              | (refine wpList_load_row rfl 26 _ rfl o8 rfl 26 _ _ _ Ha.out Tryd.underlying26 rfl hi32 ?_)
              | (refine wpList_store_row rfl 26 _ _ rfl w.heap.size _ rfl rfl 26 _ Hao.out hi32 h32 hone ?_))
            have hDl : D < W.heap.size := (Array.getElem?_eq_some_iff.1 HKd.out).1
            have hD2 := HD.out
            have hgw : W.grownBy wr (some o8) := grown_trans (grown_weak Hg8.out) Hgr.out
            have hgf := grownBy_setRow wr w.heap.size (d.map B).toArray
            have hK2 : (wr.setRow w.heap.size (d.map B).toArray).heap[D]? = some (.deferred (some [])) := by
              rw [hgf.block D (by have := hgw.size; omega) (by simp; omega), hgw.block D hDl (by simp; omega)]
              exact HKd.out
            refine ⟨by simp, .inl ⟨_, _, rfl, run_takeDeferred hK2, ?_⟩⟩
            have hrow : ((wr.setRow w.heap.size (d.map B).toArray).putObj D (.deferred none)).heap[w.heap.size]? = some (.cells (d.map B).toArray 26 (0, 0)) := by
              rw [World.putObj_heap_other (by omega)]
              exact setRow_heap _ _ _ _ _ _ Hao.out
            refine ⟨_, results_cell_row rfl _ _ _ _ _ _ _ rfl hrow Tryd.underlying26 rfl hi32, ?_, ?_⟩
            · rw [HP.out, Hs.out, Hv.out, Hd.out]
            · have b1 := HIw.out.bel
              have b2 := b1.grown hgw b1.size (fun k hk => by cases hk; have := b1.size; omega)
              have b3 := b2.grown hgf b2.size (fun k hk => by cases hk; omega)
              exact b3.grown (grownBy_putObj' _ D _) b3.size (fun k hk => by cases hk; omega)
      case stop =>
        rintro D c pre W _ _ h _
        exact h.elim
end Go.Proofs.YtkhcpnmbhbhcgaaDoor
