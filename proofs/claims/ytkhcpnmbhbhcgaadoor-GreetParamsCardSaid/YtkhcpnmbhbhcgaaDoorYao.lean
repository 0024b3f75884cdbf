/- What ref02.Sum's walk needs: words by or, an own row's cell turned, the block's words as they grow. -/
import Derived.Test.YtkhcpnmbhbhcgaaDoorYan
import Derived.Test.YtkhcpnmbhbhcgaaDoorYac
import Derived.Test.YtkhcpnmbhbhcgaaDoorYah
set_option maxRecDepth 100000
set_option linter.unusedVariables false
namespace Go.Proofs.YtkhcpnmbhbhcgaaDoor
open Go.RowKit
theorem tU : STy Tryd.prog 103 105 (.int .u32 0) 1 4 := ⟨Tryd.underlying103, by kernel_rfl, rfl, by decide⟩
theorem one_U (xs : List Nat) : ∀ v ∈ xs.map U, v.oneCell' = true := by
  intro v hv; obtain ⟨x, _, rfl⟩ := List.mem_map.1 hv; rfl
theorem kS_eq : kS = ((prAcc 312).take 64).map cubeS := by rw [primes_64]; rfl
theorem hS_eq2 : hS = ((prAcc 312).take 8).map squareS := by rw [primes_8]; rfl
theorem prAcc_lt : ∀ p ∈ prAcc 312, p < 312 := fun p h => (prAcc_two 312 p h).2
theorem testBit_not (e : Nat) (he : e < 4294967296) (i : Nat) : (4294967295 - e).testBit i = (decide (i < 32) && !e.testBit i) := by
  rw [show 4294967295 - e = 2 ^ 32 - (e + 1) by omega, Nat.testBit_two_pow_sub_succ (x := e) (n := 32) (by omega)]
theorem ch_or (e f g : Nat) (he : e < 4294967296) : (e &&& f) ||| ((4294967295 - e) &&& g) = chS e f g := by
  unfold chS
  apply Nat.eq_of_testBit_eq
  intro i
  simp only [Nat.testBit_or, Nat.testBit_and, Nat.testBit_xor, testBit_not e he]
  cases e.testBit i <;> cases f.testBit i <;> cases g.testBit i <;> simp
theorem maj_or (a b c : Nat) : (a &&& b) ||| (a &&& c) ||| (b &&& c) = majS a b c := by
  unfold majS
  apply Nat.eq_of_testBit_eq
  intro i
  simp only [Nat.testBit_or, Nat.testBit_and, Nat.testBit_xor]
  cases a.testBit i <;> cases b.testBit i <;> cases c.testBit i <;> rfl
theorem ch_int3 (a b c : Nat) (ha : a < 4294967296) (hb : b < 4294967296) (hc : c < 4294967296) : bits .or .u32 (bits .and .u32 (a : Int) (b : Int)) (bits .and .u32 (bits .xor .u32 (if IntKind.u32.signed = true then -1 else IntKind.u32.max) (a : Int)) (c : Int)) = ((chS a b c : Nat) : Int) := by
  rw [if_neg (by decide), show IntKind.u32.max = ((4294967295 : Nat) : Int) from rfl, u32_xor_nat _ _ (by omega) ha, not32 a ha, u32_and_nat _ _ ha hb, u32_and_nat _ _ (by omega) hc,
    u32_or_nat _ _ (and_lt32 _ _ ha) (and_lt32 _ _ (by omega)), ch_or a b c ha]
theorem maj_int3 (a b c : Nat) (ha : a < 4294967296) (hb : b < 4294967296) (hc : c < 4294967296) : bits .or .u32 (bits .or .u32 (bits .and .u32 (a : Int) (b : Int)) (bits .and .u32 (a : Int) (c : Int))) (bits .and .u32 (b : Int) (c : Int)) = ((majS a b c : Nat) : Int) := by
  rw [u32_and_nat _ _ ha hb, u32_and_nat _ _ ha hc, u32_and_nat _ _ hb hc, u32_or_nat _ _ (and_lt32 _ _ ha) (and_lt32 _ _ ha),
    u32_or_nat _ _ (Nat.or_lt_two_pow (n := 32) (and_lt32 _ _ ha) (and_lt32 _ _ ha)) (and_lt32 _ _ hb), maj_or]
theorem OW.set {w : World} {base : Nat} {e : TypeId} {g n c : Nat} {vs : List Value} (h : OW w base e 1 (some ⟨g, 0, none⟩) n c vs) (i : Nat) (v : Value) (hi : i < n) (hv : v.oneCell' = true) : OW (w.setCell ⟨g, i, none⟩ v) base e 1 (some ⟨g, 0, none⟩) n c (vs.set i v) := by
  rcases h.shape with ⟨h0, _⟩ | ⟨g', cur, h0, h1, h2, h3, h4, h5, h6, h7⟩
  · cases h0
  · cases h0
    refine OW.mk' g (cur.setIfInBounds i v) h1 ?_ h4 h5 (by simpa using h6) ?_ (fun x hx => ?_)
    · exact heap_setCell_same w g i cur e v h3
    · rw [← h7]; simp [List.take_set]
    · rcases List.mem_or_eq_of_mem_set hx with hx | hx
      · exact h.2 x hx
      · rw [hx]; exact hv
theorem OW.fr {w : World} {base : Nat} {e : TypeId} {z g n c : Nat} {vs : List Value} (h : OW w base e z (some ⟨g, 0, none⟩) n c vs) (i : Nat) : w.frozen? ⟨g, i, none⟩ = false := by
  rcases h.shape with ⟨h0, _⟩ | ⟨g', cur, h0, h1, h2, h3, h4, h5, h6, h7⟩
  · cases h0
  · cases h0
    exact frozen_of_row w g i cur e h3
theorem OW.cell_ {w : World} {base : Nat} {e : TypeId} {g n c : Nat} {vs : List Value} (h : OW w base e 1 (some ⟨g, 0, none⟩) n c vs) (i : Nat) (v : Value) (hv : vs[i]? = some v) : w.cell? ⟨g, i, none⟩ = some v := by
  have := (h.rs.2.2.2.2.2 ⟨g, 0, none⟩ rfl).2 i v hv
  simpa using this
theorem btrans2 {w w1 w2 : World} (h : Below w.heap.size w w1) (k : Below w1.heap.size w1 w2) : Below w.heap.size w w2 := h.trans (k.mono h.size)
/-- the words while they grow -/
def wsAt (p : List UInt8) (i : Nat) : List Nat := if i ≤ 16 then (words p).take i else sched p (i - 16)
theorem wsAt_len (p : List UInt8) (i : Nat) : (wsAt p i).length = i := by
  unfold wsAt; split
  · rw [List.length_take, words_len]; omega
  · rw [sched_len]; omega
theorem wsAt_lo (p : List UInt8) (i : Nat) (h : i < 16) : wsAt p (i + 1) = wsAt p i ++ [be4 ((p.drop (4 * i)).take 4)] := by
  unfold wsAt; rw [if_pos (by omega), if_pos (by omega), List.take_add_one, words_get p i h]; rfl
theorem wsAt_hi (p : List UInt8) (i : Nat) (h : 16 ≤ i) : wsAt p i = sched p (i - 16) := by
  unfold wsAt; split
  · obtain rfl : i = 16 := by omega
    rw [List.take_of_length_le (by rw [words_len]; omega)]; rfl
  · rfl
theorem wsAt_more (p : List UInt8) (i : Nat) (h : 16 ≤ i) : wsAt p (i + 1) = wsAt p i ++ [((wsAt p i).getD (i - 16) 0 + sg0 ((wsAt p i).getD (i - 15) 0) + (wsAt p i).getD (i - 7) 0 + sg1 ((wsAt p i).getD (i - 2) 0)) % 4294967296] := by
  rw [wsAt_hi p i h, wsAt_hi p (i + 1) (by omega), show i + 1 - 16 = (i - 16) + 1 by omega]
  have hl := sched_len p (i - 16)
  show sched p (i - 16 + 1) = _
  unfold sched
  rw [iter_succ]
  show moreW (sched p (i - 16)) = _
  unfold moreW
  rw [hl, show 16 + (i - 16) - 16 = i - 16 by omega, show 16 + (i - 16) - 15 = i - 15 by omega, show 16 + (i - 16) - 7 = i - 7 by omega, show 16 + (i - 16) - 2 = i - 2 by omega]
  rfl
theorem wsAt_64 (p : List UInt8) : wsAt p 64 = schedS p := wsAt_hi p 64 (by omega)
theorem wsAt_lt (p : List UInt8) (i : Nat) : ∀ x ∈ wsAt p i, x < 4294967296 := by
  intro x hx
  unfold wsAt at hx
  split at hx
  · exact words_lt p x (List.mem_of_mem_take hx)
  · exact sched_lt p _ x hx
theorem wsAt_get (p : List UInt8) (i j : Nat) (h : j < i) : ((wsAt p i).map U)[j]? = some (.int .u32 ((((wsAt p i).getD j 0) : Nat) : Int)) ∧ (wsAt p i).getD j 0 < 4294967296 := by
  have hl := wsAt_len p i
  obtain ⟨x, hx⟩ : ∃ x, (wsAt p i)[j]? = some x := ⟨_, List.getElem?_eq_getElem (by omega)⟩
  have e : (wsAt p i).getD j 0 = x := by rw [List.getD_eq_getElem?_getD, hx]; rfl
  rw [e, List.getElem?_map, hx]
  exact ⟨rfl, wsAt_lt p i x (List.mem_of_getElem? hx)⟩
def lenS : Value → Nat
  | .slice _ n _ => n
  | _ => 0
/-- rounds' state -/
structure VQ (p : List UInt8) (ss : List Nat) (j : Nat) (vs : List Nat) : Prop where
  hv : RV p ss j = vs
  lt : ∀ x ∈ vs, x < 4294967296
theorem pad_snoc (p : List UInt8) (z : Nat) : (p ++ [128] ++ List.replicate z 0).map B ++ [.int .u8 0] = (p ++ [128] ++ List.replicate (z + 1) 0).map B := by
  rw [List.replicate_succ', ← List.append_assoc, List.map_append (l₁ := p ++ [128] ++ List.replicate z 0)]
  rfl
/-- between two rounds: the eight letters and the round's number -/
structure LR (p : List UInt8) (ss : List Nat) (W11 : World) (s16 s17 s18 s19 s20 s21 s22 s23 s198 : Value) (wr : World) : Prop where
  ex : ∃ (j q v0 v1 v2 v3 v4 v5 v6 v7 : Nat), j ≤ 64 ∧ s198 = .int .i64 (j : Int) ∧ s16 = .int .u32 (v0 : Int) ∧ s17 = .int .u32 (v1 : Int) ∧ s18 = .int .u32 (v2 : Int) ∧ s19 = .int .u32 (v3 : Int) ∧ s20 = .int .u32 (v4 : Int) ∧ s21 = .int .u32 (v5 : Int) ∧ s22 = .int .u32 (v6 : Int) ∧ s23 = .int .u32 (v7 : Int) ∧ VQ p ss j [v0, v1, v2, v3, v4, v5, v6, v7] ∧ wr = W11.drewN q
/-- the round's two constants, out of the walk's sight -/
structure KW (p : List UInt8) (j k w : Nat) : Prop where
  hk : kS[j]? = some k
  hw : (schedS p)[j]? = some w
theorem VQ.next {p : List UInt8} {ss : List Nat} {j k w v0 v1 v2 v3 v4 v5 v6 v7 X Y : Nat} (h : VQ p ss j [v0, v1, v2, v3, v4, v5, v6, v7]) (hk : KW p j k w)
    (hX : (v7 + Sg1 v4 + chS v4 v5 v6 + k + w) % 4294967296 = X) (hY : (Sg0 v0 + majS v0 v1 v2) % 4294967296 = Y) :
    VQ p ss (j + 1) [(X + Y) % 4294967296, v0, v1, v2, (v3 + X) % 4294967296, v4, v5, v6] := by
  refine ⟨?_, ?_⟩
  · rw [RV_succ p ss j k w hk.hk hk.hw, h.hv, ← hX, ← hY]; rfl
  · intro x hx
    simp only [List.mem_cons, List.not_mem_nil, or_false] at hx
    have b := h.lt
    rcases hx with rfl | rfl | rfl | rfl | rfl | rfl | rfl | rfl
    · omega
    · exact b _ (by simp)
    · exact b _ (by simp)
    · exact b _ (by simp)
    · omega
    · exact b _ (by simp)
    · exact b _ (by simp)
    · exact b _ (by simp)
/-- the state behind a block, out of the walk's sight -/
structure BQ (ss : List Nat) (p : List UInt8) (vs : List Nat) : Prop where
  h : blockS ss p = mixW ss vs 8
  len : vs.length = 8
theorem VQ.all {p : List UInt8} {ss : List Nat} {v0 v1 v2 v3 v4 v5 v6 v7 : Nat} (h : VQ p ss 64 [v0, v1, v2, v3, v4, v5, v6, v7]) (hl : ss.length = 8) : BQ ss p [v0, v1, v2, v3, v4, v5, v6, v7] :=
  ⟨by rw [blockS_eq ss p _ h.hv, mixW_all ss _ 8 hl rfl], rfl⟩
/-- between two blocks -/
structure MQr (w5 wr : World) (gs cs base : Nat) (m : List UInt8) (k0 t : Nat) (a : Option Addr) (n c : Nat) : Prop where
  le : t ≤ k0
  hn : n = 64 * (k0 - t)
  bs : BS w5 a n c (m.drop (64 * t))
  ne : ∀ ad, a = some ad → ad.block ≠ gs
  st : OW wr base 105 1 (some ⟨gs, 0, none⟩) 8 cs ((blocksS t hS m).map U)
  gr : w5.grownBy wr (some gs)
end Go.Proofs.YtkhcpnmbhbhcgaaDoor
