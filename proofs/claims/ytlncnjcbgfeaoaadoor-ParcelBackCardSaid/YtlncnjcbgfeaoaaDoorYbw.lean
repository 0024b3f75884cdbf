/- The program's Bytes of a long head. -/
import Derived.Test.YtlncnjcbgfeaoaaDoorYbs
import Derived.Test.YtlncnjcbgfeaoaaDoorYbv
import Derived.Test.YtlncnjcbgfeaoaaDoorYbq
import Derived.Test.YtlncnjcbgfeaoaaDoorYao
set_option maxRecDepth 100000
set_option linter.unusedVariables false
namespace Go.Proofs.YtlncnjcbgfeaoaaDoor
open Go.RowKit
theorem shortV (w : World) : Calls Tryd.prog 63 #[.int .u64 1, .int .i64 4] w (Made w 4 [.int .u8 0, .int .u8 0, .int .u8 0, .int .u8 1]) := short_any w 1 4 (by omega) (by omega)
theorem or_lv0 (S : Nat) (h1 : 1 ≤ S) (h4 : S ≤ 4) : bits .or .u8 (64 + (S : Int) - 1) 128 = 191 + (S : Int) := by
  have : S = 1 ∨ S = 2 ∨ S = 3 ∨ S = 4 := by omega
  rcases this with rfl | rfl | rfl | rfl <;> decide
theorem or_lv1 (S : Nat) (h1 : 1 ≤ S) (h4 : S ≤ 4) : bits .or .u8 (64 + (S : Int) - 1) 160 = 223 + (S : Int) := by
  have : S = 1 ∨ S = 2 ∨ S = 3 ∨ S = 4 := by omega
  rcases this with rfl | rfl | rfl | rfl <;> decide
section bb
variable {w : World} {a b : Option Addr} {n c m k : Nat} {pn : Nat}
set_option maxHeartbeats 4000000 in
theorem pb_long0 {t f : List UInt8} (hp : pn < 18446744073709551616) (S L : Nat) (h1 : 1 ≤ S) (h4 : S ≤ 4) (hL : S + L ≤ 16383) (hn : n < 21) (hm : m < 21) (ht : BS w a n c t) (hf : BS w b m k f) (hk : KG w) :
    Calls Tryd.prog 45 #[.agg #[.bool true, .int .i64 0, .bool false, .slice a n c, .slice b m k], .int .u64 (pn : Int), .int .i64 (S : Int), .int .i64 (L : Int)] w
      fun e w' => ∃ a' c', e = .returned (.tuple #[.slice a' (lenL 0 t f + S) c', .int .i64 0]) ∧ OW w' w.heap.size 5 1 a' (lenL 0 t f + S) c' ((bytesLong 0 t f S L pn).map B) ∧ Below w.heap.size w w' := by
  have T := pright_any (w.alloc (gobj true 0 false (.slice a n c) (.slice b m k))) true 0 false (a := a) (b := b) (n := n) (c := c) (m := m) (k := k)
  rw [show rightS true 0 false n m = true by simp [rightS]; omega] at T
  have HT := Lib.hid T
  have c3 : ¬ ((L : Int) < 0) := by omega
  have c4 : ¬ (16384 - (S : Int) ≤ (L : Int)) := by omega
  have ht1 := ht.alloc (gobj true 0 false (.slice a n c) (.slice b m k))
  have hf1 := hf.alloc (gobj true 0 false (.slice a n c) (.slice b m k))
  have hH : HB (w.alloc (gobj true 0 false (.slice a n c) (.slice b m k))) w.heap.size true 0 false (.slice a n c) (.slice b m k) := heap_alloc_new w _
  have kk := hk.below (below_alloc w (gobj true 0 false (.slice a n c) (.slice b m k)))
  have ho1 := or_64i S (by omega)
  have ho2 := or_lv0 S h1 h4
  clear T ht hf
  go_enter Tryd.func45, Tryd.ntmps45
  go_wp2_with (first
    | (go_at_call 61; refine HT.out.mono ?_; rintro e w1 ⟨rfl, b1⟩; have hH1 := hH.grown (grown_of_below (row := none) b1) (by simp); have z1 := hH1.cells; have k1 := kk.below b1; have k2 := k1.1; have k3 := k1.2)
    | (go_at_call 63; refine (shortV _).mono ?_; rintro e w2 ⟨a2, c2, rfl, g3, g4⟩)
    | (at_builtin; refine L_append tB (OW.below (OW_made w1 w1.heap.size _ 1 #[_] 1 (Nat.le_refl _) rfl (by unfold maxLen; omega) (by simp [Value.oneCell'])) g4 (Nat.le_refl _)) g3.rs _ _ rfl rfl rfl rfl (by omega) (by unfold maxLen; omega) (by have h9 := g4.size; simp at h9; omega) ?_; intro a3 c3 w3 o3 g5; have b3 : Below w1.heap.size w1 w3 := ((below_alloc w1 _).trans (g4.mono (by simp))).grown g5 (by have h9 := g4.size; simp at h9; omega) (by intro q hq; simp at hq; omega); have z3 := (hH1.grown (grown_of_below (row := none) b3) (by simp)).cells))
  have hz1 := hH1.lt
  have b01 : Below w.heap.size w w1 := (below_alloc w _).trans (b1.mono (by simp))
  have ht2 := RS.below ht1 b1 (Nat.le_refl _)
  have hf2 := RS.below hf1 b1 (Nat.le_refl _)
  have htl := BS.len ht1
  have hfl := BS.len hf1
  obtain ⟨w4, hw4⟩ : ∃ W, w3.alloc (.cells #[.slice a n c, .slice b m k] 23) = W := ⟨_, rfl⟩
  have R4 : OW w4 w3.heap.size 23 1 (some ⟨w3.heap.size, 0, none⟩) 2 2 [.slice a n c, .slice b m k] := by
    rw [← hw4]; exact OW_made w3 w3.heap.size _ 1 #[.slice a n c, .slice b m k] 2 (Nat.le_refl _) rfl (by unfold maxLen; omega) (by simp [Value.oneCell'])
  have o4 : OW w4 w1.heap.size 5 1 a3 5 c3 [.int .u8 (191 + (S : Int)), .int .u8 0, .int .u8 0, .int .u8 0, .int .u8 1] := by rw [← hw4]; exact o3.alloc _
  have b4 : Below w1.heap.size w1 w4 := by rw [← hw4]; exact b3.alloc b3.size _
  rw [hw4]
  have r0 := R4.cell 0 _ rfl
  have hs4 := b4.size
  have o4a := o4.alloc (.cells #[.int .u8 (n : Int)] 5)
  have R4a := R4.alloc (.cells #[.int .u8 (n : Int)] 5)
  clear hw4 o3 g3 g4 g5 z1 z3 k1 k2 k3 kk hH ht1 hf1 b1 HT b3
  refine wp_loop_rounds 3 ?_
  rw [rounds_succ]
  go_wp2_with (first
    | (at_builtin; refine L_append tB o4a (RS_one _ _ _ rfl) _ _ rfl rfl rfl rfl (by omega) (by unfold maxLen; omega) (by simp; omega) ?_; intro a5 c5 w5 o5 g6; have b5 : Below w1.heap.size w1 w5 := below_own (b4.alloc hs4 _) o4a g6 (Nat.le_refl _) (by simp; omega); have hs5 := b5.size; have ht5 := RS.below ht2 b5 (Nat.le_refl _); have R5 := R4a.grown g6 (OW.ne R4a o4a (by decide)))
    | (at_builtin; refine L_append tB o5 ht5 _ _ rfl rfl rfl rfl (by omega) (by unfold maxLen; omega) hs5 ?_; intro a6 c6 w6 o6 g7; have b6 : Below w1.heap.size w1 w6 := below_own b5 o5 g7 (Nat.le_refl _) hs5; have hs6 := b6.size; have R6 := R5.grown g7 (OW.ne R5 o5 (by decide)); have r1 := R6.cell 1 _ rfl))
  have o6a := o6.alloc (.cells #[.int .u8 (m : Int)] 5)
  have hf6 := RS.below hf2 b6 (Nat.le_refl _)
  clear o4 o4a o5 R4 R4a R5 R6 r0 g6 g7 ht2 ht5 b4 b5
  rw [rounds_succ]
  go_wp2_with (first
    | (at_builtin; refine L_append tB o6a (RS_one _ _ _ rfl) _ _ rfl rfl rfl rfl (by omega) (by unfold maxLen; omega) (by simp; omega) ?_; intro a7 c7 w7 o7 g8; have b7 : Below w1.heap.size w1 w7 := below_own (b6.alloc hs6 _) o6a g8 (Nat.le_refl _) (by simp; omega); have hs7 := b7.size; have hf7 := RS.below hf2 b7 (Nat.le_refl _))
    | (at_builtin; refine L_append tB o7 hf7 _ _ rfl rfl rfl rfl (by omega) (by unfold maxLen; omega) hs7 ?_; intro a8 c8 w8 o8 g9; have b8 : Below w1.heap.size w1 w8 := below_own b7 o7 g9 (Nat.le_refl _) hs7; have hs8 := b8.size; have z8 := (hH1.grown (grown_of_below (row := none) b8) (by simp)).cells))
  have HW : ∀ w5, Calls Tryd.prog 64 #[.int .u64 ((S : Int) + (L : Int)), .int .i64 2] w5 fun e w' => ∃ a c, e = .returned (.tuple #[.slice a 2 c, .int .i64 0]) ∧ OW w' w5.heap.size 5 1 a 2 c ((wide2 (S + L)).map B) ∧ Below w5.heap.size w5 w' := by
    intro w5
    have := pwide_any w5 (S + L) (by omega) (by omega)
    rw [Int.natCast_add] at this
    exact this
  have hv : (bytesLong 0 t f S L pn).map B = .int .u8 (191 + (S : Int)) :: .int .u8 0 :: .int .u8 0 :: .int .u8 0 :: .int .u8 1 :: .int .u8 (n : Int) :: (t.map B ++ .int .u8 (m : Int) :: (f.map B ++ ((if 0 = 0 then [.int .u8 0] else []) ++ ((wide2 (S + L)).map B ++ (beB S pn).map B)))) := by
    unfold bytesLong
    rw [htl, hfl]
    simp [B_eq, UInt8.toNat_ofNat']
    omega
  have HV := Lib.hid hv
  have hN : 5 + 1 + n + 1 + m + 1 + 2 + S = lenL 0 t f + S := by unfold lenL; rw [htl, hfl]; simp; omega
  have HN := Lib.hid hN
  clear hv hN o6 o6a o7 hf6 hf7 r1 b6 b7 g8 g9 hf2
  have o8a := o8.alloc (.cells #[.int .u8 0] 5)
  rw [rounds_succ]
  go_wp2_with (first
    | (at_builtin; refine L_append tB o8a (RS_one _ _ _ rfl) _ _ rfl rfl rfl rfl (by omega) (by unfold maxLen; omega) (by simp; omega) ?_; intro a9 c9 w9 o9 g10; have b9 : Below w1.heap.size w1 w9 := below_own (b8.alloc hs8 _) o8a g10 (Nat.le_refl _) (by simp; omega); have hs9 := b9.size)
    | (go_at_call 64; refine (HW _).mono ?_; rintro e w10 ⟨a10, c10, rfl, x10, b10⟩; have o10 := o9.below b10 (Nat.le_refl _); have d10 := below_then b9 b10 b9.size; have hs10 := d10.size)
    | (at_builtin; refine L_append tB o10 x10.rs _ _ rfl rfl rfl rfl (by omega) (by unfold maxLen; omega) hs10 ?_; intro a11 c11 w11 o11 g11; have b11 : Below w1.heap.size w1 w11 := below_own d10 o10 g11 (Nat.le_refl _) hs10; have hs11 := b11.size)
    | (go_at_call 63; refine (shortN _ pn S h1 h4).mono ?_; rintro e w12 ⟨a12, c12, rfl, x12, b12⟩; have o12 := o11.below b12 (Nat.le_refl _); have d12 := below_then b11 b12 b11.size; have hs12 := d12.size)
    | (at_builtin; refine L_append tB o12 x12.rs _ _ rfl rfl rfl rfl (by omega) (by unfold maxLen; omega) hs12 ?_; intro a13 c13 w13 o13 g13; have b13 : Below w1.heap.size w1 w13 := below_own d12 o12 g13 (Nat.le_refl _) hs12))
  have o14 := o13.mono (base' := w.heap.size) (by omega)
  rw [HN.out] at o14
  go_ret2
  refine ⟨a13, c13, (by rw [← HN.out]; rfl), ?_, b01.trans (b13.mono (by omega))⟩
  rw [HV.out]
  simpa using o14
set_option maxHeartbeats 4000000 in
theorem pb_long1 {t f : List UInt8} (hp : pn < 18446744073709551616) (S L : Nat) (h1 : 1 ≤ S) (h4 : S ≤ 4) (hL : S + L ≤ 16383) (hn : n < 21) (hm : m < 21) (ht : BS w a n c t) (hf : BS w b m k f) (hk : KG w) :
    Calls Tryd.prog 45 #[.agg #[.bool true, .int .i64 1, .bool false, .slice a n c, .slice b m k], .int .u64 (pn : Int), .int .i64 (S : Int), .int .i64 (L : Int)] w
      fun e w' => ∃ a' c', e = .returned (.tuple #[.slice a' (lenL 1 t f + S) c', .int .i64 0]) ∧ OW w' w.heap.size 5 1 a' (lenL 1 t f + S) c' ((bytesLong 1 t f S L pn).map B) ∧ Below w.heap.size w w' := by
  have T := pright_any (w.alloc (gobj true 1 false (.slice a n c) (.slice b m k))) true 1 false (a := a) (b := b) (n := n) (c := c) (m := m) (k := k)
  rw [show rightS true 1 false n m = true by simp [rightS]; omega] at T
  have HT := Lib.hid T
  have c3 : ¬ ((L : Int) < 0) := by omega
  have c4 : ¬ (16384 - (S : Int) ≤ (L : Int)) := by omega
  have ht1 := ht.alloc (gobj true 1 false (.slice a n c) (.slice b m k))
  have hf1 := hf.alloc (gobj true 1 false (.slice a n c) (.slice b m k))
  have hH : HB (w.alloc (gobj true 1 false (.slice a n c) (.slice b m k))) w.heap.size true 1 false (.slice a n c) (.slice b m k) := heap_alloc_new w _
  have kk := hk.below (below_alloc w (gobj true 1 false (.slice a n c) (.slice b m k)))
  have ho1 := or_64i S (by omega)
  have ho2 := or_lv1 S h1 h4
  clear T ht hf
  go_enter Tryd.func45, Tryd.ntmps45
  go_wp2_with (first
    | (go_at_call 61; refine HT.out.mono ?_; rintro e w1 ⟨rfl, b1⟩; have hH1 := hH.grown (grown_of_below (row := none) b1) (by simp); have z1 := hH1.cells; have k1 := kk.below b1; have k2 := k1.1; have k3 := k1.2)
    | (go_at_call 63; refine (shortV _).mono ?_; rintro e w2 ⟨a2, c2, rfl, g3, g4⟩)
    | (at_builtin; refine L_append tB (OW.below (OW_made w1 w1.heap.size _ 1 #[_] 1 (Nat.le_refl _) rfl (by unfold maxLen; omega) (by simp [Value.oneCell'])) g4 (Nat.le_refl _)) g3.rs _ _ rfl rfl rfl rfl (by omega) (by unfold maxLen; omega) (by have h9 := g4.size; simp at h9; omega) ?_; intro a3 c3 w3 o3 g5; have b3 : Below w1.heap.size w1 w3 := ((below_alloc w1 _).trans (g4.mono (by simp))).grown g5 (by have h9 := g4.size; simp at h9; omega) (by intro q hq; simp at hq; omega); have z3 := (hH1.grown (grown_of_below (row := none) b3) (by simp)).cells))
  have hz1 := hH1.lt
  have b01 : Below w.heap.size w w1 := (below_alloc w _).trans (b1.mono (by simp))
  have ht2 := RS.below ht1 b1 (Nat.le_refl _)
  have hf2 := RS.below hf1 b1 (Nat.le_refl _)
  have htl := BS.len ht1
  have hfl := BS.len hf1
  obtain ⟨w4, hw4⟩ : ∃ W, w3.alloc (.cells #[.slice a n c, .slice b m k] 23) = W := ⟨_, rfl⟩
  have R4 : OW w4 w3.heap.size 23 1 (some ⟨w3.heap.size, 0, none⟩) 2 2 [.slice a n c, .slice b m k] := by
    rw [← hw4]; exact OW_made w3 w3.heap.size _ 1 #[.slice a n c, .slice b m k] 2 (Nat.le_refl _) rfl (by unfold maxLen; omega) (by simp [Value.oneCell'])
  have o4 : OW w4 w1.heap.size 5 1 a3 5 c3 [.int .u8 (223 + (S : Int)), .int .u8 0, .int .u8 0, .int .u8 0, .int .u8 1] := by rw [← hw4]; exact o3.alloc _
  have b4 : Below w1.heap.size w1 w4 := by rw [← hw4]; exact b3.alloc b3.size _
  rw [hw4]
  have r0 := R4.cell 0 _ rfl
  have hs4 := b4.size
  have o4a := o4.alloc (.cells #[.int .u8 (n : Int)] 5)
  have R4a := R4.alloc (.cells #[.int .u8 (n : Int)] 5)
  clear hw4 o3 g3 g4 g5 z1 z3 k1 k2 k3 kk hH ht1 hf1 b1 HT b3
  refine wp_loop_rounds 3 ?_
  rw [rounds_succ]
  go_wp2_with (first
    | (at_builtin; refine L_append tB o4a (RS_one _ _ _ rfl) _ _ rfl rfl rfl rfl (by omega) (by unfold maxLen; omega) (by simp; omega) ?_; intro a5 c5 w5 o5 g6; have b5 : Below w1.heap.size w1 w5 := below_own (b4.alloc hs4 _) o4a g6 (Nat.le_refl _) (by simp; omega); have hs5 := b5.size; have ht5 := RS.below ht2 b5 (Nat.le_refl _); have R5 := R4a.grown g6 (OW.ne R4a o4a (by decide)))
    | (at_builtin; refine L_append tB o5 ht5 _ _ rfl rfl rfl rfl (by omega) (by unfold maxLen; omega) hs5 ?_; intro a6 c6 w6 o6 g7; have b6 : Below w1.heap.size w1 w6 := below_own b5 o5 g7 (Nat.le_refl _) hs5; have hs6 := b6.size; have R6 := R5.grown g7 (OW.ne R5 o5 (by decide)); have r1 := R6.cell 1 _ rfl))
  have o6a := o6.alloc (.cells #[.int .u8 (m : Int)] 5)
  have hf6 := RS.below hf2 b6 (Nat.le_refl _)
  clear o4 o4a o5 R4 R4a R5 R6 r0 g6 g7 ht2 ht5 b4 b5
  rw [rounds_succ]
  go_wp2_with (first
    | (at_builtin; refine L_append tB o6a (RS_one _ _ _ rfl) _ _ rfl rfl rfl rfl (by omega) (by unfold maxLen; omega) (by simp; omega) ?_; intro a7 c7 w7 o7 g8; have b7 : Below w1.heap.size w1 w7 := below_own (b6.alloc hs6 _) o6a g8 (Nat.le_refl _) (by simp; omega); have hs7 := b7.size; have hf7 := RS.below hf2 b7 (Nat.le_refl _))
    | (at_builtin; refine L_append tB o7 hf7 _ _ rfl rfl rfl rfl (by omega) (by unfold maxLen; omega) hs7 ?_; intro a8 c8 w8 o8 g9; have b8 : Below w1.heap.size w1 w8 := below_own b7 o7 g9 (Nat.le_refl _) hs7; have hs8 := b8.size; have z8 := (hH1.grown (grown_of_below (row := none) b8) (by simp)).cells))
  have HW : ∀ w5, Calls Tryd.prog 64 #[.int .u64 ((S : Int) + (L : Int)), .int .i64 2] w5 fun e w' => ∃ a c, e = .returned (.tuple #[.slice a 2 c, .int .i64 0]) ∧ OW w' w5.heap.size 5 1 a 2 c ((wide2 (S + L)).map B) ∧ Below w5.heap.size w5 w' := by
    intro w5
    have := pwide_any w5 (S + L) (by omega) (by omega)
    rw [Int.natCast_add] at this
    exact this
  have hv : (bytesLong 1 t f S L pn).map B = .int .u8 (223 + (S : Int)) :: .int .u8 0 :: .int .u8 0 :: .int .u8 0 :: .int .u8 1 :: .int .u8 (n : Int) :: (t.map B ++ .int .u8 (m : Int) :: (f.map B ++ ((if 1 = 0 then [.int .u8 0] else []) ++ ((wide2 (S + L)).map B ++ (beB S pn).map B)))) := by
    unfold bytesLong
    rw [htl, hfl]
    simp [B_eq, UInt8.toNat_ofNat']
    omega
  have HV := Lib.hid hv
  have hN : 5 + 1 + n + 1 + m + 2 + S = lenL 1 t f + S := by unfold lenL; rw [htl, hfl]; simp; omega
  have HN := Lib.hid hN
  clear hv hN o6 o6a o7 hf6 hf7 r1 b6 b7 g8 g9 hf2
  have o9 := o8
  have b9 := b8
  rw [rounds_succ]
  go_wp2_with (first
    | (go_at_call 64; refine (HW _).mono ?_; rintro e w10 ⟨a10, c10, rfl, x10, b10⟩; have o10 := o9.below b10 (Nat.le_refl _); have d10 := below_then b9 b10 b9.size; have hs10 := d10.size)
    | (at_builtin; refine L_append tB o10 x10.rs _ _ rfl rfl rfl rfl (by omega) (by unfold maxLen; omega) hs10 ?_; intro a11 c11 w11 o11 g11; have b11 : Below w1.heap.size w1 w11 := below_own d10 o10 g11 (Nat.le_refl _) hs10; have hs11 := b11.size)
    | (go_at_call 63; refine (shortN _ pn S h1 h4).mono ?_; rintro e w12 ⟨a12, c12, rfl, x12, b12⟩; have o12 := o11.below b12 (Nat.le_refl _); have d12 := below_then b11 b12 b11.size; have hs12 := d12.size)
    | (at_builtin; refine L_append tB o12 x12.rs _ _ rfl rfl rfl rfl (by omega) (by unfold maxLen; omega) hs12 ?_; intro a13 c13 w13 o13 g13; have b13 : Below w1.heap.size w1 w13 := below_own d12 o12 g13 (Nat.le_refl _) hs12))
  have o14 := o13.mono (base' := w.heap.size) (by omega)
  rw [HN.out] at o14
  go_ret2
  refine ⟨a13, c13, (by rw [← HN.out]; rfl), ?_, b01.trans (b13.mono (by omega))⟩
  rw [HV.out]
  simpa using o14
end bb
end Go.Proofs.YtlncnjcbgfeaoaaDoor
