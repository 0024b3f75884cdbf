/- the reference's Bytes of a long head. -/
import Derived.Test.YtdfachjgnhljfaaDoorB2
import Derived.Test.YtdfachjgnhljfaaDoorM3
set_option maxRecDepth 100000
set_option linter.unusedVariables false
namespace Go.Proofs.YtdfachjgnhljfaaDoor
open Go.RowKit
section bb
variable {w : World} {lv : Int} {a b : Option Addr} {n c m k : Nat} {pn : Nat} {size left : Int}
set_option maxHeartbeats 2000000 in
theorem rb_long0 {t f : List UInt8} (hp : pn < 18446744073709551616) (S L : Nat) (h1 : 1 ≤ S) (h4 : S ≤ 4) (hL : S + L ≤ 16383) (hr : rightS true 0 false n m = true) (hn : n < 21) (hm : m < 21) (ht : BS w a n c t) (hf : BS w b m k f) :
    Calls Tryd.prog 29 #[.agg #[.bool true, .int .i64 0, .bool false, .slice a n c, .slice b m k], .int .u64 (pn : Int), .int .i64 (S : Int), .int .i64 (L : Int)] w
      fun e w' => ∃ a' N c', e = .returned (.tuple #[.slice a' N c', .int .i64 0]) ∧ OW w' w.heap.size 5 1 a' N c' ((bytesLong 0 t f S L pn).map B) ∧ Below w.heap.size w w' := by
  have T := right_any (w.alloc (gobj true 0 false (.slice a n c) (.slice b m k))) true 0 false (a := a) (b := b) (n := n) (c := c) (m := m) (k := k)
  rw [hr] at T
  have HT := Lib.hid T
  have c3 : ¬ ((L : Int) < 0) := by omega
  have c4 : ¬ (16383 - (S : Int) < (L : Int)) := by omega
  have ht1 := ht.alloc (gobj true 0 false (.slice a n c) (.slice b m k))
  have hf1 := hf.alloc (gobj true 0 false (.slice a n c) (.slice b m k))
  have hH : HB (w.alloc (gobj true 0 false (.slice a n c) (.slice b m k))) w.heap.size true 0 false (.slice a n c) (.slice b m k) := heap_alloc_new w _
  clear T hr ht hf
  go_enter Tryd.func29, Tryd.ntmps29
  go_wp2_with (go_at_call 49; refine HT.out.mono ?_; rintro e w1 ⟨rfl, b1⟩)
  have ht2 := RS.below ht1 b1 (Nat.le_refl _)
  have hf2 := RS.below hf1 b1 (Nat.le_refl _)
  have hH1 := hH.grown (grown_of_below (row := none) b1) (by simp)
  have hz1 := hH1.lt
  have b01 : Below w.heap.size w w1 := (below_alloc w _).trans (b1.mono (by simp))
  clear ht1 hf1 hH b1 HT
  go_loopw [10, 1, 37] (fun nv p i wr => ∃ (j : Nat) (x : Option Addr) (y : Nat), j ≤ S ∧ i = .int .i64 (j : Int) ∧ p = .int .u64 ((pn / 256 ^ j : Nat) : Int) ∧ nv = .slice x j y ∧ OW wr w.heap.size 5 1 x j y ((beB j pn).map B) ∧ Below w1.heap.size w1 wr) (fun _ _ i _ => S - (intOf i).toNat)
  case atStart => exact ⟨0, none, 0, by omega, rfl, by simp, rfl, OW_nil _ _ _ _, Below.refl _ _⟩
  case round =>
    obtain ⟨j, x, y, hj, rfl, rfl, rfl, ho, hbr⟩ := hrel
    have hszr := hbr.size
    by_cases hlt : j < S
    · have hcons := beB_cons j pn
      have hv : B (UInt8.ofNat (pn / 256 ^ j)) = .int .u8 (((pn / 256 ^ j : Nat) : Int) % 256) := by
        unfold B; rw [UInt8.toNat_ofNat']; rfl
      have hpow : pn / 256 ^ (j + 1) = pn / 256 ^ j / 256 := by rw [Nat.pow_succ, Nat.div_div_eq_div_mul]
      have hpj : pn / 256 ^ j < 18446744073709551616 := Nat.lt_of_le_of_lt (Nat.div_le_self _ _) hp
      generalize pn / 256 ^ j = P at *
      have Hc := Lib.hid hcons
      have Hv := Lib.hid hv
      have Hpow := Lib.hid hpow
      clear hcons hv hpow
      go_wp2_with (at_builtin; refine L_append tB (OW_made _ w.heap.size _ 1 #[_] 1 (by omega) rfl (by unfold maxLen; omega) (by simp [Value.oneCell'])) (ho.rs.alloc _) _ _ rfl rfl rfl rfl (by omega) (by unfold maxLen; omega) (by simp; omega) ?_; intro a1 c1 w2 o1 g1)
      have b2 : Below w1.heap.size w1 w2 := (hbr.alloc hszr _).grown g1 (by simp; omega) (by intro q hq; simp at hq; omega)
      go_roundw
      case rel =>
        refine ⟨j + 1, a1, c1, by omega, by go_num, by rw [Hpow.out]; go_num, by rw [Nat.add_comm], ?_, b2⟩
        rw [Hc.out, List.map_cons, Hv.out, Nat.add_comm j 1]
        exact o1
      case measure => simp [intOf]; omega
    · obtain rfl : j = S := by omega
      have hH2 := hH1.grown (grown_of_below (row := none) hbr) (by simp)
      have q1 := hH2.cells
      have ht3 := RS.below ht2 hbr (Nat.le_refl _)
      have hf3 := RS.below hf2 hbr (Nat.le_refl _)
      have b02 := below_then b01 hbr b01.size
      have htl := BS.len ht2
      have hfl := BS.len hf2
      have hlt2 : w.heap.size < wr.heap.size := by omega
      go_wp2_with fail
      obtain ⟨P0, hP0⟩ : ∃ P0, ([.int .u8 (192 + (j : Int) - 1), .int .u8 0, .int .u8 0, .int .u8 0, .int .u8 1, .int .u8 (n : Int)] : List Value) = P0 := ⟨_, rfl⟩
      obtain ⟨W0, hW0⟩ : ∃ W0, wr.alloc (.cells #[.int .u8 (192 + (j : Int) - 1), .int .u8 0, .int .u8 0, .int .u8 0, .int .u8 1, .int .u8 (n : Int)] 5) = W0 := ⟨_, rfl⟩
      have oP0 : OW W0 wr.heap.size 5 1 (some ⟨wr.heap.size, 0, none⟩) 6 6 P0 := by
        rw [← hP0, ← hW0]
        exact OW_made wr wr.heap.size _ 1 #[.int .u8 (192 + (j : Int) - 1), .int .u8 0, .int .u8 0, .int .u8 0, .int .u8 1, .int .u8 (n : Int)] 6 (by omega) rfl (by unfold maxLen; omega) (by simp [Value.oneCell'])
      have bW : Below wr.heap.size wr W0 := by rw [← hW0]; exact below_alloc wr _
      rw [hW0]
      have HP0 := Lib.hid hP0
      have hsW := bW.size
      have hH3 := hH2.grown (grown_of_below (row := none) bW) (by simp)
      have z := hH3.cells
      have ht4 := RS.below ht3 bW (Nat.le_refl _)
      have hWlt : wr.heap.size < W0.heap.size := (oP0.base_le rfl).2
      have z1 := (hH3.grown (grown_of_below (row := none) (below_alloc W0 (.cells #[.int .u8 (IntKind.u8.wrap (m : Int))] 5))) (by simp)).cells
      have HW : ∀ w5, Calls Tryd.prog 50 #[.int .u64 ((j : Int) + (L : Int)), .int .i64 2] w5 fun e w' => ∃ a c, e = .returned (.tuple #[.slice a 2 c, .int .i64 0]) ∧ OW w' w5.heap.size 5 1 a 2 c ((wide2 (j + L)).map B) ∧ Below w5.heap.size w5 w' := by
        intro w5
        have := wide_any w5 (j + L) (by omega) (by omega)
        rw [Int.natCast_add] at this
        exact this
      have hv : (bytesLong 0 t f j L pn).map B = .int .u8 (192 + (j : Int) - 1) :: .int .u8 0 :: .int .u8 0 :: .int .u8 0 :: .int .u8 1 :: .int .u8 (n : Int) :: (t.map B ++ .int .u8 (m : Int) :: (f.map B ++ ((if 0 = 0 then [.int .u8 0] else []) ++ ((wide2 (j + L)).map B ++ (beB j pn).map B)))) := by
        unfold bytesLong
        rw [htl, hfl]
        simp [B_eq, UInt8.toNat_ofNat']
        omega
      have HV := Lib.hid hv
      clear hv
      clear hP0 hW0 q1 ht3
      go_region_law (first
        | (refine S_append tB (OW.drew oP0) (RS.drew ht4) _ _ rfl rfl rfl rfl (by omega) (by unfold maxLen; omega) (by simp; omega) ?_; intro a1 c1 w2 o1 g1; have z2 := (HB.grown (w := W0.drew) hH3 g1 (by simp; omega)).cells; have hs2 := g1.size; have b2 : Below wr.heap.size wr w2 := bW.drew.grown g1 (by simp; omega) (by intro q hq; simp at hq; omega))
        | (refine S_append tB (OW.drew (OW.alloc oP0 _)) (RS.drew (RS.alloc ht4 _)) _ _ rfl rfl rfl rfl (by omega) (by unfold maxLen; omega) (by simp; omega) ?_; intro a1 c1 w2 o1 g1; have hl1 := RS.grown (RS.drew (RS_one W0 _ _ rfl)) g1 (by intro ad h; simp at h ⊢; rw [← h]; simp; omega); have b2 : Below wr.heap.size wr w2 := (bW.alloc hsW _).drew.grown g1 (by simp; omega) (by intro q hq; simp at hq; omega))
        | (refine S_append tB o1 hl1 _ _ rfl rfl rfl rfl (by omega) (by unfold maxLen; omega) b2.size ?_; intro a2 c2 w3 o2 g2; have b3 : Below wr.heap.size wr w3 := b2.grown g2 b2.size (by intro q hq; obtain ⟨ad, h, rfl⟩ := Option.map_eq_some_iff.1 hq; exact (o1.base_le h).1))
        | (refine S_append tB (OW.alloc o1 _) (RS_one _ _ _ rfl) _ _ rfl rfl rfl rfl (by omega) (by unfold maxLen; omega) (by have := b2.size; simp; omega) ?_; intro a2 c2 w3 o2 g2; have b3 : Below wr.heap.size wr w3 := (b2.alloc b2.size _).grown g2 (by have := b2.size; simp; omega) (by intro q hq; obtain ⟨ad, h, rfl⟩ := Option.map_eq_some_iff.1 hq; exact (o1.base_le h).1)))
      all_goals
        clear g1 g2 z z1
        try clear z2
        try clear hl1
        have hs3 := b3.size
        have hH5 := hH2.grown (grown_of_below (row := none) b3) (by simp)
        have z3 := hH5.cells
        have hf5 := RS.below hf3 b3 (Nat.le_refl _)
        go_wp2_with (first
          | (at_builtin; refine L_append tB o2 hf5 _ _ rfl rfl rfl rfl (by omega) (by unfold maxLen; omega) hs3 ?_; intro a3 c3 w4 o3 g3; have b4 : Below wr.heap.size wr w4 := b3.grown g3 hs3 (by intro q hq; obtain ⟨ad, h, rfl⟩ := Option.map_eq_some_iff.1 hq; exact (o2.base_le h).1); have hs4 := b4.size; have hH6 := hH2.grown (grown_of_below (row := none) b4) (by simp); have z4 := hH6.cells)
          | (at_builtin; refine L_append tB (o3.alloc _) (RS_one _ _ _ rfl) _ _ rfl rfl rfl rfl (by omega) (by unfold maxLen; omega) (by simp; omega) ?_; intro a4 c4 w5 o4 g4; have b5 : Below wr.heap.size wr w5 := (b4.alloc hs4 _).grown g4 (by simp; omega) (by intro q hq; obtain ⟨ad, h, rfl⟩ := Option.map_eq_some_iff.1 hq; exact (o3.base_le h).1))
          | (go_at_call 50; refine (HW _).mono ?_; rintro e w6 ⟨a5, c5, rfl, o5, b6⟩; first
              | (have o6 := o4.below b6 (Nat.le_refl _); have b7 := below_then b5 b6 b5.size; have hs7 := b7.size; have hx7 := (ho.below b7 (Nat.le_refl _)).rs)
              | (have o6 := o3.below b6 (Nat.le_refl _); have b7 := below_then b4 b6 b4.size; have hs7 := b7.size; have hx7 := (ho.below b7 (Nat.le_refl _)).rs))
          | (at_builtin; refine L_append tB o6 o5.rs _ _ rfl rfl rfl rfl (by omega) (by unfold maxLen; omega) hs7 ?_; intro a7 c7 w7 o7 g7; have b8 : Below wr.heap.size wr w7 := b7.grown g7 hs7 (by intro q hq; obtain ⟨ad, h, rfl⟩ := Option.map_eq_some_iff.1 hq; exact (o6.base_le h).1); have hs8 := b8.size; have hx8 := (ho.below b8 (Nat.le_refl _)).rs)
          | (at_builtin; refine L_append tB o7 hx8 _ _ rfl rfl rfl rfl (by omega) (by unfold maxLen; omega) hs8 ?_; intro a9 c9 w8 o9 g9; have b9 : Below wr.heap.size wr w8 := b8.grown g9 hs8 (by intro q hq; obtain ⟨ad, h, rfl⟩ := Option.map_eq_some_iff.1 hq; exact (o7.base_le h).1)))
        go_ret2
        refine ⟨a9, _, c9, rfl, ?_, below_then b02 b9 b02.size⟩
        have hv := HV.out
        rw [hv]
        rw [← HP0.out] at o9
        have hm8 : IntKind.u8.wrap (m : Int) = m := by rw [IntKind.wrap_u8]; omega
        simpa [hm8] using o9.mono (Nat.le_of_lt hlt2)
set_option maxHeartbeats 2000000 in
theorem rb_long1 {t f : List UInt8} (hp : pn < 18446744073709551616) (S L : Nat) (h1 : 1 ≤ S) (h4 : S ≤ 4) (hL : S + L ≤ 16383) (hr : rightS true 1 false n m = true) (hn : n < 21) (hm : m < 21) (ht : BS w a n c t) (hf : BS w b m k f) :
    Calls Tryd.prog 29 #[.agg #[.bool true, .int .i64 1, .bool false, .slice a n c, .slice b m k], .int .u64 (pn : Int), .int .i64 (S : Int), .int .i64 (L : Int)] w
      fun e w' => ∃ a' N c', e = .returned (.tuple #[.slice a' N c', .int .i64 0]) ∧ OW w' w.heap.size 5 1 a' N c' ((bytesLong 1 t f S L pn).map B) ∧ Below w.heap.size w w' := by
  have T := right_any (w.alloc (gobj true 1 false (.slice a n c) (.slice b m k))) true 1 false (a := a) (b := b) (n := n) (c := c) (m := m) (k := k)
  rw [hr] at T
  have HT := Lib.hid T
  have c3 : ¬ ((L : Int) < 0) := by omega
  have c4 : ¬ (16383 - (S : Int) < (L : Int)) := by omega
  have ht1 := ht.alloc (gobj true 1 false (.slice a n c) (.slice b m k))
  have hf1 := hf.alloc (gobj true 1 false (.slice a n c) (.slice b m k))
  have hH : HB (w.alloc (gobj true 1 false (.slice a n c) (.slice b m k))) w.heap.size true 1 false (.slice a n c) (.slice b m k) := heap_alloc_new w _
  clear T hr ht hf
  go_enter Tryd.func29, Tryd.ntmps29
  go_wp2_with (go_at_call 49; refine HT.out.mono ?_; rintro e w1 ⟨rfl, b1⟩)
  have ht2 := RS.below ht1 b1 (Nat.le_refl _)
  have hf2 := RS.below hf1 b1 (Nat.le_refl _)
  have hH1 := hH.grown (grown_of_below (row := none) b1) (by simp)
  have hz1 := hH1.lt
  have b01 : Below w.heap.size w w1 := (below_alloc w _).trans (b1.mono (by simp))
  clear ht1 hf1 hH b1 HT
  go_loopw [10, 1, 37] (fun nv p i wr => ∃ (j : Nat) (x : Option Addr) (y : Nat), j ≤ S ∧ i = .int .i64 (j : Int) ∧ p = .int .u64 ((pn / 256 ^ j : Nat) : Int) ∧ nv = .slice x j y ∧ OW wr w.heap.size 5 1 x j y ((beB j pn).map B) ∧ Below w1.heap.size w1 wr) (fun _ _ i _ => S - (intOf i).toNat)
  case atStart => exact ⟨0, none, 0, by omega, rfl, by simp, rfl, OW_nil _ _ _ _, Below.refl _ _⟩
  case round =>
    obtain ⟨j, x, y, hj, rfl, rfl, rfl, ho, hbr⟩ := hrel
    have hszr := hbr.size
    by_cases hlt : j < S
    · have hcons := beB_cons j pn
      have hv : B (UInt8.ofNat (pn / 256 ^ j)) = .int .u8 (((pn / 256 ^ j : Nat) : Int) % 256) := by
        unfold B; rw [UInt8.toNat_ofNat']; rfl
      have hpow : pn / 256 ^ (j + 1) = pn / 256 ^ j / 256 := by rw [Nat.pow_succ, Nat.div_div_eq_div_mul]
      have hpj : pn / 256 ^ j < 18446744073709551616 := Nat.lt_of_le_of_lt (Nat.div_le_self _ _) hp
      generalize pn / 256 ^ j = P at *
      have Hc := Lib.hid hcons
      have Hv := Lib.hid hv
      have Hpow := Lib.hid hpow
      clear hcons hv hpow
      go_wp2_with (at_builtin; refine L_append tB (OW_made _ w.heap.size _ 1 #[_] 1 (by omega) rfl (by unfold maxLen; omega) (by simp [Value.oneCell'])) (ho.rs.alloc _) _ _ rfl rfl rfl rfl (by omega) (by unfold maxLen; omega) (by simp; omega) ?_; intro a1 c1 w2 o1 g1)
      have b2 : Below w1.heap.size w1 w2 := (hbr.alloc hszr _).grown g1 (by simp; omega) (by intro q hq; simp at hq; omega)
      go_roundw
      case rel =>
        refine ⟨j + 1, a1, c1, by omega, by go_num, by rw [Hpow.out]; go_num, by rw [Nat.add_comm], ?_, b2⟩
        rw [Hc.out, List.map_cons, Hv.out, Nat.add_comm j 1]
        exact o1
      case measure => simp [intOf]; omega
    · obtain rfl : j = S := by omega
      have hH2 := hH1.grown (grown_of_below (row := none) hbr) (by simp)
      have q1 := hH2.cells
      have ht3 := RS.below ht2 hbr (Nat.le_refl _)
      have hf3 := RS.below hf2 hbr (Nat.le_refl _)
      have b02 := below_then b01 hbr b01.size
      have htl := BS.len ht2
      have hfl := BS.len hf2
      have hlt2 : w.heap.size < wr.heap.size := by omega
      go_wp2_with fail
      obtain ⟨P0, hP0⟩ : ∃ P0, ([.int .u8 (224 + (j : Int) - 1), .int .u8 0, .int .u8 0, .int .u8 0, .int .u8 1, .int .u8 (n : Int)] : List Value) = P0 := ⟨_, rfl⟩
      obtain ⟨W0, hW0⟩ : ∃ W0, wr.alloc (.cells #[.int .u8 (224 + (j : Int) - 1), .int .u8 0, .int .u8 0, .int .u8 0, .int .u8 1, .int .u8 (n : Int)] 5) = W0 := ⟨_, rfl⟩
      have oP0 : OW W0 wr.heap.size 5 1 (some ⟨wr.heap.size, 0, none⟩) 6 6 P0 := by
        rw [← hP0, ← hW0]
        exact OW_made wr wr.heap.size _ 1 #[.int .u8 (224 + (j : Int) - 1), .int .u8 0, .int .u8 0, .int .u8 0, .int .u8 1, .int .u8 (n : Int)] 6 (by omega) rfl (by unfold maxLen; omega) (by simp [Value.oneCell'])
      have bW : Below wr.heap.size wr W0 := by rw [← hW0]; exact below_alloc wr _
      rw [hW0]
      have HP0 := Lib.hid hP0
      have hsW := bW.size
      have hH3 := hH2.grown (grown_of_below (row := none) bW) (by simp)
      have z := hH3.cells
      have ht4 := RS.below ht3 bW (Nat.le_refl _)
      have hWlt : wr.heap.size < W0.heap.size := (oP0.base_le rfl).2
      have z1 := (hH3.grown (grown_of_below (row := none) (below_alloc W0 (.cells #[.int .u8 (IntKind.u8.wrap (m : Int))] 5))) (by simp)).cells
      have HW : ∀ w5, Calls Tryd.prog 50 #[.int .u64 ((j : Int) + (L : Int)), .int .i64 2] w5 fun e w' => ∃ a c, e = .returned (.tuple #[.slice a 2 c, .int .i64 0]) ∧ OW w' w5.heap.size 5 1 a 2 c ((wide2 (j + L)).map B) ∧ Below w5.heap.size w5 w' := by
        intro w5
        have := wide_any w5 (j + L) (by omega) (by omega)
        rw [Int.natCast_add] at this
        exact this
      have hv : (bytesLong 1 t f j L pn).map B = .int .u8 (224 + (j : Int) - 1) :: .int .u8 0 :: .int .u8 0 :: .int .u8 0 :: .int .u8 1 :: .int .u8 (n : Int) :: (t.map B ++ .int .u8 (m : Int) :: (f.map B ++ ((if 1 = 0 then [.int .u8 0] else []) ++ ((wide2 (j + L)).map B ++ (beB j pn).map B)))) := by
        unfold bytesLong
        rw [htl, hfl]
        simp [B_eq, UInt8.toNat_ofNat']
        omega
      have HV := Lib.hid hv
      clear hv
      clear hP0 hW0 q1 ht3
      go_region_law (first
        | (refine S_append tB (OW.drew oP0) (RS.drew ht4) _ _ rfl rfl rfl rfl (by omega) (by unfold maxLen; omega) (by simp; omega) ?_; intro a1 c1 w2 o1 g1; have z2 := (HB.grown (w := W0.drew) hH3 g1 (by simp; omega)).cells; have hs2 := g1.size; have b2 : Below wr.heap.size wr w2 := bW.drew.grown g1 (by simp; omega) (by intro q hq; simp at hq; omega))
        | (refine S_append tB (OW.drew (OW.alloc oP0 _)) (RS.drew (RS.alloc ht4 _)) _ _ rfl rfl rfl rfl (by omega) (by unfold maxLen; omega) (by simp; omega) ?_; intro a1 c1 w2 o1 g1; have hl1 := RS.grown (RS.drew (RS_one W0 _ _ rfl)) g1 (by intro ad h; simp at h ⊢; rw [← h]; simp; omega); have b2 : Below wr.heap.size wr w2 := (bW.alloc hsW _).drew.grown g1 (by simp; omega) (by intro q hq; simp at hq; omega))
        | (refine S_append tB o1 hl1 _ _ rfl rfl rfl rfl (by omega) (by unfold maxLen; omega) b2.size ?_; intro a2 c2 w3 o2 g2; have b3 : Below wr.heap.size wr w3 := b2.grown g2 b2.size (by intro q hq; obtain ⟨ad, h, rfl⟩ := Option.map_eq_some_iff.1 hq; exact (o1.base_le h).1))
        | (refine S_append tB (OW.alloc o1 _) (RS_one _ _ _ rfl) _ _ rfl rfl rfl rfl (by omega) (by unfold maxLen; omega) (by have := b2.size; simp; omega) ?_; intro a2 c2 w3 o2 g2; have b3 : Below wr.heap.size wr w3 := (b2.alloc b2.size _).grown g2 (by have := b2.size; simp; omega) (by intro q hq; obtain ⟨ad, h, rfl⟩ := Option.map_eq_some_iff.1 hq; exact (o1.base_le h).1)))
      all_goals
        clear g1 g2 z z1
        try clear z2
        try clear hl1
        have hs3 := b3.size
        have hH5 := hH2.grown (grown_of_below (row := none) b3) (by simp)
        have z3 := hH5.cells
        have hf5 := RS.below hf3 b3 (Nat.le_refl _)
        go_wp2_with (first
          | (at_builtin; refine L_append tB o2 hf5 _ _ rfl rfl rfl rfl (by omega) (by unfold maxLen; omega) hs3 ?_; intro a3 c3 w4 o3 g3; have b4 : Below wr.heap.size wr w4 := b3.grown g3 hs3 (by intro q hq; obtain ⟨ad, h, rfl⟩ := Option.map_eq_some_iff.1 hq; exact (o2.base_le h).1); have hs4 := b4.size; have hH6 := hH2.grown (grown_of_below (row := none) b4) (by simp); have z4 := hH6.cells)
          | (at_builtin; refine L_append tB (o3.alloc _) (RS_one _ _ _ rfl) _ _ rfl rfl rfl rfl (by omega) (by unfold maxLen; omega) (by simp; omega) ?_; intro a4 c4 w5 o4 g4; have b5 : Below wr.heap.size wr w5 := (b4.alloc hs4 _).grown g4 (by simp; omega) (by intro q hq; obtain ⟨ad, h, rfl⟩ := Option.map_eq_some_iff.1 hq; exact (o3.base_le h).1))
          | (go_at_call 50; refine (HW _).mono ?_; rintro e w6 ⟨a5, c5, rfl, o5, b6⟩; first
              | (have o6 := o4.below b6 (Nat.le_refl _); have b7 := below_then b5 b6 b5.size; have hs7 := b7.size; have hx7 := (ho.below b7 (Nat.le_refl _)).rs)
              | (have o6 := o3.below b6 (Nat.le_refl _); have b7 := below_then b4 b6 b4.size; have hs7 := b7.size; have hx7 := (ho.below b7 (Nat.le_refl _)).rs))
          | (at_builtin; refine L_append tB o6 o5.rs _ _ rfl rfl rfl rfl (by omega) (by unfold maxLen; omega) hs7 ?_; intro a7 c7 w7 o7 g7; have b8 : Below wr.heap.size wr w7 := b7.grown g7 hs7 (by intro q hq; obtain ⟨ad, h, rfl⟩ := Option.map_eq_some_iff.1 hq; exact (o6.base_le h).1); have hs8 := b8.size; have hx8 := (ho.below b8 (Nat.le_refl _)).rs)
          | (at_builtin; refine L_append tB o7 hx8 _ _ rfl rfl rfl rfl (by omega) (by unfold maxLen; omega) hs8 ?_; intro a9 c9 w8 o9 g9; have b9 : Below wr.heap.size wr w8 := b8.grown g9 hs8 (by intro q hq; obtain ⟨ad, h, rfl⟩ := Option.map_eq_some_iff.1 hq; exact (o7.base_le h).1)))
        go_ret2
        refine ⟨a9, _, c9, rfl, ?_, below_then b02 b9 b02.size⟩
        have hv := HV.out
        rw [hv]
        rw [← HP0.out] at o9
        have hm8 : IntKind.u8.wrap (m : Int) = m := by rw [IntKind.wrap_u8]; omega
        simpa [hm8] using o9.mono (Nat.le_of_lt hlt2)
end bb
end Go.Proofs.YtdfachjgnhljfaaDoor
