/- vint: the bytes of every number. -/
import Derived.Test.YteekafpkbdbadaaV1
set_option maxRecDepth 100000
set_option linter.unusedVariables false
namespace Go.Proofs.Yteekafpkbdbadaa
open Go.RowKit
/-- how many bytes a number takes, and its bytes -/
def vszX (n : Nat) : Nat := if n < 64 then 1 else if n < 16384 then 2 else if n < 1073741824 then 4 else 8
def numX (n : Nat) : List UInt8 := if n < 64 then [UInt8.ofNat (n)] else if n < 16384 then [UInt8.ofNat (n / 256 + 64), UInt8.ofNat (n)] else if n < 1073741824 then [UInt8.ofNat (n / 16777216 + 128), UInt8.ofNat (n / 65536), UInt8.ofNat (n / 256), UInt8.ofNat (n)] else [UInt8.ofNat (n / 72057594037927936 + 192), UInt8.ofNat (n / 281474976710656), UInt8.ofNat (n / 1099511627776), UInt8.ofNat (n / 4294967296), UInt8.ofNat (n / 16777216), UInt8.ofNat (n / 65536), UInt8.ofNat (n / 256), UInt8.ofNat (n)]
theorem numX_2 {n : Nat} (h0 : 64 ≤ n) (h : n < 16384) : numX n = [UInt8.ofNat (n / 256 + 64), UInt8.ofNat (n)] := by unfold numX; rw [if_neg (by omega), if_pos h]
theorem numX_4 {n : Nat} (h0 : 16384 ≤ n) (h : n < 1073741824) : numX n = [UInt8.ofNat (n / 16777216 + 128), UInt8.ofNat (n / 65536), UInt8.ofNat (n / 256), UInt8.ofNat (n)] := by unfold numX; rw [if_neg (by omega), if_neg (by omega), if_pos h]
theorem numX_8 {n : Nat} (h0 : 1073741824 ≤ n) (h : n < 4611686018427387904) : numX n = [UInt8.ofNat (n / 72057594037927936 + 192), UInt8.ofNat (n / 281474976710656), UInt8.ofNat (n / 1099511627776), UInt8.ofNat (n / 4294967296), UInt8.ofNat (n / 16777216), UInt8.ofNat (n / 65536), UInt8.ofNat (n / 256), UInt8.ofNat (n)] := by unfold numX; rw [if_neg (by omega), if_neg (by omega), if_neg (by omega)]
theorem vszX_4 {n : Nat} (h0 : 16384 ≤ n) (h : n < 1073741824) : vszX n = 4 := by unfold vszX; rw [if_neg (by omega), if_neg (by omega), if_pos h]
theorem vszX_8 {n : Nat} (h0 : 1073741824 ≤ n) : vszX n = 8 := by unfold vszX; rw [if_neg (by omega), if_neg (by omega), if_neg (by omega)]
theorem numX_S {n : Nat} (h : n < 16384) : numX n = numS n ∧ vszX n = vsz n := by
  unfold numX numS vszX vsz
  by_cases h1 : n < 64
  · rw [if_pos h1, if_pos h1, if_pos h1, if_pos h1]; exact ⟨rfl, rfl⟩
  · rw [if_neg h1, if_neg h1, if_neg h1, if_neg h1, if_pos h, if_pos h]; exact ⟨rfl, rfl⟩
theorem numX_len (n : Nat) : (numX n).length = vszX n := by
  unfold numX vszX
  split
  · rfl
  · split
    · rfl
    · split <;> rfl
theorem vszX_bd (n : Nat) : 1 ≤ vszX n ∧ vszX n ≤ 8 := by
  unfold vszX
  split
  · omega
  · split
    · omega
    · split <;> omega
theorem vsizeX_any (w : World) (n : Nat) (hn : n < 4611686018427387904) :
    Calls Try.prog 84 #[.int .u64 (n : Int)] w fun e w' => e = .returned (.int .i64 (vszX n : Int)) ∧ w = w' := by
  by_cases h0 : n < 16384
  · rw [(numX_S h0).2]; exact vsize_any w n h0
  · by_cases h1 : n < 1073741824
    · rw [vszX_4 (by omega) h1]
      have q : ((n : Int) / 64 == 0) = false := by simp; omega
      have q2 : ((n : Int) / 16384 == 0) = false := by simp; omega
      have q3 : ((n : Int) / 1073741824 == 0) = true := by simp; omega
      go_enter Try.func84, Try.ntmps84
      go_wp2
      refine wp_loop_rounds 4 ?_
      rw [rounds_succ]
      go_wp2
      rw [rounds_succ]
      go_wp2
      rw [rounds_succ]
      go_wp2
      go_ret
      exact ⟨rfl, rfl⟩
    · rw [vszX_8 (by omega)]
      have q : ((n : Int) / 64 == 0) = false := by simp; omega
      have q2 : ((n : Int) / 16384 == 0) = false := by simp; omega
      have q3 : ((n : Int) / 1073741824 == 0) = false := by simp; omega
      have q4 : ((n : Int) / 4611686018427387904 == 0) = true := by simp; omega
      go_enter Try.func84, Try.ntmps84
      go_wp2
      refine wp_loop_rounds 5 ?_
      rw [rounds_succ]
      go_wp2
      rw [rounds_succ]
      go_wp2
      rw [rounds_succ]
      go_wp2
      rw [rounds_succ]
      go_wp2
      go_ret
      exact ⟨rfl, rfl⟩
theorem or_128v (m : Nat) (h : m < 64) : bits .or .u8 (m : Int) 128 = (m : Int) + 128 := by
  have h1 : ∀ m : Fin 64, bits .or .u8 ((m.val : Nat) : Int) 128 = ((m.val : Nat) : Int) + 128 := by decide
  exact h1 ⟨m, h⟩
theorem or_192v (m : Nat) (h : m < 64) : bits .or .u8 (m : Int) 192 = (m : Int) + 192 := by
  have h1 : ∀ m : Fin 64, bits .or .u8 ((m.val : Nat) : Int) 192 = ((m.val : Nat) : Int) + 192 := by decide
  exact h1 ⟨m, h⟩
set_option maxHeartbeats 4000000 in
theorem vwide4 (w : World) (n : Nat) (hn : n < 1073741824) (h0 : 16384 ≤ n) :
    Calls Try.prog 85 #[.int .u64 (n : Int), .int .i64 4] w fun e w' => ∃ a c, e = .returned (.tuple #[.slice a 4 c, .int .i64 0]) ∧ OW w' w.heap.size 5 1 a 4 c ((numX n).map B) ∧ Below w.heap.size w w' := by
  have hs := vsizeX_any w n (by omega)
  rw [vszX_4 (by omega) (by omega)] at hs
  have T := Lib.hid hs
  have hv : (numX n).map B = [.int .u8 ((n : Int) / 16777216 + 128), .int .u8 ((n : Int) / 65536 % 256), .int .u8 ((n : Int) / 256 % 256), .int .u8 ((n : Int) % 256)] := by
    rw [numX_4 (by omega) (by omega)]
    simp only [List.map_cons, List.map_nil, B, UInt8.toNat_ofNat']
    rw [show (((n / 16777216 + 128) % 2 ^ 8 : Nat) : Int) = (n : Int) / 16777216 + 128 by omega, show (((n / 65536) % 2 ^ 8 : Nat) : Int) = (n : Int) / 65536 % 256 by omega, show (((n / 256) % 2 ^ 8 : Nat) : Int) = (n : Int) / 256 % 256 by omega, show (((n) % 2 ^ 8 : Nat) : Int) = (n : Int) % 256 by omega]
  have Hv := Lib.hid hv
  clear hv hs
  go_enter Try.func85, Try.ntmps85
  go_wp2
  refine wp_loop_rounds 5 ?_
  rw [rounds_succ]
  go_wp2
  rw [rounds_succ]
  go_wp2
  rw [rounds_succ]
  go_wp2
  rw [rounds_succ]
  go_wp2
  rw [rounds_succ]
  go_wp2_with (first | (refine L_make tB w.heap.size 4 rfl rfl _ _ rfl rfl _ _ _ _ rfl rfl rfl rfl (by omega) (by unfold maxLen; omega) (Nat.le_refl _) ?_; intro w1 o1 g1) | (go_at_call 84; refine T.out.mono ?_; rintro e w' ⟨rfl, rfl⟩))
  have b1 := below_none (Below.refl w.heap.size w) g1 (Nat.le_refl _)
  have c1_0 := o1.cell 0 _ rfl
  have d1_0 := o1.frozen 0
  have c1_1 := o1.cell 1 _ rfl
  have d1_1 := o1.frozen 1
  have c1_2 := o1.cell 2 _ rfl
  have d1_2 := o1.frozen 2
  have c1_3 := o1.cell 3 _ rfl
  have d1_3 := o1.frozen 3
  refine wp_loop_rounds 5 ?_
  rw [rounds_succ]
  go_wp2
  have o2 := o1.setCell 3 (.int .u8 ((n : Int) % 256)) rfl
  clear c1_0 d1_0 c1_1 d1_1 c1_2 d1_2 c1_3 d1_3
  have c2_0 := o2.cell 0 _ rfl
  have d2_0 := o2.frozen 0
  have c2_1 := o2.cell 1 _ rfl
  have d2_1 := o2.frozen 1
  have c2_2 := o2.cell 2 _ rfl
  have d2_2 := o2.frozen 2
  rw [rounds_succ]
  go_wp2
  have o3 := o2.setCell 2 (.int .u8 ((n : Int) / 256 % 256)) rfl
  clear c2_0 d2_0 c2_1 d2_1 c2_2 d2_2
  have c3_0 := o3.cell 0 _ rfl
  have d3_0 := o3.frozen 0
  have c3_1 := o3.cell 1 _ rfl
  have d3_1 := o3.frozen 1
  rw [rounds_succ]
  go_wp2
  have o4 := o3.setCell 1 (.int .u8 ((n : Int) / 65536 % 256)) rfl
  clear c3_0 d3_0 c3_1 d3_1
  have c4_0 := o4.cell 0 _ rfl
  have d4_0 := o4.frozen 0
  rw [rounds_succ]
  go_wp2
  have o5 := o4.setCell 0 (.int .u8 ((n : Int) / 16777216)) rfl
  clear c4_0 d4_0
  have c5_0 := o5.cell 0 _ rfl
  have d5_0 := o5.frozen 0
  rw [rounds_succ]
  go_wp2
  go_ret2
  have hor : bits .or .u8 ((n : Int) / 16777216) 128 = (n : Int) / 16777216 + 128 := by
    have := or_128v (n / 16777216) (by omega)
    rwa [show ((n / 16777216 : Nat) : Int) = (n : Int) / 16777216 by omega] at this
  rw [hor]
  have oz := o5.setCell 0 (.int .u8 ((n : Int) / 16777216 + 128)) rfl
  refine ⟨_, _, rfl, ?_, ((((b1.setCell (Nat.le_refl _) _).setCell (Nat.le_refl _) _).setCell (Nat.le_refl _) _).setCell (Nat.le_refl _) _).setCell (Nat.le_refl _) _⟩
  rw [Hv.out]
  exact oz
set_option maxHeartbeats 4000000 in
theorem vwide8 (w : World) (n : Nat) (hn : n < 4611686018427387904) (h0 : 1073741824 ≤ n) :
    Calls Try.prog 85 #[.int .u64 (n : Int), .int .i64 8] w fun e w' => ∃ a c, e = .returned (.tuple #[.slice a 8 c, .int .i64 0]) ∧ OW w' w.heap.size 5 1 a 8 c ((numX n).map B) ∧ Below w.heap.size w w' := by
  have hs := vsizeX_any w n (by omega)
  rw [vszX_8 (by omega)] at hs
  have T := Lib.hid hs
  have hv : (numX n).map B = [.int .u8 ((n : Int) / 72057594037927936 + 192), .int .u8 ((n : Int) / 281474976710656 % 256), .int .u8 ((n : Int) / 1099511627776 % 256), .int .u8 ((n : Int) / 4294967296 % 256), .int .u8 ((n : Int) / 16777216 % 256), .int .u8 ((n : Int) / 65536 % 256), .int .u8 ((n : Int) / 256 % 256), .int .u8 ((n : Int) % 256)] := by
    rw [numX_8 (by omega) (by omega)]
    simp only [List.map_cons, List.map_nil, B, UInt8.toNat_ofNat']
    rw [show (((n / 72057594037927936 + 192) % 2 ^ 8 : Nat) : Int) = (n : Int) / 72057594037927936 + 192 by omega, show (((n / 281474976710656) % 2 ^ 8 : Nat) : Int) = (n : Int) / 281474976710656 % 256 by omega, show (((n / 1099511627776) % 2 ^ 8 : Nat) : Int) = (n : Int) / 1099511627776 % 256 by omega, show (((n / 4294967296) % 2 ^ 8 : Nat) : Int) = (n : Int) / 4294967296 % 256 by omega, show (((n / 16777216) % 2 ^ 8 : Nat) : Int) = (n : Int) / 16777216 % 256 by omega, show (((n / 65536) % 2 ^ 8 : Nat) : Int) = (n : Int) / 65536 % 256 by omega, show (((n / 256) % 2 ^ 8 : Nat) : Int) = (n : Int) / 256 % 256 by omega, show (((n) % 2 ^ 8 : Nat) : Int) = (n : Int) % 256 by omega]
  have Hv := Lib.hid hv
  clear hv hs
  go_enter Try.func85, Try.ntmps85
  go_wp2
  refine wp_loop_rounds 5 ?_
  rw [rounds_succ]
  go_wp2
  rw [rounds_succ]
  go_wp2
  rw [rounds_succ]
  go_wp2
  rw [rounds_succ]
  go_wp2
  rw [rounds_succ]
  go_wp2_with (first | (refine L_make tB w.heap.size 8 rfl rfl _ _ rfl rfl _ _ _ _ rfl rfl rfl rfl (by omega) (by unfold maxLen; omega) (Nat.le_refl _) ?_; intro w1 o1 g1) | (go_at_call 84; refine T.out.mono ?_; rintro e w' ⟨rfl, rfl⟩))
  have b1 := below_none (Below.refl w.heap.size w) g1 (Nat.le_refl _)
  have c1_0 := o1.cell 0 _ rfl
  have d1_0 := o1.frozen 0
  have c1_1 := o1.cell 1 _ rfl
  have d1_1 := o1.frozen 1
  have c1_2 := o1.cell 2 _ rfl
  have d1_2 := o1.frozen 2
  have c1_3 := o1.cell 3 _ rfl
  have d1_3 := o1.frozen 3
  have c1_4 := o1.cell 4 _ rfl
  have d1_4 := o1.frozen 4
  have c1_5 := o1.cell 5 _ rfl
  have d1_5 := o1.frozen 5
  have c1_6 := o1.cell 6 _ rfl
  have d1_6 := o1.frozen 6
  have c1_7 := o1.cell 7 _ rfl
  have d1_7 := o1.frozen 7
  refine wp_loop_rounds 9 ?_
  rw [rounds_succ]
  go_wp2
  have o2 := o1.setCell 7 (.int .u8 ((n : Int) % 256)) rfl
  clear c1_0 d1_0 c1_1 d1_1 c1_2 d1_2 c1_3 d1_3 c1_4 d1_4 c1_5 d1_5 c1_6 d1_6 c1_7 d1_7
  have c2_0 := o2.cell 0 _ rfl
  have d2_0 := o2.frozen 0
  have c2_1 := o2.cell 1 _ rfl
  have d2_1 := o2.frozen 1
  have c2_2 := o2.cell 2 _ rfl
  have d2_2 := o2.frozen 2
  have c2_3 := o2.cell 3 _ rfl
  have d2_3 := o2.frozen 3
  have c2_4 := o2.cell 4 _ rfl
  have d2_4 := o2.frozen 4
  have c2_5 := o2.cell 5 _ rfl
  have d2_5 := o2.frozen 5
  have c2_6 := o2.cell 6 _ rfl
  have d2_6 := o2.frozen 6
  rw [rounds_succ]
  go_wp2
  have o3 := o2.setCell 6 (.int .u8 ((n : Int) / 256 % 256)) rfl
  clear c2_0 d2_0 c2_1 d2_1 c2_2 d2_2 c2_3 d2_3 c2_4 d2_4 c2_5 d2_5 c2_6 d2_6
  have c3_0 := o3.cell 0 _ rfl
  have d3_0 := o3.frozen 0
  have c3_1 := o3.cell 1 _ rfl
  have d3_1 := o3.frozen 1
  have c3_2 := o3.cell 2 _ rfl
  have d3_2 := o3.frozen 2
  have c3_3 := o3.cell 3 _ rfl
  have d3_3 := o3.frozen 3
  have c3_4 := o3.cell 4 _ rfl
  have d3_4 := o3.frozen 4
  have c3_5 := o3.cell 5 _ rfl
  have d3_5 := o3.frozen 5
  rw [rounds_succ]
  go_wp2
  have o4 := o3.setCell 5 (.int .u8 ((n : Int) / 65536 % 256)) rfl
  clear c3_0 d3_0 c3_1 d3_1 c3_2 d3_2 c3_3 d3_3 c3_4 d3_4 c3_5 d3_5
  have c4_0 := o4.cell 0 _ rfl
  have d4_0 := o4.frozen 0
  have c4_1 := o4.cell 1 _ rfl
  have d4_1 := o4.frozen 1
  have c4_2 := o4.cell 2 _ rfl
  have d4_2 := o4.frozen 2
  have c4_3 := o4.cell 3 _ rfl
  have d4_3 := o4.frozen 3
  have c4_4 := o4.cell 4 _ rfl
  have d4_4 := o4.frozen 4
  rw [rounds_succ]
  go_wp2
  have o5 := o4.setCell 4 (.int .u8 ((n : Int) / 16777216 % 256)) rfl
  clear c4_0 d4_0 c4_1 d4_1 c4_2 d4_2 c4_3 d4_3 c4_4 d4_4
  have c5_0 := o5.cell 0 _ rfl
  have d5_0 := o5.frozen 0
  have c5_1 := o5.cell 1 _ rfl
  have d5_1 := o5.frozen 1
  have c5_2 := o5.cell 2 _ rfl
  have d5_2 := o5.frozen 2
  have c5_3 := o5.cell 3 _ rfl
  have d5_3 := o5.frozen 3
  rw [rounds_succ]
  go_wp2
  have o6 := o5.setCell 3 (.int .u8 ((n : Int) / 4294967296 % 256)) rfl
  clear c5_0 d5_0 c5_1 d5_1 c5_2 d5_2 c5_3 d5_3
  have c6_0 := o6.cell 0 _ rfl
  have d6_0 := o6.frozen 0
  have c6_1 := o6.cell 1 _ rfl
  have d6_1 := o6.frozen 1
  have c6_2 := o6.cell 2 _ rfl
  have d6_2 := o6.frozen 2
  rw [rounds_succ]
  go_wp2
  have o7 := o6.setCell 2 (.int .u8 ((n : Int) / 1099511627776 % 256)) rfl
  clear c6_0 d6_0 c6_1 d6_1 c6_2 d6_2
  have c7_0 := o7.cell 0 _ rfl
  have d7_0 := o7.frozen 0
  have c7_1 := o7.cell 1 _ rfl
  have d7_1 := o7.frozen 1
  rw [rounds_succ]
  go_wp2
  have o8 := o7.setCell 1 (.int .u8 ((n : Int) / 281474976710656 % 256)) rfl
  clear c7_0 d7_0 c7_1 d7_1
  have c8_0 := o8.cell 0 _ rfl
  have d8_0 := o8.frozen 0
  rw [rounds_succ]
  go_wp2
  have o9 := o8.setCell 0 (.int .u8 ((n : Int) / 72057594037927936)) rfl
  clear c8_0 d8_0
  have c9_0 := o9.cell 0 _ rfl
  have d9_0 := o9.frozen 0
  rw [rounds_succ]
  go_wp2
  go_ret2
  have hor : bits .or .u8 ((n : Int) / 72057594037927936) 192 = (n : Int) / 72057594037927936 + 192 := by
    have := or_192v (n / 72057594037927936) (by omega)
    rwa [show ((n / 72057594037927936 : Nat) : Int) = (n : Int) / 72057594037927936 by omega] at this
  rw [hor]
  have oz := o9.setCell 0 (.int .u8 ((n : Int) / 72057594037927936 + 192)) rfl
  refine ⟨_, _, rfl, ?_, ((((((((b1.setCell (Nat.le_refl _) _).setCell (Nat.le_refl _) _).setCell (Nat.le_refl _) _).setCell (Nat.le_refl _) _).setCell (Nat.le_refl _) _).setCell (Nat.le_refl _) _).setCell (Nat.le_refl _) _).setCell (Nat.le_refl _) _).setCell (Nat.le_refl _) _⟩
  rw [Hv.out]
  exact oz
theorem vnumX_any (w : World) (n : Nat) (hn : n < 4611686018427387904) :
    Calls Try.prog 74 #[.int .u64 (n : Int)] w fun e w' => ∃ a c, e = .returned (.tuple #[.slice a (vszX n) c, .int .i64 0]) ∧ OW w' w.heap.size 5 1 a (vszX n) c ((numX n).map B) ∧ Below w.heap.size w w' := by
  by_cases h0 : n < 16384
  · rw [(numX_S h0).1, (numX_S h0).2]; exact vnum_any w n h0
  · have hs := vsizeX_any w n hn
    by_cases h : n < 1073741824
    · rw [vszX_4 (by omega) h] at hs ⊢
      have T := Lib.hid hs
      have T2 := Lib.hid (vwide4 w n h (by omega))
      clear hs
      go_enter Try.func74, Try.ntmps74
      go_wp2_with (first | (go_at_call 84; refine T.out.mono ?_; rintro e w' ⟨rfl, rfl⟩) | (go_at_call 85; refine T2.out.mono ?_; rintro e w2 ⟨a, c, rfl, h1, h2⟩))
      go_ret2
      exact ⟨a, c, rfl, h1, h2⟩
    · rw [vszX_8 (by omega)] at hs ⊢
      have T := Lib.hid hs
      have T2 := Lib.hid (vwide8 w n hn (by omega))
      clear hs
      go_enter Try.func74, Try.ntmps74
      go_wp2_with (first | (go_at_call 84; refine T.out.mono ?_; rintro e w' ⟨rfl, rfl⟩) | (go_at_call 85; refine T2.out.mono ?_; rintro e w2 ⟨a, c, rfl, h1, h2⟩))
      go_ret2
      exact ⟨a, c, rfl, h1, h2⟩
end Go.Proofs.Yteekafpkbdbadaa
