/- texts UK UL UM UN UO in one. -/
import Derived.Test.YtkhcpnmbhbhcgaaDoorYba
import Derived.Test.YtkhcpnmbhbhcgaaDoorYbh
import Derived.Test.YtkhcpnmbhbhcgaaDoorYbb

/- vint: the bytes of every number. -/
set_option maxRecDepth 100000
set_option linter.unusedVariables false
namespace Go.Proofs.YtkhcpnmbhbhcgaaDoor
open Go.RowKit Go.Joins
/-- how many bytes a number takes, and its bytes -/
def vszX (n : Nat) : Nat := if n < 64 then 1 else if n < 16384 then 2 else if n < 1073741824 then 4 else 8
def numX (n : Nat) : List UInt8 := if n < 64 then [UInt8.ofNat (n)] else if n < 16384 then [UInt8.ofNat (n / 256 + 64), UInt8.ofNat (n)] else if n < 1073741824 then [UInt8.ofNat (n / 16777216 + 128), UInt8.ofNat (n / 65536), UInt8.ofNat (n / 256), UInt8.ofNat (n)] else [UInt8.ofNat (n / 72057594037927936 + 192), UInt8.ofNat (n / 281474976710656), UInt8.ofNat (n / 1099511627776), UInt8.ofNat (n / 4294967296), UInt8.ofNat (n / 16777216), UInt8.ofNat (n / 65536), UInt8.ofNat (n / 256), UInt8.ofNat (n)]
theorem numX_2 {n : Nat} (h0 : 64 ≤ n) (h : n < 16384) : numX n = [UInt8.ofNat (n / 256 + 64), UInt8.ofNat (n)] := by unfold numX; rw [if_neg (by omega), if_pos h]
theorem numX_4 {n : Nat} (h0 : 16384 ≤ n) (h : n < 1073741824) : numX n = [UInt8.ofNat (n / 16777216 + 128), UInt8.ofNat (n / 65536), UInt8.ofNat (n / 256), UInt8.ofNat (n)] := by unfold numX; rw [if_neg (by omega), if_neg (by omega), if_pos h]
theorem numX_8 {n : Nat} (h0 : 1073741824 ≤ n) (h : n < 4611686018427387904) : numX n = [UInt8.ofNat (n / 72057594037927936 + 192), UInt8.ofNat (n / 281474976710656), UInt8.ofNat (n / 1099511627776), UInt8.ofNat (n / 4294967296), UInt8.ofNat (n / 16777216), UInt8.ofNat (n / 65536), UInt8.ofNat (n / 256), UInt8.ofNat (n)] := by unfold numX; rw [if_neg (by omega), if_neg (by omega), if_neg (by omega)]
theorem vszX_4 {n : Nat} (h0 : 16384 ≤ n) (h : n < 1073741824) : vszX n = 4 := by unfold vszX; rw [if_neg (by omega), if_neg (by omega), if_pos h]
theorem vszX_8 {n : Nat} (h0 : 1073741824 ≤ n) : vszX n = 8 := by unfold vszX; rw [if_neg (by omega), if_neg (by omega), if_neg (by omega)]
theorem numX_S {n : Nat} (h : n < 16384) : numX n = numS n ∧ vszX n = vsz n := by
  unfold numX numS vszX vsz
  by_cases h1 : n < 64
  · rw [if_pos h1, if_pos h1, if_pos h1, if_pos h1]; exact ⟨rfl, rfl⟩
  · rw [if_neg h1, if_neg h1, if_neg h1, if_neg h1, if_pos h, if_pos h]; exact ⟨rfl, rfl⟩
theorem numX_len (n : Nat) : (numX n).length = vszX n := by
  unfold numX vszX
  split
  · rfl
  · split
    · rfl
    · split <;> rfl
theorem vszX_bd (n : Nat) : 1 ≤ vszX n ∧ vszX n ≤ 8 := by
  unfold vszX
  split
  · omega
  · split
    · omega
    · split <;> omega
theorem takeS_numX (n : Nat) (hn : n < 4611686018427387904) (r : List UInt8) : takeS (numX n ++ r) = some (n, r) := by
  by_cases h1 : n < 16384
  · rw [(numX_S h1).1]; exact takeS_num n h1 r
  · by_cases h2 : n < 1073741824
    · rw [numX_4 (by omega) h2]
      have hb : (UInt8.ofNat (n / 16777216 + 128)).toNat = n / 16777216 + 128 := by rw [UInt8.toNat_ofNat']; omega
      have hd : (n / 16777216 + 128) / 64 = 2 := by omega
      rw [List.cons_append, takeS_cons, hb, hd, if_neg (by simp)]
      simp [beNat]
      omega
    · rw [numX_8 (by omega) hn]
      have hb : (UInt8.ofNat (n / 72057594037927936 + 192)).toNat = n / 72057594037927936 + 192 := by rw [UInt8.toNat_ofNat']; omega
      have hd : (n / 72057594037927936 + 192) / 64 = 3 := by omega
      rw [List.cons_append, takeS_cons, hb, hd, if_neg (by simp)]
      simp [beNat]
      omega
theorem vsizeX_any (w : World) (n : Nat) (hn : n < 4611686018427387904) :
    Calls Tryd.prog 53 #[.int .u64 (n : Int)] w fun e w' => e = .returned (.int .i64 (vszX n : Int)) ∧ w = w' := by
  by_cases h0 : n < 16384
  · rw [(numX_S h0).2]; exact vsize_any w n h0
  · by_cases h1 : n < 1073741824
    · rw [vszX_4 (by omega) h1]
      have q : ((n : Int) / 64 == 0) = false := by simp; omega
      have q2 : ((n : Int) / 16384 == 0) = false := by simp; omega
      have q3 : ((n : Int) / 1073741824 == 0) = true := by simp; omega
      go_enter Tryd.func53, Tryd.ntmps53
      go_wp2
      refine wp_loop_rounds 4 ?_
      rw [rounds_succ]
      go_wp2
      rw [rounds_succ]
      go_wp2
      rw [rounds_succ]
      go_wp2
      go_ret
      exact ⟨rfl, rfl⟩
    · rw [vszX_8 (by omega)]
      have q : ((n : Int) / 64 == 0) = false := by simp; omega
      have q2 : ((n : Int) / 16384 == 0) = false := by simp; omega
      have q3 : ((n : Int) / 1073741824 == 0) = false := by simp; omega
      have q4 : ((n : Int) / 4611686018427387904 == 0) = true := by simp; omega
      go_enter Tryd.func53, Tryd.ntmps53
      go_wp2
      refine wp_loop_rounds 5 ?_
      rw [rounds_succ]
      go_wp2
      rw [rounds_succ]
      go_wp2
      rw [rounds_succ]
      go_wp2
      rw [rounds_succ]
      go_wp2
      go_ret
      exact ⟨rfl, rfl⟩
theorem or_128v (m : Nat) (h : m < 64) : bits .or .u8 (m : Int) 128 = (m : Int) + 128 := by
  have h1 : ∀ m : Fin 64, bits .or .u8 ((m.val : Nat) : Int) 128 = ((m.val : Nat) : Int) + 128 := by decide
  exact h1 ⟨m, h⟩
theorem or_192v (m : Nat) (h : m < 64) : bits .or .u8 (m : Int) 192 = (m : Int) + 192 := by
  have h1 : ∀ m : Fin 64, bits .or .u8 ((m.val : Nat) : Int) 192 = ((m.val : Nat) : Int) + 192 := by decide
  exact h1 ⟨m, h⟩
set_option maxHeartbeats 4000000 in
theorem vwide4 (w : World) (n : Nat) (hn : n < 1073741824) (h0 : 16384 ≤ n) :
    Calls Tryd.prog 54 #[.int .u64 (n : Int), .int .i64 4] w fun e w' => ∃ a c, e = .returned (.tuple #[.slice a 4 c, .int .i64 0]) ∧ OW w' w.heap.size 5 1 a 4 c ((numX n).map B) ∧ Below w.heap.size w w' := by
  have hs := vsizeX_any w n (by omega)
  rw [vszX_4 (by omega) (by omega)] at hs
  have T := Lib.hid hs
  have hv : (numX n).map B = [.int .u8 ((n : Int) / 16777216 + 128), .int .u8 ((n : Int) / 65536 % 256), .int .u8 ((n : Int) / 256 % 256), .int .u8 ((n : Int) % 256)] := by
    rw [numX_4 (by omega) (by omega)]
    simp only [List.map_cons, List.map_nil, B, UInt8.toNat_ofNat']
    rw [show (((n / 16777216 + 128) % 2 ^ 8 : Nat) : Int) = (n : Int) / 16777216 + 128 by omega, show (((n / 65536) % 2 ^ 8 : Nat) : Int) = (n : Int) / 65536 % 256 by omega, show (((n / 256) % 2 ^ 8 : Nat) : Int) = (n : Int) / 256 % 256 by omega, show (((n) % 2 ^ 8 : Nat) : Int) = (n : Int) % 256 by omega]
  have Hv := Lib.hid hv
  clear hv hs
  go_enter Tryd.func54, Tryd.ntmps54
  go_wp2
  refine wp_loop_rounds 5 ?_
  rw [rounds_succ]
  go_wp2
  rw [rounds_succ]
  go_wp2
  rw [rounds_succ]
  go_wp2
  rw [rounds_succ]
  go_wp2
  rw [rounds_succ]
  go_wp2_with (first | (refine L_make tB w.heap.size 4 rfl rfl _ _ rfl rfl _ _ _ _ rfl rfl rfl rfl (by omega) (by unfold maxLen; omega) (Nat.le_refl _) ?_; intro w1 o1 g1) | (go_at_call 53; refine T.out.mono ?_; rintro e w' ⟨rfl, rfl⟩))
  have b1 := below_none (Below.refl w.heap.size w) g1 (Nat.le_refl _)
  have c1_0 := o1.cell 0 _ rfl
  have d1_0 := o1.frozen 0
  have c1_1 := o1.cell 1 _ rfl
  have d1_1 := o1.frozen 1
  have c1_2 := o1.cell 2 _ rfl
  have d1_2 := o1.frozen 2
  have c1_3 := o1.cell 3 _ rfl
  have d1_3 := o1.frozen 3
  refine wp_loop_rounds 5 ?_
  rw [rounds_succ]
  go_wp2
  have o2 := o1.setCell 3 (.int .u8 ((n : Int) % 256)) rfl
  clear c1_0 d1_0 c1_1 d1_1 c1_2 d1_2 c1_3 d1_3
  have c2_0 := o2.cell 0 _ rfl
  have d2_0 := o2.frozen 0
  have c2_1 := o2.cell 1 _ rfl
  have d2_1 := o2.frozen 1
  have c2_2 := o2.cell 2 _ rfl
  have d2_2 := o2.frozen 2
  rw [rounds_succ]
  go_wp2
  have o3 := o2.setCell 2 (.int .u8 ((n : Int) / 256 % 256)) rfl
  clear c2_0 d2_0 c2_1 d2_1 c2_2 d2_2
  have c3_0 := o3.cell 0 _ rfl
  have d3_0 := o3.frozen 0
  have c3_1 := o3.cell 1 _ rfl
  have d3_1 := o3.frozen 1
  rw [rounds_succ]
  go_wp2
  have o4 := o3.setCell 1 (.int .u8 ((n : Int) / 65536 % 256)) rfl
  clear c3_0 d3_0 c3_1 d3_1
  have c4_0 := o4.cell 0 _ rfl
  have d4_0 := o4.frozen 0
  rw [rounds_succ]
  go_wp2
  have o5 := o4.setCell 0 (.int .u8 ((n : Int) / 16777216)) rfl
  clear c4_0 d4_0
  have c5_0 := o5.cell 0 _ rfl
  have d5_0 := o5.frozen 0
  rw [rounds_succ]
  go_wp2
  go_ret2
  have hor : bits .or .u8 ((n : Int) / 16777216) 128 = (n : Int) / 16777216 + 128 := by
    have := or_128v (n / 16777216) (by omega)
    rwa [show ((n / 16777216 : Nat) : Int) = (n : Int) / 16777216 by omega] at this
  rw [hor]
  have oz := o5.setCell 0 (.int .u8 ((n : Int) / 16777216 + 128)) rfl
  refine ⟨_, _, rfl, ?_, ((((b1.setCell (Nat.le_refl _) _).setCell (Nat.le_refl _) _).setCell (Nat.le_refl _) _).setCell (Nat.le_refl _) _).setCell (Nat.le_refl _) _⟩
  rw [Hv.out]
  exact oz
set_option maxHeartbeats 4000000 in
theorem vwide8 (w : World) (n : Nat) (hn : n < 4611686018427387904) (h0 : 1073741824 ≤ n) :
    Calls Tryd.prog 54 #[.int .u64 (n : Int), .int .i64 8] w fun e w' => ∃ a c, e = .returned (.tuple #[.slice a 8 c, .int .i64 0]) ∧ OW w' w.heap.size 5 1 a 8 c ((numX n).map B) ∧ Below w.heap.size w w' := by
  have hs := vsizeX_any w n (by omega)
  rw [vszX_8 (by omega)] at hs
  have T := Lib.hid hs
  have hv : (numX n).map B = [.int .u8 ((n : Int) / 72057594037927936 + 192), .int .u8 ((n : Int) / 281474976710656 % 256), .int .u8 ((n : Int) / 1099511627776 % 256), .int .u8 ((n : Int) / 4294967296 % 256), .int .u8 ((n : Int) / 16777216 % 256), .int .u8 ((n : Int) / 65536 % 256), .int .u8 ((n : Int) / 256 % 256), .int .u8 ((n : Int) % 256)] := by
    rw [numX_8 (by omega) (by omega)]
    simp only [List.map_cons, List.map_nil, B, UInt8.toNat_ofNat']
    rw [show (((n / 72057594037927936 + 192) % 2 ^ 8 : Nat) : Int) = (n : Int) / 72057594037927936 + 192 by omega, show (((n / 281474976710656) % 2 ^ 8 : Nat) : Int) = (n : Int) / 281474976710656 % 256 by omega, show (((n / 1099511627776) % 2 ^ 8 : Nat) : Int) = (n : Int) / 1099511627776 % 256 by omega, show (((n / 4294967296) % 2 ^ 8 : Nat) : Int) = (n : Int) / 4294967296 % 256 by omega, show (((n / 16777216) % 2 ^ 8 : Nat) : Int) = (n : Int) / 16777216 % 256 by omega, show (((n / 65536) % 2 ^ 8 : Nat) : Int) = (n : Int) / 65536 % 256 by omega, show (((n / 256) % 2 ^ 8 : Nat) : Int) = (n : Int) / 256 % 256 by omega, show (((n) % 2 ^ 8 : Nat) : Int) = (n : Int) % 256 by omega]
  have Hv := Lib.hid hv
  clear hv hs
  go_enter Tryd.func54, Tryd.ntmps54
  go_wp2
  refine wp_loop_rounds 5 ?_
  rw [rounds_succ]
  go_wp2
  rw [rounds_succ]
  go_wp2
  rw [rounds_succ]
  go_wp2
  rw [rounds_succ]
  go_wp2
  rw [rounds_succ]
  go_wp2_with (first | (refine L_make tB w.heap.size 8 rfl rfl _ _ rfl rfl _ _ _ _ rfl rfl rfl rfl (by omega) (by unfold maxLen; omega) (Nat.le_refl _) ?_; intro w1 o1 g1) | (go_at_call 53; refine T.out.mono ?_; rintro e w' ⟨rfl, rfl⟩))
  have b1 := below_none (Below.refl w.heap.size w) g1 (Nat.le_refl _)
  have c1_0 := o1.cell 0 _ rfl
  have d1_0 := o1.frozen 0
  have c1_1 := o1.cell 1 _ rfl
  have d1_1 := o1.frozen 1
  have c1_2 := o1.cell 2 _ rfl
  have d1_2 := o1.frozen 2
  have c1_3 := o1.cell 3 _ rfl
  have d1_3 := o1.frozen 3
  have c1_4 := o1.cell 4 _ rfl
  have d1_4 := o1.frozen 4
  have c1_5 := o1.cell 5 _ rfl
  have d1_5 := o1.frozen 5
  have c1_6 := o1.cell 6 _ rfl
  have d1_6 := o1.frozen 6
  have c1_7 := o1.cell 7 _ rfl
  have d1_7 := o1.frozen 7
  refine wp_loop_rounds 9 ?_
  rw [rounds_succ]
  go_wp2
  have o2 := o1.setCell 7 (.int .u8 ((n : Int) % 256)) rfl
  clear c1_0 d1_0 c1_1 d1_1 c1_2 d1_2 c1_3 d1_3 c1_4 d1_4 c1_5 d1_5 c1_6 d1_6 c1_7 d1_7
  have c2_0 := o2.cell 0 _ rfl
  have d2_0 := o2.frozen 0
  have c2_1 := o2.cell 1 _ rfl
  have d2_1 := o2.frozen 1
  have c2_2 := o2.cell 2 _ rfl
  have d2_2 := o2.frozen 2
  have c2_3 := o2.cell 3 _ rfl
  have d2_3 := o2.frozen 3
  have c2_4 := o2.cell 4 _ rfl
  have d2_4 := o2.frozen 4
  have c2_5 := o2.cell 5 _ rfl
  have d2_5 := o2.frozen 5
  have c2_6 := o2.cell 6 _ rfl
  have d2_6 := o2.frozen 6
  rw [rounds_succ]
  go_wp2
  have o3 := o2.setCell 6 (.int .u8 ((n : Int) / 256 % 256)) rfl
  clear c2_0 d2_0 c2_1 d2_1 c2_2 d2_2 c2_3 d2_3 c2_4 d2_4 c2_5 d2_5 c2_6 d2_6
  have c3_0 := o3.cell 0 _ rfl
  have d3_0 := o3.frozen 0
  have c3_1 := o3.cell 1 _ rfl
  have d3_1 := o3.frozen 1
  have c3_2 := o3.cell 2 _ rfl
  have d3_2 := o3.frozen 2
  have c3_3 := o3.cell 3 _ rfl
  have d3_3 := o3.frozen 3
  have c3_4 := o3.cell 4 _ rfl
  have d3_4 := o3.frozen 4
  have c3_5 := o3.cell 5 _ rfl
  have d3_5 := o3.frozen 5
  rw [rounds_succ]
  go_wp2
  have o4 := o3.setCell 5 (.int .u8 ((n : Int) / 65536 % 256)) rfl
  clear c3_0 d3_0 c3_1 d3_1 c3_2 d3_2 c3_3 d3_3 c3_4 d3_4 c3_5 d3_5
  have c4_0 := o4.cell 0 _ rfl
  have d4_0 := o4.frozen 0
  have c4_1 := o4.cell 1 _ rfl
  have d4_1 := o4.frozen 1
  have c4_2 := o4.cell 2 _ rfl
  have d4_2 := o4.frozen 2
  have c4_3 := o4.cell 3 _ rfl
  have d4_3 := o4.frozen 3
  have c4_4 := o4.cell 4 _ rfl
  have d4_4 := o4.frozen 4
  rw [rounds_succ]
  go_wp2
  have o5 := o4.setCell 4 (.int .u8 ((n : Int) / 16777216 % 256)) rfl
  clear c4_0 d4_0 c4_1 d4_1 c4_2 d4_2 c4_3 d4_3 c4_4 d4_4
  have c5_0 := o5.cell 0 _ rfl
  have d5_0 := o5.frozen 0
  have c5_1 := o5.cell 1 _ rfl
  have d5_1 := o5.frozen 1
  have c5_2 := o5.cell 2 _ rfl
  have d5_2 := o5.frozen 2
  have c5_3 := o5.cell 3 _ rfl
  have d5_3 := o5.frozen 3
  rw [rounds_succ]
  go_wp2
  have o6 := o5.setCell 3 (.int .u8 ((n : Int) / 4294967296 % 256)) rfl
  clear c5_0 d5_0 c5_1 d5_1 c5_2 d5_2 c5_3 d5_3
  have c6_0 := o6.cell 0 _ rfl
  have d6_0 := o6.frozen 0
  have c6_1 := o6.cell 1 _ rfl
  have d6_1 := o6.frozen 1
  have c6_2 := o6.cell 2 _ rfl
  have d6_2 := o6.frozen 2
  rw [rounds_succ]
  go_wp2
  have o7 := o6.setCell 2 (.int .u8 ((n : Int) / 1099511627776 % 256)) rfl
  clear c6_0 d6_0 c6_1 d6_1 c6_2 d6_2
  have c7_0 := o7.cell 0 _ rfl
  have d7_0 := o7.frozen 0
  have c7_1 := o7.cell 1 _ rfl
  have d7_1 := o7.frozen 1
  rw [rounds_succ]
  go_wp2
  have o8 := o7.setCell 1 (.int .u8 ((n : Int) / 281474976710656 % 256)) rfl
  clear c7_0 d7_0 c7_1 d7_1
  have c8_0 := o8.cell 0 _ rfl
  have d8_0 := o8.frozen 0
  rw [rounds_succ]
  go_wp2
  have o9 := o8.setCell 0 (.int .u8 ((n : Int) / 72057594037927936)) rfl
  clear c8_0 d8_0
  have c9_0 := o9.cell 0 _ rfl
  have d9_0 := o9.frozen 0
  rw [rounds_succ]
  go_wp2
  go_ret2
  have hor : bits .or .u8 ((n : Int) / 72057594037927936) 192 = (n : Int) / 72057594037927936 + 192 := by
    have := or_192v (n / 72057594037927936) (by omega)
    rwa [show ((n / 72057594037927936 : Nat) : Int) = (n : Int) / 72057594037927936 by omega] at this
  rw [hor]
  have oz := o9.setCell 0 (.int .u8 ((n : Int) / 72057594037927936 + 192)) rfl
  refine ⟨_, _, rfl, ?_, ((((((((b1.setCell (Nat.le_refl _) _).setCell (Nat.le_refl _) _).setCell (Nat.le_refl _) _).setCell (Nat.le_refl _) _).setCell (Nat.le_refl _) _).setCell (Nat.le_refl _) _).setCell (Nat.le_refl _) _).setCell (Nat.le_refl _) _).setCell (Nat.le_refl _) _⟩
  rw [Hv.out]
  exact oz
theorem vnumX_any (w : World) (n : Nat) (hn : n < 4611686018427387904) :
    Calls Tryd.prog 40 #[.int .u64 (n : Int)] w fun e w' => ∃ a c, e = .returned (.tuple #[.slice a (vszX n) c, .int .i64 0]) ∧ OW w' w.heap.size 5 1 a (vszX n) c ((numX n).map B) ∧ Below w.heap.size w w' := by
  by_cases h0 : n < 16384
  · rw [(numX_S h0).1, (numX_S h0).2]; exact vnum_any w n h0
  · have hs := vsizeX_any w n hn
    by_cases h : n < 1073741824
    · rw [vszX_4 (by omega) h] at hs ⊢
      have T := Lib.hid hs
      have T2 := Lib.hid (vwide4 w n h (by omega))
      clear hs
      go_enter Tryd.func40, Tryd.ntmps40
      go_wp2_with (first | (go_at_call 53; refine T.out.mono ?_; rintro e w' ⟨rfl, rfl⟩) | (go_at_call 54; refine T2.out.mono ?_; rintro e w2 ⟨a, c, rfl, h1, h2⟩))
      go_ret2
      exact ⟨a, c, rfl, h1, h2⟩
    · rw [vszX_8 (by omega)] at hs ⊢
      have T := Lib.hid hs
      have T2 := Lib.hid (vwide8 w n hn (by omega))
      clear hs
      go_enter Tryd.func40, Tryd.ntmps40
      go_wp2_with (first | (go_at_call 53; refine T.out.mono ?_; rintro e w' ⟨rfl, rfl⟩) | (go_at_call 54; refine T2.out.mono ?_; rintro e w2 ⟨a, c, rfl, h1, h2⟩))
      go_ret2
      exact ⟨a, c, rfl, h1, h2⟩
end Go.Proofs.YtkhcpnmbhbhcgaaDoor

/- ref01: the bytes of every number. -/
set_option maxRecDepth 100000
set_option linter.unusedVariables false
namespace Go.Proofs.YtkhcpnmbhbhcgaaDoor
open Go.RowKit Go.Joins
theorem rsizeX_any (w : World) (n : Nat) (hn : n < 4611686018427387904) :
    Calls Tryd.prog 55 #[.int .u64 (n : Int)] w fun e w' => e = .returned (.int .i64 (vszX n : Int)) ∧ w = w' := by
  by_cases h0 : n < 16384
  · rw [(numX_S h0).2]; exact rsize_any w n h0
  · by_cases h1 : n < 1073741824
    · rw [vszX_4 (by omega) h1]
      have q1 : ¬ ((n : Int) < 64) := by omega
      have q2 : ¬ ((n : Int) < 16384) := by omega
      have q3 : (n : Int) < 1073741824 := by omega
      clear hn h0 h1
      go_enter Tryd.func55, Tryd.ntmps55
      go_wp2
      go_ret
      exact ⟨rfl, rfl⟩
    · rw [vszX_8 (by omega)]
      have q1 : ¬ ((n : Int) < 64) := by omega
      have q2 : ¬ ((n : Int) < 16384) := by omega
      have q3 : ¬ ((n : Int) < 1073741824) := by omega
      have q4 : (n : Int) < 4611686018427387904 := by omega
      clear hn h0 h1
      go_enter Tryd.func55, Tryd.ntmps55
      go_wp2
      go_ret
      exact ⟨rfl, rfl⟩
set_option maxHeartbeats 4000000 in
theorem rwide4 (w : World) (n : Nat) (hn : n < 1073741824) (h0 : 16384 ≤ n) :
    Calls Tryd.prog 56 #[.int .u64 (n : Int), .int .i64 4] w fun e w' => ∃ a c, e = .returned (.tuple #[.slice a 4 c, .int .i64 0]) ∧ OW w' w.heap.size 5 1 a 4 c ((numX n).map B) ∧ Below w.heap.size w w' := by
  have hs := rsizeX_any w n (by omega)
  rw [vszX_4 (by omega) (by omega)] at hs
  have T := Lib.hid hs
  have hv : (numX n).map B = [.int .u8 ((n : Int) / 256 / 256 / 256 % 256 + 128), .int .u8 ((n : Int) / 256 / 256 % 256), .int .u8 ((n : Int) / 256 % 256), .int .u8 ((n : Int) % 256)] := by
    rw [numX_4 (by omega) (by omega)]
    simp only [List.map_cons, List.map_nil, B, UInt8.toNat_ofNat']
    rw [show (((n / 16777216 + 128) % 2 ^ 8 : Nat) : Int) = (n : Int) / 256 / 256 / 256 % 256 + 128 by omega, show (((n / 65536) % 2 ^ 8 : Nat) : Int) = (n : Int) / 256 / 256 % 256 by omega, show (((n / 256) % 2 ^ 8 : Nat) : Int) = (n : Int) / 256 % 256 by omega, show (((n) % 2 ^ 8 : Nat) : Int) = (n : Int) % 256 by omega]
  have Hv := Lib.hid hv
  clear hv hs
  go_enter Tryd.func56, Tryd.ntmps56
  go_wp2_with (go_at_call 55; refine T.out.mono ?_; rintro e w' ⟨rfl, rfl⟩)
  refine wp_loop_rounds 5 ?_
  rw [rounds_succ]
  go_wp2_with (at_builtin; refine L_append tB (OW_made _ w.heap.size _ 1 #[_] 1 (Nat.le_refl _) rfl (by unfold maxLen; omega) (by simp [Value.oneCell'])) (RS_nil _ _) _ _ rfl rfl rfl rfl (by omega) (by unfold maxLen; omega) (by simp) ?_; intro a1 c1 w1 o1 g1)
  have b1 : Below w.heap.size w w1 := ((below_alloc w _)).grown g1 (by simp) (by intro k hk; simp at hk; omega)
  rw [rounds_succ]
  go_wp2_with (at_builtin; refine L_append tB (OW_made _ w.heap.size _ 1 #[_] 1 b1.size rfl (by unfold maxLen; omega) (by simp [Value.oneCell'])) (o1.rs.alloc _) _ _ rfl rfl rfl rfl (by omega) (by unfold maxLen; omega) (by have := b1.size; simp; omega) ?_; intro a2 c2 w2 o2 g2)
  have b2 : Below w.heap.size w w2 := ((b1.alloc b1.size _)).grown g2 (by have := b1.size; simp; omega) (by intro k hk; simp at hk; have := b1.size; omega)
  rw [rounds_succ]
  go_wp2_with (at_builtin; refine L_append tB (OW_made _ w.heap.size _ 1 #[_] 1 b2.size rfl (by unfold maxLen; omega) (by simp [Value.oneCell'])) (o2.rs.alloc _) _ _ rfl rfl rfl rfl (by omega) (by unfold maxLen; omega) (by have := b2.size; simp; omega) ?_; intro a3 c3 w3 o3 g3)
  have b3 : Below w.heap.size w w3 := ((b2.alloc b2.size _)).grown g3 (by have := b2.size; simp; omega) (by intro k hk; simp at hk; have := b2.size; omega)
  rw [rounds_succ]
  go_wp2_with (at_builtin; refine L_append tB (OW_made _ w.heap.size _ 1 #[_] 1 b3.size rfl (by unfold maxLen; omega) (by simp [Value.oneCell'])) (o3.rs.alloc _) _ _ rfl rfl rfl rfl (by omega) (by unfold maxLen; omega) (by have := b3.size; simp; omega) ?_; intro a4 c4 w4 o4 g4)
  have b4 : Below w.heap.size w w4 := ((b3.alloc b3.size _)).grown g4 (by have := b3.size; simp; omega) (by intro k hk; simp at hk; have := b3.size; omega)
  have oz : OW w4 w.heap.size 5 1 a4 4 c4 [.int .u8 ((n : Int) / 256 / 256 / 256 % 256), .int .u8 ((n : Int) / 256 / 256 % 256), .int .u8 ((n : Int) / 256 % 256), .int .u8 ((n : Int) % 256)] := o4
  obtain ⟨g, rfl⟩ : ∃ g, a4 = some ⟨g, 0, none⟩ := by
    rcases oz.shape with ⟨_, h, _⟩ | ⟨g, cur, h, _⟩
    · cases h
    · exact ⟨g, h⟩
  have q3 : w4.cell? ⟨g, 0, none⟩ = some (.int .u8 ((n : Int) / 256 / 256 / 256 % 256)) := oz.cell 0 _ rfl
  have q4 : w4.frozen? ⟨g, 0, none⟩ = false := oz.frozen 0
  have hg := (oz.base_le rfl).1
  have ox := oz.setCell 0 (.int .u8 ((n : Int) / 256 / 256 / 256 % 256 + 128)) rfl
  have OX1 := Lib.hid ox
  have Bz := Lib.hid b4
  clear o1 g1 b1 o2 g2 b2 o3 g3 b3 o4 g4 b4 oz ox
  rw [rounds_succ]
  go_wp2
  go_ret2
  refine ⟨_, _, rfl, by rw [Hv.out]; exact OX1.out, Bz.out.setCell hg _⟩
set_option maxHeartbeats 4000000 in
theorem rwide8 (w : World) (n : Nat) (hn : n < 4611686018427387904) (h0 : 1073741824 ≤ n) :
    Calls Tryd.prog 56 #[.int .u64 (n : Int), .int .i64 8] w fun e w' => ∃ a c, e = .returned (.tuple #[.slice a 8 c, .int .i64 0]) ∧ OW w' w.heap.size 5 1 a 8 c ((numX n).map B) ∧ Below w.heap.size w w' := by
  have hs := rsizeX_any w n (by omega)
  rw [vszX_8 (by omega)] at hs
  have T := Lib.hid hs
  have hv : (numX n).map B = [.int .u8 ((n : Int) / 256 / 256 / 256 / 256 / 256 / 256 / 256 % 256 + 192), .int .u8 ((n : Int) / 256 / 256 / 256 / 256 / 256 / 256 % 256), .int .u8 ((n : Int) / 256 / 256 / 256 / 256 / 256 % 256), .int .u8 ((n : Int) / 256 / 256 / 256 / 256 % 256), .int .u8 ((n : Int) / 256 / 256 / 256 % 256), .int .u8 ((n : Int) / 256 / 256 % 256), .int .u8 ((n : Int) / 256 % 256), .int .u8 ((n : Int) % 256)] := by
    rw [numX_8 (by omega) (by omega)]
    simp only [List.map_cons, List.map_nil, B, UInt8.toNat_ofNat']
    rw [show (((n / 72057594037927936 + 192) % 2 ^ 8 : Nat) : Int) = (n : Int) / 256 / 256 / 256 / 256 / 256 / 256 / 256 % 256 + 192 by omega, show (((n / 281474976710656) % 2 ^ 8 : Nat) : Int) = (n : Int) / 256 / 256 / 256 / 256 / 256 / 256 % 256 by omega, show (((n / 1099511627776) % 2 ^ 8 : Nat) : Int) = (n : Int) / 256 / 256 / 256 / 256 / 256 % 256 by omega, show (((n / 4294967296) % 2 ^ 8 : Nat) : Int) = (n : Int) / 256 / 256 / 256 / 256 % 256 by omega, show (((n / 16777216) % 2 ^ 8 : Nat) : Int) = (n : Int) / 256 / 256 / 256 % 256 by omega, show (((n / 65536) % 2 ^ 8 : Nat) : Int) = (n : Int) / 256 / 256 % 256 by omega, show (((n / 256) % 2 ^ 8 : Nat) : Int) = (n : Int) / 256 % 256 by omega, show (((n) % 2 ^ 8 : Nat) : Int) = (n : Int) % 256 by omega]
  have Hv := Lib.hid hv
  clear hv hs
  go_enter Tryd.func56, Tryd.ntmps56
  go_wp2_with (go_at_call 55; refine T.out.mono ?_; rintro e w' ⟨rfl, rfl⟩)
  refine wp_loop_rounds 9 ?_
  rw [rounds_succ]
  go_wp2_with (at_builtin; refine L_append tB (OW_made _ w.heap.size _ 1 #[_] 1 (Nat.le_refl _) rfl (by unfold maxLen; omega) (by simp [Value.oneCell'])) (RS_nil _ _) _ _ rfl rfl rfl rfl (by omega) (by unfold maxLen; omega) (by simp) ?_; intro a1 c1 w1 o1 g1)
  have b1 : Below w.heap.size w w1 := ((below_alloc w _)).grown g1 (by simp) (by intro k hk; simp at hk; omega)
  rw [rounds_succ]
  go_wp2_with (at_builtin; refine L_append tB (OW_made _ w.heap.size _ 1 #[_] 1 b1.size rfl (by unfold maxLen; omega) (by simp [Value.oneCell'])) (o1.rs.alloc _) _ _ rfl rfl rfl rfl (by omega) (by unfold maxLen; omega) (by have := b1.size; simp; omega) ?_; intro a2 c2 w2 o2 g2)
  have b2 : Below w.heap.size w w2 := ((b1.alloc b1.size _)).grown g2 (by have := b1.size; simp; omega) (by intro k hk; simp at hk; have := b1.size; omega)
  rw [rounds_succ]
  go_wp2_with (at_builtin; refine L_append tB (OW_made _ w.heap.size _ 1 #[_] 1 b2.size rfl (by unfold maxLen; omega) (by simp [Value.oneCell'])) (o2.rs.alloc _) _ _ rfl rfl rfl rfl (by omega) (by unfold maxLen; omega) (by have := b2.size; simp; omega) ?_; intro a3 c3 w3 o3 g3)
  have b3 : Below w.heap.size w w3 := ((b2.alloc b2.size _)).grown g3 (by have := b2.size; simp; omega) (by intro k hk; simp at hk; have := b2.size; omega)
  rw [rounds_succ]
  go_wp2_with (at_builtin; refine L_append tB (OW_made _ w.heap.size _ 1 #[_] 1 b3.size rfl (by unfold maxLen; omega) (by simp [Value.oneCell'])) (o3.rs.alloc _) _ _ rfl rfl rfl rfl (by omega) (by unfold maxLen; omega) (by have := b3.size; simp; omega) ?_; intro a4 c4 w4 o4 g4)
  have b4 : Below w.heap.size w w4 := ((b3.alloc b3.size _)).grown g4 (by have := b3.size; simp; omega) (by intro k hk; simp at hk; have := b3.size; omega)
  rw [rounds_succ]
  go_wp2_with (at_builtin; refine L_append tB (OW_made _ w.heap.size _ 1 #[_] 1 b4.size rfl (by unfold maxLen; omega) (by simp [Value.oneCell'])) (o4.rs.alloc _) _ _ rfl rfl rfl rfl (by omega) (by unfold maxLen; omega) (by have := b4.size; simp; omega) ?_; intro a5 c5 w5 o5 g5)
  have b5 : Below w.heap.size w w5 := ((b4.alloc b4.size _)).grown g5 (by have := b4.size; simp; omega) (by intro k hk; simp at hk; have := b4.size; omega)
  rw [rounds_succ]
  go_wp2_with (at_builtin; refine L_append tB (OW_made _ w.heap.size _ 1 #[_] 1 b5.size rfl (by unfold maxLen; omega) (by simp [Value.oneCell'])) (o5.rs.alloc _) _ _ rfl rfl rfl rfl (by omega) (by unfold maxLen; omega) (by have := b5.size; simp; omega) ?_; intro a6 c6 w6 o6 g6)
  have b6 : Below w.heap.size w w6 := ((b5.alloc b5.size _)).grown g6 (by have := b5.size; simp; omega) (by intro k hk; simp at hk; have := b5.size; omega)
  rw [rounds_succ]
  go_wp2_with (at_builtin; refine L_append tB (OW_made _ w.heap.size _ 1 #[_] 1 b6.size rfl (by unfold maxLen; omega) (by simp [Value.oneCell'])) (o6.rs.alloc _) _ _ rfl rfl rfl rfl (by omega) (by unfold maxLen; omega) (by have := b6.size; simp; omega) ?_; intro a7 c7 w7 o7 g7)
  have b7 : Below w.heap.size w w7 := ((b6.alloc b6.size _)).grown g7 (by have := b6.size; simp; omega) (by intro k hk; simp at hk; have := b6.size; omega)
  rw [rounds_succ]
  go_wp2_with (at_builtin; refine L_append tB (OW_made _ w.heap.size _ 1 #[_] 1 b7.size rfl (by unfold maxLen; omega) (by simp [Value.oneCell'])) (o7.rs.alloc _) _ _ rfl rfl rfl rfl (by omega) (by unfold maxLen; omega) (by have := b7.size; simp; omega) ?_; intro a8 c8 w8 o8 g8)
  have b8 : Below w.heap.size w w8 := ((b7.alloc b7.size _)).grown g8 (by have := b7.size; simp; omega) (by intro k hk; simp at hk; have := b7.size; omega)
  have oz : OW w8 w.heap.size 5 1 a8 8 c8 [.int .u8 ((n : Int) / 256 / 256 / 256 / 256 / 256 / 256 / 256 % 256), .int .u8 ((n : Int) / 256 / 256 / 256 / 256 / 256 / 256 % 256), .int .u8 ((n : Int) / 256 / 256 / 256 / 256 / 256 % 256), .int .u8 ((n : Int) / 256 / 256 / 256 / 256 % 256), .int .u8 ((n : Int) / 256 / 256 / 256 % 256), .int .u8 ((n : Int) / 256 / 256 % 256), .int .u8 ((n : Int) / 256 % 256), .int .u8 ((n : Int) % 256)] := o8
  obtain ⟨g, rfl⟩ : ∃ g, a8 = some ⟨g, 0, none⟩ := by
    rcases oz.shape with ⟨_, h, _⟩ | ⟨g, cur, h, _⟩
    · cases h
    · exact ⟨g, h⟩
  have q3 : w8.cell? ⟨g, 0, none⟩ = some (.int .u8 ((n : Int) / 256 / 256 / 256 / 256 / 256 / 256 / 256 % 256)) := oz.cell 0 _ rfl
  have q4 : w8.frozen? ⟨g, 0, none⟩ = false := oz.frozen 0
  have hg := (oz.base_le rfl).1
  have ox := oz.setCell 0 (.int .u8 ((n : Int) / 256 / 256 / 256 / 256 / 256 / 256 / 256 % 256 + 192)) rfl
  have OX1 := Lib.hid ox
  have Bz := Lib.hid b8
  clear o1 g1 b1 o2 g2 b2 o3 g3 b3 o4 g4 b4 o5 g5 b5 o6 g6 b6 o7 g7 b7 o8 g8 b8 oz ox
  rw [rounds_succ]
  go_wp2
  go_ret2
  refine ⟨_, _, rfl, by rw [Hv.out]; exact OX1.out, Bz.out.setCell hg _⟩
theorem rnumX_any (w : World) (n : Nat) (hn : n < 4611686018427387904) :
    Calls Tryd.prog 42 #[.int .u64 (n : Int)] w fun e w' => ∃ a c, e = .returned (.tuple #[.slice a (vszX n) c, .int .i64 0]) ∧ OW w' w.heap.size 5 1 a (vszX n) c ((numX n).map B) ∧ Below w.heap.size w w' := by
  by_cases h0 : n < 16384
  · rw [(numX_S h0).1, (numX_S h0).2]; exact rnum_any w n h0
  · have hs := rsizeX_any w n hn
    by_cases h : n < 1073741824
    · rw [vszX_4 (by omega) h] at hs ⊢
      have T := Lib.hid hs
      have T2 := Lib.hid (rwide4 w n h (by omega))
      clear hs
      go_enter Tryd.func42, Tryd.ntmps42
      go_wp2_with (first | (go_at_call 55; refine T.out.mono ?_; rintro e w' ⟨rfl, rfl⟩) | (go_at_call 56; refine T2.out.mono ?_; rintro e w2 ⟨a, c, rfl, h1, h2⟩))
      go_ret2
      exact ⟨a, c, rfl, h1, h2⟩
    · rw [vszX_8 (by omega)] at hs ⊢
      have T := Lib.hid hs
      have T2 := Lib.hid (rwide8 w n hn (by omega))
      clear hs
      go_enter Tryd.func42, Tryd.ntmps42
      go_wp2_with (first | (go_at_call 55; refine T.out.mono ?_; rintro e w' ⟨rfl, rfl⟩) | (go_at_call 56; refine T2.out.mono ?_; rintro e w2 ⟨a, c, rfl, h1, h2⟩))
      go_ret2
      exact ⟨a, c, rfl, h1, h2⟩
end Go.Proofs.YtkhcpnmbhbhcgaaDoor

/- greet.Params' bytes. -/
set_option maxRecDepth 100000
set_option linter.unusedVariables false
namespace Go.Proofs.YtkhcpnmbhbhcgaaDoor
open Go.RowKit Go.Joins
/-- six numbers -/
def U6 (l : List Nat) : List Value := l.map fun (x : Nat) => Value.int .u64 (x : Int)
theorem six {l : List Nat} (h : l.length = 6) : ∃ a b c d e f, l = [a, b, c, d, e, f] := by
  match l, h with
  | [a, b, c, d, e, f], _ => exact ⟨a, b, c, d, e, f, rfl⟩
theorem index6 (W : World) {l : List Nat} (h : l.length = 6) (i : Nat) (hi : i < 6) : (Instr.index 58 (.agg (U6 l).toArray) (.int .i64 (i : Int))).run Tryd.prog W = .ok (.int .u64 ((l.getD i 0 : Nat) : Int)) W := by
  obtain ⟨a, b, c, d, e, f, rfl⟩ := six h
  rcases (show i = 0 ∨ i = 1 ∨ i = 2 ∨ i = 3 ∨ i = 4 ∨ i = 5 by omega) with rfl | rfl | rfl | rfl | rfl | rfl <;> kernel_rfl
theorem iParams : (Tryd.prog.info? 60).map (·.size) = some 6 := by kernel_rfl
theorem iSix : (Tryd.prog.info? 58).map (·.size) = some 6 := by kernel_rfl
theorem U6_len (l : List Nat) : (U6 l).length = l.length := by simp [U6]
/-- a row of six numbers -/
def R6 (w : World) (g : Nat) (t : TypeId) (l : List Nat) : Prop := w.heap[g]? = some (.cells (U6 l).toArray t (0, 0))
theorem R6.lt {w : World} {g : Nat} {t : TypeId} {l : List Nat} (h : R6 w g t l) : g < w.heap.size := (Array.getElem?_eq_some_iff.1 h).1
theorem R6.keep {w w' : World} {g : Nat} {t : TypeId} {l : List Nat} (h : R6 w g t l) (hk : w'.heap[g]? = w.heap[g]?) : R6 w' g t l := by unfold R6; rw [hk]; exact h
theorem R6.bel {w w' : World} {g : Nat} {t : TypeId} {l : List Nat} (h : R6 w g t l) (hb : Below w.heap.size w w') : R6 w' g t l := h.keep (hb.block _ h.lt)
theorem R6.rng {w : World} {g : Nat} {t : TypeId} {l : List Nat} (h : R6 w g t l) : w.rangeAt g 0 (U6 l) := fun j v hv => by
  unfold R6 at h
  simp only [World.cell?, Nat.zero_add, h]
  simpa using hv
theorem R6.at_ {w : World} {g : Nat} {t : TypeId} {l : List Nat} (h : R6 w g t l) (i : Nat) (hi : i < l.length) : w.cell? ⟨g, i, none⟩ = some (.int .u64 ((l.getD i 0 : Nat) : Int)) := by
  unfold R6 at h
  simp [World.cell?, h, U6, List.getD_eq_getElem?_getD, hi]
theorem R6.fr {w : World} {g : Nat} {t : TypeId} {l : List Nat} (h : R6 w g t l) (i : Nat) : w.frozen? ⟨g, i, none⟩ = false := by unfold R6 at h; simp [World.frozen?, h]
theorem U6_one (l : List Nat) : ∀ v ∈ U6 l, v.oneCell' = true := by
  intro v hv
  obtain ⟨x, _, rfl⟩ := List.mem_map.1 hv
  rfl
theorem list_any (w : World) {l : List Nat} (h : l.length = 6) :
    Calls Tryd.prog 39 #[.agg (U6 l).toArray] w fun e w' => e = .returned (.agg (U6 l).toArray) ∧ Below w.heap.size w w' := by
  obtain ⟨a, b, c, d, e, f, rfl⟩ := six h
  have hb := (below_alloc w (.cells (U6 [a, b, c, d, e, f]).toArray 60)).alloc (by simp) (.cells #[.int .u64 0, .int .u64 0, .int .u64 0, .int .u64 0, .int .u64 0, .int .u64 0] 58)
  have hA := heap_alloc2b w (.cells (U6 [a, b, c, d, e, f]).toArray 60) (.cells #[.int .u64 0, .int .u64 0, .int .u64 0, .int .u64 0, .int .u64 0, .int .u64 0] 58)
  have ho := U6_one [a, b, c, d, e, f]
  unfold U6 at *
  simp only [List.map_cons, List.map_nil] at *
  have HA := Lib.hid hA
  have HB := Lib.hid hb
  have HO := Lib.hid ho
  clear hA hb ho h
  go_enter Tryd.func39, Tryd.ntmps39
  go_wp2_with (refine L_storeRow (old := [.int .u64 0, .int .u64 0, .int .u64 0, .int .u64 0, .int .u64 0, .int .u64 0]) rfl 58 _ _ rfl rfl rfl HA.out iSix rfl rfl HO.out ?_; intro w2 hz hg)
  exact bodyPost_ret_by (results_cell_row rfl _ _ _ _ _ _ _ rfl hz Tryd.underlying58 rfl iSix) rfl ⟨rfl, HB.out.grown hg (by simp; omega) (fun k hk => by cases hk; omega)⟩
theorem unlist_any (w : World) {l : List Nat} (h : l.length = 6) :
    Calls Tryd.prog 37 #[.agg (U6 l).toArray] w fun e w' => e = .returned (.agg (U6 l).toArray) ∧ Below w.heap.size w w' := by
  obtain ⟨a, b, c, d, e, f, rfl⟩ := six h
  have hb := (below_alloc w (.cells (U6 [a, b, c, d, e, f]).toArray 58)).alloc (by simp) (.cells #[.int .u64 0, .int .u64 0, .int .u64 0, .int .u64 0, .int .u64 0, .int .u64 0] 60)
  have hA := heap_alloc2b w (.cells (U6 [a, b, c, d, e, f]).toArray 58) (.cells #[.int .u64 0, .int .u64 0, .int .u64 0, .int .u64 0, .int .u64 0, .int .u64 0] 60)
  have ho := U6_one [a, b, c, d, e, f]
  unfold U6 at *
  simp only [List.map_cons, List.map_nil] at *
  have HA := Lib.hid hA
  have HB := Lib.hid hb
  have HO := Lib.hid ho
  clear hA hb ho h
  go_enter Tryd.func37, Tryd.ntmps37
  go_wp2_with (refine L_storeRow (old := [.int .u64 0, .int .u64 0, .int .u64 0, .int .u64 0, .int .u64 0, .int .u64 0]) rfl 60 _ _ rfl rfl rfl HA.out iParams rfl rfl HO.out ?_; intro w2 hz hg)
  exact bodyPost_ret_by (results_cell_row rfl _ _ _ _ _ _ _ rfl hz Tryd.underlying60 rfl iParams) rfl ⟨rfl, HB.out.grown hg (by simp; omega) (fun k hk => by cases hk; omega)⟩
end Go.Proofs.YtkhcpnmbhbhcgaaDoor

/- greet.Params' bytes: the program's and the reference's. -/
set_option maxRecDepth 100000
set_option linter.unusedVariables false
namespace Go.Proofs.YtkhcpnmbhbhcgaaDoor
open Go.RowKit Go.Joins
def idsN : List Nat := [1, 4, 6, 8, 9, 32]
def pb1 (id v : Nat) : List UInt8 := if v = 0 then [] else numX id ++ textS (numX (min v 4611686018427387903))
/-- the bytes of the first so many -/
def pbS (l : List Nat) : Nat → List UInt8
  | 0 => []
  | i + 1 => pbS l i ++ pb1 (idsN.getD i 0) (l.getD i 0)
theorem pb1_len (id v : Nat) : (pb1 id v).length ≤ 18 := by
  unfold pb1
  split
  · simp
  · rw [List.length_append, numX_len, textS_len, numX_len]
    have h1 := vszX_bd id
    have h2 := vszX_bd (min v 4611686018427387903)
    have h3 := vsz_bd (vszX (min v 4611686018427387903))
    omega
theorem pbS_len (l : List Nat) : ∀ i, (pbS l i).length ≤ 18 * i
  | 0 => by simp [pbS]
  | i + 1 => by
    rw [pbS, List.length_append]
    have h1 := pbS_len l i
    have h2 := pb1_len (idsN.getD i 0) (l.getD i 0)
    omega
/-- a laid table of the six -/
def TI (w : World) (g : Nat) : Prop := ∀ i, i < 6 → w.cell? ⟨g, i, none⟩ = some (.int .u64 ((idsN.getD i 0 : Nat) : Int))
theorem TI.lt {w : World} {g : Nat} (h : TI w g) : g < w.heap.size := World.block_lt_of_cell? w _ (h 0 (by decide))
theorem TI.bel {w w' : World} {g N : Nat} (h : TI w g) (hb : Below N w w') (hN : w.heap.size ≤ N) : TI w' g := fun i hi => (hb.cell (p := ⟨g, i, none⟩) (Nat.lt_of_lt_of_le h.lt hN)).trans (h i hi)
theorem ids_bd {i : Nat} (hi : i < 6) : idsN.getD i 0 < 64 ∧ 0 < idsN.getD i 0 := by
  rcases (show i = 0 ∨ i = 1 ∨ i = 2 ∨ i = 3 ∨ i = 4 ∨ i = 5 by omega) with rfl | rfl | rfl | rfl | rfl | rfl <;> decide
structure PQ (w wr : World) (l : List Nat) (i : Nat) (a : Option Addr) (n c : Nat) : Prop where
  ow : OW wr w.heap.size 5 1 a n c ((pbS l i).map B)
  len : (pbS l i).length = n
  bel : Below w.heap.size w wr
set_option maxHeartbeats 4000000 in
theorem pbytes_any (w : World) {l : List Nat} (h6 : l.length = 6) (hv : ∀ x ∈ l, x < 18446744073709551616) (hK : TI w 0) :
    Calls Tryd.prog 23 #[.agg (U6 l).toArray] w fun e w' => ∃ a n c, e = .returned (.slice a n c) ∧ PQ w w' l 6 a n c := by
  have hA : R6 (w.alloc (.cells (U6 l).toArray 60)) w.heap.size 60 l := heap_alloc_new w _
  have hb := below_alloc w (.cells (U6 l).toArray 60)
  obtain ⟨w1, hw1⟩ : ∃ x, w.alloc (.cells (U6 l).toArray 60) = x := ⟨_, rfl⟩
  rw [hw1] at hA hb
  have Hrg := Lib.hid hA.rng
  have hi6 : (Tryd.prog.info? 60).map (·.size) = some (U6 l).length := by rw [U6_len, h6]; exact iParams
  have Hi6 := Lib.hid hi6
  have HL := Lib.hid (list_any w1 h6)
  have HB := Lib.hid hb
  have H6 := Lib.hid (And.intro h6 hv)
  have HK := Lib.hid hK
  obtain ⟨Z, hZ⟩ : ∃ Z, (U6 l).toArray = Z := ⟨_, rfl⟩
  have HZ := Lib.hid hZ
  rw [hZ] at hw1 HL ⊢
  clear hA hb hi6 h6 hv hK hZ
  go_enter Tryd.func23, Tryd.ntmps23
  go_upto_region 2 with (fail)
  clear hw1
  go_upto_region 3 with (first
    | (refine wpList_load_mid rfl _ _ rfl _ _ rfl _ _ Hrg.out Tryd.underlying60 rfl Hi6.out ?_; rw [HZ.out])
    | (go_at_call 39; refine HL.out.mono ?_; rintro x w2 ⟨rfl, B2⟩))
  have hstart : PQ w w2 l 0 none 0 0 := ⟨OW_nil _ _ _ 1, rfl, HB.out.trans (B2.mono HB.out.size)⟩
  have HS := Lib.hid hstart
  clear hstart B2 HB HL Hrg Hi6
  go_loopw [3, 12] (fun s3 s12 wr => ∃ (i : Nat) (a : Option Addr) (n c : Nat), i ≤ 6 ∧ s3 = .slice a n c ∧ s12 = .int .i64 (i : Int) ∧ PQ w wr l i a n c) (fun _ s12 _ => match s12 with | .int _ x => (6 - x).toNat | _ => 0)
  case atStart => exact ⟨0, none, 0, 0, by omega, rfl, rfl, HS.out⟩
  case round =>
    clear HS
    obtain ⟨i, a, n, c, hi, rfl, rfl, hP⟩ := hrel
    have HP := Lib.hid hP
    clear hP
    by_cases hi6 : i = 6
    · subst hi6
      go_wp2
      go_ret
      exact ⟨a, n, c, rfl, HP.out⟩
    · have hlt : i < 6 := by omega
      obtain ⟨v, hvv⟩ : ∃ v, l.getD i 0 = v := ⟨_, rfl⟩
      obtain ⟨id, hid⟩ : ∃ v, idsN.getD i 0 = v := ⟨_, rfl⟩
      have hidx := fun W => index6 W H6.out.1 i hlt
      rw [hvv, HZ.out] at hidx
      have hvb : v < 18446744073709551616 := by
        rw [← hvv, List.getD_eq_getElem?_getD, List.getElem?_eq_getElem (by rw [H6.out.1]; exact hlt)]
        exact H6.out.2 _ (List.getElem_mem _)
      have hidb := ids_bd hlt
      rw [hid] at hidb
      obtain ⟨m, hm⟩ : ∃ m, min v 4611686018427387903 = m := ⟨_, rfl⟩
      have hmb : m < 4611686018427387904 := by omega
      have hmin : min (v : Int) 4611686018427387903 = (m : Int) := by omega
      have hwr : IntKind.i64.wrap ((i : Int) + 1) = (i : Int) + 1 := IntWalk.i64_in _ (by omega)
      have hn := pbS_len l i
      rw [HP.out.len] at hn
      have hnb : n ≤ 200 := by omega
      have HN := Lib.hid (And.intro hvv (And.intro hid hm))
      have HNm := Lib.hid (vnumX_any wr m hmb)
      have Hid1 := Lib.hid hidb
      have lm := vszX_bd m
      have li := vszX_bd id
      have lt2 := vsz_bd (vszX m)
      obtain ⟨km, hkm⟩ : ∃ x, vszX m = x := ⟨_, rfl⟩
      obtain ⟨ki, hki⟩ : ∃ x, vszX id = x := ⟨_, rfl⟩
      rw [hkm] at lm lt2 HNm
      rw [hki] at li
      obtain ⟨kt, hkt⟩ : ∃ x, vsz km = x := ⟨_, rfl⟩
      rw [hkt] at lt2
      have HKs := Lib.hid (And.intro hkm (And.intro hki hkt))
      clear hn hvv hid hm hidb hvb hmb hkm hki hkt
      by_cases hv0 : v = 0
      · subst hv0
        have hm0 : m = 0 := by rw [← HN.out.2.2]; rfl
        subst hm0
        have hn0 : Calls Tryd.prog 40 #[.int .u64 0] wr fun e w' => ∃ a c, e = .returned (.tuple #[.slice a km c, .int .i64 0]) ∧ OW w' wr.heap.size 5 1 a km c ((numX 0).map B) ∧ Below wr.heap.size wr w' := HNm.out
        clear hmin
        have hmin : min (0 : Int) 4611686018427387903 = 0 := by decide
        go_wp2_with (go_at_call 40; (with_reducible refine hn0.mono ?_); rintro x w5 ⟨a5, c5, rfl, o5, B5⟩)
        refine ⟨⟨i + 1, a, n, c, by omega, rfl, by simp, ?_⟩, by simp; omega⟩
        have e1 : pbS l (i + 1) = pbS l i := by rw [pbS, HN.out.1]; simp [pb1]
        have h := HP.out
        exact ⟨by rw [e1]; exact h.ow.below B5 (Nat.le_refl _), by rw [e1]; exact h.len, h.bel.trans (B5.mono h.bel.size)⟩
      · have hvi : ¬ ((v : Int) = 0) := by omega
        go_upto_region 7 with (go_at_call 40; (with_reducible refine HNm.out.mono ?_); rintro x w5 ⟨a5, c5, rfl, o5, B5⟩)
        have hq := (HK.out.bel (HP.out.bel.trans (B5.mono HP.out.bel.size)) (Nat.le_refl _)) i hlt
        rw [HN.out.2.1] at hq
        have hni := vnumX_any w5 id (by have := Hid1.out; omega)
        rw [HKs.out.2.1] at hni
        have Hni := Lib.hid hni
        have HO5 := Lib.hid o5
        have HP5 := Lib.hid (show OW w5 w.heap.size 5 1 a n c ((pbS l i).map B) ∧ Below w.heap.size w w5 from ⟨HP.out.ow.below B5 (Nat.le_refl _), HP.out.bel.trans (B5.mono HP.out.bel.size)⟩)
        have Hne := Lib.hid (show ∀ ad, a5 = some ad → some ad.block ≠ a.map (·.block) from fun ad ha he => by
          have h1 := (o5.base_le ha).1
          cases hA : a with
          | none => rw [hA] at he; cases he
          | some ad2 => rw [hA] at he; injection he with he; have he : ad.block = ad2.block := he; have h2 := (HP.out.ow.base_le hA).2; omega)
        clear hni o5 B5 HNm
        go_upto_region 8 with (go_at_call 40; (with_reducible refine Hni.out.mono ?_); rintro x w6 ⟨a6, c6, rfl, o6, B6⟩)
        clear hq Hni
        have p6 := HP5.out.1.below B6 (Nat.le_refl _)
        have q6 := HP5.out.2.trans (B6.mono HP5.out.2.size)
        have t6 := HO5.out.rs.below B6 (Nat.le_refl _)
        clear HP5 HO5 B6
        have htx : ∀ w', BS w' a5 km c5 (numX m) → Calls Tryd.prog 41 #[.slice a5 km c5] w' fun e w'' => ∃ a' c', e = .returned (.slice a' (kt + km) c') ∧ OW w'' w'.heap.size 5 1 a' (kt + km) c' ((textS (numX m)).map B) ∧ Below w'.heap.size w' w'' := fun w' h => by
          have h := vtext_any w' h (by omega)
          rw [HKs.out.2.2] at h; exact h
        go_upto_region 9 with (first
          | (at_builtin; refine L_append tB p6 o6.rs _ _ rfl rfl rfl rfl (by omega) (by unfold maxLen; omega) q6.size ?_; intro a7 c7 w7 o7 g7; have t7 := RS.grown t6 g7 Hne.out; have q7 := below_own q6 p6 g7 (Nat.le_refl _) q6.size)
          | (go_at_call 41; (with_reducible refine (htx w7 t7).mono ?_); rintro x w8 ⟨a8, c8, rfl, o8, B8⟩; have o9 := o7.below B8 (Nat.le_refl _); have q8 := q7.trans (B8.mono q7.size))
          | (at_builtin; refine L_append tB o9 o8.rs _ _ rfl rfl rfl rfl (by omega) (by unfold maxLen; omega) q8.size ?_; intro a9 c9 w9 o10 g9; have q9 := below_own q8 o9 g9 (Nat.le_refl _) q8.size))
        have Ho := Lib.hid o10
        have Hq := Lib.hid q9
        clear o6 p6 q6 t6 htx o7 g7 t7 q7 o8 B8 o9 q8 o10 g9 q9
        go_wp2
        refine ⟨⟨i + 1, a9, n + ki + (kt + km), c9, by omega, rfl, by simp, ?_⟩, by simp; omega⟩
        have e1 : pbS l (i + 1) = pbS l i ++ (numX id ++ textS (numX m)) := by rw [pbS, HN.out.1, HN.out.2.1]; unfold pb1; rw [if_neg hv0, HN.out.2.2]
        refine ⟨by rw [e1, List.map_append, List.map_append, ← List.append_assoc]; exact Ho.out, ?_, Hq.out⟩
        rw [e1, List.length_append, List.length_append, numX_len, textS_len, numX_len, HKs.out.2.1, HKs.out.1, HKs.out.2.2, HP.out.len]
        omega
end Go.Proofs.YtkhcpnmbhbhcgaaDoor

/- the reference's bytes of params. -/
set_option maxRecDepth 100000
set_option linter.unusedVariables false
namespace Go.Proofs.YtkhcpnmbhbhcgaaDoor
open Go.RowKit Go.Joins
set_option maxHeartbeats 4000000 in
theorem rpbytes_any (w : World) {l : List Nat} (h6 : l.length = 6) (hv : ∀ x ∈ l, x < 18446744073709551616) (hK : TI w 1) :
    Calls Tryd.prog 24 #[.agg (U6 l).toArray] w fun e w' => ∃ a n c, e = .returned (.slice a n c) ∧ PQ w w' l 6 a n c := by
  have hA : R6 (w.alloc (.cells (U6 l).toArray 58)) w.heap.size 58 l := heap_alloc_new w _
  have hb := below_alloc w (.cells (U6 l).toArray 58)
  obtain ⟨w1, hw1⟩ : ∃ x, w.alloc (.cells (U6 l).toArray 58) = x := ⟨_, rfl⟩
  rw [hw1] at hA hb
  have Hrg := Lib.hid hA.rng
  have hi6 : (Tryd.prog.info? 58).map (·.size) = some (U6 l).length := by rw [U6_len, h6]; exact iSix
  have Hi6 := Lib.hid hi6
  have HB := Lib.hid hb
  have H6 := Lib.hid (And.intro h6 hv)
  have HK := Lib.hid hK
  obtain ⟨Z, hZ⟩ : ∃ Z, (U6 l).toArray = Z := ⟨_, rfl⟩
  have HZ := Lib.hid hZ
  rw [hZ] at hw1 ⊢
  clear hA hb hi6 h6 hv hK hZ
  go_enter Tryd.func24, Tryd.ntmps24
  go_upto_region 2 with (fail)
  clear hw1
  go_upto_region 3 with (refine wpList_load_mid rfl _ _ rfl _ _ rfl _ _ Hrg.out Tryd.underlying58 rfl Hi6.out ?_; rw [HZ.out])
  have hstart : PQ w w1 l 0 none 0 0 := ⟨OW_nil _ _ _ 1, rfl, HB.out⟩
  have HS := Lib.hid hstart
  clear hstart HB Hrg Hi6
  go_loopw [3, 11] (fun s3 s11 wr => ∃ (i : Nat) (a : Option Addr) (n c : Nat), i ≤ 6 ∧ s3 = .slice a n c ∧ s11 = .int .i64 (i : Int) ∧ PQ w wr l i a n c) (fun _ s11 _ => match s11 with | .int _ x => (6 - x).toNat | _ => 0)
  case atStart => exact ⟨0, none, 0, 0, by omega, rfl, rfl, HS.out⟩
  case round =>
    clear HS
    obtain ⟨i, a, n, c, hi, rfl, rfl, hP⟩ := hrel
    have HP := Lib.hid hP
    clear hP
    by_cases hi6 : i = 6
    · subst hi6
      go_wp2
      go_ret
      exact ⟨a, n, c, rfl, HP.out⟩
    · have hlt : i < 6 := by omega
      obtain ⟨v, hvv⟩ : ∃ v, l.getD i 0 = v := ⟨_, rfl⟩
      obtain ⟨id, hid⟩ : ∃ v, idsN.getD i 0 = v := ⟨_, rfl⟩
      have hidx := fun W => index6 W H6.out.1 i hlt
      rw [hvv, HZ.out] at hidx
      have hvb : v < 18446744073709551616 := by
        rw [← hvv, List.getD_eq_getElem?_getD, List.getElem?_eq_getElem (by rw [H6.out.1]; exact hlt)]
        exact H6.out.2 _ (List.getElem_mem _)
      have hidb := ids_bd hlt
      rw [hid] at hidb
      obtain ⟨m, hm⟩ : ∃ m, min v 4611686018427387903 = m := ⟨_, rfl⟩
      have hmb : m < 4611686018427387904 := by omega
      have hwr : IntKind.i64.wrap ((i : Int) + 1) = (i : Int) + 1 := IntWalk.i64_in _ (by omega)
      have hn := pbS_len l i
      rw [HP.out.len] at hn
      have hnb : n ≤ 200 := by omega
      have HN := Lib.hid (And.intro hvv (And.intro hid hm))
      have Hid1 := Lib.hid hidb
      have lm := vszX_bd m
      have li := vszX_bd id
      have lt2 := vsz_bd (vszX m)
      obtain ⟨km, hkm⟩ : ∃ x, vszX m = x := ⟨_, rfl⟩
      obtain ⟨ki, hki⟩ : ∃ x, vszX id = x := ⟨_, rfl⟩
      rw [hkm] at lm lt2
      rw [hki] at li
      obtain ⟨kt, hkt⟩ : ∃ x, vsz km = x := ⟨_, rfl⟩
      rw [hkt] at lt2
      have HKs := Lib.hid (And.intro hkm (And.intro hki hkt))
      clear hn hvv hid hidb hkm hki hkt
      by_cases hv0 : v = 0
      · subst hv0
        clear hm
        go_wp2
        refine ⟨⟨i + 1, a, n, c, by omega, rfl, by simp, ?_⟩, by simp; omega⟩
        have e1 : pbS l (i + 1) = pbS l i := by rw [pbS, HN.out.1]; simp [pb1]
        have h := HP.out
        exact ⟨by rw [e1]; exact h.ow, by rw [e1]; exact h.len, h.bel⟩
      · have hvi : ¬ ((v : Int) = 0) := by omega
        have hq := (HK.out.bel HP.out.bel (Nat.le_refl _)) i hlt
        rw [HN.out.2.1] at hq
        have hni := rnumX_any wr id (by have := Hid1.out; omega)
        rw [HKs.out.2.1] at hni
        have Hni := Lib.hid hni
        have htx : ∀ w' a5 c5, BS w' a5 km c5 (numX m) → Calls Tryd.prog 31 #[.slice a5 km c5] w' fun e w'' => ∃ a' c', e = .returned (.slice a' (kt + km) c') ∧ OW w'' w'.heap.size 5 1 a' (kt + km) c' ((textS (numX m)).map B) ∧ Below w'.heap.size w' w'' := fun w' a5 c5 h => by
          have h := rtext_any w' h (by omega)
          rw [HKs.out.2.2] at h; exact h
        have hnm : ∀ w', Calls Tryd.prog 42 #[.int .u64 (m : Int)] w' fun e w'' => ∃ a c, e = .returned (.tuple #[.slice a km c, .int .i64 0]) ∧ OW w'' w'.heap.size 5 1 a km c ((numX m).map B) ∧ Below w'.heap.size w' w'' := fun w' => by
          have h := rnumX_any w' m hmb
          rw [HKs.out.1] at h; exact h
        have Htx := Lib.hid htx
        have Hnm := Lib.hid hnm
        clear hni htx hnm hmb
        by_cases hbig : 4611686018427387903 < v
        · have hm1 : m = 4611686018427387903 := by omega
          have hbi : (4611686018427387903 : Int) < (v : Int) := by omega
          have hnm : ∀ w', Calls Tryd.prog 42 #[.int .u64 4611686018427387903] w' fun e w'' => ∃ a c, e = .returned (.tuple #[.slice a km c, .int .i64 0]) ∧ OW w'' w'.heap.size 5 1 a km c ((numX m).map B) ∧ Below w'.heap.size w' w'' := fun w' => by
            have h := Hnm.out w'
            rw [show ((m : Nat) : Int) = 4611686018427387903 by omega] at h; exact h
          have Hnm := Lib.hid hnm
          clear hnm hm hm1 hbig
          go_upto_region 9 with (go_at_call 42; (with_reducible refine Hni.out.mono ?_); rintro x w5 ⟨a6, c6, rfl, o6, B5⟩)
          clear hq Hni
          have p5 := HP.out.ow.below B5 (Nat.le_refl _)
          have q5 := HP.out.bel.trans (B5.mono HP.out.bel.size)
          have HP5 := Lib.hid (And.intro p5 q5)
          have HO6 := Lib.hid o6
          clear p5 q5 o6 B5
          go_upto_region 10 with (go_at_call 42; (with_reducible refine (Hnm.out w5).mono ?_); rintro x w6 ⟨a5, c5, rfl, o5, B6⟩)
          have p6 := HP5.out.1.below B6 (Nat.le_refl _)
          have q6 := HP5.out.2.trans (B6.mono HP5.out.2.size)
          have r6 := HO6.out.rs.below B6 (Nat.le_refl _)
          have hne : ∀ ad, a5 = some ad → some ad.block ≠ a.map (·.block) := fun ad ha he => by
            have h1 := (o5.base_le ha).1
            cases hA : a with
            | none => rw [hA] at he; cases he
            | some ad2 => rw [hA] at he; injection he with he; have he : ad.block = ad2.block := he; have h2 := (HP5.out.1.base_le hA).2; omega
          have Hne := Lib.hid hne
          have t6 := o5.rs
          clear HP5 HO6 o5 B6 hne
          go_upto_region 11 with (first
            | (at_builtin; refine L_append tB p6 r6 _ _ rfl rfl rfl rfl (by omega) (by unfold maxLen; omega) q6.size ?_; intro a7 c7 w7 o7 g7; have t7 := RS.grown t6 g7 Hne.out; have q7 := below_own q6 p6 g7 (Nat.le_refl _) q6.size)
            | (go_at_call 31; (with_reducible refine (Htx.out w7 _ _ t7).mono ?_); rintro x w8 ⟨a8, c8, rfl, o8, B8⟩; have o9 := o7.below B8 (Nat.le_refl _); have q8 := q7.trans (B8.mono q7.size))
            | (at_builtin; refine L_append tB o9 o8.rs _ _ rfl rfl rfl rfl (by omega) (by unfold maxLen; omega) q8.size ?_; intro a9 c9 w9 o10 g9; have q9 := below_own q8 o9 g9 (Nat.le_refl _) q8.size))
          have Ho := Lib.hid o10
          have Hq := Lib.hid q9
          clear p6 q6 t6 r6 o7 g7 t7 q7 o8 B8 o9 q8 o10 g9 q9
          go_wp2
          refine ⟨⟨i + 1, a9, n + ki + (kt + km), c9, by omega, rfl, by simp, ?_⟩, by simp; omega⟩
          have e1 : pbS l (i + 1) = pbS l i ++ (numX id ++ textS (numX m)) := by rw [pbS, HN.out.1, HN.out.2.1]; unfold pb1; rw [if_neg hv0, HN.out.2.2]
          refine ⟨by rw [e1, List.map_append, List.map_append, ← List.append_assoc]; exact Ho.out, ?_, Hq.out⟩
          rw [e1, List.length_append, List.length_append, numX_len, textS_len, numX_len, HKs.out.2.1, HKs.out.1, HKs.out.2.2, HP.out.len]
          omega
        · have hm1 : m = v := by omega
          have hbi : ¬ ((4611686018427387903 : Int) < (v : Int)) := by omega
          have hnm : ∀ w', Calls Tryd.prog 42 #[.int .u64 (v : Int)] w' fun e w'' => ∃ a c, e = .returned (.tuple #[.slice a km c, .int .i64 0]) ∧ OW w'' w'.heap.size 5 1 a km c ((numX m).map B) ∧ Below w'.heap.size w' w'' := fun w' => by
            have h := Hnm.out w'
            rw [hm1] at h ⊢; exact h
          have Hnm := Lib.hid hnm
          clear hnm hm hm1 hbig
          go_upto_region 9 with (go_at_call 42; (with_reducible refine Hni.out.mono ?_); rintro x w5 ⟨a6, c6, rfl, o6, B5⟩)
          clear hq Hni
          have p5 := HP.out.ow.below B5 (Nat.le_refl _)
          have q5 := HP.out.bel.trans (B5.mono HP.out.bel.size)
          have HP5 := Lib.hid (And.intro p5 q5)
          have HO6 := Lib.hid o6
          clear p5 q5 o6 B5
          go_upto_region 10 with (go_at_call 42; (with_reducible refine (Hnm.out w5).mono ?_); rintro x w6 ⟨a5, c5, rfl, o5, B6⟩)
          have p6 := HP5.out.1.below B6 (Nat.le_refl _)
          have q6 := HP5.out.2.trans (B6.mono HP5.out.2.size)
          have r6 := HO6.out.rs.below B6 (Nat.le_refl _)
          have hne : ∀ ad, a5 = some ad → some ad.block ≠ a.map (·.block) := fun ad ha he => by
            have h1 := (o5.base_le ha).1
            cases hA : a with
            | none => rw [hA] at he; cases he
            | some ad2 => rw [hA] at he; injection he with he; have he : ad.block = ad2.block := he; have h2 := (HP5.out.1.base_le hA).2; omega
          have Hne := Lib.hid hne
          have t6 := o5.rs
          clear HP5 HO6 o5 B6 hne
          go_upto_region 11 with (first
            | (at_builtin; refine L_append tB p6 r6 _ _ rfl rfl rfl rfl (by omega) (by unfold maxLen; omega) q6.size ?_; intro a7 c7 w7 o7 g7; have t7 := RS.grown t6 g7 Hne.out; have q7 := below_own q6 p6 g7 (Nat.le_refl _) q6.size)
            | (go_at_call 31; (with_reducible refine (Htx.out w7 _ _ t7).mono ?_); rintro x w8 ⟨a8, c8, rfl, o8, B8⟩; have o9 := o7.below B8 (Nat.le_refl _); have q8 := q7.trans (B8.mono q7.size))
            | (at_builtin; refine L_append tB o9 o8.rs _ _ rfl rfl rfl rfl (by omega) (by unfold maxLen; omega) q8.size ?_; intro a9 c9 w9 o10 g9; have q9 := below_own q8 o9 g9 (Nat.le_refl _) q8.size))
          have Ho := Lib.hid o10
          have Hq := Lib.hid q9
          clear p6 q6 t6 r6 o7 g7 t7 q7 o8 B8 o9 q8 o10 g9 q9
          go_wp2
          refine ⟨⟨i + 1, a9, n + ki + (kt + km), c9, by omega, rfl, by simp, ?_⟩, by simp; omega⟩
          have e1 : pbS l (i + 1) = pbS l i ++ (numX id ++ textS (numX m)) := by rw [pbS, HN.out.1, HN.out.2.1]; unfold pb1; rw [if_neg hv0, HN.out.2.2]
          refine ⟨by rw [e1, List.map_append, List.map_append, ← List.append_assoc]; exact Ho.out, ?_, Hq.out⟩
          rw [e1, List.length_append, List.length_append, numX_len, textS_len, numX_len, HKs.out.2.1, HKs.out.1, HKs.out.2.2, HP.out.len]
          omega
end Go.Proofs.YtkhcpnmbhbhcgaaDoor
