/- The reference's Take: what it hands back. -/
import Derived.Test.YtkhcpnmbhbhcgaaDoorYac
set_option maxRecDepth 100000
namespace Go.Proofs.YtkhcpnmbhbhcgaaDoor
open Go.RowKit
theorem taker_nil (w : World) {a : Option Addr} {c : Nat} :
    Calls Tryd.prog 38 #[.slice a 0 c] w (TakePost w []) := by
  go_enter Tryd.func38, Tryd.ntmps38
  go_wp2_with fail
  go_ret3
  exact ⟨rfl, Below.refl _ _⟩
theorem taker_short (w : World) {a : Option Addr} {n c : Nat} (b : UInt8) (bs : List UInt8) (hx : BS w a n c (b :: bs)) (q : Nat) (hq : b.toNat / 64 = q) (h0 : n ≠ 0) (hs : (b :: bs).length < 2 ^ q) :
    Calls Tryd.prog 38 #[.slice a n c] w (TakePost w (b :: bs)) := by
  have hl := hx.len
  have hb := u8_lt b
  have hp : takeS (b :: bs) = none := by rw [takeS_cons, hq, if_pos hs]
  have hq' : (b.toNat : Int) / 64 = q := by omega
  have hq4 : q < 4 := by omega
  have hxa := hx.alloc (.cells #[.int .i64 1, .int .i64 2, .int .i64 4, .int .i64 8] 3)
  have h0' : ((n : Int) == 0) = false := by simp; omega
  rw [hl] at hs
  have Hp := Lib.hid hp
  clear hp hl
  rcases (by omega : q = 0 ∨ q = 1 ∨ q = 2 ∨ q = 3) with rfl | rfl | rfl | rfl
  · omega
  all_goals
    simp only [Nat.reducePow, Int.cast_ofNat_Int] at hs hq'
    clear hq hq4
    go_enter Tryd.func38, Tryd.ntmps38
    go_wp2_with (first | (refine LB_index tB hxa b _ _ rfl rfl _ _ rfl rfl (by omega) (by omega) rfl ?_; intro q hq))
    go_ret3
    unfold TakePost
    rw [Hp.out]
    exact ⟨rfl, below_alloc w _⟩
theorem taker_ok0 (w : World) {a : Option Addr} {n c : Nat} (b : UInt8) (bs : List UInt8) (hx : BS w a n c (b :: bs)) (hq : b.toNat / 64 = 0) (hs : 1 ≤ n) (hn : n ≤ 140737488355328) :
    Calls Tryd.prog 38 #[.slice a n c] w (TakePost w (b :: bs)) := by
  have hl := hx.len
  have hb := u8_lt b
  have hp : takeS (b :: bs) = some (beNat (bs.take 0) (b.toNat % 64), (b :: bs).drop 1) := by rw [takeS_cons, hq, if_neg (by omega)]
  have hd : ((b :: bs).drop 1).length = n - 1 := by rw [List.length_drop, hl]
  have hq' : (b.toNat : Int) / 64 = 0 := by omega
  have Hp := Lib.hid hp
  have Hd := Lib.hid hd
  clear hp hl hq hd
  have h0' : ((n : Int) == 0) = false := by simp; omega
  have hxa := hx.alloc (.cells #[.int .i64 1, .int .i64 2, .int .i64 4, .int .i64 8] 3)
  go_enter Tryd.func38, Tryd.ntmps38
  go_wp2_with (first | (refine LB_index tB hxa b _ _ rfl rfl _ _ rfl rfl (by omega) (by omega) rfl ?_; intro q hq) | (refine LB_slice_lh tB hxa 1 1 _ _ _ rfl rfl _ _ _ _ rfl rfl rfl rfl rfl (by decide) (by omega) ?_; intro a1 hx1))
  have Hy : Hid ((List.drop 1 (b :: bs)).take (1 - 1) = bs.take 0) := rfl
  have hx2 : BS (w.alloc (.cells #[.int .i64 1, .int .i64 2, .int .i64 4, .int .i64 8] 3)) a1 0 (c - 1) (bs.take 0) := hx1
  clear hx1 Hy
  obtain ⟨ys, hys⟩ : ∃ ys, ys = bs.take 0 := ⟨_, rfl⟩
  rw [← hys] at hx2 Hp
  clear hys
  have hyl := hx2.len
  go_loop [6, 32] (fun t i => ∃ k : Nat, k ≤ 0 ∧ i = .int .i64 k ∧ t = .int .u64 ((beNat (ys.take k) (b.toNat % 64) : Nat) : Int)) (fun _ i => 8 - (intOf i).toNat)
  case atStart => exact ⟨0, by omega, rfl, by simp [beNat]⟩
  case round =>
    obtain ⟨k, hk, rfl, rfl⟩ := hrel
    by_cases hlt : k < 0
    · try (exfalso; omega)
      all_goals
        obtain ⟨y, hy⟩ := hx2.get k (by omega)
        have hN := beNat_lt (ys.take k) (b.toNat % 64)
        have Hs := Lib.hid (take_head_snoc ys k (b.toNat % 64) y hy)
        generalize beNat (ys.take k) (b.toNat % 64) = N at *
        have hN2 : N < 18014398509481984 := by
          refine Nat.lt_of_lt_of_le hN ?_
          refine Nat.le_trans (Nat.mul_le_mul (show b.toNat % 64 + 1 ≤ 64 by omega) (Nat.pow_le_pow_right (by omega) (show (ys.take k).length ≤ 6 by rw [List.length_take]; omega))) (by decide)
  
        have hy8 := u8_lt y
        clear hN
        go_wp2_with (refine LB_index tB hx2 y _ _ rfl rfl _ _ rfl rfl (by omega) (by omega) (by simpa using hy) ?_; intro q hq)
        go_round
        case rel => exact ⟨k + 1, by omega, by go_num, by rw [Hs.out]; go_num⟩
        case measure => simp [intOf]; omega
    · obtain rfl : k = 0 := by omega
      rw [List.take_of_length_le (by omega)]
      go_wp2_with (first | (refine LB_slice_l tB hxa 1 _ _ rfl rfl _ _ rfl rfl rfl (by omega) ?_; intro a2 hx3) | (go_at_call 20; refine (copy_any _ hx3 (by omega)).mono ?_; rintro e w' ⟨a', c', rfl, h1, h2⟩))
      go_ret3
      unfold TakePost
      rw [Hp.out]
      exact ⟨a', c', by rw [Hd.out]; rfl, by rw [Hd.out]; exact h1.mono (by simp), (below_alloc w _).trans (h2.mono (by simp))⟩
theorem taker_ok1 (w : World) {a : Option Addr} {n c : Nat} (b : UInt8) (bs : List UInt8) (hx : BS w a n c (b :: bs)) (hq : b.toNat / 64 = 1) (hs : 2 ≤ n) (hn : n ≤ 140737488355328) :
    Calls Tryd.prog 38 #[.slice a n c] w (TakePost w (b :: bs)) := by
  have hl := hx.len
  have hb := u8_lt b
  have hp : takeS (b :: bs) = some (beNat (bs.take 1) (b.toNat % 64), (b :: bs).drop 2) := by rw [takeS_cons, hq, if_neg (by omega)]
  have hd : ((b :: bs).drop 2).length = n - 2 := by rw [List.length_drop, hl]
  have hq' : (b.toNat : Int) / 64 = 1 := by omega
  have Hp := Lib.hid hp
  have Hd := Lib.hid hd
  clear hp hl hq hd
  have h0' : ((n : Int) == 0) = false := by simp; omega
  have hxa := hx.alloc (.cells #[.int .i64 1, .int .i64 2, .int .i64 4, .int .i64 8] 3)
  go_enter Tryd.func38, Tryd.ntmps38
  go_wp2_with (first | (refine LB_index tB hxa b _ _ rfl rfl _ _ rfl rfl (by omega) (by omega) rfl ?_; intro q hq) | (refine LB_slice_lh tB hxa 1 2 _ _ _ rfl rfl _ _ _ _ rfl rfl rfl rfl rfl (by decide) (by omega) ?_; intro a1 hx1))
  have Hy : Hid ((List.drop 1 (b :: bs)).take (2 - 1) = bs.take 1) := rfl
  have hx2 : BS (w.alloc (.cells #[.int .i64 1, .int .i64 2, .int .i64 4, .int .i64 8] 3)) a1 1 (c - 1) (bs.take 1) := hx1
  clear hx1 Hy
  obtain ⟨ys, hys⟩ : ∃ ys, ys = bs.take 1 := ⟨_, rfl⟩
  rw [← hys] at hx2 Hp
  clear hys
  have hyl := hx2.len
  go_loop [6, 32] (fun t i => ∃ k : Nat, k ≤ 1 ∧ i = .int .i64 k ∧ t = .int .u64 ((beNat (ys.take k) (b.toNat % 64) : Nat) : Int)) (fun _ i => 8 - (intOf i).toNat)
  case atStart => exact ⟨0, by omega, rfl, by simp [beNat]⟩
  case round =>
    obtain ⟨k, hk, rfl, rfl⟩ := hrel
    by_cases hlt : k < 1
    · try (exfalso; omega)
      all_goals
        obtain ⟨y, hy⟩ := hx2.get k (by omega)
        have hN := beNat_lt (ys.take k) (b.toNat % 64)
        have Hs := Lib.hid (take_head_snoc ys k (b.toNat % 64) y hy)
        generalize beNat (ys.take k) (b.toNat % 64) = N at *
        have hN2 : N < 18014398509481984 := by
          refine Nat.lt_of_lt_of_le hN ?_
          refine Nat.le_trans (Nat.mul_le_mul (show b.toNat % 64 + 1 ≤ 64 by omega) (Nat.pow_le_pow_right (by omega) (show (ys.take k).length ≤ 6 by rw [List.length_take]; omega))) (by decide)
  
        have hy8 := u8_lt y
        clear hN
        go_wp2_with (refine LB_index tB hx2 y _ _ rfl rfl _ _ rfl rfl (by omega) (by omega) (by simpa using hy) ?_; intro q hq)
        go_round
        case rel => exact ⟨k + 1, by omega, by go_num, by rw [Hs.out]; go_num⟩
        case measure => simp [intOf]; omega
    · obtain rfl : k = 1 := by omega
      rw [List.take_of_length_le (by omega)]
      go_wp2_with (first | (refine LB_slice_l tB hxa 2 _ _ rfl rfl _ _ rfl rfl rfl (by omega) ?_; intro a2 hx3) | (go_at_call 20; refine (copy_any _ hx3 (by omega)).mono ?_; rintro e w' ⟨a', c', rfl, h1, h2⟩))
      go_ret3
      unfold TakePost
      rw [Hp.out]
      exact ⟨a', c', by rw [Hd.out]; rfl, by rw [Hd.out]; exact h1.mono (by simp), (below_alloc w _).trans (h2.mono (by simp))⟩
theorem taker_ok2 (w : World) {a : Option Addr} {n c : Nat} (b : UInt8) (bs : List UInt8) (hx : BS w a n c (b :: bs)) (hq : b.toNat / 64 = 2) (hs : 4 ≤ n) (hn : n ≤ 140737488355328) :
    Calls Tryd.prog 38 #[.slice a n c] w (TakePost w (b :: bs)) := by
  have hl := hx.len
  have hb := u8_lt b
  have hp : takeS (b :: bs) = some (beNat (bs.take 3) (b.toNat % 64), (b :: bs).drop 4) := by rw [takeS_cons, hq, if_neg (by omega)]
  have hd : ((b :: bs).drop 4).length = n - 4 := by rw [List.length_drop, hl]
  have hq' : (b.toNat : Int) / 64 = 2 := by omega
  have Hp := Lib.hid hp
  have Hd := Lib.hid hd
  clear hp hl hq hd
  have h0' : ((n : Int) == 0) = false := by simp; omega
  have hxa := hx.alloc (.cells #[.int .i64 1, .int .i64 2, .int .i64 4, .int .i64 8] 3)
  go_enter Tryd.func38, Tryd.ntmps38
  go_wp2_with (first | (refine LB_index tB hxa b _ _ rfl rfl _ _ rfl rfl (by omega) (by omega) rfl ?_; intro q hq) | (refine LB_slice_lh tB hxa 1 4 _ _ _ rfl rfl _ _ _ _ rfl rfl rfl rfl rfl (by decide) (by omega) ?_; intro a1 hx1))
  have Hy : Hid ((List.drop 1 (b :: bs)).take (4 - 1) = bs.take 3) := rfl
  have hx2 : BS (w.alloc (.cells #[.int .i64 1, .int .i64 2, .int .i64 4, .int .i64 8] 3)) a1 3 (c - 1) (bs.take 3) := hx1
  clear hx1 Hy
  obtain ⟨ys, hys⟩ : ∃ ys, ys = bs.take 3 := ⟨_, rfl⟩
  rw [← hys] at hx2 Hp
  clear hys
  have hyl := hx2.len
  go_loop [6, 32] (fun t i => ∃ k : Nat, k ≤ 3 ∧ i = .int .i64 k ∧ t = .int .u64 ((beNat (ys.take k) (b.toNat % 64) : Nat) : Int)) (fun _ i => 8 - (intOf i).toNat)
  case atStart => exact ⟨0, by omega, rfl, by simp [beNat]⟩
  case round =>
    obtain ⟨k, hk, rfl, rfl⟩ := hrel
    by_cases hlt : k < 3
    · try (exfalso; omega)
      all_goals
        obtain ⟨y, hy⟩ := hx2.get k (by omega)
        have hN := beNat_lt (ys.take k) (b.toNat % 64)
        have Hs := Lib.hid (take_head_snoc ys k (b.toNat % 64) y hy)
        generalize beNat (ys.take k) (b.toNat % 64) = N at *
        have hN2 : N < 18014398509481984 := by
          refine Nat.lt_of_lt_of_le hN ?_
          refine Nat.le_trans (Nat.mul_le_mul (show b.toNat % 64 + 1 ≤ 64 by omega) (Nat.pow_le_pow_right (by omega) (show (ys.take k).length ≤ 6 by rw [List.length_take]; omega))) (by decide)
  
        have hy8 := u8_lt y
        clear hN
        go_wp2_with (refine LB_index tB hx2 y _ _ rfl rfl _ _ rfl rfl (by omega) (by omega) (by simpa using hy) ?_; intro q hq)
        go_round
        case rel => exact ⟨k + 1, by omega, by go_num, by rw [Hs.out]; go_num⟩
        case measure => simp [intOf]; omega
    · obtain rfl : k = 3 := by omega
      rw [List.take_of_length_le (by omega)]
      go_wp2_with (first | (refine LB_slice_l tB hxa 4 _ _ rfl rfl _ _ rfl rfl rfl (by omega) ?_; intro a2 hx3) | (go_at_call 20; refine (copy_any _ hx3 (by omega)).mono ?_; rintro e w' ⟨a', c', rfl, h1, h2⟩))
      go_ret3
      unfold TakePost
      rw [Hp.out]
      exact ⟨a', c', by rw [Hd.out]; rfl, by rw [Hd.out]; exact h1.mono (by simp), (below_alloc w _).trans (h2.mono (by simp))⟩
theorem taker_ok3 (w : World) {a : Option Addr} {n c : Nat} (b : UInt8) (bs : List UInt8) (hx : BS w a n c (b :: bs)) (hq : b.toNat / 64 = 3) (hs : 8 ≤ n) (hn : n ≤ 140737488355328) :
    Calls Tryd.prog 38 #[.slice a n c] w (TakePost w (b :: bs)) := by
  have hl := hx.len
  have hb := u8_lt b
  have hp : takeS (b :: bs) = some (beNat (bs.take 7) (b.toNat % 64), (b :: bs).drop 8) := by rw [takeS_cons, hq, if_neg (by omega)]
  have hd : ((b :: bs).drop 8).length = n - 8 := by rw [List.length_drop, hl]
  have hq' : (b.toNat : Int) / 64 = 3 := by omega
  have Hp := Lib.hid hp
  have Hd := Lib.hid hd
  clear hp hl hq hd
  have h0' : ((n : Int) == 0) = false := by simp; omega
  have hxa := hx.alloc (.cells #[.int .i64 1, .int .i64 2, .int .i64 4, .int .i64 8] 3)
  go_enter Tryd.func38, Tryd.ntmps38
  go_wp2_with (first | (refine LB_index tB hxa b _ _ rfl rfl _ _ rfl rfl (by omega) (by omega) rfl ?_; intro q hq) | (refine LB_slice_lh tB hxa 1 8 _ _ _ rfl rfl _ _ _ _ rfl rfl rfl rfl rfl (by decide) (by omega) ?_; intro a1 hx1))
  have Hy : Hid ((List.drop 1 (b :: bs)).take (8 - 1) = bs.take 7) := rfl
  have hx2 : BS (w.alloc (.cells #[.int .i64 1, .int .i64 2, .int .i64 4, .int .i64 8] 3)) a1 7 (c - 1) (bs.take 7) := hx1
  clear hx1 Hy
  obtain ⟨ys, hys⟩ : ∃ ys, ys = bs.take 7 := ⟨_, rfl⟩
  rw [← hys] at hx2 Hp
  clear hys
  have hyl := hx2.len
  go_loop [6, 32] (fun t i => ∃ k : Nat, k ≤ 7 ∧ i = .int .i64 k ∧ t = .int .u64 ((beNat (ys.take k) (b.toNat % 64) : Nat) : Int)) (fun _ i => 8 - (intOf i).toNat)
  case atStart => exact ⟨0, by omega, rfl, by simp [beNat]⟩
  case round =>
    obtain ⟨k, hk, rfl, rfl⟩ := hrel
    by_cases hlt : k < 7
    · try (exfalso; omega)
      all_goals
        obtain ⟨y, hy⟩ := hx2.get k (by omega)
        have hN := beNat_lt (ys.take k) (b.toNat % 64)
        have Hs := Lib.hid (take_head_snoc ys k (b.toNat % 64) y hy)
        generalize beNat (ys.take k) (b.toNat % 64) = N at *
        have hN2 : N < 18014398509481984 := by
          refine Nat.lt_of_lt_of_le hN ?_
          refine Nat.le_trans (Nat.mul_le_mul (show b.toNat % 64 + 1 ≤ 64 by omega) (Nat.pow_le_pow_right (by omega) (show (ys.take k).length ≤ 6 by rw [List.length_take]; omega))) (by decide)
  
        have hy8 := u8_lt y
        clear hN
        go_wp2_with (refine LB_index tB hx2 y _ _ rfl rfl _ _ rfl rfl (by omega) (by omega) (by simpa using hy) ?_; intro q hq)
        go_round
        case rel => exact ⟨k + 1, by omega, by go_num, by rw [Hs.out]; go_num⟩
        case measure => simp [intOf]; omega
    · obtain rfl : k = 7 := by omega
      rw [List.take_of_length_le (by omega)]
      go_wp2_with (first | (refine LB_slice_l tB hxa 8 _ _ rfl rfl _ _ rfl rfl rfl (by omega) ?_; intro a2 hx3) | (go_at_call 20; refine (copy_any _ hx3 (by omega)).mono ?_; rintro e w' ⟨a', c', rfl, h1, h2⟩))
      go_ret3
      unfold TakePost
      rw [Hp.out]
      exact ⟨a', c', by rw [Hd.out]; rfl, by rw [Hd.out]; exact h1.mono (by simp), (below_alloc w _).trans (h2.mono (by simp))⟩
theorem taker_any (w : World) {a : Option Addr} {n c : Nat} (xs : List UInt8) (hx : BS w a n c xs) (hn : n ≤ 140737488355328) :
    Calls Tryd.prog 38 #[.slice a n c] w (TakePost w xs) := by
  have hl := hx.len
  cases xs with
  | nil => obtain rfl : n = 0 := by simpa using hl.symm
           exact taker_nil w
  | cons b bs =>
    have hb := u8_lt b
    have hne : n ≠ 0 := by rintro rfl; simp at hl
    rcases (by omega : b.toNat / 64 = 0 ∨ b.toNat / 64 = 1 ∨ b.toNat / 64 = 2 ∨ b.toNat / 64 = 3) with h | h | h | h
    · by_cases hs : 1 ≤ n
      · exact taker_ok0 w b bs hx h hs hn
      · exact taker_short w b bs hx 0 h hne (by rw [hl]; omega)
    · by_cases hs : 2 ≤ n
      · exact taker_ok1 w b bs hx h hs hn
      · exact taker_short w b bs hx 1 h hne (by rw [hl]; omega)
    · by_cases hs : 4 ≤ n
      · exact taker_ok2 w b bs hx h hs hn
      · exact taker_short w b bs hx 2 h hne (by rw [hl]; omega)
    · by_cases hs : 8 ≤ n
      · exact taker_ok3 w b bs hx h hs hn
      · exact taker_short w b bs hx 3 h hne (by rw [hl]; omega)
end Go.Proofs.YtkhcpnmbhbhcgaaDoor
