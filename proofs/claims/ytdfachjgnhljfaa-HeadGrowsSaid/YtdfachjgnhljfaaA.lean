/- Contracts of head's functions on numbers. -/
import Derived.Test.YtdfachjgnhljfaaRows
import Derived.WalkKit
import Derived.Lib.Hide
import Derived.WalkLawsBesides
import Derived.Handy
namespace Go.Proofs.Ytdfachjgnhljfaa
open Go.RowKit
theorem nat_cutjoin (i a b : Nat) (hi : i ≤ 64) (ha : a < 2 ^ 64) : (a &&& (2 ^ 64 - 1 - (2 ^ i - 1))) ||| (b &&& (2 ^ i - 1)) = a - a % 2 ^ i + b % 2 ^ i := by
  have hp : 0 < 2 ^ i := Nat.two_pow_pos i
  have h1 : a &&& (2 ^ 64 - 1 - (2 ^ i - 1)) = a / 2 ^ i * 2 ^ i := by
    apply Nat.eq_of_testBit_eq
    intro j
    have e : 2 ^ 64 - 1 - (2 ^ i - 1) = 2 ^ 64 - 1 - (2 ^ i - 1) := rfl
    rw [Nat.testBit_and, Nat.testBit_mul_two_pow, Nat.testBit_div_two_pow]
    rw [show 2 ^ 64 - 1 - (2 ^ i - 1) = 2 ^ 64 - ((2 ^ i - 1) + 1) by omega, Nat.testBit_two_pow_sub_succ (by have := Nat.pow_le_pow_right (n := 2) (by omega) hi; omega), Nat.testBit_two_pow_sub_one]
    by_cases hj : j < i
    · simp [hj]; omega
    · have e2 : j - i + i = j := by omega
      by_cases hj2 : j < 64
      · simp [hj, hj2, e2]; omega
      · have : a.testBit j = false := Nat.testBit_lt_two_pow (Nat.lt_of_lt_of_le ha (Nat.pow_le_pow_right (by omega) (by omega)))
        simp [e2, this]
  rw [h1, Nat.and_two_pow_sub_one_eq_mod, nat_join i _ _ (by simp) (Nat.mod_lt _ hp)]
  have := Nat.div_add_mod a (2 ^ i)
  rw [Nat.mul_comm] at this
  omega
theorem cutjoin (i : Nat) (m : Int) (hm : m = ((2 ^ i - 1 : Nat) : Int)) (hi : i ≤ 32) (a b : Int) (h0 : 0 ≤ a) (h1 : a < 18446744073709551616) (h2 : 0 ≤ b) (h3 : b < 18446744073709551616) :
    bits .or .u64 (bits .andNot .u64 a m) (bits .and .u64 b m) = a - a % (m + 1) + b % (m + 1) := by
  subst hm
  have hp : 2 ^ i ≤ 2 ^ 32 := Nat.pow_le_pow_right (by omega) hi
  have hq : 0 < 2 ^ i := Nat.two_pow_pos i
  obtain ⟨a, rfl⟩ := Int.eq_ofNat_of_zero_le h0
  obtain ⟨b, rfl⟩ := Int.eq_ofNat_of_zero_le h2
  rw [u64_andNot_nat _ _ (by omega) (by omega), u64_and_nat _ _ (by omega) (by omega),
    u64_or_nat _ _ (Nat.lt_of_le_of_lt Nat.and_le_left (by omega)) (Nat.lt_of_le_of_lt Nat.and_le_left (by omega))]
  have h := nat_cutjoin i a b (by omega) (by omega)
  have e : 18446744073709551615 - (2 ^ i - 1) = 2 ^ 64 - 1 - (2 ^ i - 1) := by omega
  rw [e, h]
  have e2 : (((2 ^ i - 1 : Nat) : Int) + 1) = ((2 ^ i : Nat) : Int) := by omega
  rw [e2]
  have := Nat.mod_le a (2 ^ i)
  omega
theorem need_any (pn acked : Int) (b : Bool) (far : Int) (w : World) (h0 : 0 ≤ far) (h1 : far < 18446744073709551616) (hf : IntKind.u64.wrap (pn - acked) = far ∧ b = true ∨ IntKind.u64.wrap (pn + 1) = far ∧ b = false) :
    Calls Try.prog 5 #[.int .u64 pn, .int .u64 acked, .bool b] w fun e w' => e = .returned (.int .i64 (if far ≤ 128 then 1 else if far ≤ 32768 then 2 else if far ≤ 8388608 then 3 else 4)) ∧ w = w' := by
  rcases hf with ⟨hf, rfl⟩ | ⟨hf, rfl⟩ <;>
  · by_cases c1 : far ≤ 128
    · rw [if_pos c1]
      go_enter Try.func5, Try.ntmps5
      go_wp2
      go_rounds 5
      go_ret; exact ⟨rfl, rfl⟩
    · rw [if_neg c1]
      by_cases c2 : far ≤ 32768
      · rw [if_pos c2]
        go_enter Try.func5, Try.ntmps5
        go_wp2
        go_rounds 5
        go_ret; exact ⟨rfl, rfl⟩
      · rw [if_neg c2]
        by_cases c3 : far ≤ 8388608
        · rw [if_pos c3]
          go_enter Try.func5, Try.ntmps5
          go_wp2
          go_rounds 5
          go_ret; exact ⟨rfl, rfl⟩
        · rw [if_neg c3]
          go_enter Try.func5, Try.ntmps5
          go_wp2
          go_rounds 5
          go_ret; exact ⟨rfl, rfl⟩
theorem ret_int {k : IntKind} {a b : Int} (h : a = b) : Ending.returned (.int k a) = .returned (.int k b) := by rw [h]
def growS (next cut win : Int) : Int :=
  if next - next % win + cut % win + win / 2 ≤ next ∧ next - next % win + cut % win < 4611686018427387904 - win then next - next % win + cut % win + win
  else if next + win / 2 < next - next % win + cut % win ∧ win ≤ next - next % win + cut % win then next - next % win + cut % win - win
  else min (next - next % win + cut % win) 4611686018427387903
theorem grow_1_true (largest cut : Int) (w : World) (h0 : 0 ≤ largest) (h1 : largest < 4611686018427387904) (h2 : 0 ≤ cut) (h3 : cut < 18446744073709551616) :
    Calls Try.prog 6 #[.int .u64 largest, .bool true, .int .u64 cut, .int .i64 1] w fun e w' => e = .returned (.int .u64 (growS (largest + 1) cut 256)) ∧ w = w' := by
  unfold growS
  obtain ⟨n, hn⟩ : ∃ n, n = (largest + 1) - (largest + 1) % 256 + cut % 256 := ⟨_, rfl⟩
  have hb := cutjoin 8 255 rfl (by omega) (largest + 1) cut (by omega) (by omega) h2 h3
  rw [show (255 : Int) + 1 = 256 from rfl, ← hn] at hb
  rw [← hn, show (256 : Int) / 2 = 128 from rfl]
  have hn0 : 0 ≤ n := by omega
  have hn1 : n ≤ (largest + 1) + 256 := by omega
  clear hn
  by_cases c1 : n + 128 ≤ (largest + 1)
  · by_cases c2 : n < 4611686018427387904 - 256
    · rw [if_pos ⟨c1, c2⟩]
      go_enter Try.func6, Try.ntmps6
      go_wp2
      all_goals (go_ret; exact ⟨ret_int (by omega), rfl⟩)
    · rw [if_neg (by omega), if_neg (by omega)]
      go_enter Try.func6, Try.ntmps6
      go_wp2
      all_goals (go_ret; exact ⟨ret_int (by omega), rfl⟩)
  · rw [if_neg (by omega)]
    by_cases c2 : (largest + 1) + 128 < n
    · by_cases c3 : 256 ≤ n
      · rw [if_pos ⟨c2, c3⟩]
        go_enter Try.func6, Try.ntmps6
        go_wp2
        all_goals (go_ret; exact ⟨ret_int (by omega), rfl⟩)
      · rw [if_neg (by omega)]
        go_enter Try.func6, Try.ntmps6
        go_wp2
        all_goals (go_ret; exact ⟨ret_int (by omega), rfl⟩)
    · rw [if_neg (by omega)]
      go_enter Try.func6, Try.ntmps6
      go_wp2
      all_goals (go_ret; exact ⟨ret_int (by omega), rfl⟩)
theorem grow_1_false (largest cut : Int) (w : World) (h2 : 0 ≤ cut) (h3 : cut < 18446744073709551616) :
    Calls Try.prog 6 #[.int .u64 largest, .bool false, .int .u64 cut, .int .i64 1] w fun e w' => e = .returned (.int .u64 (growS 0 cut 256)) ∧ w = w' := by
  unfold growS
  obtain ⟨n, hn⟩ : ∃ n, n = 0 - 0 % 256 + cut % 256 := ⟨_, rfl⟩
  have hb := cutjoin 8 255 rfl (by omega) 0 cut (by omega) (by omega) h2 h3
  rw [show (255 : Int) + 1 = 256 from rfl, ← hn] at hb
  rw [← hn, show (256 : Int) / 2 = 128 from rfl]
  have hn0 : 0 ≤ n := by omega
  have hn1 : n ≤ 0 + 256 := by omega
  clear hn
  by_cases c1 : n + 128 ≤ 0
  · by_cases c2 : n < 4611686018427387904 - 256
    · rw [if_pos ⟨c1, c2⟩]
      go_enter Try.func6, Try.ntmps6
      go_wp2
      all_goals (go_ret; exact ⟨ret_int (by omega), rfl⟩)
    · rw [if_neg (by omega), if_neg (by omega)]
      go_enter Try.func6, Try.ntmps6
      go_wp2
      all_goals (go_ret; exact ⟨ret_int (by omega), rfl⟩)
  · rw [if_neg (by omega)]
    by_cases c2 : 0 + 128 < n
    · by_cases c3 : 256 ≤ n
      · rw [if_pos ⟨c2, c3⟩]
        go_enter Try.func6, Try.ntmps6
        go_wp2
        all_goals (go_ret; exact ⟨ret_int (by omega), rfl⟩)
      · rw [if_neg (by omega)]
        go_enter Try.func6, Try.ntmps6
        go_wp2
        all_goals (go_ret; exact ⟨ret_int (by omega), rfl⟩)
    · rw [if_neg (by omega)]
      go_enter Try.func6, Try.ntmps6
      go_wp2
      all_goals (go_ret; exact ⟨ret_int (by omega), rfl⟩)
theorem grow_2_true (largest cut : Int) (w : World) (h0 : 0 ≤ largest) (h1 : largest < 4611686018427387904) (h2 : 0 ≤ cut) (h3 : cut < 18446744073709551616) :
    Calls Try.prog 6 #[.int .u64 largest, .bool true, .int .u64 cut, .int .i64 2] w fun e w' => e = .returned (.int .u64 (growS (largest + 1) cut 65536)) ∧ w = w' := by
  unfold growS
  obtain ⟨n, hn⟩ : ∃ n, n = (largest + 1) - (largest + 1) % 65536 + cut % 65536 := ⟨_, rfl⟩
  have hb := cutjoin 16 65535 rfl (by omega) (largest + 1) cut (by omega) (by omega) h2 h3
  rw [show (65535 : Int) + 1 = 65536 from rfl, ← hn] at hb
  rw [← hn, show (65536 : Int) / 2 = 32768 from rfl]
  have hn0 : 0 ≤ n := by omega
  have hn1 : n ≤ (largest + 1) + 65536 := by omega
  clear hn
  by_cases c1 : n + 32768 ≤ (largest + 1)
  · by_cases c2 : n < 4611686018427387904 - 65536
    · rw [if_pos ⟨c1, c2⟩]
      go_enter Try.func6, Try.ntmps6
      go_wp2
      all_goals (go_ret; exact ⟨ret_int (by omega), rfl⟩)
    · rw [if_neg (by omega), if_neg (by omega)]
      go_enter Try.func6, Try.ntmps6
      go_wp2
      all_goals (go_ret; exact ⟨ret_int (by omega), rfl⟩)
  · rw [if_neg (by omega)]
    by_cases c2 : (largest + 1) + 32768 < n
    · by_cases c3 : 65536 ≤ n
      · rw [if_pos ⟨c2, c3⟩]
        go_enter Try.func6, Try.ntmps6
        go_wp2
        all_goals (go_ret; exact ⟨ret_int (by omega), rfl⟩)
      · rw [if_neg (by omega)]
        go_enter Try.func6, Try.ntmps6
        go_wp2
        all_goals (go_ret; exact ⟨ret_int (by omega), rfl⟩)
    · rw [if_neg (by omega)]
      go_enter Try.func6, Try.ntmps6
      go_wp2
      all_goals (go_ret; exact ⟨ret_int (by omega), rfl⟩)
theorem grow_2_false (largest cut : Int) (w : World) (h2 : 0 ≤ cut) (h3 : cut < 18446744073709551616) :
    Calls Try.prog 6 #[.int .u64 largest, .bool false, .int .u64 cut, .int .i64 2] w fun e w' => e = .returned (.int .u64 (growS 0 cut 65536)) ∧ w = w' := by
  unfold growS
  obtain ⟨n, hn⟩ : ∃ n, n = 0 - 0 % 65536 + cut % 65536 := ⟨_, rfl⟩
  have hb := cutjoin 16 65535 rfl (by omega) 0 cut (by omega) (by omega) h2 h3
  rw [show (65535 : Int) + 1 = 65536 from rfl, ← hn] at hb
  rw [← hn, show (65536 : Int) / 2 = 32768 from rfl]
  have hn0 : 0 ≤ n := by omega
  have hn1 : n ≤ 0 + 65536 := by omega
  clear hn
  by_cases c1 : n + 32768 ≤ 0
  · by_cases c2 : n < 4611686018427387904 - 65536
    · rw [if_pos ⟨c1, c2⟩]
      go_enter Try.func6, Try.ntmps6
      go_wp2
      all_goals (go_ret; exact ⟨ret_int (by omega), rfl⟩)
    · rw [if_neg (by omega), if_neg (by omega)]
      go_enter Try.func6, Try.ntmps6
      go_wp2
      all_goals (go_ret; exact ⟨ret_int (by omega), rfl⟩)
  · rw [if_neg (by omega)]
    by_cases c2 : 0 + 32768 < n
    · by_cases c3 : 65536 ≤ n
      · rw [if_pos ⟨c2, c3⟩]
        go_enter Try.func6, Try.ntmps6
        go_wp2
        all_goals (go_ret; exact ⟨ret_int (by omega), rfl⟩)
      · rw [if_neg (by omega)]
        go_enter Try.func6, Try.ntmps6
        go_wp2
        all_goals (go_ret; exact ⟨ret_int (by omega), rfl⟩)
    · rw [if_neg (by omega)]
      go_enter Try.func6, Try.ntmps6
      go_wp2
      all_goals (go_ret; exact ⟨ret_int (by omega), rfl⟩)
theorem grow_3_true (largest cut : Int) (w : World) (h0 : 0 ≤ largest) (h1 : largest < 4611686018427387904) (h2 : 0 ≤ cut) (h3 : cut < 18446744073709551616) :
    Calls Try.prog 6 #[.int .u64 largest, .bool true, .int .u64 cut, .int .i64 3] w fun e w' => e = .returned (.int .u64 (growS (largest + 1) cut 16777216)) ∧ w = w' := by
  unfold growS
  obtain ⟨n, hn⟩ : ∃ n, n = (largest + 1) - (largest + 1) % 16777216 + cut % 16777216 := ⟨_, rfl⟩
  have hb := cutjoin 24 16777215 rfl (by omega) (largest + 1) cut (by omega) (by omega) h2 h3
  rw [show (16777215 : Int) + 1 = 16777216 from rfl, ← hn] at hb
  rw [← hn, show (16777216 : Int) / 2 = 8388608 from rfl]
  have hn0 : 0 ≤ n := by omega
  have hn1 : n ≤ (largest + 1) + 16777216 := by omega
  clear hn
  by_cases c1 : n + 8388608 ≤ (largest + 1)
  · by_cases c2 : n < 4611686018427387904 - 16777216
    · rw [if_pos ⟨c1, c2⟩]
      go_enter Try.func6, Try.ntmps6
      go_wp2
      all_goals (go_ret; exact ⟨ret_int (by omega), rfl⟩)
    · rw [if_neg (by omega), if_neg (by omega)]
      go_enter Try.func6, Try.ntmps6
      go_wp2
      all_goals (go_ret; exact ⟨ret_int (by omega), rfl⟩)
  · rw [if_neg (by omega)]
    by_cases c2 : (largest + 1) + 8388608 < n
    · by_cases c3 : 16777216 ≤ n
      · rw [if_pos ⟨c2, c3⟩]
        go_enter Try.func6, Try.ntmps6
        go_wp2
        all_goals (go_ret; exact ⟨ret_int (by omega), rfl⟩)
      · rw [if_neg (by omega)]
        go_enter Try.func6, Try.ntmps6
        go_wp2
        all_goals (go_ret; exact ⟨ret_int (by omega), rfl⟩)
    · rw [if_neg (by omega)]
      go_enter Try.func6, Try.ntmps6
      go_wp2
      all_goals (go_ret; exact ⟨ret_int (by omega), rfl⟩)
theorem grow_3_false (largest cut : Int) (w : World) (h2 : 0 ≤ cut) (h3 : cut < 18446744073709551616) :
    Calls Try.prog 6 #[.int .u64 largest, .bool false, .int .u64 cut, .int .i64 3] w fun e w' => e = .returned (.int .u64 (growS 0 cut 16777216)) ∧ w = w' := by
  unfold growS
  obtain ⟨n, hn⟩ : ∃ n, n = 0 - 0 % 16777216 + cut % 16777216 := ⟨_, rfl⟩
  have hb := cutjoin 24 16777215 rfl (by omega) 0 cut (by omega) (by omega) h2 h3
  rw [show (16777215 : Int) + 1 = 16777216 from rfl, ← hn] at hb
  rw [← hn, show (16777216 : Int) / 2 = 8388608 from rfl]
  have hn0 : 0 ≤ n := by omega
  have hn1 : n ≤ 0 + 16777216 := by omega
  clear hn
  by_cases c1 : n + 8388608 ≤ 0
  · by_cases c2 : n < 4611686018427387904 - 16777216
    · rw [if_pos ⟨c1, c2⟩]
      go_enter Try.func6, Try.ntmps6
      go_wp2
      all_goals (go_ret; exact ⟨ret_int (by omega), rfl⟩)
    · rw [if_neg (by omega), if_neg (by omega)]
      go_enter Try.func6, Try.ntmps6
      go_wp2
      all_goals (go_ret; exact ⟨ret_int (by omega), rfl⟩)
  · rw [if_neg (by omega)]
    by_cases c2 : 0 + 8388608 < n
    · by_cases c3 : 16777216 ≤ n
      · rw [if_pos ⟨c2, c3⟩]
        go_enter Try.func6, Try.ntmps6
        go_wp2
        all_goals (go_ret; exact ⟨ret_int (by omega), rfl⟩)
      · rw [if_neg (by omega)]
        go_enter Try.func6, Try.ntmps6
        go_wp2
        all_goals (go_ret; exact ⟨ret_int (by omega), rfl⟩)
    · rw [if_neg (by omega)]
      go_enter Try.func6, Try.ntmps6
      go_wp2
      all_goals (go_ret; exact ⟨ret_int (by omega), rfl⟩)
theorem grow_4_true (largest cut : Int) (w : World) (h0 : 0 ≤ largest) (h1 : largest < 4611686018427387904) (h2 : 0 ≤ cut) (h3 : cut < 18446744073709551616) :
    Calls Try.prog 6 #[.int .u64 largest, .bool true, .int .u64 cut, .int .i64 4] w fun e w' => e = .returned (.int .u64 (growS (largest + 1) cut 4294967296)) ∧ w = w' := by
  unfold growS
  obtain ⟨n, hn⟩ : ∃ n, n = (largest + 1) - (largest + 1) % 4294967296 + cut % 4294967296 := ⟨_, rfl⟩
  have hb := cutjoin 32 4294967295 rfl (by omega) (largest + 1) cut (by omega) (by omega) h2 h3
  rw [show (4294967295 : Int) + 1 = 4294967296 from rfl, ← hn] at hb
  rw [← hn, show (4294967296 : Int) / 2 = 2147483648 from rfl]
  have hn0 : 0 ≤ n := by omega
  have hn1 : n ≤ (largest + 1) + 4294967296 := by omega
  clear hn
  by_cases c1 : n + 2147483648 ≤ (largest + 1)
  · by_cases c2 : n < 4611686018427387904 - 4294967296
    · rw [if_pos ⟨c1, c2⟩]
      go_enter Try.func6, Try.ntmps6
      go_wp2
      all_goals (go_ret; exact ⟨ret_int (by omega), rfl⟩)
    · rw [if_neg (by omega), if_neg (by omega)]
      go_enter Try.func6, Try.ntmps6
      go_wp2
      all_goals (go_ret; exact ⟨ret_int (by omega), rfl⟩)
  · rw [if_neg (by omega)]
    by_cases c2 : (largest + 1) + 2147483648 < n
    · by_cases c3 : 4294967296 ≤ n
      · rw [if_pos ⟨c2, c3⟩]
        go_enter Try.func6, Try.ntmps6
        go_wp2
        all_goals (go_ret; exact ⟨ret_int (by omega), rfl⟩)
      · rw [if_neg (by omega)]
        go_enter Try.func6, Try.ntmps6
        go_wp2
        all_goals (go_ret; exact ⟨ret_int (by omega), rfl⟩)
    · rw [if_neg (by omega)]
      go_enter Try.func6, Try.ntmps6
      go_wp2
      all_goals (go_ret; exact ⟨ret_int (by omega), rfl⟩)
theorem grow_4_false (largest cut : Int) (w : World) (h2 : 0 ≤ cut) (h3 : cut < 18446744073709551616) :
    Calls Try.prog 6 #[.int .u64 largest, .bool false, .int .u64 cut, .int .i64 4] w fun e w' => e = .returned (.int .u64 (growS 0 cut 4294967296)) ∧ w = w' := by
  unfold growS
  obtain ⟨n, hn⟩ : ∃ n, n = 0 - 0 % 4294967296 + cut % 4294967296 := ⟨_, rfl⟩
  have hb := cutjoin 32 4294967295 rfl (by omega) 0 cut (by omega) (by omega) h2 h3
  rw [show (4294967295 : Int) + 1 = 4294967296 from rfl, ← hn] at hb
  rw [← hn, show (4294967296 : Int) / 2 = 2147483648 from rfl]
  have hn0 : 0 ≤ n := by omega
  have hn1 : n ≤ 0 + 4294967296 := by omega
  clear hn
  by_cases c1 : n + 2147483648 ≤ 0
  · by_cases c2 : n < 4611686018427387904 - 4294967296
    · rw [if_pos ⟨c1, c2⟩]
      go_enter Try.func6, Try.ntmps6
      go_wp2
      all_goals (go_ret; exact ⟨ret_int (by omega), rfl⟩)
    · rw [if_neg (by omega), if_neg (by omega)]
      go_enter Try.func6, Try.ntmps6
      go_wp2
      all_goals (go_ret; exact ⟨ret_int (by omega), rfl⟩)
  · rw [if_neg (by omega)]
    by_cases c2 : 0 + 2147483648 < n
    · by_cases c3 : 4294967296 ≤ n
      · rw [if_pos ⟨c2, c3⟩]
        go_enter Try.func6, Try.ntmps6
        go_wp2
        all_goals (go_ret; exact ⟨ret_int (by omega), rfl⟩)
      · rw [if_neg (by omega)]
        go_enter Try.func6, Try.ntmps6
        go_wp2
        all_goals (go_ret; exact ⟨ret_int (by omega), rfl⟩)
    · rw [if_neg (by omega)]
      go_enter Try.func6, Try.ntmps6
      go_wp2
      all_goals (go_ret; exact ⟨ret_int (by omega), rfl⟩)
theorem u64_and_mask (i : Nat) (m : Int) (hm : m = ((2 ^ i - 1 : Nat) : Int)) (hi : i ≤ 32) (a : Int) (h0 : 0 ≤ a) (h1 : a < 18446744073709551616) : bits .and .u64 a m = a % (m + 1) := by
  subst hm
  have hp : 2 ^ i ≤ 2 ^ 32 := Nat.pow_le_pow_right (by omega) hi
  have hq : 0 < 2 ^ i := Nat.two_pow_pos i
  obtain ⟨a, rfl⟩ := Int.eq_ofNat_of_zero_le h0
  rw [u64_and_nat _ _ (by omega) (by omega), Nat.and_two_pow_sub_one_eq_mod]
  have e2 : (((2 ^ i - 1 : Nat) : Int) + 1) = ((2 ^ i : Nat) : Int) := by omega
  rw [e2]; rfl
theorem cut_1 (pn : Int) (w : World) (h0 : 0 ≤ pn) (h1 : pn < 18446744073709551616) : Calls Try.prog 7 #[.int .u64 pn, .int .i64 1] w fun e w' => e = .returned (.int .u64 (pn % 256)) ∧ w = w' := by
  have hb := u64_and_mask 8 255 rfl (by omega) pn h0 h1
  rw [show (255 : Int) + 1 = 256 from rfl] at hb
  obtain ⟨n, hn⟩ : ∃ n, n = pn % 256 := ⟨_, rfl⟩
  rw [← hn] at hb ⊢
  clear hn
  go_enter Try.func7, Try.ntmps7
  go_wp2
  go_ret
  exact ⟨rfl, rfl⟩
theorem cut_2 (pn : Int) (w : World) (h0 : 0 ≤ pn) (h1 : pn < 18446744073709551616) : Calls Try.prog 7 #[.int .u64 pn, .int .i64 2] w fun e w' => e = .returned (.int .u64 (pn % 65536)) ∧ w = w' := by
  have hb := u64_and_mask 16 65535 rfl (by omega) pn h0 h1
  rw [show (65535 : Int) + 1 = 65536 from rfl] at hb
  obtain ⟨n, hn⟩ : ∃ n, n = pn % 65536 := ⟨_, rfl⟩
  rw [← hn] at hb ⊢
  clear hn
  go_enter Try.func7, Try.ntmps7
  go_wp2
  go_ret
  exact ⟨rfl, rfl⟩
theorem cut_3 (pn : Int) (w : World) (h0 : 0 ≤ pn) (h1 : pn < 18446744073709551616) : Calls Try.prog 7 #[.int .u64 pn, .int .i64 3] w fun e w' => e = .returned (.int .u64 (pn % 16777216)) ∧ w = w' := by
  have hb := u64_and_mask 24 16777215 rfl (by omega) pn h0 h1
  rw [show (16777215 : Int) + 1 = 16777216 from rfl] at hb
  obtain ⟨n, hn⟩ : ∃ n, n = pn % 16777216 := ⟨_, rfl⟩
  rw [← hn] at hb ⊢
  clear hn
  go_enter Try.func7, Try.ntmps7
  go_wp2
  go_ret
  exact ⟨rfl, rfl⟩
theorem cut_4 (pn : Int) (w : World) (h0 : 0 ≤ pn) (h1 : pn < 18446744073709551616) : Calls Try.prog 7 #[.int .u64 pn, .int .i64 4] w fun e w' => e = .returned (.int .u64 (pn % 4294967296)) ∧ w = w' := by
  have hb := u64_and_mask 32 4294967295 rfl (by omega) pn h0 h1
  rw [show (4294967295 : Int) + 1 = 4294967296 from rfl] at hb
  obtain ⟨n, hn⟩ : ∃ n, n = pn % 4294967296 := ⟨_, rfl⟩
  rw [← hn] at hb ⊢
  clear hn
  go_enter Try.func7, Try.ntmps7
  go_wp2
  go_ret
  exact ⟨rfl, rfl⟩
end Go.Proofs.Ytdfachjgnhljfaa
