/- head.Need and head.Grow where the law's own example asks them. -/
import Derived.Test.YtdfachjgnhljfaaDoorMem
import Derived.Handy
import Derived.Test.YtdfachjgnhljfaaDoorRows
set_option maxRecDepth 100000
set_option linter.unusedVariables false
namespace Go.Proofs.YtdfachjgnhljfaaDoor
open Go.RowKit
theorem nat_cutjoin (i a b : Nat) (hi : i ≤ 64) (ha : a < 2 ^ 64) : (a &&& (2 ^ 64 - 1 - (2 ^ i - 1))) ||| (b &&& (2 ^ i - 1)) = a - a % 2 ^ i + b % 2 ^ i := by
  have hp : 0 < 2 ^ i := Nat.two_pow_pos i
  have h1 : a &&& (2 ^ 64 - 1 - (2 ^ i - 1)) = a / 2 ^ i * 2 ^ i := by
    apply Nat.eq_of_testBit_eq
    intro j
    have e : 2 ^ 64 - 1 - (2 ^ i - 1) = 2 ^ 64 - 1 - (2 ^ i - 1) := rfl
    rw [Nat.testBit_and, Nat.testBit_mul_two_pow, Nat.testBit_div_two_pow]
    rw [show 2 ^ 64 - 1 - (2 ^ i - 1) = 2 ^ 64 - ((2 ^ i - 1) + 1) by omega, Nat.testBit_two_pow_sub_succ (by have := Nat.pow_le_pow_right (n := 2) (by omega) hi; omega), Nat.testBit_two_pow_sub_one]
    by_cases hj : j < i
    · simp [hj]; omega
    · have e2 : j - i + i = j := by omega
      by_cases hj2 : j < 64
      · simp [hj, hj2, e2]; omega
      · have : a.testBit j = false := Nat.testBit_lt_two_pow (Nat.lt_of_lt_of_le ha (Nat.pow_le_pow_right (by omega) (by omega)))
        simp [e2, this]
  rw [h1, Nat.and_two_pow_sub_one_eq_mod, nat_join i _ _ (by simp) (Nat.mod_lt _ hp)]
  have := Nat.div_add_mod a (2 ^ i)
  rw [Nat.mul_comm] at this
  omega
theorem cutjoin (i : Nat) (m : Int) (hm : m = ((2 ^ i - 1 : Nat) : Int)) (hi : i ≤ 32) (a b : Int) (h0 : 0 ≤ a) (h1 : a < 18446744073709551616) (h2 : 0 ≤ b) (h3 : b < 18446744073709551616) :
    bits .or .u64 (bits .andNot .u64 a m) (bits .and .u64 b m) = a - a % (m + 1) + b % (m + 1) := by
  subst hm
  have hp : 2 ^ i ≤ 2 ^ 32 := Nat.pow_le_pow_right (by omega) hi
  have hq : 0 < 2 ^ i := Nat.two_pow_pos i
  obtain ⟨a, rfl⟩ := Int.eq_ofNat_of_zero_le h0
  obtain ⟨b, rfl⟩ := Int.eq_ofNat_of_zero_le h2
  rw [u64_andNot_nat _ _ (by omega) (by omega), u64_and_nat _ _ (by omega) (by omega),
    u64_or_nat _ _ (Nat.lt_of_le_of_lt Nat.and_le_left (by omega)) (Nat.lt_of_le_of_lt Nat.and_le_left (by omega))]
  have h := nat_cutjoin i a b (by omega) (by omega)
  have e : 18446744073709551615 - (2 ^ i - 1) = 2 ^ 64 - 1 - (2 ^ i - 1) := by omega
  rw [e, h]
  have e2 : (((2 ^ i - 1 : Nat) : Int) + 1) = ((2 ^ i : Nat) : Int) := by omega
  rw [e2]
  have := Nat.mod_le a (2 ^ i)
  omega
theorem need_any (pn acked : Int) (b : Bool) (far : Int) (w : World) (h0 : 0 ≤ far) (h1 : far < 18446744073709551616) (hf : IntKind.u64.wrap (pn - acked) = far ∧ b = true ∨ IntKind.u64.wrap (pn + 1) = far ∧ b = false) :
    Calls Tryd.prog 45 #[.int .u64 pn, .int .u64 acked, .bool b] w fun e w' => e = .returned (.int .i64 (if far ≤ 128 then 1 else if far ≤ 32768 then 2 else if far ≤ 8388608 then 3 else 4)) ∧ w = w' := by
  rcases hf with ⟨hf, rfl⟩ | ⟨hf, rfl⟩ <;>
  · by_cases c1 : far ≤ 128
    · rw [if_pos c1]
      go_enter Tryd.func45, Tryd.ntmps45
      go_wp2
      go_rounds 5
      go_ret; exact ⟨rfl, rfl⟩
    · rw [if_neg c1]
      by_cases c2 : far ≤ 32768
      · rw [if_pos c2]
        go_enter Tryd.func45, Tryd.ntmps45
        go_wp2
        go_rounds 5
        go_ret; exact ⟨rfl, rfl⟩
      · rw [if_neg c2]
        by_cases c3 : far ≤ 8388608
        · rw [if_pos c3]
          go_enter Tryd.func45, Tryd.ntmps45
          go_wp2
          go_rounds 5
          go_ret; exact ⟨rfl, rfl⟩
        · rw [if_neg c3]
          go_enter Tryd.func45, Tryd.ntmps45
          go_wp2
          go_rounds 5
          go_ret; exact ⟨rfl, rfl⟩
theorem ret_int {k : IntKind} {a b : Int} (h : a = b) : Ending.returned (.int k a) = .returned (.int k b) := by rw [h]
def growS (next cut win : Int) : Int :=
  if next - next % win + cut % win + win / 2 ≤ next ∧ next - next % win + cut % win < 4611686018427387904 - win then next - next % win + cut % win + win
  else if next + win / 2 < next - next % win + cut % win ∧ win ≤ next - next % win + cut % win then next - next % win + cut % win - win
  else min (next - next % win + cut % win) 4611686018427387903
theorem grow_2_true (largest cut : Int) (w : World) (h0 : 0 ≤ largest) (h1 : largest < 4611686018427387904) (h2 : 0 ≤ cut) (h3 : cut < 18446744073709551616) :
    Calls Tryd.prog 46 #[.int .u64 largest, .bool true, .int .u64 cut, .int .i64 2] w fun e w' => e = .returned (.int .u64 (growS (largest + 1) cut 65536)) ∧ w = w' := by
  unfold growS
  obtain ⟨n, hn⟩ : ∃ n, n = (largest + 1) - (largest + 1) % 65536 + cut % 65536 := ⟨_, rfl⟩
  have hb := cutjoin 16 65535 rfl (by omega) (largest + 1) cut (by omega) (by omega) h2 h3
  rw [show (65535 : Int) + 1 = 65536 from rfl, ← hn] at hb
  rw [← hn, show (65536 : Int) / 2 = 32768 from rfl]
  have hn0 : 0 ≤ n := by omega
  have hn1 : n ≤ (largest + 1) + 65536 := by omega
  clear hn
  by_cases c1 : n + 32768 ≤ (largest + 1)
  · by_cases c2 : n < 4611686018427387904 - 65536
    · rw [if_pos ⟨c1, c2⟩]
      go_enter Tryd.func46, Tryd.ntmps46
      go_wp2
      all_goals (go_ret; exact ⟨ret_int (by omega), rfl⟩)
    · rw [if_neg (by omega), if_neg (by omega)]
      go_enter Tryd.func46, Tryd.ntmps46
      go_wp2
      all_goals (go_ret; exact ⟨ret_int (by omega), rfl⟩)
  · rw [if_neg (by omega)]
    by_cases c2 : (largest + 1) + 32768 < n
    · by_cases c3 : 65536 ≤ n
      · rw [if_pos ⟨c2, c3⟩]
        go_enter Tryd.func46, Tryd.ntmps46
        go_wp2
        all_goals (go_ret; exact ⟨ret_int (by omega), rfl⟩)
      · rw [if_neg (by omega)]
        go_enter Tryd.func46, Tryd.ntmps46
        go_wp2
        all_goals (go_ret; exact ⟨ret_int (by omega), rfl⟩)
    · rw [if_neg (by omega)]
      go_enter Tryd.func46, Tryd.ntmps46
      go_wp2
      all_goals (go_ret; exact ⟨ret_int (by omega), rfl⟩)
theorem awake4 (w : World) : Calls Tryd.prog 24 #[] w fun e w' => e = .returned (.bool true) ∧ w = w' := by
  go_enter Tryd.func24, Tryd.ntmps24
  go_wp2_with (first | (go_at_call 45; refine (need_any _ _ _ 29519 _ (by omega) (by omega) (Or.inl ⟨rfl, rfl⟩)).mono ?_; rintro e w' ⟨rfl, rfl⟩) | (go_at_call 46; refine (grow_2_true _ _ _ (by omega) (by omega) (by omega) (by omega)).mono ?_; rintro e w' ⟨rfl, rfl⟩))
  go_ret
  exact ⟨rfl, rfl⟩
end Go.Proofs.YtdfachjgnhljfaaDoor
