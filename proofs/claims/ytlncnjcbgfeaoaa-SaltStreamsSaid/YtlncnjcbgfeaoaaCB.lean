/- salt.padded, salt.eight. -/
import Derived.Test.YtlncnjcbgfeaoaaC5
set_option maxRecDepth 100000
set_option linter.unusedVariables false
namespace Go.Proofs.Ytlncnjcbgfeaoaa
open Go.RowKit
def padN (n : Nat) : Nat := (16 - n % 16) % 16
theorem padded_any (w : World) (a : Option Addr) (n c : Nat) (hn : n ≤ 140737488355328) :
    Calls Try.prog 40 #[.slice a n c] w fun e w' => ∃ a' c', e = .returned (.slice a' (padN n) c') ∧ OW w' w.heap.size 5 1 a' (padN n) c' ((List.replicate (padN n) 0).map B) ∧ Below w.heap.size w w' := by
  obtain ⟨N, hN⟩ : ∃ N, padN n = N := ⟨_, rfl⟩
  have hNi : (16 - (n : Int) % 16) % 16 = (N : Int) := by unfold padN at hN; omega
  have hN16 : N < 16 := by unfold padN at hN; omega
  rw [hN]
  clear hN
  go_enter Try.func40, Try.ntmps40
  go_wp2_with (refine L_make tB w.heap.size N rfl rfl _ _ rfl rfl _ _ _ _ rfl rfl (by omega) (by omega) (by omega) (by unfold maxLen; omega) (Nat.le_refl _) ?_; intro w1 o1 g1)
  go_ret
  refine ⟨_, _, rfl, ?_, ?_⟩
  · rw [List.map_replicate]; exact o1
  · exact below_none (Below.refl _ w) g1 (Nat.le_refl _)
/-- a number as eight bytes, the lowest first -/
def le8 (n : Nat) : List UInt8 := (List.range 8).map fun j => UInt8.ofNat (n / 2 ^ (8 * j))
def ei (n j : Nat) : List UInt8 := (List.range 8).map fun i => if i < j then UInt8.ofNat (n / 2 ^ (8 * i)) else 0
theorem ei_len (n j : Nat) : (ei n j).length = 8 := by simp [ei]
theorem ei_set (n j : Nat) (hj : j < 8) : (ei n j).set j (UInt8.ofNat (n / 2 ^ (8 * j))) = ei n (j + 1) := by
  apply List.ext_getElem?
  intro i
  rcases Nat.lt_or_ge i 8 with hi | hi
  · by_cases h : i = j
    · subst h
      rw [List.getElem?_set_self (by rw [ei_len]; omega)]
      unfold ei
      rw [List.getElem?_map, List.getElem?_range hi]; simp
    · rw [List.getElem?_set_ne (fun h2 => h h2.symm)]
      unfold ei
      rw [List.getElem?_map, List.getElem?_map, List.getElem?_range hi]
      simp only [Option.map_some, Option.some.injEq]
      by_cases h2 : i < j
      · rw [if_pos h2, if_pos (by omega)]
      · rw [if_neg h2, if_neg (by omega)]
  · rw [List.getElem?_eq_none (by rw [List.length_set, ei_len]; omega), List.getElem?_eq_none (by rw [ei_len]; omega)]
theorem ei_zero (n : Nat) : ei n 0 = List.replicate 8 0 := by simp [ei, List.range_succ]
theorem ei_all (n : Nat) : ei n 8 = le8 n := by
  unfold ei le8
  apply List.map_congr_left
  intro i hi
  rw [if_pos (List.mem_range.1 hi)]
set_option maxHeartbeats 2000000 in
theorem eight_any (w : World) (n : Nat) (hn : n ≤ 140737488355328) :
    Calls Try.prog 41 #[.int .i64 (n : Int)] w fun e w' => ∃ a', e = .returned (.slice a' 8 8) ∧ OW w' w.heap.size 5 1 a' 8 8 ((le8 n).map B) ∧ Below w.heap.size w w' := by
  go_enter Try.func41, Try.ntmps41
  go_upto_region 2 with (refine L_make tB w.heap.size 8 rfl rfl _ _ rfl rfl _ _ _ _ rfl rfl (by omega) (by omega) (by omega) (by unfold maxLen; omega) (Nat.le_refl _) ?_; intro w1 o1 g1)
  have o1' : OW w1 w.heap.size 5 1 (some ⟨w.heap.size, 0, none⟩) 8 8 ((ei n 0).map B) := by rw [ei_zero, List.map_replicate]; exact o1
  have b1 := below_none (Below.refl _ w) g1 (Nat.le_refl _)
  clear o1 g1
  go_wp2
  go_loopw [8] (fun s8 wr => ∃ j : Nat, j ≤ 8 ∧ s8 = .int .i64 (j : Int) ∧ OW wr w.heap.size 5 1 (some ⟨w.heap.size, 0, none⟩) 8 8 ((ei n j).map B) ∧ Below w.heap.size w wr) (fun s8 _ => 8 - (intOf s8).toNat)
  case atStart => exact ⟨0, by omega, rfl, o1', b1⟩
  case round =>
    obtain ⟨j, hj, rfl, ho, hb⟩ := hrel
    clear o1' b1
    by_cases hlt : j < 8
    · obtain ⟨y, hy⟩ : ∃ y, (ei n j)[j]? = some y := ⟨_, List.getElem?_eq_getElem (by rw [ei_len]; exact hlt)⟩
      have q := ho.cell j (B y) (by rw [List.getElem?_map, hy]; rfl)
      have f := ho.frozen j
      have h2 := ho.setCell j (B (UInt8.ofNat (n / 2 ^ (8 * j)))) rfl
      rw [← List.map_set, ei_set n j hlt] at h2
      have hb2 := hb.grown (grownBy_setCell wr ⟨w.heap.size, j, none⟩ (B (UInt8.ofNat (n / 2 ^ (8 * j))))) hb.size (fun k hk => by cases hk; exact Nat.le_refl _)
      have H2 := Lib.hid h2
      have HB2 := Lib.hid hb2
      have hj8 : j = 0 ∨ j = 1 ∨ j = 2 ∨ j = 3 ∨ j = 4 ∨ j = 5 ∨ j = 6 ∨ j = 7 := by omega
      clear hy ho hb h2 hb2
      rcases hj8 with rfl | rfl | rfl | rfl | rfl | rfl | rfl | rfl
      · have hv : B (UInt8.ofNat (n / 2 ^ (8 * 0))) = .int .u8 ((n : Int) % 256) := by simp only [B, UInt8.toNat_ofNat']; congr 1 <;> omega
        rw [hv] at H2 HB2
        clear hv
        rw [show ((0 : Nat) : Int) = 0 from rfl]
        go_wp2
        go_roundw
        case rel => exact ⟨0 + 1, by omega, rfl, H2.out, HB2.out⟩
        case measure => simp [intOf]
      · have hv : B (UInt8.ofNat (n / 2 ^ (8 * 1))) = .int .u8 ((n : Int) / 256 % 256) := by simp only [B, UInt8.toNat_ofNat']; congr 1 <;> omega
        rw [hv] at H2 HB2
        clear hv
        rw [show ((1 : Nat) : Int) = 1 from rfl]
        go_wp2
        go_roundw
        case rel => exact ⟨1 + 1, by omega, rfl, H2.out, HB2.out⟩
        case measure => simp [intOf]
      · have hv : B (UInt8.ofNat (n / 2 ^ (8 * 2))) = .int .u8 ((n : Int) / 65536 % 256) := by simp only [B, UInt8.toNat_ofNat']; congr 1 <;> omega
        rw [hv] at H2 HB2
        clear hv
        rw [show ((2 : Nat) : Int) = 2 from rfl]
        go_wp2
        go_roundw
        case rel => exact ⟨2 + 1, by omega, rfl, H2.out, HB2.out⟩
        case measure => simp [intOf]
      · have hv : B (UInt8.ofNat (n / 2 ^ (8 * 3))) = .int .u8 ((n : Int) / 16777216 % 256) := by simp only [B, UInt8.toNat_ofNat']; congr 1 <;> omega
        rw [hv] at H2 HB2
        clear hv
        rw [show ((3 : Nat) : Int) = 3 from rfl]
        go_wp2
        go_roundw
        case rel => exact ⟨3 + 1, by omega, rfl, H2.out, HB2.out⟩
        case measure => simp [intOf]
      · have hv : B (UInt8.ofNat (n / 2 ^ (8 * 4))) = .int .u8 ((n : Int) / 4294967296 % 256) := by simp only [B, UInt8.toNat_ofNat']; congr 1 <;> omega
        rw [hv] at H2 HB2
        clear hv
        rw [show ((4 : Nat) : Int) = 4 from rfl]
        go_wp2
        go_roundw
        case rel => exact ⟨4 + 1, by omega, rfl, H2.out, HB2.out⟩
        case measure => simp [intOf]
      · have hv : B (UInt8.ofNat (n / 2 ^ (8 * 5))) = .int .u8 ((n : Int) / 1099511627776) := by simp only [B, UInt8.toNat_ofNat']; congr 1 <;> omega
        rw [hv] at H2 HB2
        clear hv
        rw [show ((5 : Nat) : Int) = 5 from rfl]
        go_wp2
        go_roundw
        case rel => exact ⟨5 + 1, by omega, rfl, H2.out, HB2.out⟩
        case measure => simp [intOf]
      · have hv : B (UInt8.ofNat (n / 2 ^ (8 * 6))) = .int .u8 ((n : Int) / 281474976710656) := by simp only [B, UInt8.toNat_ofNat']; congr 1 <;> omega
        rw [hv] at H2 HB2
        clear hv
        rw [show ((6 : Nat) : Int) = 6 from rfl]
        go_wp2
        go_roundw
        case rel => exact ⟨6 + 1, by omega, rfl, H2.out, HB2.out⟩
        case measure => simp [intOf]
      · have hv : B (UInt8.ofNat (n / 2 ^ (8 * 7))) = .int .u8 ((n : Int) / 72057594037927936) := by simp only [B, UInt8.toNat_ofNat']; congr 1 <;> omega
        rw [hv] at H2 HB2
        clear hv
        rw [show ((7 : Nat) : Int) = 7 from rfl]
        go_wp2
        go_roundw
        case rel => exact ⟨7 + 1, by omega, rfl, H2.out, HB2.out⟩
        case measure => simp [intOf]
    · obtain rfl : j = 8 := by omega
      rw [ei_all] at ho
      have HO := Lib.hid ho
      have HB := Lib.hid hb
      clear ho hb
      go_wp2
      go_ret
      exact ⟨_, rfl, HO.out, HB.out⟩
end Go.Proofs.Ytlncnjcbgfeaoaa
