/- law02.RingBegins: its walk. -/
import Derived.Test.YtdfachjgnhljfaaDoorG9
set_option maxRecDepth 100000
set_option linter.unusedVariables false
namespace Go.Proofs.YtdfachjgnhljfaaDoor
open Go.RowKit Go.Joins
theorem outS_take (key info : List UInt8) (i j : Nat) (h : i ≤ j) : outS key info i = (outS key info j).take (32 * i) := by
  induction j with
  | zero => obtain rfl : i = 0 := by omega
            rfl
  | succ j ih =>
    rcases Nat.lt_or_ge i (j + 1) with hlt | hge
    · rw [ih (by omega)]
      show _ = (outS key info j ++ lastS key info (j + 1)).take (32 * i)
      rw [List.take_append_of_le_length (by rw [outS_len]; omega)]
    · obtain rfl : i = j + 1 := by omega
      rw [List.take_of_length_le (by rw [outS_len]; exact Nat.le_refl _)]
theorem expS_len (key info : List UInt8) (n : Nat) : (expS key info n).length = n := by
  unfold expS; rw [List.length_take, outS_len]; omega
theorem expS_take (key info : List UInt8) (n m : Nat) (h : n ≤ m) : (expS key info m).take n = expS key info n := by
  unfold expS
  rw [List.take_take, Nat.min_eq_left h, outS_take key info ((n + 31) / 32) ((m + 31) / 32) (by omega), List.take_take, Nat.min_eq_left (by omega)]
theorem same_ring (w : World) {a b : Option Addr} {n c m d : Nat} {xs ys : List UInt8} (hx : BS w a n c xs) (hy : BS w b m d ys) :
    Calls Tryd.prog 23 #[.slice a n c, .slice b m d] w fun e w' => e = .returned (.bool (xs == ys)) ∧ w' = w := by
  go_enter Tryd.func23, Tryd.ntmps23
  go_wp2_with (go_at_call 44; refine (equal_any _ hx hy).mono ?_; rintro e w' ⟨rfl, rfl⟩)
  go_ret
  exact ⟨rfl, rfl⟩
theorem made_bs {w w' : World} {a : Option Addr} {n k c : Nat} {xs : List UInt8} (h : OW w' w.heap.size 5 1 a (min n k) c ((xs.map B).take (min n k))) : BS w' a (min n k) c (xs.take (min n k)) := by
  have h2 := h.rs
  unfold BS
  rw [List.map_take]; exact h2
set_option maxHeartbeats 4000000 in
theorem ringBegins_walk (W : World) {a0 a1 : Option Addr} {n0 c0 n1 c1 : Nat} (xs ys : List UInt8) (hx : BS W a0 n0 c0 xs) (hy : BS W a1 n1 c1 ys) (n m : Nat) (hn : n < 256) (hm : m < 256) (hK : KT W) :
    Calls Tryd.prog 5 #[.slice a0 n0 c0, .slice a1 n1 c1, .int .u8 (n : Int), .int .u8 (m : Int)] W fun e W' => e = .returned (.bool true) ∧ Below W.heap.size W W' := by
  have HK := Lib.hid hK
  clear hK
  obtain ⟨lo, hlo⟩ : ∃ lo, min n m = lo := ⟨_, rfl⟩
  obtain ⟨hi, hhi⟩ : ∃ hi, max n m = hi := ⟨_, rfl⟩
  have hmin : min (n : Int) (m : Int) = (lo : Int) := by omega
  have hmax : max (n : Int) (m : Int) = (hi : Int) := by omega
  have hl256 : lo < 256 := by omega
  have hh256 : hi < 256 := by omega
  have hlh : lo ≤ hi := by omega
  have hnm : n = m ↔ lo = hi := by omega
  have Hnm := Lib.hid hnm
  clear hlo hhi hnm
  go_enter Tryd.func5, Tryd.ntmps5
  go_upto_region 3 with (first
    | (go_at_call 13; refine (awake02 _ HK.out).mono ?_; rintro e w1 ⟨rfl, hB1⟩))
  go_upto_region 4 with (first
    | (go_at_call 14; (with_reducible refine (cut_any w2 hy2 60 h60 h60').mono ?_); rintro e w3 ⟨a3, c3, rfl, hO3, hB3⟩)
    | (go_at_call 14; refine (cut_any _ (RS.below hx hB1 (Nat.le_refl _)) 60 (by omega) (by omega)).mono ?_; rintro e w2 ⟨a2, c2, rfl, hO2, hB2⟩; have hy2 := RS.below (RS.below hy hB1 (Nat.le_refl _)) hB2 (Nat.le_refl _); have h60 : (0 : Int) ≤ 60 := (by omega); have h60' : (60 : Int) ≤ 140737488355328 := (by omega)))
  have hk3 : BS w3 a2 (min n0 60) c2 (xs.take (min n0 60)) := RS.below (made_bs hO2) hB3 (Nat.le_refl _)
  have hi3 : BS w3 a3 (min n1 60) c3 (ys.take (min n1 60)) := made_bs hO3
  have hw3 := btrans hB1 (btrans hB2 hB3)
  have hK3 := HK.out.below hw3 (Nat.le_refl _)
  obtain ⟨key, hkey⟩ : ∃ key, xs.take (min n0 60) = key := ⟨_, rfl⟩
  obtain ⟨info, hinfo⟩ : ∃ info, ys.take (min n1 60) = info := ⟨_, rfl⟩
  obtain ⟨k0, hk0⟩ : ∃ k0, min n0 60 = k0 := ⟨_, rfl⟩
  obtain ⟨i0, hi0⟩ : ∃ i0, min n1 60 = i0 := ⟨_, rfl⟩
  have hk60 : k0 ≤ 60 := by omega
  have hi60 : i0 ≤ 60 := by omega
  rw [hkey, hk0] at hk3
  rw [hinfo, hi0] at hi3
  rw [hk0, hi0]
  have HW3 := Lib.hid hw3
  clear hkey hinfo hk0 hi0 hO2 hO3 hB1 hB2 hB3 hx hy hy2 hw3
  go_upto_region 5 with (go_at_call 22; refine (expand_any _ hk3 hi3 (by omega) (by omega) hK3 lo (by omega)).mono ?_; rintro e w4 ⟨a4, rfl, hb4, hB4⟩)
  have hk4 := RS.below hk3 hB4 (Nat.le_refl _)
  have hi4 := RS.below hi3 hB4 (Nat.le_refl _)
  have hK4 := hK3.below hB4 (Nat.le_refl _)
  go_upto_region 6 with (go_at_call 22; refine (expand_any _ hk4 hi4 (by omega) (by omega) hK4 hi (by omega)).mono ?_; rintro e w5 ⟨a5, rfl, hb5, hB5⟩)
  have hb45 := RS.below hb4 hB5 (Nat.le_refl _)
  have HW5 := Lib.hid (btrans HW3.out (btrans hB4 hB5))
  have e1 := expS_take key info lo hi hlh
  have l1 := expS_len key info lo
  have l2 := expS_len key info hi
  obtain ⟨A, hA⟩ : ∃ A, expS key info lo = A := ⟨_, rfl⟩
  obtain ⟨D, hD⟩ : ∃ D, expS key info hi = D := ⟨_, rfl⟩
  rw [hA, hD] at e1
  rw [hA] at hb45 l1
  rw [hD] at hb5 l2
  have hAD : (A == D) = decide (n = m) := by
    by_cases h : n = m
    · have h2 := Hnm.out.1 h
      subst h2
      rw [hA] at hD
      subst hD
      simp [h]
    · have h2 : lo ≠ hi := fun h3 => h (Hnm.out.2 h3)
      have h3 : A ≠ D := fun h4 => h2 (by rw [← l1, ← l2, h4])
      simp [h, h3]
  have He1 := Lib.hid e1
  clear hA hD e1 l1 l2 hb4 hk3 hi3 hk4 hi4 hK3 hK4
  by_cases hnm : n = m
  · subst hnm
    rw [decide_eq_true rfl] at hAD
    have Had := Lib.hid hAD
    clear hAD
    go_wp2_with (first
      | (refine LB_slice_h tB hb5 lo _ _ rfl rfl _ _ rfl rfl rfl hlh ?_; intro hb6)
      | (go_at_call 19; refine (same_any _ hb45 hb6).mono ?_; rintro e w6 ⟨rfl, rfl⟩; rw [He1.out, beq_self_eq_true])
      | (go_at_call 18; refine (copy_any _ hb45 (by omega)).mono ?_; rintro e w7 ⟨a7, c7, rfl, hO7, hB7⟩; have hb7 := RS.below hb45 hB7 (Nat.le_refl _))
      | (go_at_call 23; (with_reducible refine (same_ring w7 hb7 hO7.rs).mono ?_); rintro e w8 ⟨rfl, rfl⟩)
      | (go_at_call 23; refine (same_ring _ hb45 hb5).mono ?_; rintro e w8 ⟨rfl, rfl⟩; rw [Had.out]))
    go_ret
    exact ⟨rfl, btrans HW5.out hB7⟩
  · rw [decide_eq_false hnm] at hAD
    have hnm2 : ¬ ((n : Int) = (m : Int)) := by omega
    have hnm3 : ((n : Int) == (m : Int)) = false := by simpa using hnm2
    have Had := Lib.hid hAD
    clear hAD
    go_wp2_with (first
      | (refine LB_slice_h tB hb5 lo _ _ rfl rfl _ _ rfl rfl rfl hlh ?_; intro hb6)
      | (go_at_call 19; refine (same_any _ hb45 hb6).mono ?_; rintro e w6 ⟨rfl, rfl⟩; rw [He1.out, beq_self_eq_true])
      | (go_at_call 18; refine (copy_any _ hb45 (by omega)).mono ?_; rintro e w7 ⟨a7, c7, rfl, hO7, hB7⟩; have hb7 := RS.below hb45 hB7 (Nat.le_refl _))
      | (go_at_call 23; (with_reducible refine (same_ring w7 hb7 hO7.rs).mono ?_); rintro e w8 ⟨rfl, rfl⟩)
      | (go_at_call 23; refine (same_ring _ hb45 hb5).mono ?_; rintro e w8 ⟨rfl, rfl⟩; rw [Had.out]))
    go_ret
    exact ⟨rfl, btrans HW5.out hB7⟩
end Go.Proofs.YtdfachjgnhljfaaDoor
