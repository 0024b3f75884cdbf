/- law02.RingLabels: its walk. -/
import Derived.Test.YtdfachjgnhljfaaDoorI3
import Derived.Test.YtdfachjgnhljfaaDoorS7
import Derived.Deep.RegionHeld3
set_option maxRecDepth 100000
set_option linter.unusedVariables false
namespace Go.Proofs.YtdfachjgnhljfaaDoor
open Go.RowKit Go.Joins
set_option maxHeartbeats 4000000 in
theorem ringLabels_walk (W : World) {a0 a2 : Option Addr} {n0 c0 n2 c2 : Nat} (xs zs : List UInt8) (s : ByteArray) (hx : BS W a0 n0 c0 xs) (hz : BS W a2 n2 c2 zs) (n : Int) (hK : KT W) :
    Calls Tryd.prog 11 #[.slice a0 n0 c0, .string s, .slice a2 n2 c2, .int .i64 n] W fun e W' => e = .returned (.bool true) ∧ Below W.heap.size W W' := by
  have HK := Lib.hid hK
  clear hK
  have h100 : (0 : Int) ≤ 100 := by omega
  have h100' : (100 : Int) ≤ 140737488355328 := by omega
  have h260 : (0 : Int) ≤ 260 := by omega
  have h260' : (260 : Int) ≤ 140737488355328 := by omega
  obtain ⟨m, hm⟩ : ∃ m, min s.size 260 = m := ⟨_, rfl⟩
  have hm260 : m ≤ 260 := by omega
  have hms : m ≤ s.size := by omega
  have hmin : min (s.size : Int) 260 = (m : Int) := by omega
  obtain ⟨L, hL⟩ : ∃ L, s.extract 0 m = L := ⟨_, rfl⟩
  have hLs : L.size ≤ 260 := by rw [← hL, ByteArray.size_extract]; omega
  have hsl : ∀ W, (Instr.slice 9 (.string s) none (some (.int .i64 (m : Int))) none).run Tryd.prog W = .ok (.string L) W := by
    intro W
    have := run_slice_string_h (P := Tryd.prog) W 9 s uStr .i64 (m : Int) (by omega) (by omega)
    rw [this]; simp [← hL]
  go_enter Tryd.func11, Tryd.ntmps11
  go_upto_region 3 with (go_at_call 13; refine (awake02 _ HK.out).mono ?_; rintro e w1 ⟨rfl, hB1⟩)
  have hx1 := RS.below hx hB1 (Nat.le_refl _)
  have hz1 := RS.below hz hB1 (Nat.le_refl _)
  have hx1d := RS.drew hx1
  clear hm hL hx hz
  go_region_held3 (fun _ => True) (first | exact trivial | go_keep) (first
    | (go_at_call 14; (with_reducible refine (cut_any _ hx1d 100 h100 h100').mono ?_); rintro e w3 ⟨a3, c3, rfl, hO3, hB3⟩; have b3 : Below w1.heap.size w1 w3 := below_undrew hB3; have hz3 := RS.below hz1 b3 (Nat.le_refl _))
    | (go_at_call 14; (with_reducible refine (cut_any _ hz3 260 h260 h260').mono ?_); rintro e w5 ⟨a5, c5, rfl, hO5, hB5⟩))
  all_goals
    have hk5 : BS w5 a3 (min n0 100) c3 (xs.take (min n0 100)) := RS.below (made_bs hO3) hB5 (Nat.le_refl _)
    have hc5 : BS w5 a5 (min n2 260) c5 (zs.take (min n2 260)) := made_bs hO5
    have HW5 := Lib.hid (btrans hB1 (btrans b3 hB5))
    have hK5 := HK.out.below HW5.out (Nat.le_refl _)
    obtain ⟨key, hke⟩ : ∃ key, xs.take (min n0 100) = key := ⟨_, rfl⟩
    obtain ⟨ctx, hct⟩ : ∃ ctx, zs.take (min n2 260) = ctx := ⟨_, rfl⟩
    obtain ⟨k0, hk0⟩ : ∃ k0, min n0 100 = k0 := ⟨_, rfl⟩
    obtain ⟨x0, hx0⟩ : ∃ x0, min n2 260 = x0 := ⟨_, rfl⟩
    have hk100 : k0 ≤ 100 := by omega
    have hx260 : x0 ≤ 260 := by omega
    rw [hke, hk0] at hk5
    rw [hct, hx0] at hc5
    rw [hk0, hx0]
    clear hke hct hk0 hx0 hO3 hO5 hB1 hB3 hB5 b3 hz3 hx1 hz1 hx1d hsl hmin hm260 hms h100 h100' h260 h260'
    have Hk5 := Lib.hid hk5
    have Hc5 := Lib.hid hc5
    have HK5 := Lib.hid hK5
    clear hk5 hc5 hK5
    have hcase : n < 0 ∨ 8160 < n ∨ ∃ M : Nat, M ≤ 8160 ∧ ((n ≤ 200 ∧ n = (M : Int)) ∨ (200 < n ∧ n ≤ 8160 ∧ M = 200)) := by
      by_cases h1 : n < 0
      · exact Or.inl h1
      · by_cases h2 : 8160 < n
        · exact Or.inr (Or.inl h2)
        · by_cases h3 : n ≤ 200
          · exact Or.inr (Or.inr ⟨n.toNat, by omega, Or.inl ⟨h3, by omega⟩⟩)
          · exact Or.inr (Or.inr ⟨200, by omega, Or.inr ⟨by omega, by omega, rfl⟩⟩)
    rcases hcase with hn | hn | ⟨M, hM, ⟨hn1, rfl⟩ | ⟨hn1, hn2, hM2⟩⟩
    · go_wp2_with (first
        | (go_at_call 32; refine (label_neg _ _ _ _ _ hn).mono ?_; rintro e w8 ⟨rfl, rfl⟩)
        | (go_at_call 33; refine (refLabel_neg _ _ _ _ _ hn).mono ?_; rintro e w9 ⟨rfl, rfl⟩)
        | (go_at_call 19; refine (same_any _ (xs := []) (ys := []) (RS_nil _ _) (RS_nil _ _)).mono ?_; rintro e w13 ⟨rfl, rfl⟩; rw [beq_self_eq_true]))
      refine ⟨rfl, _, results_tmp (t := 8) rfl _ _ _, rfl, HW5.out⟩
    · go_wp2_with (first
        | (go_at_call 32; refine (label_big _ _ _ _ _ hn).mono ?_; rintro e w8 ⟨rfl, rfl⟩)
        | (go_at_call 33; refine (refLabel_big _ _ _ _ _ hn).mono ?_; rintro e w9 ⟨rfl, rfl⟩)
        | (go_at_call 19; refine (same_any _ (xs := []) (ys := []) (RS_nil _ _) (RS_nil _ _)).mono ?_; rintro e w13 ⟨rfl, rfl⟩; rw [beq_self_eq_true]))
      refine ⟨rfl, _, results_tmp (t := 8) rfl _ _ _, rfl, HW5.out⟩
    · go_upto_region 6 with (fail)
      have hM0 : (0 : Int) ≤ (M : Int) := by omega
      have hM1 : (M : Int) ≤ 8160 := by omega
      by_cases hlong : 249 < L.size ∨ 255 < x0
      · go_wp2_with (first
          | (go_at_call 32; refine (label_long _ _ _ _ hM0 hM1 (by omega) (by omega) hlong).mono ?_; rintro e w8 ⟨rfl, rfl⟩)
          | (go_at_call 33; refine (refLabel_long _ _ _ _ hM0 hM1 (by omega) (by omega) hlong).mono ?_; rintro e w9 ⟨rfl, rfl⟩)
          | (go_at_call 19; refine (same_any _ (xs := []) (ys := []) (RS_nil _ _) (RS_nil _ _)).mono ?_; rintro e w13 ⟨rfl, rfl⟩; rw [beq_self_eq_true]))
        refine ⟨rfl, _, results_tmp (t := 8) rfl _ _ _, rfl, HW5.out⟩
      · have hl1 : L.size ≤ 249 := by omega
        have hl2 : x0 ≤ 255 := by omega
        have hk5 := Hk5.out
        have hc5 := Hc5.out
        have hK5 := HK5.out
        clear hlong
        go_upto_region 7 with (go_at_call 32; refine (label_any _ L hk5 hc5 (by omega) hl1 hl2 hK5 M hM).mono ?_; rintro e w8 ⟨a7, rfl, ha8, hB8⟩)
        have hk8 := RS.below hk5 hB8 (Nat.le_refl _)
        have hc8 := RS.below hc5 hB8 (Nat.le_refl _)
        obtain ⟨R, hR⟩ : ∃ R, expS key (labS L.data.toList ctx M) M = R := ⟨_, rfl⟩
        rw [hR] at ha8
        have HR := Lib.hid hR
        clear hR hk5 hc5 hK5
        go_upto_region 8 with (go_at_call 33; refine (refLabel_any _ L hk8 hc8 (by omega) hl1 hl2 M hM).mono ?_; rintro e w9 ⟨a8, c8, rfl, hb9, hB9⟩)
        rw [HR.out] at hb9
        have ha9 := RS.below ha8 hB9 (Nat.le_refl _)
        have HW9 := Lib.hid (btrans HW5.out (btrans hB8 hB9))
        clear ha8 hk8 hc8 hB8 hB9
        go_wp2_with (go_at_call 19; refine (same_any _ ha9 hb9).mono ?_; rintro e w13 ⟨rfl, rfl⟩; rw [beq_self_eq_true])
        refine ⟨rfl, _, results_tmp (t := 8) rfl _ _ _, rfl, HW9.out⟩
    · go_upto_region 6 with (fail)
      have hM2i : (200 : Int) = (M : Int) := by omega
      rw [hM2i]
      clear hM2i hM2
      have hM0 : (0 : Int) ≤ (M : Int) := by omega
      have hM1 : (M : Int) ≤ 8160 := by omega
      by_cases hlong : 249 < L.size ∨ 255 < x0
      · go_wp2_with (first
          | (go_at_call 32; refine (label_long _ _ _ _ hM0 hM1 (by omega) (by omega) hlong).mono ?_; rintro e w8 ⟨rfl, rfl⟩)
          | (go_at_call 33; refine (refLabel_long _ _ _ _ hM0 hM1 (by omega) (by omega) hlong).mono ?_; rintro e w9 ⟨rfl, rfl⟩)
          | (go_at_call 19; refine (same_any _ (xs := []) (ys := []) (RS_nil _ _) (RS_nil _ _)).mono ?_; rintro e w13 ⟨rfl, rfl⟩; rw [beq_self_eq_true]))
        refine ⟨rfl, _, results_tmp (t := 8) rfl _ _ _, rfl, HW5.out⟩
      · have hl1 : L.size ≤ 249 := by omega
        have hl2 : x0 ≤ 255 := by omega
        have hk5 := Hk5.out
        have hc5 := Hc5.out
        have hK5 := HK5.out
        clear hlong
        go_upto_region 7 with (go_at_call 32; refine (label_any _ L hk5 hc5 (by omega) hl1 hl2 hK5 M hM).mono ?_; rintro e w8 ⟨a7, rfl, ha8, hB8⟩)
        have hk8 := RS.below hk5 hB8 (Nat.le_refl _)
        have hc8 := RS.below hc5 hB8 (Nat.le_refl _)
        obtain ⟨R, hR⟩ : ∃ R, expS key (labS L.data.toList ctx M) M = R := ⟨_, rfl⟩
        rw [hR] at ha8
        have HR := Lib.hid hR
        clear hR hk5 hc5 hK5
        go_upto_region 8 with (go_at_call 33; refine (refLabel_any _ L hk8 hc8 (by omega) hl1 hl2 M hM).mono ?_; rintro e w9 ⟨a8, c8, rfl, hb9, hB9⟩)
        rw [HR.out] at hb9
        have ha9 := RS.below ha8 hB9 (Nat.le_refl _)
        have HW9 := Lib.hid (btrans HW5.out (btrans hB8 hB9))
        clear ha8 hk8 hc8 hB8 hB9
        go_wp2_with (go_at_call 19; refine (same_any _ ha9 hb9).mono ?_; rintro e w13 ⟨rfl, rfl⟩; rw [beq_self_eq_true])
        refine ⟨rfl, _, results_tmp (t := 8) rfl _ _ _, rfl, HW9.out⟩
end Go.Proofs.YtdfachjgnhljfaaDoor
