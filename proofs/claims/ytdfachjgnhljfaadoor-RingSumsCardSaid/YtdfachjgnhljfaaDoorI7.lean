/- law02.RingSums: its walk. -/
import Derived.Test.YtdfachjgnhljfaaDoorI6
import Derived.Test.YtdfachjgnhljfaaDoorI3
import Derived.Test.YtdfachjgnhljfaaDoorS5
import Derived.Deep.RegionHeld3
set_option maxRecDepth 100000
set_option linter.unusedVariables false
namespace Go.Proofs.YtdfachjgnhljfaaDoor
open Go.RowKit Go.Joins
theorem qs_again (ps : List (List UInt8)) (qs : List (List UInt8)) (n : Nat) (hn : ps.length = n) (h : qsOf ps n = qs) (m : Nat) (hm : qs.length = m) : qsOf qs m = qs := by
  subst hm; subst hn
  rw [qsOf_all] at h ⊢
  rw [← h, qsOf_again]
set_option maxHeartbeats 4000000 in
theorem ringSums_walk (W : World) {a0 a1 : Option Addr} {n0 c0 n1 c1 : Nat} (xs : List UInt8) (ps : List (List UInt8)) (hx : BS W a0 n0 c0 xs) (hp : PS W a1 n1 c1 ps) (hK : KT W) :
    Calls Tryd.prog 4 #[.slice a0 n0 c0, .slice a1 n1 c1] W fun e W' => e = .returned (.bool true) ∧ Below W.heap.size W W' := by
  have HK := Lib.hid hK
  have HP := Lib.hid hp
  clear hK hp
  go_enter Tryd.func4, Tryd.ntmps4
  go_upto_region 4 with (first
    | (go_at_call 13; refine (awake02 _ HK.out).mono ?_; rintro e w1 ⟨rfl, hB1⟩)
    | (go_at_call 14; refine (cut_any _ (RS.below hx hB1 (Nat.le_refl _)) 150 (by omega) (by omega)).mono ?_; rintro e w2 ⟨a2, c2, rfl, hO2, hB2⟩))
  have hk2 : BS w2 a2 (min n0 150) c2 (xs.take (min n0 150)) := made_bs hO2
  have hw2 := btrans hB1 hB2
  have hp2 := HP.out.below hw2 (Nat.le_refl _)
  have hpl : ps.length = n1 := by obtain ⟨_, _, h, _⟩ := HP.out; exact h
  obtain ⟨key, hkey⟩ : ∃ key, xs.take (min n0 150) = key := ⟨_, rfl⟩
  obtain ⟨k0, hk0⟩ : ∃ k0, min n0 150 = k0 := ⟨_, rfl⟩
  have hk150 : k0 ≤ 150 := by omega
  rw [hkey, hk0] at hk2
  rw [hk0]
  have HW2 := Lib.hid hw2
  clear hkey hk0 hO2 hB1 hB2 hx hw2
  go_upto_region 5 with (go_at_call 17; refine (join_law _ ps hp2).mono ?_; rintro e w3 ⟨a3, m3, c3, a4, m4, c4, rfl, hP3, hF3, hB3⟩)
  obtain ⟨qs, hqs⟩ : ∃ qs, qsOf ps n1 = qs := ⟨_, rfl⟩
  have hfl := qsOf_flat ps n1
  rw [hqs] at hP3 hF3 hfl
  have hql : qs.length = m3 := by obtain ⟨_, _, h, _⟩ := hP3; exact h
  have hqa := qs_again ps qs n1 hpl hqs m3 hql
  have hm4 := BS.len hF3
  have hm6 : m3 ≤ 6 := by
    have h := qsOf_len ps n1 (by omega)
    rw [hqs] at h; omega
  have hk3 := RS.below hk2 hB3 (Nat.le_refl _)
  have HW3 := Lib.hid (btrans HW2.out hB3)
  have Hqa := Lib.hid hqa
  obtain ⟨F, hF⟩ : ∃ F, qs.flatten = F := ⟨_, rfl⟩
  have HF := Lib.hid hF
  rw [hF] at hF3 hfl hm4
  have hfl2 : qs.flatten.length ≤ 1099511627776 - 200 := by rw [hF]; omega
  have Hfl2 := Lib.hid hfl2
  clear hqs hp2 hk2 hB3 hqa hF hpl hql hfl2
  go_upto_region 6 with (go_at_call 18; refine (copy_any _ hk3 (by omega)).mono ?_; rintro e w4 ⟨a5, c5, rfl, hO4, hB4⟩)
  have hk4 := RS.below hk3 hB4 (Nat.le_refl _)
  have hm4' : BS w4 a5 k0 c5 key := hO4.rs
  have hP4 := hP3.below hB4 (Nat.le_refl _)
  have hF4 := RS.below hF3 hB4 (Nat.le_refl _)
  have HW4 := Lib.hid (btrans HW3.out hB4)
  have hK4 := HK.out.below HW4.out (Nat.le_refl _)
  clear hk3 hO4 hP3 hF3 hB4
  go_upto_region 7 with (first
    | (go_at_call 15; refine (sum_any _ qs hP4 (by have := Hfl2.out; omega) hK4).mono ?_; rintro e w5 ⟨rfl, hB5⟩; have hm5 := RS.below hm4' hB5 (Nat.le_refl _); have hP5 := hP4.below hB5 (Nat.le_refl _); have hK5 := hK4.below hB5 (Nat.le_refl _); rw [HF.out])
    | (go_at_call 16; refine (mac_any _ qs hm5 hP5 Hfl2.out (by omega) (by omega) hK5).mono ?_; rintro e w6 ⟨rfl, hB6⟩; rw [HF.out])
    | (refine L_store32 rfl _ _ rfl rfl rfl (AB.grown (AB_zeros _ rfl) (World.grownBy_alloc _ _ none) (by simp)) (by simp) (shaS_len _) ?_; intro w7 hA7 hg7)
    | (refine L_store32 rfl _ _ rfl rfl rfl (AB.grown (AB_zeros _ (by simp)) hg7 (by simp)) (by simp) (shaS_len _) ?_; intro w8 hA8 hg8))
  have hA7' := AB.grown hA7 hg8 (by simp)
  have b6 := btrans hB5 hB6
  have hz6 := b6.size
  have b7 := ((b6.alloc hz6 _).alloc (by simp; omega) _).grown hg7 (by simp; omega) (by intro k hk; cases hk; omega)
  have hz7 := hg7.size
  have b8 := b7.grown hg8 b7.size (by intro k hk; cases hk; simp at hz7; omega)
  have hml : (macS key F).length = 32 := shaS_len _
  have hx8 := hA7'.bs (by rw [shaS_len]; unfold maxLen; omega)
  have hy8 := hA8.bs (by rw [hml]; unfold maxLen; omega)
  rw [shaS_len] at hx8
  rw [hml] at hy8
  have hP8 := hP4.below b8 (Nat.le_refl _)
  have hF8 := RS.below hF4 b8 (Nat.le_refl _)
  have hk8 := RS.below hk4 b8 (Nat.le_refl _)
  have hm8 := RS.below hm4' b8 (Nat.le_refl _)
  have HW8 := Lib.hid (btrans HW4.out b8)
  obtain ⟨D, hD⟩ : ∃ D, shaS F = D := ⟨_, rfl⟩
  obtain ⟨E, hE⟩ : ∃ E, macS key F = E := ⟨_, rfl⟩
  have HD := Lib.hid hD
  have HE := Lib.hid hE
  rw [hD] at hx8
  rw [hE] at hy8
  obtain ⟨g7, hg7e⟩ : ∃ g7, w6.heap.size = g7 := ⟨_, rfl⟩
  obtain ⟨g8, hg8e⟩ : ∃ g8, g7 + 1 = g8 := ⟨_, rfl⟩
  rw [hg7e, hg8e] at hy8
  rw [hg7e] at hx8
  rw [hg7e, hg8e]
  clear hA7 hA7' hA8 b6 hz6 b7 hz7 b8 hml hP4 hF4 hk4 hm4' hD hE hg7 hg8 hg7e hg8e hP5 hm5 hK5 hB5 hB6 hK4
  go_upto_region 8 with (go_at_call 17; refine (join_law _ qs hP8).mono ?_; rintro e w9 ⟨a6, m6, c6, a7, m7, c7, rfl, hP9, hF9, hB9⟩)
  rw [Hqa.out, HF.out] at hF9
  have hx9 := RS.below hx8 hB9 (Nat.le_refl _)
  have hy9 := RS.below hy8 hB9 (Nat.le_refl _)
  have hk9 := RS.below hk8 hB9 (Nat.le_refl _)
  have hq9 := RS.below hm8 hB9 (Nat.le_refl _)
  have hf9 := RS.below hF8 hB9 (Nat.le_refl _)
  have HW9 := Lib.hid (btrans HW8.out hB9)
  have hm49 := BS.len hF9
  have hm7 : m7 = m4 := by omega
  subst hm7
  have hF1200 : m7 ≤ 1200 := by omega
  clear hx8 hy8 hk8 hm8 hF8 hB9 hP8 hP9 hm4 hm49 hfl
  have hf9d := RS.drew hf9
  go_region_held3 (fun _ => True) (first | exact trivial | go_keep) (first
    | (go_at_call 20; (with_reducible refine (refSum_any _ F hf9d (by omega)).mono ?_); rintro e w10 ⟨a10, c10, rfl, o10, B10⟩; have b10 : Below w9.heap.size w9 w10 := below_undrew B10; have hx10 := RS.below hx9 b10 (Nat.le_refl _); have hs10 := o10.rs; rw [HD.out] at hs10; have hk10 := RS.below hk9 b10 (Nat.le_refl _); have hf10 := RS.below hf9 b10 (Nat.le_refl _))
    | (go_at_call 19; (with_reducible refine (same_any _ hx10 hs10).mono ?_); rintro e w11 ⟨rfl, rfl⟩; rw [beq_self_eq_true])
    | (go_at_call 21; (with_reducible refine (refMac_any _ hk10 hf10 (by omega) (by omega)).mono ?_); rintro e w12 ⟨a12, c12, rfl, o12, B12⟩; have b12 := btrans b10 B12; have hy12 := RS.below hy9 b12 (Nat.le_refl _); have hs12 := o12.rs; rw [HE.out] at hs12; have hk12 := RS.below hk9 b12 (Nat.le_refl _); have hq12 := RS.below hq9 b12 (Nat.le_refl _); have hF12 := RS.below hF9 b12 (Nat.le_refl _); have hf12 := RS.below hf9 b12 (Nat.le_refl _))
    | (go_at_call 19; (with_reducible refine (same_any _ hy12 hs12).mono ?_); rintro e w13 ⟨rfl, rfl⟩; rw [beq_self_eq_true])
    | (go_at_call 19; (with_reducible refine (same_any _ hq12 hk12).mono ?_); rintro e w13 ⟨rfl, rfl⟩; rw [beq_self_eq_true])
    | (go_at_call 19; (with_reducible refine (same_any _ hF12 hf12).mono ?_); rintro e w13 ⟨rfl, rfl⟩; rw [beq_self_eq_true]))
  all_goals
    go_wp2_with fail
    go_ret
    exact ⟨rfl, btrans HW9.out b12⟩
end Go.Proofs.YtdfachjgnhljfaaDoor
