/- law02.RingKeys: its walk. -/
import Derived.Test.YtdfachjgnhljfaaDoorI3
import Derived.Test.YtdfachjgnhljfaaDoorS6
import Derived.Deep.RegionHeld3
set_option maxRecDepth 100000
set_option linter.unusedVariables false
namespace Go.Proofs.YtdfachjgnhljfaaDoor
open Go.RowKit Go.Joins
theorem extract_any (w : World) {a0 a1 : Option Addr} {n0 c0 n1 c1 : Nat} {salt key : List UInt8} (hs : BS w a0 n0 c0 salt) (hk : BS w a1 n1 c1 key) (h0 : n0 ≤ 549755813888) (h1 : n1 ≤ 549755813888) (hK : KT w) :
    Calls Tryd.prog 30 #[.slice a0 n0 c0, .slice a1 n1 c1] w fun e w' => e = .returned (.agg ((macS salt key).map B).toArray) ∧ Below w.heap.size w w' := by
  have hl := BS.len hk
  have hZ := AB_zeros w rfl
  have hps := PS_one (g := w.heap.size + 1) (by simp) (RS.alloc hk (.cells #[.int .u8 0, .int .u8 0, .int .u8 0, .int .u8 0, .int .u8 0, .int .u8 0, .int .u8 0, .int .u8 0, .int .u8 0, .int .u8 0, .int .u8 0, .int .u8 0, .int .u8 0, .int .u8 0, .int .u8 0, .int .u8 0, .int .u8 0, .int .u8 0, .int .u8 0, .int .u8 0, .int .u8 0, .int .u8 0, .int .u8 0, .int .u8 0, .int .u8 0, .int .u8 0, .int .u8 0, .int .u8 0, .int .u8 0, .int .u8 0, .int .u8 0, .int .u8 0] 26))
  have hfl : [key].flatten.length ≤ 1099511627776 - 200 := by simp; omega
  have Hfl := Lib.hid hfl
  have HK := Lib.hid hK
  have Hps := Lib.hid hps
  have HZ := Lib.hid hZ
  clear hfl hK hps hZ
  have hi32 : (Tryd.prog.info? 26).map (·.size) = some ((macS salt key).map B).toArray.size := by rw [List.size_toArray, List.length_map, show (macS salt key).length = 32 from shaS_len _]; kernel_rfl
  have Hi := Lib.hid hi32
  clear hi32
  go_enter Tryd.func30, Tryd.ntmps30
  go_wp2_with (first
    | (go_at_call 16; refine (mac_any _ [key] (RS.alloc (RS.alloc hs _) _) Hps.out Hfl.out (by omega) (by omega) ((HK.out.alloc _).alloc _)).mono ?_; rintro e w5 ⟨rfl, hB5⟩; rw [show [key].flatten = key from by simp])
    | (refine L_store32 rfl _ _ rfl rfl rfl (AB.grown ((hB5.block w.heap.size (by simp; omega)).trans ((Below.heap_alloc _ _ _ (by simp)).trans HZ.out) : AB w5 w.heap.size 26 (List.replicate 32 0)) (World.grownBy.refl w5 none) (by simp)) (by simp) (shaS_len _) ?_; intro w6 hA6 hg6))
  have b5 : Below w.heap.size w w5 := ((below_alloc w _).alloc (by simp) _).trans (hB5.mono (by simp; omega))
  refine bodyPost_ret_by (results_cell_row rfl _ _ _ _ _ _ _ rfl hA6 Tryd.underlying26 rfl Hi.out) rfl ⟨rfl, ?_⟩
  exact b5.grown hg6 b5.size (fun k hk => by cases hk; exact Nat.le_refl _)
set_option maxHeartbeats 4000000 in
theorem ringKeys_walk (W : World) {a0 a1 a2 : Option Addr} {n0 c0 n1 c1 n2 c2 : Nat} (xs ys zs : List UInt8) (hx : BS W a0 n0 c0 xs) (hy : BS W a1 n1 c1 ys) (hz : BS W a2 n2 c2 zs) (n : Int) (hK : KT W) :
    Calls Tryd.prog 10 #[.slice a0 n0 c0, .slice a1 n1 c1, .slice a2 n2 c2, .int .i64 n] W fun e W' => e = .returned (.bool true) ∧ Below W.heap.size W W' := by
  have HK := Lib.hid hK
  clear hK
  have h100 : (0 : Int) ≤ 100 := by omega
  have h100' : (100 : Int) ≤ 140737488355328 := by omega
  go_enter Tryd.func10, Tryd.ntmps10
  go_upto_region 3 with (go_at_call 13; refine (awake02 _ HK.out).mono ?_; rintro e w1 ⟨rfl, hB1⟩)
  have hx1 := RS.below hx hB1 (Nat.le_refl _)
  have hy1 := RS.below hy hB1 (Nat.le_refl _)
  have hz1 := RS.below hz hB1 (Nat.le_refl _)
  go_upto_region 4 with (first
    | (go_at_call 14; (with_reducible refine (cut_any w4 hz4 100 h100 h100').mono ?_); rintro e w5 ⟨a5, c5, rfl, hO5, hB5⟩)
    | (go_at_call 14; (with_reducible refine (cut_any w3 hy3 100 h100 h100').mono ?_); rintro e w4 ⟨a4, c4, rfl, hO4, hB4⟩; have hz4 := RS.below hz3 hB4 (Nat.le_refl _))
    | (go_at_call 14; (with_reducible refine (cut_any w1 hx1 100 h100 h100').mono ?_); rintro e w3 ⟨a3, c3, rfl, hO3, hB3⟩; have hy3 := RS.below hy1 hB3 (Nat.le_refl _); have hz3 := RS.below hz1 hB3 (Nat.le_refl _)))
  have hs5 : BS w5 a3 (min n0 100) c3 (xs.take (min n0 100)) := RS.below (RS.below (made_bs hO3) hB4 (Nat.le_refl _)) hB5 (Nat.le_refl _)
  have hk5 : BS w5 a4 (min n1 100) c4 (ys.take (min n1 100)) := RS.below (made_bs hO4) hB5 (Nat.le_refl _)
  have hi5 : BS w5 a5 (min n2 100) c5 (zs.take (min n2 100)) := made_bs hO5
  have HW5 := Lib.hid (btrans hB1 (btrans hB3 (btrans hB4 hB5)))
  have hK5 := HK.out.below HW5.out (Nat.le_refl _)
  obtain ⟨salt, hsa⟩ : ∃ salt, xs.take (min n0 100) = salt := ⟨_, rfl⟩
  obtain ⟨key, hke⟩ : ∃ key, ys.take (min n1 100) = key := ⟨_, rfl⟩
  obtain ⟨info, hin⟩ : ∃ info, zs.take (min n2 100) = info := ⟨_, rfl⟩
  obtain ⟨s0, hs0⟩ : ∃ s0, min n0 100 = s0 := ⟨_, rfl⟩
  obtain ⟨k0, hk0⟩ : ∃ k0, min n1 100 = k0 := ⟨_, rfl⟩
  obtain ⟨i0, hi0⟩ : ∃ i0, min n2 100 = i0 := ⟨_, rfl⟩
  have hs100 : s0 ≤ 100 := by omega
  have hk100 : k0 ≤ 100 := by omega
  have hi100 : i0 ≤ 100 := by omega
  rw [hsa, hs0] at hs5
  rw [hke, hk0] at hk5
  rw [hin, hi0] at hi5
  rw [hs0, hk0, hi0]
  clear hsa hke hin hs0 hk0 hi0 hO3 hO4 hO5 hB1 hB3 hB4 hB5 hx hy hz hx1 hy1 hz1 hy3 hz3 hz4 h100 h100'
  have Hs5 := Lib.hid hs5
  have Hk5 := Lib.hid hk5
  have Hi5 := Lib.hid hi5
  have HK5 := Lib.hid hK5
  clear hs5 hk5 hi5 hK5
  have hcase : n < 0 ∨ 8160 < n ∨ ∃ M : Nat, M ≤ 8160 ∧ ((n ≤ 400 ∧ n = (M : Int)) ∨ (400 < n ∧ n ≤ 8160 ∧ M = 400)) := by
    by_cases h1 : n < 0
    · exact Or.inl h1
    · by_cases h2 : 8160 < n
      · exact Or.inr (Or.inl h2)
      · by_cases h3 : n ≤ 400
        · exact Or.inr (Or.inr ⟨n.toNat, by omega, Or.inl ⟨h3, by omega⟩⟩)
        · exact Or.inr (Or.inr ⟨400, by omega, Or.inr ⟨by omega, by omega, rfl⟩⟩)
  rcases hcase with hn | hn | ⟨M, hM, ⟨hn1, rfl⟩ | ⟨hn1, hn2, hM4⟩⟩
  · go_upto_region 6 with (fail)
    have hs5 := Hs5.out
    have hk5 := Hk5.out
    have hK5 := HK5.out
    go_upto_region 7 with (first
      | (go_at_call 30; refine (extract_any _ hs5 hk5 (by omega) (by omega) hK5).mono ?_; rintro e w6 ⟨rfl, hB6⟩)
      | (refine L_store32 rfl _ _ rfl rfl rfl (AB_zeros _ rfl) (by simp) (shaS_len _) ?_; intro w7 hA7 hg7))
    have b7 := (hB6.alloc hB6.size _).grown hg7 (by have := hB6.size; simp; omega) (by intro k hk; cases hk; exact hB6.size)
    have hml : (macS salt key).length = 32 := shaS_len _
    have hx7 := hA7.bs (by rw [hml]; unfold maxLen; omega)
    rw [hml] at hx7
    have hs7 := RS.below hs5 b7 (Nat.le_refl _)
    have hk7 := RS.below hk5 b7 (Nat.le_refl _)
    have hi7 := RS.below Hi5.out b7 (Nat.le_refl _)
    have hK7 := hK5.below b7 (Nat.le_refl _)
    have HW7 := Lib.hid (btrans HW5.out b7)
    obtain ⟨D, hD⟩ : ∃ D, macS salt key = D := ⟨_, rfl⟩
    have HD := Lib.hid hD
    rw [hD] at hx7
    obtain ⟨g7, hg7e⟩ : ∃ g7, w6.heap.size = g7 := ⟨_, rfl⟩
    rw [hg7e] at hx7 ⊢
    clear hA7 hg7 hg7e hB6 b7 hD hml hs5 hk5 hK5
    go_upto_region 9 with (first
      | (go_at_call 22; refine (expand_neg _ _ _ _ hn).mono ?_; rintro e w8 ⟨rfl, rfl⟩)
      | (go_at_call 31; refine (refExpand_neg _ _ _ _ hn).mono ?_; rintro e w9 ⟨rfl, rfl⟩))
    have ha9 : BS w9 none 0 0 [] := RS_nil _ _
    have hb9 : BS w9 none 0 0 [] := RS_nil _ _
    have hx9 := hx7
    have hs9 := hs7
    have hk9 := hk7
    have HW9 := HW7


    clear hs7 hk7 hi7 hK7 hx7
    have hs9d := RS.drew hs9
    have hk9d := RS.drew hk9
    go_region_held3 (fun _ => True) (first | exact trivial | go_keep) (first
      | (go_at_call 21; (with_reducible refine (refMac_any _ hs9d hk9d (by omega) (by omega)).mono ?_); rintro e w10 ⟨a10, c10, rfl, o10, B10⟩; have b10 : Below w9.heap.size w9 w10 := below_undrew B10; have hx10 := RS.below hx9 b10 (Nat.le_refl _); have hs10 := o10.rs; rw [HD.out] at hs10; have ha10 := RS.below ha9 b10 (Nat.le_refl _); have hb10 := RS.below hb9 b10 (Nat.le_refl _))
      | (go_at_call 19; (with_reducible refine (same_any _ hx10 hs10).mono ?_); rintro e w11 ⟨rfl, rfl⟩; rw [beq_self_eq_true])
      | (go_at_call 19; (with_reducible refine (same_any _ ha10 hb10).mono ?_); rintro e w13 ⟨rfl, rfl⟩; rw [beq_self_eq_true]))
    all_goals
      go_wp2_with fail
      go_ret
      exact ⟨rfl, btrans HW9.out b10⟩
  · go_upto_region 6 with (fail)
    have hs5 := Hs5.out
    have hk5 := Hk5.out
    have hK5 := HK5.out
    go_upto_region 7 with (first
      | (go_at_call 30; refine (extract_any _ hs5 hk5 (by omega) (by omega) hK5).mono ?_; rintro e w6 ⟨rfl, hB6⟩)
      | (refine L_store32 rfl _ _ rfl rfl rfl (AB_zeros _ rfl) (by simp) (shaS_len _) ?_; intro w7 hA7 hg7))
    have b7 := (hB6.alloc hB6.size _).grown hg7 (by have := hB6.size; simp; omega) (by intro k hk; cases hk; exact hB6.size)
    have hml : (macS salt key).length = 32 := shaS_len _
    have hx7 := hA7.bs (by rw [hml]; unfold maxLen; omega)
    rw [hml] at hx7
    have hs7 := RS.below hs5 b7 (Nat.le_refl _)
    have hk7 := RS.below hk5 b7 (Nat.le_refl _)
    have hi7 := RS.below Hi5.out b7 (Nat.le_refl _)
    have hK7 := hK5.below b7 (Nat.le_refl _)
    have HW7 := Lib.hid (btrans HW5.out b7)
    obtain ⟨D, hD⟩ : ∃ D, macS salt key = D := ⟨_, rfl⟩
    have HD := Lib.hid hD
    rw [hD] at hx7
    obtain ⟨g7, hg7e⟩ : ∃ g7, w6.heap.size = g7 := ⟨_, rfl⟩
    rw [hg7e] at hx7 ⊢
    clear hA7 hg7 hg7e hB6 b7 hD hml hs5 hk5 hK5
    go_upto_region 9 with (first
      | (go_at_call 22; refine (expand_big _ _ _ _ hn).mono ?_; rintro e w8 ⟨rfl, rfl⟩)
      | (go_at_call 31; refine (refExpand_big _ _ _ _ hn).mono ?_; rintro e w9 ⟨rfl, rfl⟩))
    have ha9 : BS w9 none 0 0 [] := RS_nil _ _
    have hb9 : BS w9 none 0 0 [] := RS_nil _ _
    have hx9 := hx7
    have hs9 := hs7
    have hk9 := hk7
    have HW9 := HW7


    clear hs7 hk7 hi7 hK7 hx7
    have hs9d := RS.drew hs9
    have hk9d := RS.drew hk9
    go_region_held3 (fun _ => True) (first | exact trivial | go_keep) (first
      | (go_at_call 21; (with_reducible refine (refMac_any _ hs9d hk9d (by omega) (by omega)).mono ?_); rintro e w10 ⟨a10, c10, rfl, o10, B10⟩; have b10 : Below w9.heap.size w9 w10 := below_undrew B10; have hx10 := RS.below hx9 b10 (Nat.le_refl _); have hs10 := o10.rs; rw [HD.out] at hs10; have ha10 := RS.below ha9 b10 (Nat.le_refl _); have hb10 := RS.below hb9 b10 (Nat.le_refl _))
      | (go_at_call 19; (with_reducible refine (same_any _ hx10 hs10).mono ?_); rintro e w11 ⟨rfl, rfl⟩; rw [beq_self_eq_true])
      | (go_at_call 19; (with_reducible refine (same_any _ ha10 hb10).mono ?_); rintro e w13 ⟨rfl, rfl⟩; rw [beq_self_eq_true]))
    all_goals
      go_wp2_with fail
      go_ret
      exact ⟨rfl, btrans HW9.out b10⟩
  · go_upto_region 6 with (fail)
    have hs5 := Hs5.out
    have hk5 := Hk5.out
    have hK5 := HK5.out
    go_upto_region 7 with (first
      | (go_at_call 30; refine (extract_any _ hs5 hk5 (by omega) (by omega) hK5).mono ?_; rintro e w6 ⟨rfl, hB6⟩)
      | (refine L_store32 rfl _ _ rfl rfl rfl (AB_zeros _ rfl) (by simp) (shaS_len _) ?_; intro w7 hA7 hg7))
    have b7 := (hB6.alloc hB6.size _).grown hg7 (by have := hB6.size; simp; omega) (by intro k hk; cases hk; exact hB6.size)
    have hml : (macS salt key).length = 32 := shaS_len _
    have hx7 := hA7.bs (by rw [hml]; unfold maxLen; omega)
    rw [hml] at hx7
    have hs7 := RS.below hs5 b7 (Nat.le_refl _)
    have hk7 := RS.below hk5 b7 (Nat.le_refl _)
    have hi7 := RS.below Hi5.out b7 (Nat.le_refl _)
    have hK7 := hK5.below b7 (Nat.le_refl _)
    have HW7 := Lib.hid (btrans HW5.out b7)
    obtain ⟨D, hD⟩ : ∃ D, macS salt key = D := ⟨_, rfl⟩
    have HD := Lib.hid hD
    rw [hD] at hx7
    obtain ⟨g7, hg7e⟩ : ∃ g7, w6.heap.size = g7 := ⟨_, rfl⟩
    rw [hg7e] at hx7 ⊢
    clear hA7 hg7 hg7e hB6 b7 hD hml hs5 hk5 hK5
    go_upto_region 8 with (go_at_call 22; refine (expand_any _ hk7 hi7 (by omega) (by omega) hK7 M hM).mono ?_; rintro e w8 ⟨a7, rfl, ha8, hB8⟩)
    have hk8 := RS.below hk7 hB8 (Nat.le_refl _)
    have hi8 := RS.below hi7 hB8 (Nat.le_refl _)
    obtain ⟨R, hR⟩ : ∃ R, expS key info M = R := ⟨_, rfl⟩
    rw [hR] at ha8
    have HR := Lib.hid hR
    clear hR
    go_upto_region 9 with (go_at_call 31; refine (refExpand_any _ hk8 hi8 (by omega) (by omega) M hM).mono ?_; rintro e w9 ⟨a8, c8, rfl, hb9, hB9⟩)
    rw [HR.out] at hb9
    have ha9 := RS.below ha8 hB9 (Nat.le_refl _)
    have b9 := btrans hB8 hB9
    have hx9 := RS.below hx7 b9 (Nat.le_refl _)
    have hs9 := RS.below hs7 b9 (Nat.le_refl _)
    have hk9 := RS.below hk7 b9 (Nat.le_refl _)
    have HW9 := Lib.hid (btrans HW7.out b9)
    clear ha8 hk8 hi8 hB8 hB9 b9

    clear hs7 hk7 hi7 hK7 hx7
    have hs9d := RS.drew hs9
    have hk9d := RS.drew hk9
    go_region_held3 (fun _ => True) (first | exact trivial | go_keep) (first
      | (go_at_call 21; (with_reducible refine (refMac_any _ hs9d hk9d (by omega) (by omega)).mono ?_); rintro e w10 ⟨a10, c10, rfl, o10, B10⟩; have b10 : Below w9.heap.size w9 w10 := below_undrew B10; have hx10 := RS.below hx9 b10 (Nat.le_refl _); have hs10 := o10.rs; rw [HD.out] at hs10; have ha10 := RS.below ha9 b10 (Nat.le_refl _); have hb10 := RS.below hb9 b10 (Nat.le_refl _))
      | (go_at_call 19; (with_reducible refine (same_any _ hx10 hs10).mono ?_); rintro e w11 ⟨rfl, rfl⟩; rw [beq_self_eq_true])
      | (go_at_call 19; (with_reducible refine (same_any _ ha10 hb10).mono ?_); rintro e w13 ⟨rfl, rfl⟩; rw [beq_self_eq_true]))
    all_goals
      go_wp2_with fail
      go_ret
      exact ⟨rfl, btrans HW9.out b10⟩
  · go_upto_region 6 with (fail)
    have hM4i : (400 : Int) = (M : Int) := by omega
    rw [hM4i]
    clear hM4i hM4
    have hs5 := Hs5.out
    have hk5 := Hk5.out
    have hK5 := HK5.out
    go_upto_region 7 with (first
      | (go_at_call 30; refine (extract_any _ hs5 hk5 (by omega) (by omega) hK5).mono ?_; rintro e w6 ⟨rfl, hB6⟩)
      | (refine L_store32 rfl _ _ rfl rfl rfl (AB_zeros _ rfl) (by simp) (shaS_len _) ?_; intro w7 hA7 hg7))
    have b7 := (hB6.alloc hB6.size _).grown hg7 (by have := hB6.size; simp; omega) (by intro k hk; cases hk; exact hB6.size)
    have hml : (macS salt key).length = 32 := shaS_len _
    have hx7 := hA7.bs (by rw [hml]; unfold maxLen; omega)
    rw [hml] at hx7
    have hs7 := RS.below hs5 b7 (Nat.le_refl _)
    have hk7 := RS.below hk5 b7 (Nat.le_refl _)
    have hi7 := RS.below Hi5.out b7 (Nat.le_refl _)
    have hK7 := hK5.below b7 (Nat.le_refl _)
    have HW7 := Lib.hid (btrans HW5.out b7)
    obtain ⟨D, hD⟩ : ∃ D, macS salt key = D := ⟨_, rfl⟩
    have HD := Lib.hid hD
    rw [hD] at hx7
    obtain ⟨g7, hg7e⟩ : ∃ g7, w6.heap.size = g7 := ⟨_, rfl⟩
    rw [hg7e] at hx7 ⊢
    clear hA7 hg7 hg7e hB6 b7 hD hml hs5 hk5 hK5

    go_upto_region 8 with (go_at_call 22; refine (expand_any _ hk7 hi7 (by omega) (by omega) hK7 M hM).mono ?_; rintro e w8 ⟨a7, rfl, ha8, hB8⟩)
    have hk8 := RS.below hk7 hB8 (Nat.le_refl _)
    have hi8 := RS.below hi7 hB8 (Nat.le_refl _)
    obtain ⟨R, hR⟩ : ∃ R, expS key info M = R := ⟨_, rfl⟩
    rw [hR] at ha8
    have HR := Lib.hid hR
    clear hR
    go_upto_region 9 with (go_at_call 31; refine (refExpand_any _ hk8 hi8 (by omega) (by omega) M hM).mono ?_; rintro e w9 ⟨a8, c8, rfl, hb9, hB9⟩)
    rw [HR.out] at hb9
    have ha9 := RS.below ha8 hB9 (Nat.le_refl _)
    have b9 := btrans hB8 hB9
    have hx9 := RS.below hx7 b9 (Nat.le_refl _)
    have hs9 := RS.below hs7 b9 (Nat.le_refl _)
    have hk9 := RS.below hk7 b9 (Nat.le_refl _)
    have HW9 := Lib.hid (btrans HW7.out b9)
    clear ha8 hk8 hi8 hB8 hB9 b9
    clear hs7 hk7 hi7 hK7 hx7
    have hs9d := RS.drew hs9
    have hk9d := RS.drew hk9
    go_region_held3 (fun _ => True) (first | exact trivial | go_keep) (first
      | (go_at_call 21; (with_reducible refine (refMac_any _ hs9d hk9d (by omega) (by omega)).mono ?_); rintro e w10 ⟨a10, c10, rfl, o10, B10⟩; have b10 : Below w9.heap.size w9 w10 := below_undrew B10; have hx10 := RS.below hx9 b10 (Nat.le_refl _); have hs10 := o10.rs; rw [HD.out] at hs10; have ha10 := RS.below ha9 b10 (Nat.le_refl _); have hb10 := RS.below hb9 b10 (Nat.le_refl _))
      | (go_at_call 19; (with_reducible refine (same_any _ hx10 hs10).mono ?_); rintro e w11 ⟨rfl, rfl⟩; rw [beq_self_eq_true])
      | (go_at_call 19; (with_reducible refine (same_any _ ha10 hb10).mono ?_); rintro e w13 ⟨rfl, rfl⟩; rw [beq_self_eq_true]))
    all_goals
      go_wp2_with fail
      go_ret
      exact ⟨rfl, btrans HW9.out b10⟩
end Go.Proofs.YtdfachjgnhljfaaDoor
