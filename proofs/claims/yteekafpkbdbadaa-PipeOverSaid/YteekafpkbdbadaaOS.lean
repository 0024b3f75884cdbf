/- frame: Bytes for the kinds that pipe hears. -/
import Derived.Test.YteekafpkbdbadaaOR
set_option maxRecDepth 100000
set_option linter.unusedVariables false
namespace Go.Proofs.Yteekafpkbdbadaa.Pi
open Go.RowKit
set_option maxHeartbeats 1000000 in
theorem fbytes_16 (w : World) (n : Nat) (hn : n ≤ 4611686018427387903) : Calls Try.prog 43 #[.agg (frc 16 0 0 n 0 false SA0 SA0 SA0).toArray] w fun e w' => ∃ v, e = .returned (.tuple #[v, .int .i64 0]) ∧ Below w.heap.size w w' := by
  obtain ⟨g, hg⟩ : ∃ k, w.heap.size = k := ⟨_, rfl⟩
  have hA := CR.new w 37 (frc 16 0 0 n 0 false SA0 SA0 SA0)
  have hb := below_alloc w (.cells (frc 16 0 0 n 0 false SA0 SA0 SA0).toArray 37)
  have HS := Lib.hid (fun (x : World) => right_16 x n hn)
  have HG := Lib.hid (fun (x : World) => get_110 x 16 0 0 n 0 false SA0 SA0 SA0)
  have HJ2 := Lib.hid (fun (x : World) (a : Option Addr) (r : RS x 1 a 1 1 [.int .u64 (n : Int)]) => join_1 x r (by omega))
  unfold frc SA0 at HG
  unfold frc SA0 at hA hb HS
  unfold frc SA0
  obtain ⟨W1, hW1⟩ : ∃ x, w.alloc (.cells ([.int .u64 16, .int .u64 0, .int .u64 0, .int .u64 (n : Int), .int .u64 0, .bool false, .slice none 0 0, .slice none 0 0, .slice none 0 0] : List Value).toArray 37) = x := ⟨_, rfl⟩
  rw [hW1, hg] at hA
  rw [hW1] at hb
  have HA := Lib.hid hA
  have HB := Lib.hid hb
  have HJ := Lib.hid (fun (x : World) (a : Option Addr) (r : RS x 1 a 1 1 [.int .u64 16]) => join_1 (x := 16) x r (by omega))
  have c0 : W1.cell? ⟨g, 0, none⟩ = some (.int .u64 16) := HA.out.at_ 0
  have c6 : W1.cell? ⟨g, 6, none⟩ = some (.slice none 0 0) := HA.out.at_ 6
  clear hn
  clear hA hb
  go_enter Try.func43, Try.ntmps43
  go_upto_region 5 with (first
    | (refine L_loadG 37 _ rfl (by rfl) _ _ rfl _ _ HA.out.rng Try.underlying37 rfl iFr ?_)
    | (go_at_call 54; refine (HS.out W1).mono ?_; rintro e w2 ⟨rfl, B2⟩
       have HC2 := Lib.hid (HA.out.bel B2)
       have HB2 := Lib.hid B2
       have d8 : w2.cell? ⟨g, 8, none⟩ = some (.slice none 0 0) := HC2.out.at_ 8
       clear B2))
  have d0 : w2.cell? ⟨g, 0, none⟩ = some (.int .u64 16) := HC2.out.at_ 0
  have hr3 := RS_new w2 25 #[.int .u64 16] 1 rfl (by omega) (by simp [Value.oneCell'])
  have b3 := below_alloc w2 (.cells #[.int .u64 16] 25)
  obtain ⟨k3, hk3⟩ : ∃ q, w2.heap.size = q := ⟨_, rfl⟩
  obtain ⟨w3, hw3⟩ : ∃ q, w2.alloc (.cells #[.int .u64 16] 25) = q := ⟨_, rfl⟩
  rw [hw3, hk3] at hr3
  rw [hw3] at b3
  have HR3 := Lib.hid hr3
  have HC3 := Lib.hid (HC2.out.bel b3)
  have HB3 := Lib.hid (HB2.out.trans (b3.mono HB2.out.size))
  clear hr3 b3 hW1
  go_upto_region 6 with (go_at_call 55; refine (HJ.out w3 _ HR3.out).mono ?_; rintro x w4 ⟨v, rfl, hob⟩)
  obtain ⟨aj, nj, cj, vj, rfl, oj, hj8, bj⟩ := hob.ex
  have HC4 := Lib.hid (HC3.out.bel bj)
  have HB4 := Lib.hid (HB3.out.trans (bj.mono HB3.out.size))
  have HO4 := Lib.hid (oj.mono HB3.out.size)
  clear hw3 hk3 hob oj bj d0 d8
  have e0 : w4.cell? ⟨g, 0, none⟩ = some (.int .u64 16) := HC4.out.at_ 0
  go_wp2_with (go_at_call 56; refine (numbers_16 _).mono ?_; rintro x w' ⟨rfl, rfl⟩)
  refine wp_loop_rounds 2 ?_
  rw [rounds_succ]
  go_wp2_with fail
  have bV : Below w4.heap.size w4 w4.drew := bel_drew _ _
  obtain ⟨V, hV⟩ : ∃ V, w4.drew = V := ⟨_, rfl⟩
  rw [hV] at bV
  have HAV := Lib.hid (HC4.out.bel bV)
  have HBV := Lib.hid (HB4.out.trans (bV.mono HB4.out.size))
  have HOV := Lib.hid (HO4.out.below bV (Nat.le_refl _))
  have r0 := HAV.out.rng
  clear e0 bV
  refine wp_region_held_drew (S := fun x => x.rangeAt g 0 [.int .u64 16, .int .u64 0, .int .u64 0, .int .u64 (n : Int), .int .u64 0, .bool false, .slice none 0 0, .slice none 0 0, .slice none 0 0]) (by kernel_rfl) (by rw [hV]; exact r0) (fun hHeld => ?_)
  rw [hV] at hHeld ⊢
  clear hV r0
  refine wpAnyH_take (i := 0) (v := .slice aj nj cj) rfl (by kernel_rfl) (by kernel_rfl) (by kernel_rfl) (fun _ _ _ h => h) (Or.inl ⟨by rfl, fun w h => by go_simp⟩) hHeld ?_
  try simp only [Act.put, List.getElem_toArray, List.getElem_cons_zero, List.setIfInBounds_toArray, List.set_cons_zero, List.set_cons_succ]
  refine wpAnyH_take (i := 1) rfl (by kernel_rfl) (by kernel_rfl) (by kernel_rfl) (fun _ _ _ h => h) (yieldsIf_load_mid (by rfl) _ _ rfl _ _ rfl _ _ (fun w h => h) Try.underlying37 rfl iFr) hHeld ?_
  try simp only [Act.put, List.getElem_toArray, List.getElem_cons_succ, List.getElem_cons_zero, List.setIfInBounds_toArray, List.set_cons_zero, List.set_cons_succ]
  refine wpAnyH_take (i := 2) (v := .string { data := #[110] }) rfl (by kernel_rfl) (by kernel_rfl) (by kernel_rfl) (fun _ _ _ h => h) (Or.inl ⟨by rfl, fun w h => by go_simp⟩) hHeld ?_
  try simp only [Act.put, List.getElem_toArray, List.getElem_cons_succ, List.getElem_cons_zero, List.setIfInBounds_toArray, List.set_cons_zero, List.set_cons_succ]
  refine wpAnyH_take (i := 3) (v := .int .i64 0) rfl (by kernel_rfl) (by kernel_rfl) (by kernel_rfl) (fun _ _ _ h => h) (Or.inl ⟨by rfl, fun w h => by go_simp⟩) hHeld ?_
  try simp only [Act.put, List.getElem_toArray, List.getElem_cons_succ, List.getElem_cons_zero, List.setIfInBounds_toArray, List.set_cons_zero, List.set_cons_succ]
  refine wpAnyH_take (i := 4) (v := .int .u8 110) rfl (by kernel_rfl) (by kernel_rfl) (by kernel_rfl) (fun _ _ _ h => h) (Or.inl ⟨by rfl, fun w h => by go_simp; rfl⟩) hHeld ?_
  try simp only [Act.put, List.getElem_toArray, List.getElem_cons_succ, List.getElem_cons_zero, List.setIfInBounds_toArray, List.set_cons_zero, List.set_cons_succ]
  refine wpAnyH_ready (rs := [5]) (by kernel_rfl) (by simp) (AllReadyH.cons rfl (fun K hK => ?_) AllReadyH.nil)
  go_simp
  go_at_call 57
  refine (HG.out V).mono ?_
  rintro x w5 ⟨rfl, B5⟩
  have HA5 := Lib.hid (HAV.out.bel B5)
  have HB5 := Lib.hid (HBV.out.trans (B5.mono HBV.out.size))
  have HO5 := Lib.hid (HOV.out.below B5 (Nat.le_refl _))
  refine hK.out _ _ HA5.out.rng (fun hHeld => ?_)
  clear hK K B5
  try simp only [Act.put, List.getElem_toArray, List.getElem_cons_succ, List.getElem_cons_zero, List.setIfInBounds_toArray, List.set_cons_zero, List.set_cons_succ]
  refine wpAnyH_ready (rs := [6]) (by kernel_rfl) (by simp) (AllReadyH.cons rfl (fun K hK => ?_) AllReadyH.nil)
  go_simp
  have hr6 := RS_new w5 25 #[.int .u64 (n : Int)] 1 rfl (by omega) (by simp [Value.oneCell'])
  have b6 := below_alloc w5 (.cells #[.int .u64 (n : Int)] 25)
  obtain ⟨k6, hk6⟩ : ∃ q, w5.heap.size = q := ⟨_, rfl⟩
  obtain ⟨w6, hw6⟩ : ∃ q, w5.alloc (.cells #[.int .u64 (n : Int)] 25) = q := ⟨_, rfl⟩
  rw [hw6] at hr6 b6 ⊢
  rw [hk6] at hr6 ⊢
  have HR6 := Lib.hid hr6
  have HA6 := Lib.hid (HA5.out.bel b6)
  have HB6 := Lib.hid (HB5.out.trans (b6.mono HB5.out.size))
  have HO6 := Lib.hid (HO5.out.below b6 (Nat.le_refl _))
  clear hr6 b6 hw6 hk6
  refine hK.out _ _ HA6.out.rng (fun hHeld => ?_)
  clear hK K
  try simp only [Act.put, List.getElem_toArray, List.getElem_cons_succ, List.getElem_cons_zero, List.setIfInBounds_toArray, List.set_cons_zero, List.set_cons_succ]
  refine wpAnyH_ready (rs := [7]) (by kernel_rfl) (by simp) (AllReadyH.cons rfl (fun K hK => ?_) AllReadyH.nil)
  go_simp
  go_at_call 55
  refine (HJ2.out w6 _ HR6.out).mono ?_
  rintro x w7 ⟨v, rfl, hob⟩
  obtain ⟨a7, n7, c7, v7, rfl, o7, hj7, b7⟩ := hob.ex
  have HA7 := Lib.hid (HA6.out.bel b7)
  have HB7 := Lib.hid (HB6.out.trans (b7.mono HB6.out.size))
  have HO7 := Lib.hid (HO6.out.below b7 (Nat.le_refl _))
  have HJ7 := Lib.hid o7.rs
  refine hK.out _ _ HA7.out.rng (fun hHeld => ?_)
  clear hK K hob o7 b7
  try simp only [Act.put, List.getElem_toArray, List.getElem_cons_succ, List.getElem_cons_zero, List.setIfInBounds_toArray, List.set_cons_zero, List.set_cons_succ]
  refine wpAnyH_ready (rs := [8]) (by kernel_rfl) (by simp) (AllReadyH.cons rfl (fun K hK => ?_) AllReadyH.nil)
  refine S_append tB HO7.out HJ7.out _ _ rfl rfl rfl rfl (by omega) (by unfold maxLen; omega) HB7.out.size ?_
  intro a8 c8 w8 o8 g8
  have HB8 := Lib.hid (below_own HB7.out HO7.out g8 (Nat.le_refl _) HB7.out.size)
  have HA8 := Lib.hid (HA.out.bel HB8.out)
  refine hK.out _ _ HA8.out.rng (fun hHeld => ?_)
  clear hK K g8 o8
  try simp only [Act.put, List.getElem_toArray, List.getElem_cons_succ, List.getElem_cons_zero, List.setIfInBounds_toArray, List.set_cons_zero, List.set_cons_succ]
  refine wpAnyH_take (i := 9) (v := .slice a8 (nj + n7) c8) rfl (by kernel_rfl) (by kernel_rfl) (by kernel_rfl) (fun _ _ _ h => h) (Or.inl ⟨by rfl, fun w h => by go_simp⟩) hHeld ?_
  try simp only [Act.put, List.getElem_toArray, List.getElem_cons_succ, List.getElem_cons_zero, List.setIfInBounds_toArray, List.set_cons_zero, List.set_cons_succ]
  clear hHeld
  refine wpAnyH_done (by kernel_rfl) ?_ _
  try simp only [Act.put, List.getElem_toArray, List.getElem_cons_succ, List.getElem_cons_zero]
  have d0 : w8.cell? ⟨g, 0, none⟩ = some (.int .u64 16) := HA8.out.at_ 0
  go_wp2_with fail
  rw [rounds_succ]
  go_wp2_with fail
  go_ret2
  exact ⟨_, rfl, HB.out.trans (HB8.out.mono HB.out.size)⟩

set_option maxHeartbeats 1000000 in
theorem fbytes_18 (w : World) (n : Nat) (hn : n ≤ 1152921504606846976) : Calls Try.prog 43 #[.agg (frc 18 0 0 n 0 false SA0 SA0 SA0).toArray] w fun e w' => ∃ v, e = .returned (.tuple #[v, .int .i64 0]) ∧ Below w.heap.size w w' := by
  obtain ⟨g, hg⟩ : ∃ k, w.heap.size = k := ⟨_, rfl⟩
  have hA := CR.new w 37 (frc 18 0 0 n 0 false SA0 SA0 SA0)
  have hb := below_alloc w (.cells (frc 18 0 0 n 0 false SA0 SA0 SA0).toArray 37)
  have HS := Lib.hid (fun (x : World) => right_18 x n hn)
  have HG := Lib.hid (fun (x : World) => get_110 x 18 0 0 n 0 false SA0 SA0 SA0)
  have HJ2 := Lib.hid (fun (x : World) (a : Option Addr) (r : RS x 1 a 1 1 [.int .u64 (n : Int)]) => join_1 x r (by omega))
  unfold frc SA0 at HG
  unfold frc SA0 at hA hb HS
  unfold frc SA0
  obtain ⟨W1, hW1⟩ : ∃ x, w.alloc (.cells ([.int .u64 18, .int .u64 0, .int .u64 0, .int .u64 (n : Int), .int .u64 0, .bool false, .slice none 0 0, .slice none 0 0, .slice none 0 0] : List Value).toArray 37) = x := ⟨_, rfl⟩
  rw [hW1, hg] at hA
  rw [hW1] at hb
  have HA := Lib.hid hA
  have HB := Lib.hid hb
  have HJ := Lib.hid (fun (x : World) (a : Option Addr) (r : RS x 1 a 1 1 [.int .u64 18]) => join_1 (x := 18) x r (by omega))
  have c0 : W1.cell? ⟨g, 0, none⟩ = some (.int .u64 18) := HA.out.at_ 0
  have c6 : W1.cell? ⟨g, 6, none⟩ = some (.slice none 0 0) := HA.out.at_ 6
  clear hn
  clear hA hb
  go_enter Try.func43, Try.ntmps43
  go_upto_region 5 with (first
    | (refine L_loadG 37 _ rfl (by rfl) _ _ rfl _ _ HA.out.rng Try.underlying37 rfl iFr ?_)
    | (go_at_call 54; refine (HS.out W1).mono ?_; rintro e w2 ⟨rfl, B2⟩
       have HC2 := Lib.hid (HA.out.bel B2)
       have HB2 := Lib.hid B2
       have d8 : w2.cell? ⟨g, 8, none⟩ = some (.slice none 0 0) := HC2.out.at_ 8
       clear B2))
  have d0 : w2.cell? ⟨g, 0, none⟩ = some (.int .u64 18) := HC2.out.at_ 0
  have hr3 := RS_new w2 25 #[.int .u64 18] 1 rfl (by omega) (by simp [Value.oneCell'])
  have b3 := below_alloc w2 (.cells #[.int .u64 18] 25)
  obtain ⟨k3, hk3⟩ : ∃ q, w2.heap.size = q := ⟨_, rfl⟩
  obtain ⟨w3, hw3⟩ : ∃ q, w2.alloc (.cells #[.int .u64 18] 25) = q := ⟨_, rfl⟩
  rw [hw3, hk3] at hr3
  rw [hw3] at b3
  have HR3 := Lib.hid hr3
  have HC3 := Lib.hid (HC2.out.bel b3)
  have HB3 := Lib.hid (HB2.out.trans (b3.mono HB2.out.size))
  clear hr3 b3 hW1
  go_upto_region 6 with (go_at_call 55; refine (HJ.out w3 _ HR3.out).mono ?_; rintro x w4 ⟨v, rfl, hob⟩)
  obtain ⟨aj, nj, cj, vj, rfl, oj, hj8, bj⟩ := hob.ex
  have HC4 := Lib.hid (HC3.out.bel bj)
  have HB4 := Lib.hid (HB3.out.trans (bj.mono HB3.out.size))
  have HO4 := Lib.hid (oj.mono HB3.out.size)
  clear hw3 hk3 hob oj bj d0 d8
  have e0 : w4.cell? ⟨g, 0, none⟩ = some (.int .u64 18) := HC4.out.at_ 0
  go_wp2_with (go_at_call 56; refine (numbers_18 _).mono ?_; rintro x w' ⟨rfl, rfl⟩)
  refine wp_loop_rounds 2 ?_
  rw [rounds_succ]
  go_wp2_with fail
  have bV : Below w4.heap.size w4 w4.drew := bel_drew _ _
  obtain ⟨V, hV⟩ : ∃ V, w4.drew = V := ⟨_, rfl⟩
  rw [hV] at bV
  have HAV := Lib.hid (HC4.out.bel bV)
  have HBV := Lib.hid (HB4.out.trans (bV.mono HB4.out.size))
  have HOV := Lib.hid (HO4.out.below bV (Nat.le_refl _))
  have r0 := HAV.out.rng
  clear e0 bV
  refine wp_region_held_drew (S := fun x => x.rangeAt g 0 [.int .u64 18, .int .u64 0, .int .u64 0, .int .u64 (n : Int), .int .u64 0, .bool false, .slice none 0 0, .slice none 0 0, .slice none 0 0]) (by kernel_rfl) (by rw [hV]; exact r0) (fun hHeld => ?_)
  rw [hV] at hHeld ⊢
  clear hV r0
  refine wpAnyH_take (i := 0) (v := .slice aj nj cj) rfl (by kernel_rfl) (by kernel_rfl) (by kernel_rfl) (fun _ _ _ h => h) (Or.inl ⟨by rfl, fun w h => by go_simp⟩) hHeld ?_
  try simp only [Act.put, List.getElem_toArray, List.getElem_cons_zero, List.setIfInBounds_toArray, List.set_cons_zero, List.set_cons_succ]
  refine wpAnyH_take (i := 1) rfl (by kernel_rfl) (by kernel_rfl) (by kernel_rfl) (fun _ _ _ h => h) (yieldsIf_load_mid (by rfl) _ _ rfl _ _ rfl _ _ (fun w h => h) Try.underlying37 rfl iFr) hHeld ?_
  try simp only [Act.put, List.getElem_toArray, List.getElem_cons_succ, List.getElem_cons_zero, List.setIfInBounds_toArray, List.set_cons_zero, List.set_cons_succ]
  refine wpAnyH_take (i := 2) (v := .string { data := #[110] }) rfl (by kernel_rfl) (by kernel_rfl) (by kernel_rfl) (fun _ _ _ h => h) (Or.inl ⟨by rfl, fun w h => by go_simp⟩) hHeld ?_
  try simp only [Act.put, List.getElem_toArray, List.getElem_cons_succ, List.getElem_cons_zero, List.setIfInBounds_toArray, List.set_cons_zero, List.set_cons_succ]
  refine wpAnyH_take (i := 3) (v := .int .i64 0) rfl (by kernel_rfl) (by kernel_rfl) (by kernel_rfl) (fun _ _ _ h => h) (Or.inl ⟨by rfl, fun w h => by go_simp⟩) hHeld ?_
  try simp only [Act.put, List.getElem_toArray, List.getElem_cons_succ, List.getElem_cons_zero, List.setIfInBounds_toArray, List.set_cons_zero, List.set_cons_succ]
  refine wpAnyH_take (i := 4) (v := .int .u8 110) rfl (by kernel_rfl) (by kernel_rfl) (by kernel_rfl) (fun _ _ _ h => h) (Or.inl ⟨by rfl, fun w h => by go_simp; rfl⟩) hHeld ?_
  try simp only [Act.put, List.getElem_toArray, List.getElem_cons_succ, List.getElem_cons_zero, List.setIfInBounds_toArray, List.set_cons_zero, List.set_cons_succ]
  refine wpAnyH_ready (rs := [5]) (by kernel_rfl) (by simp) (AllReadyH.cons rfl (fun K hK => ?_) AllReadyH.nil)
  go_simp
  go_at_call 57
  refine (HG.out V).mono ?_
  rintro x w5 ⟨rfl, B5⟩
  have HA5 := Lib.hid (HAV.out.bel B5)
  have HB5 := Lib.hid (HBV.out.trans (B5.mono HBV.out.size))
  have HO5 := Lib.hid (HOV.out.below B5 (Nat.le_refl _))
  refine hK.out _ _ HA5.out.rng (fun hHeld => ?_)
  clear hK K B5
  try simp only [Act.put, List.getElem_toArray, List.getElem_cons_succ, List.getElem_cons_zero, List.setIfInBounds_toArray, List.set_cons_zero, List.set_cons_succ]
  refine wpAnyH_ready (rs := [6]) (by kernel_rfl) (by simp) (AllReadyH.cons rfl (fun K hK => ?_) AllReadyH.nil)
  go_simp
  have hr6 := RS_new w5 25 #[.int .u64 (n : Int)] 1 rfl (by omega) (by simp [Value.oneCell'])
  have b6 := below_alloc w5 (.cells #[.int .u64 (n : Int)] 25)
  obtain ⟨k6, hk6⟩ : ∃ q, w5.heap.size = q := ⟨_, rfl⟩
  obtain ⟨w6, hw6⟩ : ∃ q, w5.alloc (.cells #[.int .u64 (n : Int)] 25) = q := ⟨_, rfl⟩
  rw [hw6] at hr6 b6 ⊢
  rw [hk6] at hr6 ⊢
  have HR6 := Lib.hid hr6
  have HA6 := Lib.hid (HA5.out.bel b6)
  have HB6 := Lib.hid (HB5.out.trans (b6.mono HB5.out.size))
  have HO6 := Lib.hid (HO5.out.below b6 (Nat.le_refl _))
  clear hr6 b6 hw6 hk6
  refine hK.out _ _ HA6.out.rng (fun hHeld => ?_)
  clear hK K
  try simp only [Act.put, List.getElem_toArray, List.getElem_cons_succ, List.getElem_cons_zero, List.setIfInBounds_toArray, List.set_cons_zero, List.set_cons_succ]
  refine wpAnyH_ready (rs := [7]) (by kernel_rfl) (by simp) (AllReadyH.cons rfl (fun K hK => ?_) AllReadyH.nil)
  go_simp
  go_at_call 55
  refine (HJ2.out w6 _ HR6.out).mono ?_
  rintro x w7 ⟨v, rfl, hob⟩
  obtain ⟨a7, n7, c7, v7, rfl, o7, hj7, b7⟩ := hob.ex
  have HA7 := Lib.hid (HA6.out.bel b7)
  have HB7 := Lib.hid (HB6.out.trans (b7.mono HB6.out.size))
  have HO7 := Lib.hid (HO6.out.below b7 (Nat.le_refl _))
  have HJ7 := Lib.hid o7.rs
  refine hK.out _ _ HA7.out.rng (fun hHeld => ?_)
  clear hK K hob o7 b7
  try simp only [Act.put, List.getElem_toArray, List.getElem_cons_succ, List.getElem_cons_zero, List.setIfInBounds_toArray, List.set_cons_zero, List.set_cons_succ]
  refine wpAnyH_ready (rs := [8]) (by kernel_rfl) (by simp) (AllReadyH.cons rfl (fun K hK => ?_) AllReadyH.nil)
  refine S_append tB HO7.out HJ7.out _ _ rfl rfl rfl rfl (by omega) (by unfold maxLen; omega) HB7.out.size ?_
  intro a8 c8 w8 o8 g8
  have HB8 := Lib.hid (below_own HB7.out HO7.out g8 (Nat.le_refl _) HB7.out.size)
  have HA8 := Lib.hid (HA.out.bel HB8.out)
  refine hK.out _ _ HA8.out.rng (fun hHeld => ?_)
  clear hK K g8 o8
  try simp only [Act.put, List.getElem_toArray, List.getElem_cons_succ, List.getElem_cons_zero, List.setIfInBounds_toArray, List.set_cons_zero, List.set_cons_succ]
  refine wpAnyH_take (i := 9) (v := .slice a8 (nj + n7) c8) rfl (by kernel_rfl) (by kernel_rfl) (by kernel_rfl) (fun _ _ _ h => h) (Or.inl ⟨by rfl, fun w h => by go_simp⟩) hHeld ?_
  try simp only [Act.put, List.getElem_toArray, List.getElem_cons_succ, List.getElem_cons_zero, List.setIfInBounds_toArray, List.set_cons_zero, List.set_cons_succ]
  clear hHeld
  refine wpAnyH_done (by kernel_rfl) ?_ _
  try simp only [Act.put, List.getElem_toArray, List.getElem_cons_succ, List.getElem_cons_zero]
  have d0 : w8.cell? ⟨g, 0, none⟩ = some (.int .u64 18) := HA8.out.at_ 0
  go_wp2_with fail
  rw [rounds_succ]
  go_wp2_with fail
  go_ret2
  exact ⟨_, rfl, HB.out.trans (HB8.out.mono HB.out.size)⟩

set_option maxHeartbeats 1000000 in
theorem fbytes_19 (w : World) (n : Nat) (hn : n ≤ 1152921504606846976) : Calls Try.prog 43 #[.agg (frc 19 0 0 n 0 false SA0 SA0 SA0).toArray] w fun e w' => ∃ v, e = .returned (.tuple #[v, .int .i64 0]) ∧ Below w.heap.size w w' := by
  obtain ⟨g, hg⟩ : ∃ k, w.heap.size = k := ⟨_, rfl⟩
  have hA := CR.new w 37 (frc 19 0 0 n 0 false SA0 SA0 SA0)
  have hb := below_alloc w (.cells (frc 19 0 0 n 0 false SA0 SA0 SA0).toArray 37)
  have HS := Lib.hid (fun (x : World) => right_19 x n hn)
  have HG := Lib.hid (fun (x : World) => get_110 x 19 0 0 n 0 false SA0 SA0 SA0)
  have HJ2 := Lib.hid (fun (x : World) (a : Option Addr) (r : RS x 1 a 1 1 [.int .u64 (n : Int)]) => join_1 x r (by omega))
  unfold frc SA0 at HG
  unfold frc SA0 at hA hb HS
  unfold frc SA0
  obtain ⟨W1, hW1⟩ : ∃ x, w.alloc (.cells ([.int .u64 19, .int .u64 0, .int .u64 0, .int .u64 (n : Int), .int .u64 0, .bool false, .slice none 0 0, .slice none 0 0, .slice none 0 0] : List Value).toArray 37) = x := ⟨_, rfl⟩
  rw [hW1, hg] at hA
  rw [hW1] at hb
  have HA := Lib.hid hA
  have HB := Lib.hid hb
  have HJ := Lib.hid (fun (x : World) (a : Option Addr) (r : RS x 1 a 1 1 [.int .u64 19]) => join_1 (x := 19) x r (by omega))
  have c0 : W1.cell? ⟨g, 0, none⟩ = some (.int .u64 19) := HA.out.at_ 0
  have c6 : W1.cell? ⟨g, 6, none⟩ = some (.slice none 0 0) := HA.out.at_ 6
  clear hn
  clear hA hb
  go_enter Try.func43, Try.ntmps43
  go_upto_region 5 with (first
    | (refine L_loadG 37 _ rfl (by rfl) _ _ rfl _ _ HA.out.rng Try.underlying37 rfl iFr ?_)
    | (go_at_call 54; refine (HS.out W1).mono ?_; rintro e w2 ⟨rfl, B2⟩
       have HC2 := Lib.hid (HA.out.bel B2)
       have HB2 := Lib.hid B2
       have d8 : w2.cell? ⟨g, 8, none⟩ = some (.slice none 0 0) := HC2.out.at_ 8
       clear B2))
  have d0 : w2.cell? ⟨g, 0, none⟩ = some (.int .u64 19) := HC2.out.at_ 0
  have hr3 := RS_new w2 25 #[.int .u64 19] 1 rfl (by omega) (by simp [Value.oneCell'])
  have b3 := below_alloc w2 (.cells #[.int .u64 19] 25)
  obtain ⟨k3, hk3⟩ : ∃ q, w2.heap.size = q := ⟨_, rfl⟩
  obtain ⟨w3, hw3⟩ : ∃ q, w2.alloc (.cells #[.int .u64 19] 25) = q := ⟨_, rfl⟩
  rw [hw3, hk3] at hr3
  rw [hw3] at b3
  have HR3 := Lib.hid hr3
  have HC3 := Lib.hid (HC2.out.bel b3)
  have HB3 := Lib.hid (HB2.out.trans (b3.mono HB2.out.size))
  clear hr3 b3 hW1
  go_upto_region 6 with (go_at_call 55; refine (HJ.out w3 _ HR3.out).mono ?_; rintro x w4 ⟨v, rfl, hob⟩)
  obtain ⟨aj, nj, cj, vj, rfl, oj, hj8, bj⟩ := hob.ex
  have HC4 := Lib.hid (HC3.out.bel bj)
  have HB4 := Lib.hid (HB3.out.trans (bj.mono HB3.out.size))
  have HO4 := Lib.hid (oj.mono HB3.out.size)
  clear hw3 hk3 hob oj bj d0 d8
  have e0 : w4.cell? ⟨g, 0, none⟩ = some (.int .u64 19) := HC4.out.at_ 0
  go_wp2_with (go_at_call 56; refine (numbers_19 _).mono ?_; rintro x w' ⟨rfl, rfl⟩)
  refine wp_loop_rounds 2 ?_
  rw [rounds_succ]
  go_wp2_with fail
  have bV : Below w4.heap.size w4 w4.drew := bel_drew _ _
  obtain ⟨V, hV⟩ : ∃ V, w4.drew = V := ⟨_, rfl⟩
  rw [hV] at bV
  have HAV := Lib.hid (HC4.out.bel bV)
  have HBV := Lib.hid (HB4.out.trans (bV.mono HB4.out.size))
  have HOV := Lib.hid (HO4.out.below bV (Nat.le_refl _))
  have r0 := HAV.out.rng
  clear e0 bV
  refine wp_region_held_drew (S := fun x => x.rangeAt g 0 [.int .u64 19, .int .u64 0, .int .u64 0, .int .u64 (n : Int), .int .u64 0, .bool false, .slice none 0 0, .slice none 0 0, .slice none 0 0]) (by kernel_rfl) (by rw [hV]; exact r0) (fun hHeld => ?_)
  rw [hV] at hHeld ⊢
  clear hV r0
  refine wpAnyH_take (i := 0) (v := .slice aj nj cj) rfl (by kernel_rfl) (by kernel_rfl) (by kernel_rfl) (fun _ _ _ h => h) (Or.inl ⟨by rfl, fun w h => by go_simp⟩) hHeld ?_
  try simp only [Act.put, List.getElem_toArray, List.getElem_cons_zero, List.setIfInBounds_toArray, List.set_cons_zero, List.set_cons_succ]
  refine wpAnyH_take (i := 1) rfl (by kernel_rfl) (by kernel_rfl) (by kernel_rfl) (fun _ _ _ h => h) (yieldsIf_load_mid (by rfl) _ _ rfl _ _ rfl _ _ (fun w h => h) Try.underlying37 rfl iFr) hHeld ?_
  try simp only [Act.put, List.getElem_toArray, List.getElem_cons_succ, List.getElem_cons_zero, List.setIfInBounds_toArray, List.set_cons_zero, List.set_cons_succ]
  refine wpAnyH_take (i := 2) (v := .string { data := #[110] }) rfl (by kernel_rfl) (by kernel_rfl) (by kernel_rfl) (fun _ _ _ h => h) (Or.inl ⟨by rfl, fun w h => by go_simp⟩) hHeld ?_
  try simp only [Act.put, List.getElem_toArray, List.getElem_cons_succ, List.getElem_cons_zero, List.setIfInBounds_toArray, List.set_cons_zero, List.set_cons_succ]
  refine wpAnyH_take (i := 3) (v := .int .i64 0) rfl (by kernel_rfl) (by kernel_rfl) (by kernel_rfl) (fun _ _ _ h => h) (Or.inl ⟨by rfl, fun w h => by go_simp⟩) hHeld ?_
  try simp only [Act.put, List.getElem_toArray, List.getElem_cons_succ, List.getElem_cons_zero, List.setIfInBounds_toArray, List.set_cons_zero, List.set_cons_succ]
  refine wpAnyH_take (i := 4) (v := .int .u8 110) rfl (by kernel_rfl) (by kernel_rfl) (by kernel_rfl) (fun _ _ _ h => h) (Or.inl ⟨by rfl, fun w h => by go_simp; rfl⟩) hHeld ?_
  try simp only [Act.put, List.getElem_toArray, List.getElem_cons_succ, List.getElem_cons_zero, List.setIfInBounds_toArray, List.set_cons_zero, List.set_cons_succ]
  refine wpAnyH_ready (rs := [5]) (by kernel_rfl) (by simp) (AllReadyH.cons rfl (fun K hK => ?_) AllReadyH.nil)
  go_simp
  go_at_call 57
  refine (HG.out V).mono ?_
  rintro x w5 ⟨rfl, B5⟩
  have HA5 := Lib.hid (HAV.out.bel B5)
  have HB5 := Lib.hid (HBV.out.trans (B5.mono HBV.out.size))
  have HO5 := Lib.hid (HOV.out.below B5 (Nat.le_refl _))
  refine hK.out _ _ HA5.out.rng (fun hHeld => ?_)
  clear hK K B5
  try simp only [Act.put, List.getElem_toArray, List.getElem_cons_succ, List.getElem_cons_zero, List.setIfInBounds_toArray, List.set_cons_zero, List.set_cons_succ]
  refine wpAnyH_ready (rs := [6]) (by kernel_rfl) (by simp) (AllReadyH.cons rfl (fun K hK => ?_) AllReadyH.nil)
  go_simp
  have hr6 := RS_new w5 25 #[.int .u64 (n : Int)] 1 rfl (by omega) (by simp [Value.oneCell'])
  have b6 := below_alloc w5 (.cells #[.int .u64 (n : Int)] 25)
  obtain ⟨k6, hk6⟩ : ∃ q, w5.heap.size = q := ⟨_, rfl⟩
  obtain ⟨w6, hw6⟩ : ∃ q, w5.alloc (.cells #[.int .u64 (n : Int)] 25) = q := ⟨_, rfl⟩
  rw [hw6] at hr6 b6 ⊢
  rw [hk6] at hr6 ⊢
  have HR6 := Lib.hid hr6
  have HA6 := Lib.hid (HA5.out.bel b6)
  have HB6 := Lib.hid (HB5.out.trans (b6.mono HB5.out.size))
  have HO6 := Lib.hid (HO5.out.below b6 (Nat.le_refl _))
  clear hr6 b6 hw6 hk6
  refine hK.out _ _ HA6.out.rng (fun hHeld => ?_)
  clear hK K
  try simp only [Act.put, List.getElem_toArray, List.getElem_cons_succ, List.getElem_cons_zero, List.setIfInBounds_toArray, List.set_cons_zero, List.set_cons_succ]
  refine wpAnyH_ready (rs := [7]) (by kernel_rfl) (by simp) (AllReadyH.cons rfl (fun K hK => ?_) AllReadyH.nil)
  go_simp
  go_at_call 55
  refine (HJ2.out w6 _ HR6.out).mono ?_
  rintro x w7 ⟨v, rfl, hob⟩
  obtain ⟨a7, n7, c7, v7, rfl, o7, hj7, b7⟩ := hob.ex
  have HA7 := Lib.hid (HA6.out.bel b7)
  have HB7 := Lib.hid (HB6.out.trans (b7.mono HB6.out.size))
  have HO7 := Lib.hid (HO6.out.below b7 (Nat.le_refl _))
  have HJ7 := Lib.hid o7.rs
  refine hK.out _ _ HA7.out.rng (fun hHeld => ?_)
  clear hK K hob o7 b7
  try simp only [Act.put, List.getElem_toArray, List.getElem_cons_succ, List.getElem_cons_zero, List.setIfInBounds_toArray, List.set_cons_zero, List.set_cons_succ]
  refine wpAnyH_ready (rs := [8]) (by kernel_rfl) (by simp) (AllReadyH.cons rfl (fun K hK => ?_) AllReadyH.nil)
  refine S_append tB HO7.out HJ7.out _ _ rfl rfl rfl rfl (by omega) (by unfold maxLen; omega) HB7.out.size ?_
  intro a8 c8 w8 o8 g8
  have HB8 := Lib.hid (below_own HB7.out HO7.out g8 (Nat.le_refl _) HB7.out.size)
  have HA8 := Lib.hid (HA.out.bel HB8.out)
  refine hK.out _ _ HA8.out.rng (fun hHeld => ?_)
  clear hK K g8 o8
  try simp only [Act.put, List.getElem_toArray, List.getElem_cons_succ, List.getElem_cons_zero, List.setIfInBounds_toArray, List.set_cons_zero, List.set_cons_succ]
  refine wpAnyH_take (i := 9) (v := .slice a8 (nj + n7) c8) rfl (by kernel_rfl) (by kernel_rfl) (by kernel_rfl) (fun _ _ _ h => h) (Or.inl ⟨by rfl, fun w h => by go_simp⟩) hHeld ?_
  try simp only [Act.put, List.getElem_toArray, List.getElem_cons_succ, List.getElem_cons_zero, List.setIfInBounds_toArray, List.set_cons_zero, List.set_cons_succ]
  clear hHeld
  refine wpAnyH_done (by kernel_rfl) ?_ _
  try simp only [Act.put, List.getElem_toArray, List.getElem_cons_succ, List.getElem_cons_zero]
  have d0 : w8.cell? ⟨g, 0, none⟩ = some (.int .u64 19) := HA8.out.at_ 0
  go_wp2_with fail
  rw [rounds_succ]
  go_wp2_with fail
  go_ret2
  exact ⟨_, rfl, HB.out.trans (HB8.out.mono HB.out.size)⟩

set_option maxHeartbeats 1000000 in
theorem fbytes_8_false (w : World) {id : Nat} {da : SA} {t : List UInt8} (hd : BS w da.a da.n da.c t) (hr : R8 id 0 da.n) : Calls Try.prog 43 #[.agg (frc 8 id 0 0 0 false da SA0 SA0).toArray] w fun e w' => ∃ v, e = .returned (.tuple #[v, .int .i64 0]) ∧ Below w.heap.size w w' := by
  obtain ⟨g, hg⟩ : ∃ k, w.heap.size = k := ⟨_, rfl⟩
  have hA := CR.new w 37 (frc 8 id 0 0 0 false da SA0 SA0)
  have hb := below_alloc w (.cells (frc 8 id 0 0 0 false da SA0 SA0).toArray 37)
  have HS := Lib.hid (fun (x : World) => right_8 x id 0 false da hr)
  have HT := Lib.hid (fun (x : World) (bx : Below w.heap.size w x) => stream_0_false x (id := id) (da := da) (RS.below hd bx (Nat.le_refl _)) (by have := hr.i; omega) hr.d)
  unfold frc SA0 at HT
  unfold frc SA0 at hA hb HS
  unfold frc SA0
  obtain ⟨W1, hW1⟩ : ∃ x, w.alloc (.cells ([.int .u64 8, .int .u64 (id : Int), .int .u64 0, .int .u64 0, .int .u64 0, .bool false, .slice da.a da.n da.c, .slice none 0 0, .slice none 0 0] : List Value).toArray 37) = x := ⟨_, rfl⟩
  rw [hW1, hg] at hA
  rw [hW1] at hb
  have HA := Lib.hid hA
  have HB := Lib.hid hb
  have HJ := Lib.hid (fun (x : World) (a : Option Addr) (r : RS x 1 a 1 1 [.int .u64 8]) => join_1 (x := 8) x r (by omega))
  have c0 : W1.cell? ⟨g, 0, none⟩ = some (.int .u64 8) := HA.out.at_ 0
  have c6 : W1.cell? ⟨g, 6, none⟩ = some (.slice da.a da.n da.c) := HA.out.at_ 6
  have hq := hr.d
  have q1 : decide ((1200 : Int) < (da.n : Int)) = false := decide_eq_false (by omega)
  have q2 : decide (1200 < da.n) = false := decide_eq_false (by omega)
  clear hd hr hq
  clear hA hb
  go_enter Try.func43, Try.ntmps43
  go_upto_region 5 with (first
    | (refine L_loadG 37 _ rfl (by rfl) _ _ rfl _ _ HA.out.rng Try.underlying37 rfl iFr ?_)
    | (go_at_call 54; refine (HS.out W1).mono ?_; rintro e w2 ⟨rfl, B2⟩
       have HC2 := Lib.hid (HA.out.bel B2)
       have HB2 := Lib.hid B2
       have d8 : w2.cell? ⟨g, 8, none⟩ = some (.slice none 0 0) := HC2.out.at_ 8
       clear B2))
  have d0 : w2.cell? ⟨g, 0, none⟩ = some (.int .u64 8) := HC2.out.at_ 0
  have hr3 := RS_new w2 25 #[.int .u64 8] 1 rfl (by omega) (by simp [Value.oneCell'])
  have b3 := below_alloc w2 (.cells #[.int .u64 8] 25)
  obtain ⟨k3, hk3⟩ : ∃ q, w2.heap.size = q := ⟨_, rfl⟩
  obtain ⟨w3, hw3⟩ : ∃ q, w2.alloc (.cells #[.int .u64 8] 25) = q := ⟨_, rfl⟩
  rw [hw3, hk3] at hr3
  rw [hw3] at b3
  have HR3 := Lib.hid hr3
  have HC3 := Lib.hid (HC2.out.bel b3)
  have HB3 := Lib.hid (HB2.out.trans (b3.mono HB2.out.size))
  clear hr3 b3 hW1
  go_upto_region 6 with (go_at_call 55; refine (HJ.out w3 _ HR3.out).mono ?_; rintro x w4 ⟨v, rfl, hob⟩)
  obtain ⟨aj, nj, cj, vj, rfl, oj, hj8, bj⟩ := hob.ex
  have HC4 := Lib.hid (HC3.out.bel bj)
  have HB4 := Lib.hid (HB3.out.trans (bj.mono HB3.out.size))
  have HO4 := Lib.hid (oj.mono HB3.out.size)
  clear hw3 hk3 hob oj bj d0 d8
  have e0 : w4.cell? ⟨g, 0, none⟩ = some (.int .u64 8) := HC4.out.at_ 0
  go_wp2_with (go_at_call 56; refine (numbers_8 _).mono ?_; rintro x w' ⟨rfl, rfl⟩)
  refine wp_loop_rounds 1 ?_
  rw [rounds_succ]
  go_wp2_with (first
    | (refine L_loadG 37 _ rfl (by rfl) _ _ rfl _ _ HC4.out.rng Try.underlying37 rfl iFr ?_)
    | (go_at_call 60; refine (HT.out w4 (HB.out.trans (HB4.out.mono HB.out.size))).mono ?_; rintro x w5 ⟨v, rfl, hob⟩))
  obtain ⟨a7, n7, c7, v7, rfl, o7, hj7, b7⟩ := hob.ex
  go_ret2
  exact ⟨_, rfl, (HB.out.trans (HB4.out.mono HB.out.size)).trans (b7.mono (HB.out.trans (HB4.out.mono HB.out.size)).size)⟩

set_option maxHeartbeats 1000000 in
theorem fbytes_8_true (w : World) {id : Nat} {da : SA} {t : List UInt8} (hd : BS w da.a da.n da.c t) (hr : R8 id 0 da.n) : Calls Try.prog 43 #[.agg (frc 8 id 0 0 0 true da SA0 SA0).toArray] w fun e w' => ∃ v, e = .returned (.tuple #[v, .int .i64 0]) ∧ Below w.heap.size w w' := by
  obtain ⟨g, hg⟩ : ∃ k, w.heap.size = k := ⟨_, rfl⟩
  have hA := CR.new w 37 (frc 8 id 0 0 0 true da SA0 SA0)
  have hb := below_alloc w (.cells (frc 8 id 0 0 0 true da SA0 SA0).toArray 37)
  have HS := Lib.hid (fun (x : World) => right_8 x id 0 true da hr)
  have HT := Lib.hid (fun (x : World) (bx : Below w.heap.size w x) => stream_0_true x (id := id) (da := da) (RS.below hd bx (Nat.le_refl _)) (by have := hr.i; omega) hr.d)
  unfold frc SA0 at HT
  unfold frc SA0 at hA hb HS
  unfold frc SA0
  obtain ⟨W1, hW1⟩ : ∃ x, w.alloc (.cells ([.int .u64 8, .int .u64 (id : Int), .int .u64 0, .int .u64 0, .int .u64 0, .bool true, .slice da.a da.n da.c, .slice none 0 0, .slice none 0 0] : List Value).toArray 37) = x := ⟨_, rfl⟩
  rw [hW1, hg] at hA
  rw [hW1] at hb
  have HA := Lib.hid hA
  have HB := Lib.hid hb
  have HJ := Lib.hid (fun (x : World) (a : Option Addr) (r : RS x 1 a 1 1 [.int .u64 8]) => join_1 (x := 8) x r (by omega))
  have c0 : W1.cell? ⟨g, 0, none⟩ = some (.int .u64 8) := HA.out.at_ 0
  have c6 : W1.cell? ⟨g, 6, none⟩ = some (.slice da.a da.n da.c) := HA.out.at_ 6
  have hq := hr.d
  have q1 : decide ((1200 : Int) < (da.n : Int)) = false := decide_eq_false (by omega)
  have q2 : decide (1200 < da.n) = false := decide_eq_false (by omega)
  clear hd hr hq
  clear hA hb
  go_enter Try.func43, Try.ntmps43
  go_upto_region 5 with (first
    | (refine L_loadG 37 _ rfl (by rfl) _ _ rfl _ _ HA.out.rng Try.underlying37 rfl iFr ?_)
    | (go_at_call 54; refine (HS.out W1).mono ?_; rintro e w2 ⟨rfl, B2⟩
       have HC2 := Lib.hid (HA.out.bel B2)
       have HB2 := Lib.hid B2
       have d8 : w2.cell? ⟨g, 8, none⟩ = some (.slice none 0 0) := HC2.out.at_ 8
       clear B2))
  have d0 : w2.cell? ⟨g, 0, none⟩ = some (.int .u64 8) := HC2.out.at_ 0
  have hr3 := RS_new w2 25 #[.int .u64 8] 1 rfl (by omega) (by simp [Value.oneCell'])
  have b3 := below_alloc w2 (.cells #[.int .u64 8] 25)
  obtain ⟨k3, hk3⟩ : ∃ q, w2.heap.size = q := ⟨_, rfl⟩
  obtain ⟨w3, hw3⟩ : ∃ q, w2.alloc (.cells #[.int .u64 8] 25) = q := ⟨_, rfl⟩
  rw [hw3, hk3] at hr3
  rw [hw3] at b3
  have HR3 := Lib.hid hr3
  have HC3 := Lib.hid (HC2.out.bel b3)
  have HB3 := Lib.hid (HB2.out.trans (b3.mono HB2.out.size))
  clear hr3 b3 hW1
  go_upto_region 6 with (go_at_call 55; refine (HJ.out w3 _ HR3.out).mono ?_; rintro x w4 ⟨v, rfl, hob⟩)
  obtain ⟨aj, nj, cj, vj, rfl, oj, hj8, bj⟩ := hob.ex
  have HC4 := Lib.hid (HC3.out.bel bj)
  have HB4 := Lib.hid (HB3.out.trans (bj.mono HB3.out.size))
  have HO4 := Lib.hid (oj.mono HB3.out.size)
  clear hw3 hk3 hob oj bj d0 d8
  have e0 : w4.cell? ⟨g, 0, none⟩ = some (.int .u64 8) := HC4.out.at_ 0
  go_wp2_with (go_at_call 56; refine (numbers_8 _).mono ?_; rintro x w' ⟨rfl, rfl⟩)
  refine wp_loop_rounds 1 ?_
  rw [rounds_succ]
  go_wp2_with (first
    | (refine L_loadG 37 _ rfl (by rfl) _ _ rfl _ _ HC4.out.rng Try.underlying37 rfl iFr ?_)
    | (go_at_call 60; refine (HT.out w4 (HB.out.trans (HB4.out.mono HB.out.size))).mono ?_; rintro x w5 ⟨v, rfl, hob⟩))
  obtain ⟨a7, n7, c7, v7, rfl, o7, hj7, b7⟩ := hob.ex
  go_ret2
  exact ⟨_, rfl, (HB.out.trans (HB4.out.mono HB.out.size)).trans (b7.mono (HB.out.trans (HB4.out.mono HB.out.size)).size)⟩

end Go.Proofs.Yteekafpkbdbadaa.Pi
