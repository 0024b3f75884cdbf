/- quilt: Put of the first bytes, which are all. -/
import Derived.Test.YteekafpkbdbadaaQB
import Derived.Test.YteekafpkbdbadaaQG
set_option maxRecDepth 100000
set_option linter.unusedVariables false
namespace Go.Proofs.Yteekafpkbdbadaa.Pi
open Go.RowKit
theorem iPat : (Try.prog.info? 113).map (·.size) = some 2 := by kernel_rfl
theorem tP : STy Try.prog 109 113 (.agg #[.int .u64 0, .slice none 0 0]) 2 32 := ⟨Try.underlying109, by kernel_rfl, rfl, by decide⟩
section
variable {w w' : World} {role : Nat → Nat} {r qb : Nat}
set_option maxHeartbeats 4000000 in
theorem put_one (hq : QuZ w role r qb ⟨[], 0, 0, 0, false⟩) (top : ∀ k, w.heap.size ≤ k → role k = 0) {da : SA} {p : List UInt8} (hd : BS w da.a da.n da.c p) (h0 : 0 < da.n) (hn : da.n ≤ 1200) :
    Calls Try.prog 46 #[ptr qb, .int .u64 0, .slice da.a da.n da.c, .bool true] w fun e w' => e = .returned (.int .i64 0) ∧ ∃ role', QuZ w' role' r qb ⟨[(0, p)], 0, da.n, da.n, true⟩ ∧ Stq (fun x => r + 10 ≤ x ∧ x ≤ r + 12) w w' role role' := by
  obtain ⟨x, vs, q1, q2, q3, q4⟩ := hq.ex
  have hx0 := q4 rfl
  subst hx0
  obtain ⟨n, hdn⟩ : ∃ n, da.n = n := ⟨_, rfl⟩
  rw [hdn] at h0 hn hd ⊢
  have HCH := Lib.hid (check_0 q1.cr n (by omega))
  have HCL := Lib.hid (clone_any w hd (by omega))
  have HQ1 := Lib.hid q1
  have HTOP := Lib.hid top
  have HP := Lib.hid hd
  have H0 := Lib.hid (And.intro h0 hn)
  have hl1 : decide ((0 : Int) < (n : Int)) = true := decide_eq_true (by omega)
  have hl2 : 0 < n := h0
  have hmd : ∀ (ts : Array TypeId) (t : TypeId) (W : World), (Builtin.max_ ts t #[.int .u64 0, .int .u64 (n : Int)]).run Try.prog W = .ok (.int .u64 (n : Int)) W := fun ts t W => by have := max2 W ts t 0 n; rw [show max 0 n = n by omega] at this; exact this
  have HMD := Lib.hid hmd
  have HE := Lib.hid (fun (W : World) (a2 : Option Addr) (c2 : Nat) => (by have hq := pend_any W 0 ⟨a2, n, c2⟩ (by show 0 + n < _; omega); rw [show ((0 + (⟨a2, n, c2⟩ : SA).n : Nat) : Int) = (n : Int) by show ((0 + n : Nat) : Int) = n; omega] at hq; exact hq : Calls Try.prog 67 #[.agg #[.int .u64 0, .slice a2 n c2]] W fun e w' => e = .returned (.int .u64 (n : Int)) ∧ Below W.heap.size W w'))
  clear hq q1 q2 q3 q4 top hd h0 hn hdn hmd
  unfold ptr at HCH ⊢
  go_enter Try.func46, Try.ntmps46
  go_upto_region 4 with (go_at_call 65; refine HCH.out.mono ?_; rintro y w2 ⟨rfl, rfl⟩)
  go_upto_region 5 with (first
    | (go_at_call 66; refine HCL.out.mono ?_; rintro y w2 ⟨a2, c2, rfl, o2, B2⟩
       obtain ⟨xb, hxb⟩ : ∃ q, w2.heap.size = q := ⟨_, rfl⟩
       have hrx := CR.new w2 113 [.int .u64 0, .slice none 0 0]
       rw [hxb] at hrx
       have HRX := Lib.hid hrx
       have HXB := Lib.hid hxb
       clear hrx)
    | (refine L_storeRow (old := [.int .u64 0, .slice none 0 0]) (new := [.int .u64 0, .slice a2 n c2]) rfl 113 _ _ rfl rfl rfl HRX.out iPat rfl rfl (by simp [Value.oneCell']) ?_; intro w4 hz4 hg4; have HX4 := Lib.hid hz4; have HG4 := Lib.hid hg4; clear hz4 hg4))
  have B4 : Below w2.heap.size w2 w4 := (below_alloc w2 (.cells [.int .u64 0, .slice none 0 0].toArray 113)).grown HG4.out (by simp) (fun j hj => by cases hj; rw [HXB.out]; exact Nat.le_refl _)
  have HW4 := Lib.hid (B2.trans (B4.mono B2.size))
  have HO4 := Lib.hid (o2.below B4 (Nat.le_refl _))
  have HQ4 := Lib.hid (HQ1.out.cr.bel HW4.out)
  have HXW := Lib.hid (show w.heap.size ≤ xb by rw [← HXB.out]; exact B2.size)
  have HQX := Lib.hid (show qb ≠ xb from fun he => by have := HQ1.out.cr.lt; have := HXW.out; omega)
  have HXL := Lib.hid (show xb < w4.heap.size from HX4.out.lt)
  clear B2 B4 o2 hxb
  have bV : Below w4.heap.size w4 w4.drew := bel_drew _ _
  obtain ⟨V, hV⟩ : ∃ V, w4.drew = V := ⟨_, rfl⟩
  rw [hV] at bV
  have HQV := Lib.hid (HQ4.out.bel bV)
  have HXV := Lib.hid (HX4.out.bel bV)
  have HOV := Lib.hid (HO4.out.below bV (Nat.le_refl _))
  have HWV := Lib.hid (HW4.out.trans (bV.mono HW4.out.size))
  have r2 : V.cell? ⟨qb, 2, none⟩ = some (.int .u64 0) := HQV.out.at_ 2
  have rx := HXV.out.rng
  clear bV
  refine wp_region_U 10 (S := fun x => x.cell? ⟨qb, 2, none⟩ = some (.int .u64 0) ∧ x.rangeAt xb 0 [.int .u64 0, .slice a2 n c2]) (by kernel_rfl) (by rw [hV]; exact ⟨r2, rx⟩) (fun hHeld => ?_)
  rw [hV] at hHeld ⊢
  clear hV r2 rx
  have hmd := HMD.out
  refine wpAnyU_take (i := 0) (v := .pointer (some ⟨qb, 0, none⟩)) rfl (by kernel_rfl) (by kernel_rfl) (by kernel_rfl) (by kernel_rfl) rfl (by kernel_rfl) (fun _ _ _ h => h) (Or.inl ⟨by rfl, fun w h => by go_simp⟩) hHeld ?_
  try simp only [Act.put, List.getElem_toArray, List.getElem_cons_zero, List.setIfInBounds_toArray, List.set_cons_zero, List.set_cons_succ]
  refine wpAnyU_take (i := 1) (v := .pointer (some ⟨qb, 0, none⟩)) rfl (by kernel_rfl) (by kernel_rfl) (by kernel_rfl) (by kernel_rfl) rfl (by kernel_rfl) (fun _ _ _ h => h) (Or.inl ⟨by rfl, fun w h => by go_simp⟩) hHeld ?_
  try simp only [Act.put, List.getElem_toArray, List.getElem_cons_succ, List.getElem_cons_zero, List.setIfInBounds_toArray, List.set_cons_zero, List.set_cons_succ]
  refine wpAnyU_take (i := 2) (v := .pointer (some ⟨qb, 0, none⟩)) rfl (by kernel_rfl) (by kernel_rfl) (by kernel_rfl) (by kernel_rfl) rfl (by kernel_rfl) (fun _ _ _ h => h) (Or.inl ⟨by rfl, fun w h => by go_simp⟩) hHeld ?_
  try simp only [Act.put, List.getElem_toArray, List.getElem_cons_succ, List.getElem_cons_zero, List.setIfInBounds_toArray, List.set_cons_zero, List.set_cons_succ]
  refine wpAnyU_take (i := 3) (v := .pointer (some ⟨qb, 2, none⟩)) rfl (by kernel_rfl) (by kernel_rfl) (by kernel_rfl) (by kernel_rfl) rfl (by kernel_rfl) (fun _ _ _ h => h) (Or.inl ⟨by rfl, fun w h => by go_simp⟩) hHeld ?_
  try simp only [Act.put, List.getElem_toArray, List.getElem_cons_succ, List.getElem_cons_zero, List.setIfInBounds_toArray, List.set_cons_zero, List.set_cons_succ]
  refine wpAnyU_take (i := 4) (v := .int .u64 0) rfl (by kernel_rfl) (by kernel_rfl) (by kernel_rfl) (by kernel_rfl) rfl (by kernel_rfl) (fun _ _ _ h => h) (Or.inl ⟨by rfl, fun w h => by go_simp⟩) hHeld ?_
  try simp only [Act.put, List.getElem_toArray, List.getElem_cons_succ, List.getElem_cons_zero, List.setIfInBounds_toArray, List.set_cons_zero, List.set_cons_succ]
  refine wpAnyU_take (i := 5) rfl (by kernel_rfl) (by kernel_rfl) (by kernel_rfl) (by kernel_rfl) rfl (by kernel_rfl) (fun _ _ _ h => h) (yieldsIf_load_mid (by rfl) _ _ rfl _ _ rfl _ _ (fun w h => h.2) Try.underlying113 rfl iPat) hHeld ?_
  try simp only [Act.put, List.getElem_toArray, List.getElem_cons_succ, List.getElem_cons_zero, List.setIfInBounds_toArray, List.set_cons_zero, List.set_cons_succ]
  refine wpAnyU_ready (rs := [6]) (by kernel_rfl) (by simp) (AllReadyU.cons rfl (fun K hK => ?_) AllReadyU.nil)
  go_simp
  go_at_call 67
  refine (HE.out V a2 c2).mono ?_
  rintro y w5 ⟨rfl, B5⟩
  have HQ5 := Lib.hid (HQV.out.bel B5)
  have HX5 := Lib.hid (HXV.out.bel B5)
  have HO5 := Lib.hid (HOV.out.below B5 (Nat.le_refl _))
  have HW5 := Lib.hid (HWV.out.trans (B5.mono HWV.out.size))
  refine hK.out _ _ ⟨HQ5.out.at_ 2, HX5.out.rng⟩ (fun hHeld => ?_)
  clear hK K B5
  try simp only [Act.put, List.getElem_toArray, List.getElem_cons_succ, List.getElem_cons_zero, List.setIfInBounds_toArray, List.set_cons_zero, List.set_cons_succ]
  refine wpAnyU_take (i := 7) (v := .int .u64 (n : Int)) rfl (by kernel_rfl) (by kernel_rfl) (by kernel_rfl) (by kernel_rfl) rfl (by kernel_rfl) (fun _ _ _ h => h) (Or.inl ⟨by rfl, fun w h => by go_simp⟩) hHeld ?_
  try simp only [Act.put, List.getElem_toArray, List.getElem_cons_succ, List.getElem_cons_zero, List.setIfInBounds_toArray, List.set_cons_zero, List.set_cons_succ]
  refine wpAnyU_ready (rs := [8]) (by kernel_rfl) (by simp) (AllReadyU.cons rfl (fun K hK => ?_) AllReadyU.nil)
  go_simp
  refine hK.out _ _ hHeld (fun hHeld => ?_)
  clear hK K
  try simp only [Act.put, List.getElem_toArray, List.getElem_cons_succ, List.getElem_cons_zero, List.setIfInBounds_toArray, List.set_cons_zero, List.set_cons_succ]
  refine wpAnyU_take (i := 9) (v := .pointer (some ⟨qb, 2, none⟩)) rfl (by kernel_rfl) (by kernel_rfl) (by kernel_rfl) (by kernel_rfl) rfl (by kernel_rfl) (fun _ _ _ h => h) (Or.inl ⟨by rfl, fun w h => by go_simp⟩) hHeld ?_
  try simp only [Act.put, List.getElem_toArray, List.getElem_cons_succ, List.getElem_cons_zero, List.setIfInBounds_toArray, List.set_cons_zero, List.set_cons_succ]
  have d2 := hHeld.1
  have f2 := HQ5.out.fr 2
  refine wpAnyU_ready (rs := [10]) (by kernel_rfl) (by simp) (AllReadyU.consT rfl (by kernel_rfl) (fun K hK => ?_) AllReadyU.nil)
  go_simp
  refine hK.out _ _ ?_
  clear hK K hHeld d2 f2 hmd
  try simp only [Act.put, List.getElem_toArray, List.getElem_cons_succ, List.getElem_cons_zero, List.setIfInBounds_toArray, List.set_cons_zero, List.set_cons_succ]
  refine wpAnyU_done (by kernel_rfl) ?_ _
  try simp only [Act.put, List.getElem_toArray, List.getElem_cons_succ, List.getElem_cons_zero]
  have G6 := Lib.hid ((grown_bel HW5.out (some qb)).andThen (grown_set w5 qb 2 (.int .u64 (n : Int))) (fun j hj => by cases hj; exact Or.inr rfl))
  have HQ6 := Lib.hid (HQ5.out.set 2 (.int .u64 (n : Int)))
  have HX6 := Lib.hid (HX5.out.grown (grown_set w5 qb 2 (.int .u64 (n : Int))) (fun he => by injection he with he; exact HQX.out he.symm))
  have HO6 := Lib.hid (HO5.out.grown (grown_set w5 qb 2 (.int .u64 (n : Int))) (fun ad had he => by injection he with he; have := (HO5.out.base_le had).1; have := HQ1.out.cr.lt; omega))
  obtain ⟨w6, hw6⟩ : ∃ q, w5.setCell ⟨qb, 2, none⟩ (.int .u64 (n : Int)) = q := ⟨_, rfl⟩
  rw [hw6] at G6 HQ6 HX6 HO6 ⊢
  clear hw6
  go_upto_region 8 with (first
    | (refine L_loadG 113 _ rfl (by rfl) _ _ rfl _ _ HX6.out.rng Try.underlying113 rfl iPat ?_)
    | (go_at_call 67; refine (HE.out w6 a2 c2).mono ?_; rintro y w7 ⟨rfl, B7⟩
       have HQ7 := Lib.hid (HQ6.out.bel B7)
       have HX7 := Lib.hid (HX6.out.bel B7)
       have HO7 := Lib.hid (HO6.out.below B7 (Nat.le_refl _))
       have G7 := Lib.hid (G6.out.andThen (grown_bel B7 none) (fun j hj => by cases hj))
       clear B7)
    | (refine L_store1 rfl 25 _ _ rfl (i := 3) HQ7.out rfl rfl (by kernel_rfl) (Nat.le_of_ble_eq_true rfl) rfl ?_; intro w8 hc8 hg8; have HQ8 := Lib.hid hc8; have HG8 := Lib.hid hg8; clear hc8 hg8)
    | (refine L_store1 rfl 4 _ _ rfl (i := 4) HQ8.out rfl rfl (by kernel_rfl) (Nat.le_of_ble_eq_true rfl) rfl ?_; intro w9 hc9 hg9; have HQ9 := Lib.hid hc9; have HG9 := Lib.hid hg9; clear hc9 hg9))
  have G9 := Lib.hid ((G7.out.andThen HG8.out (fun j hj => by cases hj; exact Or.inr rfl)).andThen HG9.out (fun j hj => by cases hj; exact Or.inr rfl))
  have HX9 := Lib.hid ((HX7.out.grown HG8.out (fun he => by injection he with he; exact HQX.out he.symm)).grown HG9.out (fun he => by injection he with he; exact HQX.out he.symm))
  have HO8 := HO7.out.grown HG8.out (fun ad had he => by injection he with he; have := (HO7.out.base_le had).1; have := HQ1.out.cr.lt; omega)
  have HO9 := Lib.hid (HO8.grown HG9.out (fun ad had he => by injection he with he; have := (HO8.base_le had).1; have := HQ1.out.cr.lt; omega))
  clear HO8
  have k0 : w9.cell? ⟨xb, 0, none⟩ = some (.int .u64 0) := HX9.out.at_ 0
  have k1 : w9.cell? ⟨qb, 1, none⟩ = some (.int .u64 0) := HQ9.out.at_ 1
  go_quiet (fail)
  clear k0 k1
  have bV := bel_drewN w9.heap.size w9 nq
  obtain ⟨U, hU⟩ : ∃ q, w9.drewN nq = q := ⟨_, rfl⟩
  rw [hU] at bV ⊢
  have HQU := Lib.hid (HQ9.out.bel bV)
  have HXU := Lib.hid (HX9.out.bel bV)
  have HOU := Lib.hid (HO9.out.below bV (Nat.le_refl _))
  have GU := Lib.hid (G9.out.andThen (grown_bel bV none) (fun j hj => by cases hj))
  clear bV hU
  have k0 : U.cell? ⟨qb, 0, none⟩ = some (.slice none 0 0) := HQU.out.at_ 0
  have k1 : U.cell? ⟨xb, 1, none⟩ = some (.slice a2 n c2) := HXU.out.at_ 1
  go_wp2_with fail
  refine wp_loop_rounds 1 ?_
  rw [rounds_succ]
  go_upto_region 23 with (fail)
  have bA := below_alloc U (.cells #[.int .u64 0, .slice a2 n c2] 113)
  have oA := OW_made U U.heap.size 113 2 #[.int .u64 0, .slice a2 n c2] 1 (Nat.le_refl _) rfl (by unfold maxLen; omega) (by simp [Value.oneCell'])
  obtain ⟨kA, hkA⟩ : ∃ q, U.heap.size = q := ⟨_, rfl⟩
  obtain ⟨wA, hwA⟩ : ∃ q, U.alloc (.cells #[.int .u64 0, .slice a2 n c2] 113) = q := ⟨_, rfl⟩
  rw [hwA] at bA oA
  rw [hkA] at oA
  have HQA := Lib.hid (HQU.out.bel bA)
  have HRA := Lib.hid (OW.rs oA)
  have HOA := Lib.hid (HOU.out.below bA (Nat.le_refl _))
  have GA := Lib.hid (GU.out.andThen (grown_bel bA none) (fun j hj => by cases hj))
  clear k0 k1 bA oA
  go_upto_region 24 with (first
    | (refine L_loadG 113 _ rfl (by rfl) _ _ rfl _ _ HXU.out.rng Try.underlying113 rfl iPat ?_)
    | (refine L_append tP (OW_nil wA w.heap.size 113 2) HRA.out _ _ (by rfl) rfl rfl rfl (by omega) (by unfold maxLen; omega) GA.out.size ?_; intro aB cB wB oB gB; simp only [Nat.zero_add, List.nil_append] at oB; have HOB := Lib.hid oB; have HGB := Lib.hid gB; clear oB gB))
  have HQB := Lib.hid (HQA.out.grown HGB.out (fun he => by cases he))
  have HO2 := Lib.hid (HOA.out.grown HGB.out (fun ad had he => by cases he))
  have GB := Lib.hid (GA.out.andThen HGB.out (fun j hj => by cases hj))
  have k0 : wB.cell? ⟨qb, 0, none⟩ = some (.slice none 0 0) := HQB.out.at_ 0
  clear hwA hkA
  go_upto_region 25 with (first
    | (refine L_append tP (OW_nil wB wB.heap.size 113 2) (OW.rs HOB.out) _ _ (by rfl) rfl rfl rfl (by omega) (by unfold maxLen; omega) (Nat.le_refl _) ?_; intro aD cD wD oD gD; simp only [Nat.zero_add] at oD; have HOD := Lib.hid oD; have HGD := Lib.hid gD; have HQD := Lib.hid (HQB.out.grown gD (fun he => by cases he)); clear oD gD)
    | (refine L_store1 rfl 109 _ _ rfl (i := 0) HQD.out rfl rfl (by kernel_rfl) (Nat.le_of_ble_eq_true rfl) rfl ?_; intro wE hcE hgE; have HQE := Lib.hid hcE; have HGE := Lib.hid hgE; clear hcE hgE))
  have e0 : wE.cell? ⟨qb, 0, none⟩ = some (.slice aD 1 cD) := HQE.out.at_ 0
  clear k0
  go_wp2_with (go_at_call 68; refine (sort_1 _ _ _ _).mono ?_; rintro y w' ⟨rfl, rfl⟩)
  go_ret
  refine ⟨rfl, ?_⟩
  have G := (GB.out.andThen HGD.out (fun j hj => by cases hj)).andThen HGE.out (fun j hj => by cases hj; exact Or.inr rfl)
  have hql := HQ1.out.cr.lt
  have HO2D := HO2.out.grown HGD.out (fun ad had he => by cases he)
  have HO2E := HO2D.grown HGE.out (fun ad had he => by injection he with he; have := (HO2D.base_le had).1; omega)
  have HODE := HOD.out.grown HGE.out (fun ad had he => by injection he with he; have := (HOD.out.base_le had).1; have := GB.out.size; omega)
  exact quz_one HQ1.out.rb hql G HTOP.out HQE.out HO2E HODE GB.out.size (fun ad had => Nat.lt_of_lt_of_le (HO2.out.base_le had).2 (Nat.le_refl _)) H0.out.1
end
end Go.Proofs.Yteekafpkbdbadaa.Pi
