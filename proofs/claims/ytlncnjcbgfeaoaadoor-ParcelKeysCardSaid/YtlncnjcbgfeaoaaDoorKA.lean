/- law06.ParcelKeys: its walk. -/
import Derived.Test.YtlncnjcbgfeaoaaDoorK9
set_option maxRecDepth 100000
set_option linter.unusedVariables false
namespace Go.Proofs.YtlncnjcbgfeaoaaDoor
open Go.RowKit Go.Joins
theorem run_neq_keys {o : Oper} {f : Act} {x y : Operand} {t2 : TypeId} {D : List UInt8} (ho : o.op = .binOp .neq 33 x y t2) (hx : f.eval x = .agg (D.map B).toArray) (hy : f.eval y = .agg (D.map B).toArray) (hD : D.length = 76) (w : World) :
    (execOp f.eval o).run Tryd.prog w = .ok (.value (.bool false)) w := by
  have hg : Tryd.prog.eqGuardType Tryd.prog.depth 33 = false := by kernel_rfl
  unfold execOp
  simp only [ho, hx, hy, Sem.run_bind, run_eqGuard_agg w _ _ _ _ _ _ hg, run_neq_struct, eq_keys hD, Result.andThen_ok, Sem.run_pure, Bool.not_true]
theorem run_eql_keys {o : Oper} {f : Act} {x y : Operand} {t2 : TypeId} {D : List UInt8} (ho : o.op = .binOp .eql 33 x y t2) (hx : f.eval x = .agg (D.map B).toArray) (hy : f.eval y = .agg (D.map B).toArray) (hD : D.length = 76) (w : World) :
    (execOp f.eval o).run Tryd.prog w = .ok (.value (.bool true)) w := by
  have hg : Tryd.prog.eqGuardType Tryd.prog.depth 33 = false := by kernel_rfl
  unfold execOp
  simp only [ho, hx, hy, Sem.run_bind, run_eqGuard_agg w _ _ _ _ _ _ hg, run_eql_struct, eq_keys hD, Result.andThen_ok, Sem.run_pure]
set_option maxHeartbeats 4000000 in
theorem parcelKeys_walk (W : World) {S M : List UInt8} (hS : S.length = 32) (hM : M.length = 32) {a1 : Option Addr} {n1 c1 : Nat} (ns : List UInt8) (hn : BS W a1 n1 c1 ns) (hKF : KF W) (hK : KT W) :
    Calls Tryd.prog 3 #[.agg (S.map B).toArray, .slice a1 n1 c1, .agg (M.map B).toArray] W fun e W' => e = .returned (.bool true) ∧ Below W.heap.size W W' := by
  have hz1 : (W.alloc (.cells (S.map B).toArray 22)).heap.size = W.heap.size + 1 := by simp
  have hA := (AB_box W 22 S).al (.cells (M.map B).toArray 22)
  have hC := AB_box (W.alloc (.cells (S.map B).toArray 22)) 22 M
  have hb : Below W.heap.size W _ := (below_alloc W (.cells (S.map B).toArray 22)).alloc (by simp) (.cells (M.map B).toArray 22)
  rw [hz1] at hC
  have HK1 := Lib.hid (hK.below hb (Nat.le_refl _))
  have HF1 := Lib.hid (hKF.below hb (Nat.le_refl _))
  have hn1 := RS.below hn hb (Nat.le_refl _)
  have hS32 := Lib.hid (len32 hS)
  have hM32 := Lib.hid (len32 hM)
  obtain ⟨nx, hNx⟩ := LB_ex S [113, 117, 105, 99, 32, 107, 117] 32
  obtain ⟨ka, kb, kc, hKS⟩ := KS_ex S
  have HNx := Lib.hid hNx
  have HKS := Lib.hid hKS
  have hDl := hKS.len
  obtain ⟨D, hDe⟩ : ∃ D, ka ++ kb ++ kc = D := ⟨_, rfl⟩
  rw [hDe] at hDl
  have HDe := Lib.hid hDe
  have hnxl := hNx.len
  clear hz1 hn hKF hK hNx hKS hDe
  go_enter Tryd.func3, Tryd.ntmps3
  go_upto_region 1 with (fail)
  generalize (World.alloc _ _) = W1 at *
  have hbs := hb.size
  have hC1 := hC.lt
  go_upto_region 4 with (first
    | (go_at_call 8; refine (awake06 _ HF1.out HK1.out).mono ?_; rintro e w2 ⟨rfl, B2⟩; have hn2 := RS.below hn1 B2 (Nat.le_refl _))
    | (go_at_call 9; refine (cut_any _ hn2 30 (by omega) (by omega)).mono ?_; rintro e w3 ⟨a3, c3, rfl, hO3, B3⟩))
  have hn3 : BS w3 a3 (min n1 30) c3 (ns.take (min n1 30)) := made_bs hO3
  have b3 := btrans B2 B3
  obtain ⟨nm, hnm⟩ : ∃ nm, ns.take (min n1 30) = nm := ⟨_, rfl⟩
  obtain ⟨l, hl⟩ : ∃ l, min n1 30 = l := ⟨_, rfl⟩
  have hl30 : l ≤ 30 := by omega
  rw [hnm, hl] at hn3
  rw [hl]
  obtain ⟨x, fa, fb, hF⟩ := FS_ex nm
  have HFS := Lib.hid hF
  have hfal := hF.ha.len
  have hfbl := hF.hb.len
  have HK3 := Lib.hid (HK1.out.below b3 (Nat.le_refl _))
  have HF3 := Lib.hid (HF1.out.below b3 (Nat.le_refl _))
  clear hnm hl hO3 hn1 hn2 B2 B3 hF
  go_upto_region 5 with (first
    | (go_at_call 10; refine (first_any _ hn3 (by omega) HFS.out HF3.out HK3.out).mono ?_; rintro e w4 ⟨rfl, B4⟩)
    | (refine L_store32 rfl _ _ rfl rfl rfl (AB.grown (AB_zeros _ rfl) (World.grownBy_alloc _ _ none) (by simp)) (by simp) hfal ?_; intro w5 hA5 hg5)
    | (refine L_store32 rfl _ _ rfl rfl rfl (AB.grown (AB_zeros _ (by simp)) hg5 (by simp)) (by simp) hfbl ?_; intro w6 hA6 hg6))
  have hA5' := AB.grown hA5 hg6 (by simp)
  have b4 := btrans b3 B4
  have z4 := b4.size
  have b5 := ((b4.alloc z4 _).alloc (by simp; omega) _).grown hg5 (by simp; omega) (by intro k hk; cases hk; exact z4)
  have z5 := hg5.size
  have b6 := b5.grown hg6 b5.size (by intro k hk; cases hk; simp at z5; omega)
  have B36 : Below w3.heap.size w3 w6 := (((B4.alloc B4.size _).alloc (by have := B4.size; simp; omega) _).grown hg5 (by have := B4.size; simp; omega) (by intro k hk; cases hk; exact B4.size)).grown hg6 (by have := B4.size; simp at z5; omega) (by intro k hk; cases hk; have := B4.size; simp at z5; omega)
  have hn6 := RS.below hn3 B36 (Nat.le_refl _)
  have q7 := hA5'.bs32 hfal
  have q8 := hA6.bs32 hfbl
  obtain ⟨g7, hg7⟩ : ∃ g7, w4.heap.size = g7 := ⟨_, rfl⟩
  obtain ⟨g8, hg8⟩ : ∃ g8, g7 + 1 = g8 := ⟨_, rfl⟩
  rw [hg7] at q7
  rw [hg7, hg8] at q8
  rw [hg7, hg8]
  have HB6 := Lib.hid b6
  clear hA5 hA5' hA6 hg5 hg6 b4 b5 z5 z4 hn3 B36 hg7 hg8 B4 b3 b6
  go_upto_region 6 with (go_at_call 11; refine (refFirst_any _ hn6 (by omega) HFS.out).mono ?_; rintro e w7 ⟨a7, c7, a8, c8, rfl, r7, r8, B7⟩)
  have q7' := RS.below q7 B7 (Nat.le_refl _)
  have q8' := RS.below q8 B7 (Nat.le_refl _)
  have HB7 := Lib.hid (btrans HB6.out B7)
  have hA7 := hA.bel HB7.out hA.lt
  have hAr7 := hA7.range
  have HK7 := Lib.hid (HK1.out.below HB7.out (Nat.le_refl _))
  clear q7 q8 B7 hn6
  go_upto_region 7 with (first
    | (refine wpList_load_mid rfl _ _ rfl _ _ rfl (S.map B) _ hAr7 Tryd.underlying22 rfl hS32.out ?_)
    | (go_at_call 12; refine (next_any _ hS HNx.out HK7.out).mono ?_; rintro e w8 ⟨rfl, B8⟩)
    | (refine L_store32 rfl _ _ rfl rfl rfl (AB_zeros _ rfl) (by simp) hnxl ?_; intro w9 hA9 hg9))
  have z8 := B8.size
  have b9 : Below w7.heap.size w7 w9 := (B8.alloc z8 _).grown hg9 (by simp; omega) (by intro k hk; cases hk; exact z8)
  have q11 := hA9.bs32 hnxl
  obtain ⟨g11, hg11⟩ : ∃ g11, w8.heap.size = g11 := ⟨_, rfl⟩
  rw [hg11] at q11 ⊢
  have q7 := RS.below q7' b9 (Nat.le_refl _)
  have q8 := RS.below q8' b9 (Nat.le_refl _)
  have r7' := RS.below r7 b9 (Nat.le_refl _)
  have r8' := RS.below r8 b9 (Nat.le_refl _)
  have HB9 := Lib.hid (btrans HB7.out b9)
  have hA9s := (hA.bel HB9.out hA.lt).bs32 hS
  clear hA9 hg9 hg11 q7' q8' r7 r8 B8 z8 b9 hA7 hAr7
  go_upto_region 8 with (first
    | (go_at_call 13; refine (refDraw_any _ hA9s (by omega) HKS.out).mono ?_; rw [HDe.out]; rintro e w10 ⟨rfl, B10⟩)
    | (refine L_storeA rfl _ _ _ rfl rfl rfl (AB_zeros33 _ rfl) r76 (by simp) hDl ?_; intro w11 hA11 hg11))
  have z10 := B10.size
  have b11 : Below w9.heap.size w9 w11 := (B10.alloc z10 _).grown hg11 (by simp; omega) (by intro k hk; cases hk; exact z10)
  have HB11 := Lib.hid (btrans HB9.out b11)
  have p7 := RS.below q7 b11 (Nat.le_refl _)
  have p8 := RS.below q8 b11 (Nat.le_refl _)
  have s7 := RS.below r7' b11 (Nat.le_refl _)
  have s8 := RS.below r8' b11 (Nat.le_refl _)
  have p11 := RS.below q11 b11 (Nat.le_refl _)
  have hS11 := hA.bel HB11.out hA.lt
  have hC11 := hC.bel HB11.out hC.lt
  have z11 := b11.size
  have z9 := HB9.out.size
  obtain ⟨g12, hg12⟩ : ∃ g12, w10.heap.size = g12 := ⟨_, rfl⟩
  rw [hg12] at hA11 ⊢
  have hW12 : w9.heap.size ≤ g12 := by omega
  have HK11 := Lib.hid (p := KT w11.drew) (show KT w11 from HK1.out.below HB11.out (Nat.le_refl _))
  clear q7 q8 r7' r8' q11 b11 hg11 B10 z10 hg12
  have rS := hS11.range
  have rD := hA11.range
  have l12 := hA11.lt
  have hu32 := Tryd.underlying22
  have huK := Tryd.underlying33
  have hs32 := hS32.out
  have hs76 : (Tryd.prog.info? 33).map (·.size) = some (D.map B).length := by rw [List.length_map, hDl]; exact r76
  refine wp_region_held_drew (S := fun w' => w'.rangeAt W.heap.size 0 (S.map B) ∧ w'.rangeAt g12 0 (D.map B)) (by kernel_rfl) ⟨rS, rD⟩ (fun hHeld => ?_)
  refine wpAnyH_take (i := 0) rfl (by kernel_rfl) (by kernel_rfl) (by kernel_rfl) (fun _ _ _ h => h) (yieldsIf_load_mid (by rfl) _ _ rfl _ _ rfl _ _ (fun w h => h.1) hu32 rfl hs32) hHeld ?_
  try simp only [Act.put, List.getElem_toArray, List.getElem_cons_zero, List.setIfInBounds_toArray, List.set_cons_zero, List.set_cons_succ]
  refine wpAnyH_take (i := 2) rfl (by kernel_rfl) (by kernel_rfl) (by kernel_rfl) (fun _ _ _ h => h) (yieldsIf_load_mid (by rfl) _ _ rfl _ _ rfl _ _ (fun w h => h.2) huK rfl hs76) hHeld ?_
  try simp only [Act.put, List.getElem_toArray, List.getElem_cons_succ, List.getElem_cons_zero, List.setIfInBounds_toArray, List.set_cons_zero, List.set_cons_succ]
  refine wpAnyH_ready (rs := [1]) (by kernel_rfl) (by simp) (AllReadyH.cons rfl (fun K hK => ?_) AllReadyH.nil)
  go_simp
  go_at_call 14
  refine (draw_any _ hS HKS.out HK11.out).mono ?_
  rw [HDe.out]
  rintro e w12 ⟨rfl, B12⟩
  have b12 : Below w11.heap.size w11 w12 := below_undrew B12
  have rS12 := range_bel rS b12 (by omega)
  have rD12 := range_bel rD b12 l12
  refine hK.out _ _ ⟨rS12, rD12⟩ (fun hHeld => ?_)
  clear hK K
  try simp only [Act.put, List.getElem_toArray, List.getElem_cons_succ, List.getElem_cons_zero, List.setIfInBounds_toArray, List.set_cons_zero, List.set_cons_succ]
  refine wpAnyH_take (i := 3) (v := .bool false) rfl (by kernel_rfl) (by kernel_rfl) (by kernel_rfl) (fun _ _ _ h => h) (Or.inl ⟨by rfl, fun w h => run_neq_keys rfl rfl rfl hDl w⟩) hHeld ?_
  try simp only [Act.put, List.getElem_toArray, List.getElem_cons_succ, List.getElem_cons_zero, List.setIfInBounds_toArray, List.set_cons_zero, List.set_cons_succ]
  refine wpAnyH_take (i := 4) (v := .bool false) rfl (by kernel_rfl) (by kernel_rfl) (by kernel_rfl) (fun _ _ _ h => h) (Or.inl ⟨by rfl, fun w h => by go_simp⟩) hHeld ?_
  try simp only [Act.put, List.getElem_toArray, List.getElem_cons_succ, List.getElem_cons_zero, List.setIfInBounds_toArray, List.set_cons_zero, List.set_cons_succ]
  refine wpAnyH_take (i := 5) (v := .slice (some ⟨g11, 0, none⟩) 32 32) rfl (by kernel_rfl) (by kernel_rfl) (by kernel_rfl) (fun _ _ _ h => h) (Or.inl ⟨by rfl, fun w h => by go_simp⟩) hHeld ?_
  try simp only [Act.put, List.getElem_toArray, List.getElem_cons_succ, List.getElem_cons_zero, List.setIfInBounds_toArray, List.set_cons_zero, List.set_cons_succ]
  refine wpAnyH_take (i := 6) (v := .slice (some ⟨W.heap.size, 0, none⟩) 32 32) rfl (by kernel_rfl) (by kernel_rfl) (by kernel_rfl) (fun _ _ _ h => h) (Or.inl ⟨by rfl, fun w h => by go_simp⟩) hHeld ?_
  try simp only [Act.put, List.getElem_toArray, List.getElem_cons_succ, List.getElem_cons_zero, List.setIfInBounds_toArray, List.set_cons_zero, List.set_cons_succ]
  refine wpAnyH_ready (rs := [7]) (by kernel_rfl) (by simp) (AllReadyH.cons rfl (fun K hK => ?_) AllReadyH.nil)
  go_simp
  go_at_call 16
  refine (refNext_any _ ((hS11.bel b12 hS11.lt).bs32 hS) (by omega) HNx.out).mono ?_
  rintro e w13 ⟨a13, c13, rfl, s13, B13⟩
  have b13 := btrans b12 B13
  have st13 : w13.rangeAt W.heap.size 0 (S.map B) ∧ w13.rangeAt g12 0 (D.map B) := ⟨range_bel rS b13 (by omega), range_bel rD b13 l12⟩
  have u7 := RS.below p7 b13 (Nat.le_refl _)
  have u8 := RS.below p8 b13 (Nat.le_refl _)
  have u11 := RS.below p11 b13 (Nat.le_refl _)
  have v7 := RS.below s7 b13 (Nat.le_refl _)
  have v8 := RS.below s8 b13 (Nat.le_refl _)
  refine hK.out _ _ st13 (fun hHeld => ?_)
  clear hK K
  try simp only [Act.put, List.getElem_toArray, List.getElem_cons_succ, List.getElem_cons_zero, List.setIfInBounds_toArray, List.set_cons_zero, List.set_cons_succ]
  refine wpAnyH_ready (rs := [8]) (by kernel_rfl) (by simp) (AllReadyH.cons rfl (fun K hK => ?_) AllReadyH.nil)
  go_simp
  go_at_call 15
  refine (same_any _ u11 s13).mono ?_
  rintro e w' ⟨rfl, rfl⟩
  rw [beq_self_eq_true]
  refine hK.out _ _ st13 (fun hHeld => ?_)
  clear hK K
  try simp only [Act.put, List.getElem_toArray, List.getElem_cons_succ, List.getElem_cons_zero, List.setIfInBounds_toArray, List.set_cons_zero, List.set_cons_succ]
  refine wpAnyH_take (i := 9) (v := .bool false) rfl (by kernel_rfl) (by kernel_rfl) (by kernel_rfl) (fun _ _ _ h => h) (Or.inl ⟨by rfl, fun w h => by go_simp⟩) hHeld ?_
  try simp only [Act.put, List.getElem_toArray, List.getElem_cons_succ, List.getElem_cons_zero, List.setIfInBounds_toArray, List.set_cons_zero, List.set_cons_succ]
  refine wpAnyH_take (i := 10) (v := .bool false) rfl (by kernel_rfl) (by kernel_rfl) (by kernel_rfl) (fun _ _ _ h => h) (Or.inl ⟨by rfl, fun w h => by go_simp⟩) hHeld ?_
  try simp only [Act.put, List.getElem_toArray, List.getElem_cons_succ, List.getElem_cons_zero, List.setIfInBounds_toArray, List.set_cons_zero, List.set_cons_succ]
  refine wpAnyH_take (i := 11) (v := .bool false) rfl (by kernel_rfl) (by kernel_rfl) (by kernel_rfl) (fun _ _ _ h => h) (Or.inl ⟨by rfl, fun w h => by go_simp⟩) hHeld ?_
  try simp only [Act.put, List.getElem_toArray, List.getElem_cons_succ, List.getElem_cons_zero, List.setIfInBounds_toArray, List.set_cons_zero, List.set_cons_succ]
  refine wpAnyH_take (i := 12) (v := .slice (some ⟨g7, 0, none⟩) 32 32) rfl (by kernel_rfl) (by kernel_rfl) (by kernel_rfl) (fun _ _ _ h => h) (Or.inl ⟨by rfl, fun w h => by go_simp⟩) hHeld ?_
  try simp only [Act.put, List.getElem_toArray, List.getElem_cons_succ, List.getElem_cons_zero, List.setIfInBounds_toArray, List.set_cons_zero, List.set_cons_succ]
  refine wpAnyH_take (i := 13) (v := .slice a7 32 c7) rfl (by kernel_rfl) (by kernel_rfl) (by kernel_rfl) (fun _ _ _ h => h) (Or.inl ⟨by rfl, fun w h => by go_simp⟩) hHeld ?_
  try simp only [Act.put, List.getElem_toArray, List.getElem_cons_succ, List.getElem_cons_zero, List.setIfInBounds_toArray, List.set_cons_zero, List.set_cons_succ]
  refine wpAnyH_ready (rs := [14]) (by kernel_rfl) (by simp) (AllReadyH.cons rfl (fun K hK => ?_) AllReadyH.nil)
  go_simp
  go_at_call 15
  refine (same_any _ u7 v7).mono ?_
  rintro e w' ⟨rfl, rfl⟩
  rw [beq_self_eq_true]
  refine hK.out _ _ st13 (fun hHeld => ?_)
  clear hK K
  try simp only [Act.put, List.getElem_toArray, List.getElem_cons_succ, List.getElem_cons_zero, List.setIfInBounds_toArray, List.set_cons_zero, List.set_cons_succ]
  refine wpAnyH_take (i := 15) (v := .bool false) rfl (by kernel_rfl) (by kernel_rfl) (by kernel_rfl) (fun _ _ _ h => h) (Or.inl ⟨by rfl, fun w h => by go_simp⟩) hHeld ?_
  try simp only [Act.put, List.getElem_toArray, List.getElem_cons_succ, List.getElem_cons_zero, List.setIfInBounds_toArray, List.set_cons_zero, List.set_cons_succ]
  refine wpAnyH_take (i := 16) (v := .bool false) rfl (by kernel_rfl) (by kernel_rfl) (by kernel_rfl) (fun _ _ _ h => h) (Or.inl ⟨by rfl, fun w h => by go_simp⟩) hHeld ?_
  try simp only [Act.put, List.getElem_toArray, List.getElem_cons_succ, List.getElem_cons_zero, List.setIfInBounds_toArray, List.set_cons_zero, List.set_cons_succ]
  refine wpAnyH_take (i := 17) (v := .bool false) rfl (by kernel_rfl) (by kernel_rfl) (by kernel_rfl) (fun _ _ _ h => h) (Or.inl ⟨by rfl, fun w h => by go_simp⟩) hHeld ?_
  try simp only [Act.put, List.getElem_toArray, List.getElem_cons_succ, List.getElem_cons_zero, List.setIfInBounds_toArray, List.set_cons_zero, List.set_cons_succ]
  refine wpAnyH_take (i := 18) (v := .slice (some ⟨g8, 0, none⟩) 32 32) rfl (by kernel_rfl) (by kernel_rfl) (by kernel_rfl) (fun _ _ _ h => h) (Or.inl ⟨by rfl, fun w h => by go_simp⟩) hHeld ?_
  try simp only [Act.put, List.getElem_toArray, List.getElem_cons_succ, List.getElem_cons_zero, List.setIfInBounds_toArray, List.set_cons_zero, List.set_cons_succ]
  refine wpAnyH_take (i := 19) (v := .slice a8 32 c8) rfl (by kernel_rfl) (by kernel_rfl) (by kernel_rfl) (fun _ _ _ h => h) (Or.inl ⟨by rfl, fun w h => by go_simp⟩) hHeld ?_
  try simp only [Act.put, List.getElem_toArray, List.getElem_cons_succ, List.getElem_cons_zero, List.setIfInBounds_toArray, List.set_cons_zero, List.set_cons_succ]
  refine wpAnyH_ready (rs := [20]) (by kernel_rfl) (by simp) (AllReadyH.cons rfl (fun K hK => ?_) AllReadyH.nil)
  go_simp
  go_at_call 15
  refine (same_any _ u8 v8).mono ?_
  rintro e w' ⟨rfl, rfl⟩
  rw [beq_self_eq_true]
  refine hK.out _ _ st13 (fun hHeld => ?_)
  clear hK K
  try simp only [Act.put, List.getElem_toArray, List.getElem_cons_succ, List.getElem_cons_zero, List.setIfInBounds_toArray, List.set_cons_zero, List.set_cons_succ]
  refine wpAnyH_take (i := 21) (v := .bool false) rfl (by kernel_rfl) (by kernel_rfl) (by kernel_rfl) (fun _ _ _ h => h) (Or.inl ⟨by rfl, fun w h => by go_simp⟩) hHeld ?_
  try simp only [Act.put, List.getElem_toArray, List.getElem_cons_succ, List.getElem_cons_zero, List.setIfInBounds_toArray, List.set_cons_zero, List.set_cons_succ]
  refine wpAnyH_take (i := 22) (v := .bool false) rfl (by kernel_rfl) (by kernel_rfl) (by kernel_rfl) (fun _ _ _ h => h) (Or.inl ⟨by rfl, fun w h => by go_simp⟩) hHeld ?_
  try simp only [Act.put, List.getElem_toArray, List.getElem_cons_succ, List.getElem_cons_zero, List.setIfInBounds_toArray, List.set_cons_zero, List.set_cons_succ]
  refine wpAnyH_done (by kernel_rfl) ?_ _
  try simp only [Act.put, List.getElem_toArray, List.getElem_cons_succ, List.getElem_cons_zero, List.setIfInBounds_toArray, List.set_cons_zero, List.set_cons_succ]
  have hA13 : AB w13 g12 33 D := hA11.bel b13 l12
  have hC13 := hC11.bel b13 hC11.lt
  have hS13 := hS11.bel b13 hS11.lt
  have z13 := b13.size
  have rM := hC13.range
  have HB13 := Lib.hid (btrans HB11.out b13)
  have HK13 := Lib.hid (HK1.out.below HB13.out (Nat.le_refl _))
  have hm32 := hM32.out
  have hres : D.take 44 ++ M ++ D.drop (44 + 32) = ka ++ kb ++ M := by
    have hab : (ka ++ kb).length = 44 := by rw [List.length_append, HKS.out.ha.len, HKS.out.hb.len]
    have hnil : D.drop (44 + 32) = [] := List.drop_eq_nil_of_le (by omega)
    rw [hnil, List.append_nil, ← HDe.out, List.take_left' hab]
  have hresl : (ka ++ kb ++ M).length = 76 := by rw [List.length_append, List.length_append, HKS.out.ha.len, HKS.out.hb.len, hM]
  obtain ⟨R, hR⟩ : ∃ R, ka ++ kb ++ M = R := ⟨_, rfl⟩
  rw [hR] at hres hresl
  have HRe := Lib.hid hR
  have Hres := Lib.hid hres
  clear hres hR u7 u8 u11 v7 v8 s13 st13 rS12 rD12 rS rD hS11 hC11 hA11 p7 p8 p11 s7 s8 B13 b13
  go_upto_region 11 with (first
    | (refine wpList_load_mid rfl _ _ rfl _ _ rfl (M.map B) _ rM Tryd.underlying22 rfl hM32.out ?_)
    | (refine L_storeMid rfl _ _ _ rfl rfl rfl hA13 i32 (by omega) hM ?_; rw [Hres.out]; intro w14 hA14 hg14))
  have hC14 := hC13.grown hg14 (by simp; omega)
  have hS14 := hS13.grown hg14 (by simp; omega)
  have rM4 := hC14.range
  have rS4 := hS14.range
  have rR4 := hA14.range
  have l14 := hA14.lt
  have z14 := hg14.size
  have HB14 := Lib.hid (HB13.out.grown hg14 HB13.out.size (fun k hk => by cases hk; omega))
  have HK14 := Lib.hid (p := KT w14.drew) (show KT w14 from HK1.out.below HB14.out (Nat.le_refl _))
  have hr76 : (Tryd.prog.info? 33).map (·.size) = some (R.map B).length := by rw [List.length_map, hresl]; exact r76
  have hbt := built1 Tryd.underlying35 kzc (by kernel_rfl) hM
  have hkl : (List.replicate 44 0 ++ M).length = 76 := by rw [List.length_append, List.length_replicate, hM]
  have hkd : (List.replicate 44 0 ++ M).drop 44 = M := List.drop_left' (by simp)
  have hbw := hb.trans (HB14.out.mono hb.size)
  refine wp_region_held_drew (S := fun w' => w'.rangeAt (W.heap.size + 1) 0 (M.map B) ∧ w'.rangeAt W.heap.size 0 (S.map B) ∧ w'.rangeAt g12 0 (R.map B)) (by kernel_rfl) ⟨rM4, rS4, rR4⟩ (fun hHeld => ?_)
  refine wpAnyH_take (i := 0) rfl (by kernel_rfl) (by kernel_rfl) (by kernel_rfl) (fun _ _ _ h => h) (yieldsIf_load_mid (by rfl) _ _ rfl _ _ rfl _ _ (fun w h => h.1) hu32 rfl hm32) hHeld ?_
  try simp only [Act.put, List.getElem_toArray, List.getElem_cons_zero, List.setIfInBounds_toArray, List.set_cons_zero, List.set_cons_succ]
  refine wpAnyH_take (i := 2) rfl (by kernel_rfl) (by kernel_rfl) (by kernel_rfl) (fun _ _ _ h => h) (yieldsIf_load_mid (by rfl) _ _ rfl _ _ rfl _ _ (fun w h => h.2.1) hu32 rfl hs32) hHeld ?_
  try simp only [Act.put, List.getElem_toArray, List.getElem_cons_succ, List.getElem_cons_zero, List.setIfInBounds_toArray, List.set_cons_zero, List.set_cons_succ]
  refine wpAnyH_take (i := 4) rfl (by kernel_rfl) (by kernel_rfl) (by kernel_rfl) (fun _ _ _ h => h) (yieldsIf_load_mid (by rfl) _ _ rfl _ _ rfl _ _ (fun w h => h.2.2) huK rfl hr76) hHeld ?_
  try simp only [Act.put, List.getElem_toArray, List.getElem_cons_succ, List.getElem_cons_zero, List.setIfInBounds_toArray, List.set_cons_zero, List.set_cons_succ]
  refine wpAnyH_ready (rs := [1]) (by kernel_rfl) (by simp) (AllReadyH.cons rfl (fun K hK => ?_) AllReadyH.nil)
  refine S_build rfl _ _ rfl (by simp only [List.map_toArray, List.map_cons, List.map_nil]; exact hbt) ?_
  refine hK.out _ _ ⟨rM4, rS4, rR4⟩ (fun hHeld => ?_)
  clear hK K
  try simp only [Act.put, List.getElem_toArray, List.getElem_cons_succ, List.getElem_cons_zero, List.setIfInBounds_toArray, List.set_cons_zero, List.set_cons_succ]
  refine wpAnyH_ready (rs := [3]) (by kernel_rfl) (by simp) (AllReadyH.cons rfl (fun K hK => ?_) AllReadyH.nil)
  go_simp
  go_at_call 17
  have hT := turn_any w14.drew hkl hS HKS.out HK14.out
  rw [hkd, HRe.out] at hT
  refine hT.mono ?_
  rintro e w15 ⟨rfl, B15⟩
  have b15 : Below w14.heap.size w14 w15 := below_undrew B15
  refine hK.out _ _ ⟨range_bel rM4 b15 hC14.lt, range_bel rS4 b15 hS14.lt, range_bel rR4 b15 l14⟩ (fun hHeld => ?_)
  clear hK K
  try simp only [Act.put, List.getElem_toArray, List.getElem_cons_succ, List.getElem_cons_zero, List.setIfInBounds_toArray, List.set_cons_zero, List.set_cons_succ]
  refine wpAnyH_take (i := 5) (v := .bool true) rfl (by kernel_rfl) (by kernel_rfl) (by kernel_rfl) (fun _ _ _ h => h) (Or.inl ⟨by rfl, fun w h => run_eql_keys rfl rfl rfl hresl w⟩) hHeld ?_
  try simp only [Act.put, List.getElem_toArray, List.getElem_cons_succ, List.getElem_cons_zero, List.setIfInBounds_toArray, List.set_cons_zero, List.set_cons_succ]
  refine wpAnyH_take (i := 6) (v := .bool true) rfl (by kernel_rfl) (by kernel_rfl) (by kernel_rfl) (fun _ _ _ h => h) (Or.inl ⟨by rfl, fun w h => by go_simp⟩) hHeld ?_
  try simp only [Act.put, List.getElem_toArray, List.getElem_cons_succ, List.getElem_cons_zero, List.setIfInBounds_toArray, List.set_cons_zero, List.set_cons_succ]
  refine wpAnyH_done (by kernel_rfl) ?_ _
  try simp only [Act.put, List.getElem_toArray, List.getElem_cons_succ, List.getElem_cons_zero, List.setIfInBounds_toArray, List.set_cons_zero, List.set_cons_succ]
  go_wp2
  go_ret
  exact ⟨rfl, hbw.trans (b15.mono hbw.size)⟩
end Go.Proofs.YtlncnjcbgfeaoaaDoor
