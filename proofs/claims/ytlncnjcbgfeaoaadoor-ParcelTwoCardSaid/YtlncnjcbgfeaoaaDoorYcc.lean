/- law06.ParcelTwo: its walk. -/
import Derived.Test.YtlncnjcbgfeaoaaDoorYcb
import Derived.Test.YtlncnjcbgfeaoaaDoorYay
import Derived.Test.YtlncnjcbgfeaoaaDoorYba
import Derived.Lib.SmallJoins
set_option maxRecDepth 100000
set_option linter.unusedVariables false
namespace Go.Proofs.YtlncnjcbgfeaoaaDoor
open Go.RowKit Go.Joins
structure TWG (n : Nat) (W1 w : World) (g h : Nat) (D J : List UInt8) : Prop where
  bl : Below n W1 w
  a : AB w g 35 D
  b : AB w h 35 J
/-- the two joined, and a head for what is read, as far as it is made -/
structure TWH (n : Nat) (W1 w : World) (g : Nat) (b9 : Nat) (a9 : Option Addr) (n9 c9 : Nat) (R2 : List UInt8) : Prop where
  bl : Below n W1 w
  o : OW w b9 5 1 a9 n9 c9 (R2.map B)
  hb : HB w g false 0 false (.slice none 0 0) (.slice none 0 0)
  lg : n ≤ g
theorem OW.lateNe {w w' : World} {b1 b2 : Nat} {e1 e2 : TypeId} {z1 z2 n1 n2 c1 c2 : Nat} {a1 a2 : Option Addr} {v1 v2 : List Value} (h1 : OW w b1 e1 z1 a1 n1 c1 v1) (h2 : OW w' b2 e2 z2 a2 n2 c2 v2) (hb : w.heap.size ≤ b2) :
    ∀ ad, a2 = some ad → some ad.block ≠ a1.map (·.block) := by
  intro ad h he
  have h3 := (h2.base_le h).1
  cases ha : a1 with
  | none => rw [ha] at he; cases he
  | some a0 =>
    rw [ha] at he
    have h4 := (h1.base_le ha).2
    simp at he
    omega
theorem OW.oldNe {w : World} {b1 g : Nat} {e1 : TypeId} {z1 n1 c1 : Nat} {a1 : Option Addr} {v1 : List Value} (h1 : OW w b1 e1 z1 a1 n1 c1 v1) (hb : g < b1) : some g ≠ a1.map (·.block) := by
  intro he
  cases ha : a1 with
  | none => rw [ha] at he; cases he
  | some a0 =>
    rw [ha] at he
    have h4 := (h1.base_le ha).1
    simp at he
    omega
theorem OW.newNe {w : World} {b1 g : Nat} {e1 : TypeId} {z1 n1 c1 : Nat} {a1 : Option Addr} {v1 : List Value} (h1 : OW w b1 e1 z1 a1 n1 c1 v1) (hb : w.heap.size ≤ g) : some g ≠ a1.map (·.block) := by
  intro he
  cases ha : a1 with
  | none => rw [ha] at he; cases he
  | some a0 =>
    rw [ha] at he
    have h4 := (h1.base_le ha).2
    simp at he
    omega
/-- what stands when the two, joined, were opened, and a head's box is made -/
structure TWI (n : Nat) (W1 w : World) (gh : Nat) (a9 : Option Addr) (r2 c9 : Nat) (S2 : List UInt8) (a13 : Option Addr) (N c13 : Nat) (P : List UInt8) (a14 : Option Addr) (c14 g : Nat) (D : List UInt8) : Prop where
  bl : Below n W1 w
  hb : HB w gh false 0 false (.slice none 0 0) (.slice none 0 0)
  hd : BS w a9 r2 c9 S2
  h13 : BS w a13 N c13 P
  h14 : BS w a14 r2 c14 S2
  lg : n ≤ gh
  gd : AB w g 35 D
def to8 : List UInt8 := [49, 50, 51, 52, 53, 54, 55, 56]
structure TWF (n : Nat) (W1 w : World) (g h : Nat) : Prop where
  bl : Below n W1 w
  a : AB w g 35 (List.replicate 76 0)
  b : AB w h 35 (List.replicate 76 0)
  ne : g ≠ h
  la : n ≤ g
  lb : n ≤ h
set_option maxHeartbeats 8000000 in
theorem parcelTwo_walk (W : World) {b2 b3 : Option Addr} {n2 c2 n3 c3 : Nat} {sa sb xs ys : List UInt8} (hal : sa.length = 32) (hbl : sb.length = 32) (pn0 : Nat) (hpn0 : pn0 < 18446744073709551616) (hx : BS W b2 n2 c2 xs) (hy : BS W b3 n3 c3 ys) (hKF : KF W) (hKT : KT W) (hKG : KG W) :
    Calls Tryd.prog 6 #[.agg (sa.map B).toArray, .agg (sb.map B).toArray, .slice b2 n2 c2, .slice b3 n3 c3, .int .u64 (pn0 : Int)] W fun e w' => e = .returned (.bool true) ∧ Below W.heap.size W w' := by
  have hA := (AB_box W 22 sa).al (.cells (sb.map B).toArray 22)
  have hM := AB_box (W.alloc (.cells (sa.map B).toArray 22)) 22 sb
  rw [show (W.alloc (.cells (sa.map B).toArray 22)).heap.size = W.heap.size + 1 by simp] at hM
  have hbel := (below_alloc W (.cells (sa.map B).toArray 22)).alloc (by simp) (.cells (sb.map B).toArray 22)
  have hKF1 := hKF.below hbel (Nat.le_refl _)
  have hKT1 := hKT.below hbel (Nat.le_refl _)
  obtain ⟨N, hN⟩ : ∃ N, min n2 200 = N := ⟨_, rfl⟩
  obtain ⟨P, hP⟩ : ∃ P, xs.take N = P := ⟨_, rfl⟩
  have hPl : P.length = N := by have := BS.len hx; rw [← hP, List.length_take]; omega
  obtain ⟨M, hMe⟩ : ∃ M, min n3 200 = M := ⟨_, rfl⟩
  obtain ⟨R, hR⟩ : ∃ R, ys.take M = R := ⟨_, rfl⟩
  have hRl : R.length = M := by have := BS.len hy; rw [← hR, List.length_take]; omega
  obtain ⟨ka, kb, kc, hks⟩ := KS_ex sa
  obtain ⟨ja, jb, jc, hjs⟩ := KS_ex sb
  have hkl := hks.len
  have hjl := hjs.len
  have hkal := hks.ha.len
  have hkbl := hks.hb.len
  have hkcl := hks.hc.len
  have hjal := hjs.ha.len
  have hjbl := hjs.hb.len
  have hjcl := hjs.hc.len
  obtain ⟨D, hDe⟩ : ∃ D, ka ++ kb ++ kc = D := ⟨_, rfl⟩
  obtain ⟨J, hJe⟩ : ∃ J, ja ++ jb ++ jc = J := ⟨_, rfl⟩
  have Hdraw := Lib.hid (fun w' (h : KT w') => draw_any w' hal hks h)
  have Hdraj := Lib.hid (fun w' (h : KT w') => draw_any w' hbl hjs h)
  rw [hDe] at hkl Hdraw
  rw [hJe] at hjl Hdraj
  have Hcut := Lib.hid (fun w' (h : BS w' b2 n2 c2 xs) => cutP w' h 200 200 N rfl (by omega) hN hP)
  have Hcuu := Lib.hid (fun w' (h : BS w' b3 n3 c3 ys) => cutP w' h 200 200 M rfl (by omega) hMe hR)
  have hia : (Tryd.prog.info? 22).map (·.size) = some (sa.map B).length := by rw [List.length_map, hal]; kernel_rfl
  have hib : (Tryd.prog.info? 22).map (·.size) = some (sb.map B).length := by rw [List.length_map, hbl]; kernel_rfl
  have Hia := Lib.hid hia
  have Hib := Lib.hid hib
  have hN1 : N ≤ 200 := by omega
  have hM1 : M ≤ 200 := by omega
  obtain ⟨pn, hpn⟩ : ∃ pn, pn0 % 100000 = pn := ⟨_, rfl⟩
  have hpi : (pn0 : Int) % 100000 = (pn : Int) := by omega
  have hpn1 : pn < 100000 := by omega
  have HX := Lib.hid hx
  have HY := Lib.hid hy
  have HKT := Lib.hid hKT
  have HKG := Lib.hid hKG
  have HDe := Lib.hid hDe
  have HJe := Lib.hid hJe
  clear hx hy hN hP hMe hR hks hjs hKF hKT hKG hpn hDe hJe hia hib
  go_enter Tryd.func6, Tryd.ntmps6
  go_upto_region 1 with (fail)
  generalize (World.alloc _ _) = W1 at *
  have l0 := hA.lt
  have l1 := hM.lt
  have hbs := hbel.size
  have Haw := Lib.hid (awake06 W1 hKF1 hKT1)
  have HB1 := Lib.hid hbel
  have HA1 := Lib.hid hA
  have HM1 := Lib.hid hM
  have HX1 := Lib.hid (RS.below HX.out hbel (Nat.le_refl _))
  have HY1 := Lib.hid (RS.below HY.out hbel (Nat.le_refl _))
  clear hbel hA hM hKF1 hKT1
  go_upto_region 3 with (go_at_call 8; refine Haw.out.mono ?_; rintro x w2 ⟨rfl, B2⟩)
  have hA2 := HA1.out.bl B2 l0
  have hM2 := HM1.out.bl B2 l1
  have hb2 := HB1.out.trans (B2.mono hbs)
  have Hx2 := Lib.hid (RS.below HX1.out B2 (Nat.le_refl _))
  have Hy2 := Lib.hid (RS.below HY1.out B2 (Nat.le_refl _))
  have HA2 := Lib.hid hA2
  have HM2 := Lib.hid hM2
  have HB2 := Lib.hid hb2
  clear hA2 hM2 hb2 HA1 HM1 HB1 HX1 HY1 Haw
  go_upto_region 4 with (first
    | (go_at_call 9; (with_reducible refine (Hcut.out _ Hx2.out).mono ?_); rintro x w3 ⟨a4, c4, rfl, o4, B4⟩; have Hy3 := Lib.hid (RS.below Hy2.out B4 (Nat.le_refl _)))
    | (go_at_call 9; (with_reducible refine (Hcuu.out _ Hy3.out).mono ?_); rintro x w4 ⟨a5, c5, rfl, o5, B5⟩))
  have v1 := run_convert_bytes_const_at (P := Tryd.prog) w4 23 5 #[.int .u8 49, .int .u8 50, .int .u8 51, .int .u8 52, .int .u8 53, .int .u8 54, .int .u8 55, .int .u8 56] 8 8 w4.heap.size rfl Tryd.underlying23 Tryd.underlying5
  go_upto_region 5 with (fail)
  rw [hpi]
  have b45 := below_alloc w4 (.cells #[.int .u8 49, .int .u8 50, .int .u8 51, .int .u8 52, .int .u8 53, .int .u8 54, .int .u8 55, .int .u8 56] 5 (8, 9))
  have b5 : Below w2.heap.size w2 (w4.alloc (.cells #[.int .u8 49, .int .u8 50, .int .u8 51, .int .u8 52, .int .u8 53, .int .u8 54, .int .u8 55, .int .u8 56] 5 (8, 9))) := (B4.trans (B5.mono B4.size)).trans (b45.mono (B4.trans (B5.mono B4.size)).size)
  have hTo : BS (w4.alloc (.cells #[.int .u8 49, .int .u8 50, .int .u8 51, .int .u8 52, .int .u8 53, .int .u8 54, .int .u8 55, .int .u8 56] 5 (8, 9))) (some ⟨w4.heap.size, 0, none⟩) 8 8 to8 := BS_lit w4 to8 #[.int .u8 49, .int .u8 50, .int .u8 51, .int .u8 52, .int .u8 53, .int .u8 54, .int .u8 55, .int .u8 56] (8, 9) rfl 8 rfl (by decide) rfl
  have hP5 : BS (w4.alloc (.cells #[.int .u8 49, .int .u8 50, .int .u8 51, .int .u8 52, .int .u8 53, .int .u8 54, .int .u8 55, .int .u8 56] 5 (8, 9))) a4 N c4 P := RS.below (RS.below o4.rs B5 (Nat.le_refl _)) b45 (Nat.le_refl _)
  have hR5 : BS (w4.alloc (.cells #[.int .u8 49, .int .u8 50, .int .u8 51, .int .u8 52, .int .u8 53, .int .u8 54, .int .u8 55, .int .u8 56] 5 (8, 9))) a5 M c5 R := RS.below o5.rs b45 (Nat.le_refl _)
  obtain ⟨W5, hW5⟩ : ∃ W5, w4.alloc (.cells #[.int .u8 49, .int .u8 50, .int .u8 51, .int .u8 52, .int .u8 53, .int .u8 54, .int .u8 55, .int .u8 56] 5 (8, 9)) = W5 := ⟨_, rfl⟩
  rw [hW5] at b5 hTo hP5 hR5 ⊢
  obtain ⟨gt, hgt⟩ : ∃ gt, w4.heap.size = gt := ⟨_, rfl⟩
  rw [hgt] at hTo ⊢
  have hA5 := HA2.out.bl b5 HA2.out.lt
  have hM5 := HM2.out.bl b5 HM2.out.lt
  have HB5 := Lib.hid (HB2.out.trans (b5.mono HB2.out.size))
  have l0 : W.heap.size < W5.drew.heap.size := hA5.lt
  have l1 : W.heap.size + 1 < W5.drew.heap.size := hM5.lt
  have HWs := Lib.hid (show W5.drew.heap.size = W5.heap.size from rfl)
  have rA : W5.drew.rangeAt W.heap.size 0 (sa.map B) := hA5.rng
  have rM : W5.drew.rangeAt (W.heap.size + 1) 0 (sb.map B) := hM5.rng
  have HKT5 := Lib.hid (HKT.out.below HB5.out (Nat.le_refl _))
  have HKG5 := Lib.hid (KG.below HKG.out HB5.out)
  have HTo := Lib.hid hTo
  have HP5 := Lib.hid hP5
  have HR5 := Lib.hid hR5
  have Hda := Lib.hid (fun w' (hb : Below W5.drew.heap.size W5.drew w') => Hdraw.out w' (HKT5.out.below (below_undrew hb) (Nat.le_refl _)))
  have Hdb := Lib.hid (fun w' (hb : Below W5.drew.heap.size W5.drew w') => Hdraj.out w' (HKT5.out.below (below_undrew hb) (Nat.le_refl _)))
  have b0 : Below W5.drew.heap.size W5.drew W5.drew := Below.refl _ _
  have hu32 := Tryd.underlying22
  have hia := Hia.out
  have hib := Hib.out
  clear v1 b45 b5 hTo hP5 hR5 hW5 hgt hA5 hM5 o4 o5 B4 B5 B2 HA2 HM2 HB2 Hx2 Hy2 Hy3 Hcut Hcuu hbs
  refine wp_region_held_drew (S := fun w' => w'.rangeAt W.heap.size 0 (sa.map B) ∧ w'.rangeAt (W.heap.size + 1) 0 (sb.map B)) (by kernel_rfl) ⟨rA, rM⟩ (fun hHeld => ?_)
  generalize hW6 : W5.drew = W6 at *
  refine wpAnyH_take (i := 0) rfl (by kernel_rfl) (by kernel_rfl) (by kernel_rfl) (fun _ _ _ h => h) (yieldsIf_load_mid (by rfl) _ _ rfl _ _ rfl _ _ (fun w h => h.1) hu32 rfl hia) hHeld ?_
  try simp only [Act.put, List.getElem_toArray, List.getElem_cons_zero, List.setIfInBounds_toArray, List.set_cons_zero, List.set_cons_succ]
  refine wpAnyH_take (i := 2) rfl (by kernel_rfl) (by kernel_rfl) (by kernel_rfl) (fun _ _ _ h => h) (yieldsIf_load_mid (by rfl) _ _ rfl _ _ rfl _ _ (fun w h => h.2) hu32 rfl hib) hHeld ?_
  try simp only [Act.put, List.getElem_toArray, List.getElem_cons_succ, List.getElem_cons_zero, List.setIfInBounds_toArray, List.set_cons_zero, List.set_cons_succ]
  refine (fun (hk : Hid (∀ (w4 : World) (g h : Nat), TWF W6.heap.size W6 w4 g h → (?P1 : World → Nat → Nat → Prop) w4 g h)) => ?main1) (Lib.hid ?rest1)
  case main1 =>
    refine wpAnyH_ready (rs := [1, 4, 5]) (by kernel_rfl) (by simp) (AllReadyH.cons rfl (fun K hK => ?o_1) (AllReadyH.cons rfl (fun K hK => ?o_4) (AllReadyH.cons rfl (fun K hK => ?o_5) AllReadyH.nil)))
    case o_1 =>
      go_simp
      go_at_call 14
      refine (Hda.out _ b0).mono ?_
      rintro x v1 ⟨rfl, B1⟩
      have b1 := btr (w := W6) b0 B1
      refine hK.out _ _ ⟨rng_bel rA b1 l0, rng_bel rM b1 l1⟩ (fun hHeld => ?_)
      clear hK K
      try simp only [Act.put, List.getElem_toArray, List.getElem_cons_succ, List.getElem_cons_zero, List.setIfInBounds_toArray, List.set_cons_zero, List.set_cons_succ]
      refine wpAnyH_ready (rs := [3, 4, 5]) (by kernel_rfl) (by simp) (AllReadyH.cons rfl (fun K hK => ?o1_3) (AllReadyH.cons rfl (fun K hK => ?o1_4) (AllReadyH.cons rfl (fun K hK => ?o1_5) AllReadyH.nil)))
      case o1_3 =>
        go_simp
        go_at_call 14
        refine (Hdb.out _ b1).mono ?_
        rintro x v2 ⟨rfl, B2⟩
        have b2 := btr (w := W6) b1 B2
        refine hK.out _ _ ⟨rng_bel rA b2 l0, rng_bel rM b2 l1⟩ (fun hHeld => ?_)
        clear hK K
        try simp only [Act.put, List.getElem_toArray, List.getElem_cons_succ, List.getElem_cons_zero, List.setIfInBounds_toArray, List.set_cons_zero, List.set_cons_succ]
        refine wpAnyH_ready (rs := [4, 5]) (by kernel_rfl) (by simp) (AllReadyH.cons rfl (fun K hK => ?o13_4) (AllReadyH.cons rfl (fun K hK => ?o13_5) AllReadyH.nil))
        case o13_4 =>
          go_simp
          have z43 := AB_zeros35 v2 rfl
          have b3 := b2.alloc b2.size (.cells Tryd.zeroCells35 35)
          have lz43 : W6.heap.size ≤ (v2).heap.size := b2.size
          refine hK.out _ _ ⟨rng_bel rA b3 l0, rng_bel rM b3 l1⟩ (fun hHeld => ?_)
          clear hK K
          try simp only [Act.put, List.getElem_toArray, List.getElem_cons_succ, List.getElem_cons_zero, List.setIfInBounds_toArray, List.set_cons_zero, List.set_cons_succ]
          generalize (World.alloc _ _) = v3 at *
          refine wpAnyH_ready (rs := [5]) (by kernel_rfl) (by simp) (AllReadyH.cons rfl (fun K hK => ?o134_5) AllReadyH.nil)
          case o134_5 =>
            go_simp
            have z54 := AB_zeros35 v3 rfl
            have b4 := b3.alloc b3.size (.cells Tryd.zeroCells35 35)
            have lz54 : W6.heap.size ≤ (v3).heap.size := b3.size
            have ne4 := Nat.ne_of_lt z43.lt
            have z44 := z43.al (.cells Tryd.zeroCells35 35)
            refine hK.out _ _ ⟨rng_bel rA b4 l0, rng_bel rM b4 l1⟩ (fun hHeld => ?_)
            clear hK K
            try simp only [Act.put, List.getElem_toArray, List.getElem_cons_succ, List.getElem_cons_zero, List.setIfInBounds_toArray, List.set_cons_zero, List.set_cons_succ]
            generalize (World.alloc _ _) = v4 at *
            obtain ⟨ga, hga⟩ : ∃ ga, v2.heap.size = ga := ⟨_, rfl⟩
            rw [hga] at z44 ne4 lz43 ⊢
            obtain ⟨gb, hgb⟩ : ∃ gb, v3.heap.size = gb := ⟨_, rfl⟩
            rw [hgb] at z54 ne4 lz54 ⊢
            exact hk.out v4 _ _ ⟨b4, z44, z54, ne4, lz43, lz54⟩
        case o13_5 =>
          go_simp
          have z53 := AB_zeros35 v2 rfl
          have b3 := b2.alloc b2.size (.cells Tryd.zeroCells35 35)
          have lz53 : W6.heap.size ≤ (v2).heap.size := b2.size
          refine hK.out _ _ ⟨rng_bel rA b3 l0, rng_bel rM b3 l1⟩ (fun hHeld => ?_)
          clear hK K
          try simp only [Act.put, List.getElem_toArray, List.getElem_cons_succ, List.getElem_cons_zero, List.setIfInBounds_toArray, List.set_cons_zero, List.set_cons_succ]
          generalize (World.alloc _ _) = v3 at *
          refine wpAnyH_ready (rs := [4]) (by kernel_rfl) (by simp) (AllReadyH.cons rfl (fun K hK => ?o135_4) AllReadyH.nil)
          case o135_4 =>
            go_simp
            have z44 := AB_zeros35 v3 rfl
            have b4 := b3.alloc b3.size (.cells Tryd.zeroCells35 35)
            have lz44 : W6.heap.size ≤ (v3).heap.size := b3.size
            have ne4 := Nat.ne_of_lt z53.lt
            have z54 := z53.al (.cells Tryd.zeroCells35 35)
            refine hK.out _ _ ⟨rng_bel rA b4 l0, rng_bel rM b4 l1⟩ (fun hHeld => ?_)
            clear hK K
            try simp only [Act.put, List.getElem_toArray, List.getElem_cons_succ, List.getElem_cons_zero, List.setIfInBounds_toArray, List.set_cons_zero, List.set_cons_succ]
            generalize (World.alloc _ _) = v4 at *
            exact hk.out v4 _ _ ⟨b4, z44, z54, ne4.symm, lz44, lz53⟩
      case o1_4 =>
        go_simp
        have z42 := AB_zeros35 v1 rfl
        have b2 := b1.alloc b1.size (.cells Tryd.zeroCells35 35)
        have lz42 : W6.heap.size ≤ (v1).heap.size := b1.size
        refine hK.out _ _ ⟨rng_bel rA b2 l0, rng_bel rM b2 l1⟩ (fun hHeld => ?_)
        clear hK K
        try simp only [Act.put, List.getElem_toArray, List.getElem_cons_succ, List.getElem_cons_zero, List.setIfInBounds_toArray, List.set_cons_zero, List.set_cons_succ]
        generalize (World.alloc _ _) = v2 at *
        refine wpAnyH_ready (rs := [3, 5]) (by kernel_rfl) (by simp) (AllReadyH.cons rfl (fun K hK => ?o14_3) (AllReadyH.cons rfl (fun K hK => ?o14_5) AllReadyH.nil))
        case o14_3 =>
          go_simp
          go_at_call 14
          refine (Hdb.out _ b2).mono ?_
          rintro x v3 ⟨rfl, B3⟩
          have b3 := btr (w := W6) b2 B3
          have z43 := z42.bl B3 z42.lt
          refine hK.out _ _ ⟨rng_bel rA b3 l0, rng_bel rM b3 l1⟩ (fun hHeld => ?_)
          clear hK K
          try simp only [Act.put, List.getElem_toArray, List.getElem_cons_succ, List.getElem_cons_zero, List.setIfInBounds_toArray, List.set_cons_zero, List.set_cons_succ]
          refine wpAnyH_ready (rs := [5]) (by kernel_rfl) (by simp) (AllReadyH.cons rfl (fun K hK => ?o143_5) AllReadyH.nil)
          case o143_5 =>
            go_simp
            have z54 := AB_zeros35 v3 rfl
            have b4 := b3.alloc b3.size (.cells Tryd.zeroCells35 35)
            have lz54 : W6.heap.size ≤ (v3).heap.size := b3.size
            have ne4 := Nat.ne_of_lt z43.lt
            have z44 := z43.al (.cells Tryd.zeroCells35 35)
            refine hK.out _ _ ⟨rng_bel rA b4 l0, rng_bel rM b4 l1⟩ (fun hHeld => ?_)
            clear hK K
            try simp only [Act.put, List.getElem_toArray, List.getElem_cons_succ, List.getElem_cons_zero, List.setIfInBounds_toArray, List.set_cons_zero, List.set_cons_succ]
            generalize (World.alloc _ _) = v4 at *
            exact hk.out v4 _ _ ⟨b4, z44, z54, ne4, lz42, lz54⟩
        case o14_5 =>
          go_simp
          have z53 := AB_zeros35 v2 rfl
          have b3 := b2.alloc b2.size (.cells Tryd.zeroCells35 35)
          have lz53 : W6.heap.size ≤ (v2).heap.size := b2.size
          have ne3 := Nat.ne_of_lt z42.lt
          have z43 := z42.al (.cells Tryd.zeroCells35 35)
          refine hK.out _ _ ⟨rng_bel rA b3 l0, rng_bel rM b3 l1⟩ (fun hHeld => ?_)
          clear hK K
          try simp only [Act.put, List.getElem_toArray, List.getElem_cons_succ, List.getElem_cons_zero, List.setIfInBounds_toArray, List.set_cons_zero, List.set_cons_succ]
          generalize (World.alloc _ _) = v3 at *
          refine wpAnyH_ready (rs := [3]) (by kernel_rfl) (by simp) (AllReadyH.cons rfl (fun K hK => ?o145_3) AllReadyH.nil)
          case o145_3 =>
            go_simp
            go_at_call 14
            refine (Hdb.out _ b3).mono ?_
            rintro x v4 ⟨rfl, B4⟩
            have b4 := btr (w := W6) b3 B4
            have z44 := z43.bl B4 z43.lt
            have z54 := z53.bl B4 z53.lt
            refine hK.out _ _ ⟨rng_bel rA b4 l0, rng_bel rM b4 l1⟩ (fun hHeld => ?_)
            clear hK K
            try simp only [Act.put, List.getElem_toArray, List.getElem_cons_succ, List.getElem_cons_zero, List.setIfInBounds_toArray, List.set_cons_zero, List.set_cons_succ]
            exact hk.out v4 _ _ ⟨b4, z44, z54, ne3, lz42, lz53⟩
      case o1_5 =>
        go_simp
        have z52 := AB_zeros35 v1 rfl
        have b2 := b1.alloc b1.size (.cells Tryd.zeroCells35 35)
        have lz52 : W6.heap.size ≤ (v1).heap.size := b1.size
        refine hK.out _ _ ⟨rng_bel rA b2 l0, rng_bel rM b2 l1⟩ (fun hHeld => ?_)
        clear hK K
        try simp only [Act.put, List.getElem_toArray, List.getElem_cons_succ, List.getElem_cons_zero, List.setIfInBounds_toArray, List.set_cons_zero, List.set_cons_succ]
        generalize (World.alloc _ _) = v2 at *
        refine wpAnyH_ready (rs := [3, 4]) (by kernel_rfl) (by simp) (AllReadyH.cons rfl (fun K hK => ?o15_3) (AllReadyH.cons rfl (fun K hK => ?o15_4) AllReadyH.nil))
        case o15_3 =>
          go_simp
          go_at_call 14
          refine (Hdb.out _ b2).mono ?_
          rintro x v3 ⟨rfl, B3⟩
          have b3 := btr (w := W6) b2 B3
          have z53 := z52.bl B3 z52.lt
          refine hK.out _ _ ⟨rng_bel rA b3 l0, rng_bel rM b3 l1⟩ (fun hHeld => ?_)
          clear hK K
          try simp only [Act.put, List.getElem_toArray, List.getElem_cons_succ, List.getElem_cons_zero, List.setIfInBounds_toArray, List.set_cons_zero, List.set_cons_succ]
          refine wpAnyH_ready (rs := [4]) (by kernel_rfl) (by simp) (AllReadyH.cons rfl (fun K hK => ?o153_4) AllReadyH.nil)
          case o153_4 =>
            go_simp
            have z44 := AB_zeros35 v3 rfl
            have b4 := b3.alloc b3.size (.cells Tryd.zeroCells35 35)
            have lz44 : W6.heap.size ≤ (v3).heap.size := b3.size
            have ne4 := Nat.ne_of_lt z53.lt
            have z54 := z53.al (.cells Tryd.zeroCells35 35)
            refine hK.out _ _ ⟨rng_bel rA b4 l0, rng_bel rM b4 l1⟩ (fun hHeld => ?_)
            clear hK K
            try simp only [Act.put, List.getElem_toArray, List.getElem_cons_succ, List.getElem_cons_zero, List.setIfInBounds_toArray, List.set_cons_zero, List.set_cons_succ]
            generalize (World.alloc _ _) = v4 at *
            exact hk.out v4 _ _ ⟨b4, z44, z54, ne4.symm, lz44, lz52⟩
        case o15_4 =>
          go_simp
          have z43 := AB_zeros35 v2 rfl
          have b3 := b2.alloc b2.size (.cells Tryd.zeroCells35 35)
          have lz43 : W6.heap.size ≤ (v2).heap.size := b2.size
          have ne3 := Nat.ne_of_lt z52.lt
          have z53 := z52.al (.cells Tryd.zeroCells35 35)
          refine hK.out _ _ ⟨rng_bel rA b3 l0, rng_bel rM b3 l1⟩ (fun hHeld => ?_)
          clear hK K
          try simp only [Act.put, List.getElem_toArray, List.getElem_cons_succ, List.getElem_cons_zero, List.setIfInBounds_toArray, List.set_cons_zero, List.set_cons_succ]
          generalize (World.alloc _ _) = v3 at *
          refine wpAnyH_ready (rs := [3]) (by kernel_rfl) (by simp) (AllReadyH.cons rfl (fun K hK => ?o154_3) AllReadyH.nil)
          case o154_3 =>
            go_simp
            go_at_call 14
            refine (Hdb.out _ b3).mono ?_
            rintro x v4 ⟨rfl, B4⟩
            have b4 := btr (w := W6) b3 B4
            have z44 := z43.bl B4 z43.lt
            have z54 := z53.bl B4 z53.lt
            refine hK.out _ _ ⟨rng_bel rA b4 l0, rng_bel rM b4 l1⟩ (fun hHeld => ?_)
            clear hK K
            try simp only [Act.put, List.getElem_toArray, List.getElem_cons_succ, List.getElem_cons_zero, List.setIfInBounds_toArray, List.set_cons_zero, List.set_cons_succ]
            exact hk.out v4 _ _ ⟨b4, z44, z54, ne3.symm, lz43, lz52⟩
    case o_4 =>
      go_simp
      have z41 := AB_zeros35 W6 rfl
      have b1 := b0.alloc b0.size (.cells Tryd.zeroCells35 35)
      have lz41 : W6.heap.size ≤ (W6).heap.size := b0.size
      refine hK.out _ _ ⟨rng_bel rA b1 l0, rng_bel rM b1 l1⟩ (fun hHeld => ?_)
      clear hK K
      try simp only [Act.put, List.getElem_toArray, List.getElem_cons_succ, List.getElem_cons_zero, List.setIfInBounds_toArray, List.set_cons_zero, List.set_cons_succ]
      generalize (World.alloc _ _) = v1 at *
      refine wpAnyH_ready (rs := [1, 5]) (by kernel_rfl) (by simp) (AllReadyH.cons rfl (fun K hK => ?o4_1) (AllReadyH.cons rfl (fun K hK => ?o4_5) AllReadyH.nil))
      case o4_1 =>
        go_simp
        go_at_call 14
        refine (Hda.out _ b1).mono ?_
        rintro x v2 ⟨rfl, B2⟩
        have b2 := btr (w := W6) b1 B2
        have z42 := z41.bl B2 z41.lt
        refine hK.out _ _ ⟨rng_bel rA b2 l0, rng_bel rM b2 l1⟩ (fun hHeld => ?_)
        clear hK K
        try simp only [Act.put, List.getElem_toArray, List.getElem_cons_succ, List.getElem_cons_zero, List.setIfInBounds_toArray, List.set_cons_zero, List.set_cons_succ]
        refine wpAnyH_ready (rs := [3, 5]) (by kernel_rfl) (by simp) (AllReadyH.cons rfl (fun K hK => ?o41_3) (AllReadyH.cons rfl (fun K hK => ?o41_5) AllReadyH.nil))
        case o41_3 =>
          go_simp
          go_at_call 14
          refine (Hdb.out _ b2).mono ?_
          rintro x v3 ⟨rfl, B3⟩
          have b3 := btr (w := W6) b2 B3
          have z43 := z42.bl B3 z42.lt
          refine hK.out _ _ ⟨rng_bel rA b3 l0, rng_bel rM b3 l1⟩ (fun hHeld => ?_)
          clear hK K
          try simp only [Act.put, List.getElem_toArray, List.getElem_cons_succ, List.getElem_cons_zero, List.setIfInBounds_toArray, List.set_cons_zero, List.set_cons_succ]
          refine wpAnyH_ready (rs := [5]) (by kernel_rfl) (by simp) (AllReadyH.cons rfl (fun K hK => ?o413_5) AllReadyH.nil)
          case o413_5 =>
            go_simp
            have z54 := AB_zeros35 v3 rfl
            have b4 := b3.alloc b3.size (.cells Tryd.zeroCells35 35)
            have lz54 : W6.heap.size ≤ (v3).heap.size := b3.size
            have ne4 := Nat.ne_of_lt z43.lt
            have z44 := z43.al (.cells Tryd.zeroCells35 35)
            refine hK.out _ _ ⟨rng_bel rA b4 l0, rng_bel rM b4 l1⟩ (fun hHeld => ?_)
            clear hK K
            try simp only [Act.put, List.getElem_toArray, List.getElem_cons_succ, List.getElem_cons_zero, List.setIfInBounds_toArray, List.set_cons_zero, List.set_cons_succ]
            generalize (World.alloc _ _) = v4 at *
            exact hk.out v4 _ _ ⟨b4, z44, z54, ne4, lz41, lz54⟩
        case o41_5 =>
          go_simp
          have z53 := AB_zeros35 v2 rfl
          have b3 := b2.alloc b2.size (.cells Tryd.zeroCells35 35)
          have lz53 : W6.heap.size ≤ (v2).heap.size := b2.size
          have ne3 := Nat.ne_of_lt z42.lt
          have z43 := z42.al (.cells Tryd.zeroCells35 35)
          refine hK.out _ _ ⟨rng_bel rA b3 l0, rng_bel rM b3 l1⟩ (fun hHeld => ?_)
          clear hK K
          try simp only [Act.put, List.getElem_toArray, List.getElem_cons_succ, List.getElem_cons_zero, List.setIfInBounds_toArray, List.set_cons_zero, List.set_cons_succ]
          generalize (World.alloc _ _) = v3 at *
          refine wpAnyH_ready (rs := [3]) (by kernel_rfl) (by simp) (AllReadyH.cons rfl (fun K hK => ?o415_3) AllReadyH.nil)
          case o415_3 =>
            go_simp
            go_at_call 14
            refine (Hdb.out _ b3).mono ?_
            rintro x v4 ⟨rfl, B4⟩
            have b4 := btr (w := W6) b3 B4
            have z44 := z43.bl B4 z43.lt
            have z54 := z53.bl B4 z53.lt
            refine hK.out _ _ ⟨rng_bel rA b4 l0, rng_bel rM b4 l1⟩ (fun hHeld => ?_)
            clear hK K
            try simp only [Act.put, List.getElem_toArray, List.getElem_cons_succ, List.getElem_cons_zero, List.setIfInBounds_toArray, List.set_cons_zero, List.set_cons_succ]
            exact hk.out v4 _ _ ⟨b4, z44, z54, ne3, lz41, lz53⟩
      case o4_5 =>
        go_simp
        have z52 := AB_zeros35 v1 rfl
        have b2 := b1.alloc b1.size (.cells Tryd.zeroCells35 35)
        have lz52 : W6.heap.size ≤ (v1).heap.size := b1.size
        have ne2 := Nat.ne_of_lt z41.lt
        have z42 := z41.al (.cells Tryd.zeroCells35 35)
        refine hK.out _ _ ⟨rng_bel rA b2 l0, rng_bel rM b2 l1⟩ (fun hHeld => ?_)
        clear hK K
        try simp only [Act.put, List.getElem_toArray, List.getElem_cons_succ, List.getElem_cons_zero, List.setIfInBounds_toArray, List.set_cons_zero, List.set_cons_succ]
        generalize (World.alloc _ _) = v2 at *
        refine wpAnyH_ready (rs := [1]) (by kernel_rfl) (by simp) (AllReadyH.cons rfl (fun K hK => ?o45_1) AllReadyH.nil)
        case o45_1 =>
          go_simp
          go_at_call 14
          refine (Hda.out _ b2).mono ?_
          rintro x v3 ⟨rfl, B3⟩
          have b3 := btr (w := W6) b2 B3
          have z43 := z42.bl B3 z42.lt
          have z53 := z52.bl B3 z52.lt
          refine hK.out _ _ ⟨rng_bel rA b3 l0, rng_bel rM b3 l1⟩ (fun hHeld => ?_)
          clear hK K
          try simp only [Act.put, List.getElem_toArray, List.getElem_cons_succ, List.getElem_cons_zero, List.setIfInBounds_toArray, List.set_cons_zero, List.set_cons_succ]
          refine wpAnyH_ready (rs := [3]) (by kernel_rfl) (by simp) (AllReadyH.cons rfl (fun K hK => ?o451_3) AllReadyH.nil)
          case o451_3 =>
            go_simp
            go_at_call 14
            refine (Hdb.out _ b3).mono ?_
            rintro x v4 ⟨rfl, B4⟩
            have b4 := btr (w := W6) b3 B4
            have z44 := z43.bl B4 z43.lt
            have z54 := z53.bl B4 z53.lt
            refine hK.out _ _ ⟨rng_bel rA b4 l0, rng_bel rM b4 l1⟩ (fun hHeld => ?_)
            clear hK K
            try simp only [Act.put, List.getElem_toArray, List.getElem_cons_succ, List.getElem_cons_zero, List.setIfInBounds_toArray, List.set_cons_zero, List.set_cons_succ]
            exact hk.out v4 _ _ ⟨b4, z44, z54, ne2, lz41, lz52⟩
    case o_5 =>
      go_simp
      have z51 := AB_zeros35 W6 rfl
      have b1 := b0.alloc b0.size (.cells Tryd.zeroCells35 35)
      have lz51 : W6.heap.size ≤ (W6).heap.size := b0.size
      refine hK.out _ _ ⟨rng_bel rA b1 l0, rng_bel rM b1 l1⟩ (fun hHeld => ?_)
      clear hK K
      try simp only [Act.put, List.getElem_toArray, List.getElem_cons_succ, List.getElem_cons_zero, List.setIfInBounds_toArray, List.set_cons_zero, List.set_cons_succ]
      generalize (World.alloc _ _) = v1 at *
      refine wpAnyH_ready (rs := [1, 4]) (by kernel_rfl) (by simp) (AllReadyH.cons rfl (fun K hK => ?o5_1) (AllReadyH.cons rfl (fun K hK => ?o5_4) AllReadyH.nil))
      case o5_1 =>
        go_simp
        go_at_call 14
        refine (Hda.out _ b1).mono ?_
        rintro x v2 ⟨rfl, B2⟩
        have b2 := btr (w := W6) b1 B2
        have z52 := z51.bl B2 z51.lt
        refine hK.out _ _ ⟨rng_bel rA b2 l0, rng_bel rM b2 l1⟩ (fun hHeld => ?_)
        clear hK K
        try simp only [Act.put, List.getElem_toArray, List.getElem_cons_succ, List.getElem_cons_zero, List.setIfInBounds_toArray, List.set_cons_zero, List.set_cons_succ]
        refine wpAnyH_ready (rs := [3, 4]) (by kernel_rfl) (by simp) (AllReadyH.cons rfl (fun K hK => ?o51_3) (AllReadyH.cons rfl (fun K hK => ?o51_4) AllReadyH.nil))
        case o51_3 =>
          go_simp
          go_at_call 14
          refine (Hdb.out _ b2).mono ?_
          rintro x v3 ⟨rfl, B3⟩
          have b3 := btr (w := W6) b2 B3
          have z53 := z52.bl B3 z52.lt
          refine hK.out _ _ ⟨rng_bel rA b3 l0, rng_bel rM b3 l1⟩ (fun hHeld => ?_)
          clear hK K
          try simp only [Act.put, List.getElem_toArray, List.getElem_cons_succ, List.getElem_cons_zero, List.setIfInBounds_toArray, List.set_cons_zero, List.set_cons_succ]
          refine wpAnyH_ready (rs := [4]) (by kernel_rfl) (by simp) (AllReadyH.cons rfl (fun K hK => ?o513_4) AllReadyH.nil)
          case o513_4 =>
            go_simp
            have z44 := AB_zeros35 v3 rfl
            have b4 := b3.alloc b3.size (.cells Tryd.zeroCells35 35)
            have lz44 : W6.heap.size ≤ (v3).heap.size := b3.size
            have ne4 := Nat.ne_of_lt z53.lt
            have z54 := z53.al (.cells Tryd.zeroCells35 35)
            refine hK.out _ _ ⟨rng_bel rA b4 l0, rng_bel rM b4 l1⟩ (fun hHeld => ?_)
            clear hK K
            try simp only [Act.put, List.getElem_toArray, List.getElem_cons_succ, List.getElem_cons_zero, List.setIfInBounds_toArray, List.set_cons_zero, List.set_cons_succ]
            generalize (World.alloc _ _) = v4 at *
            exact hk.out v4 _ _ ⟨b4, z44, z54, ne4.symm, lz44, lz51⟩
        case o51_4 =>
          go_simp
          have z43 := AB_zeros35 v2 rfl
          have b3 := b2.alloc b2.size (.cells Tryd.zeroCells35 35)
          have lz43 : W6.heap.size ≤ (v2).heap.size := b2.size
          have ne3 := Nat.ne_of_lt z52.lt
          have z53 := z52.al (.cells Tryd.zeroCells35 35)
          refine hK.out _ _ ⟨rng_bel rA b3 l0, rng_bel rM b3 l1⟩ (fun hHeld => ?_)
          clear hK K
          try simp only [Act.put, List.getElem_toArray, List.getElem_cons_succ, List.getElem_cons_zero, List.setIfInBounds_toArray, List.set_cons_zero, List.set_cons_succ]
          generalize (World.alloc _ _) = v3 at *
          refine wpAnyH_ready (rs := [3]) (by kernel_rfl) (by simp) (AllReadyH.cons rfl (fun K hK => ?o514_3) AllReadyH.nil)
          case o514_3 =>
            go_simp
            go_at_call 14
            refine (Hdb.out _ b3).mono ?_
            rintro x v4 ⟨rfl, B4⟩
            have b4 := btr (w := W6) b3 B4
            have z44 := z43.bl B4 z43.lt
            have z54 := z53.bl B4 z53.lt
            refine hK.out _ _ ⟨rng_bel rA b4 l0, rng_bel rM b4 l1⟩ (fun hHeld => ?_)
            clear hK K
            try simp only [Act.put, List.getElem_toArray, List.getElem_cons_succ, List.getElem_cons_zero, List.setIfInBounds_toArray, List.set_cons_zero, List.set_cons_succ]
            exact hk.out v4 _ _ ⟨b4, z44, z54, ne3.symm, lz43, lz51⟩
      case o5_4 =>
        go_simp
        have z42 := AB_zeros35 v1 rfl
        have b2 := b1.alloc b1.size (.cells Tryd.zeroCells35 35)
        have lz42 : W6.heap.size ≤ (v1).heap.size := b1.size
        have ne2 := Nat.ne_of_lt z51.lt
        have z52 := z51.al (.cells Tryd.zeroCells35 35)
        refine hK.out _ _ ⟨rng_bel rA b2 l0, rng_bel rM b2 l1⟩ (fun hHeld => ?_)
        clear hK K
        try simp only [Act.put, List.getElem_toArray, List.getElem_cons_succ, List.getElem_cons_zero, List.setIfInBounds_toArray, List.set_cons_zero, List.set_cons_succ]
        generalize (World.alloc _ _) = v2 at *
        refine wpAnyH_ready (rs := [1]) (by kernel_rfl) (by simp) (AllReadyH.cons rfl (fun K hK => ?o54_1) AllReadyH.nil)
        case o54_1 =>
          go_simp
          go_at_call 14
          refine (Hda.out _ b2).mono ?_
          rintro x v3 ⟨rfl, B3⟩
          have b3 := btr (w := W6) b2 B3
          have z43 := z42.bl B3 z42.lt
          have z53 := z52.bl B3 z52.lt
          refine hK.out _ _ ⟨rng_bel rA b3 l0, rng_bel rM b3 l1⟩ (fun hHeld => ?_)
          clear hK K
          try simp only [Act.put, List.getElem_toArray, List.getElem_cons_succ, List.getElem_cons_zero, List.setIfInBounds_toArray, List.set_cons_zero, List.set_cons_succ]
          refine wpAnyH_ready (rs := [3]) (by kernel_rfl) (by simp) (AllReadyH.cons rfl (fun K hK => ?o541_3) AllReadyH.nil)
          case o541_3 =>
            go_simp
            go_at_call 14
            refine (Hdb.out _ b3).mono ?_
            rintro x v4 ⟨rfl, B4⟩
            have b4 := btr (w := W6) b3 B4
            have z44 := z43.bl B4 z43.lt
            have z54 := z53.bl B4 z53.lt
            refine hK.out _ _ ⟨rng_bel rA b4 l0, rng_bel rM b4 l1⟩ (fun hHeld => ?_)
            clear hK K
            try simp only [Act.put, List.getElem_toArray, List.getElem_cons_succ, List.getElem_cons_zero, List.setIfInBounds_toArray, List.set_cons_zero, List.set_cons_succ]
            exact hk.out v4 _ _ ⟨b4, z44, z54, ne2.symm, lz42, lz51⟩
  case rest1 =>
    intro w6 g h hF
    have ne := hF.ne
    refine wpAnyH_ready (rs := [6]) (by kernel_rfl) (by simp) (AllReadyH.cons rfl (fun K hK => ?_) AllReadyH.nil)
    refine S_storeA rfl _ _ _ rfl rfl rfl hF.a k76 (by simp) hkl ?_
    intro v1 hg1 gr1
    have b1 := hF.bl.grown gr1 hF.bl.size (fun k hk => by cases hk; exact hF.la)
    have hh1 := hF.b.grown gr1 (by simpa using ne.symm)
    refine hK.out _ _ ⟨rng_bel rA b1 l0, rng_bel rM b1 l1⟩ (fun hHeld => ?_)
    clear hK K
    try simp only [Act.put, List.getElem_toArray, List.getElem_cons_succ, List.getElem_cons_zero]
    refine wpAnyH_ready (rs := [7]) (by kernel_rfl) (by simp) (AllReadyH.cons rfl (fun K hK => ?_) AllReadyH.nil)
    refine S_storeA rfl _ _ _ rfl rfl rfl hh1 k76 (by simp) hjl ?_
    intro w7 hh2 gr2
    have b2 := b1.grown gr2 b1.size (fun k hk => by cases hk; exact hF.lb)
    have hg2 := hg1.grown gr2 (by simpa using ne)
    refine hK.out _ _ ⟨rng_bel rA b2 l0, rng_bel rM b2 l1⟩ (fun hHeld => ?_)
    clear hK K
    try simp only [Act.put, List.getElem_toArray, List.getElem_cons_succ, List.getElem_cons_zero]
    refine wpAnyH_done (by kernel_rfl) ?_ _
    try simp only [Act.put, List.getElem_toArray, List.getElem_cons_succ, List.getElem_cons_zero]
    have hG : TWG W6.heap.size W6 w7 g h D J := ⟨b2, hg2, hh2⟩
    clear b1 b2 hg1 hg2 hh1 hh2 gr1 gr2 hF
    have b7 : Below W5.heap.size W5 w7 := by have h7 := hG.bl; rw [← hW6] at h7; exact below_undrew h7
    have HB7 := Lib.hid (HB5.out.trans (b7.mono HB5.out.size))
    have HP7 := Lib.hid (RS.below HP5.out b7 (Nat.le_refl _))
    have HR7 := Lib.hid (RS.below HR5.out b7 (Nat.le_refl _))
    have HT7 := Lib.hid (RS.below HTo.out b7 (Nat.le_refl _))
    have HKG7 := Lib.hid (KG.below HKG5.out b7)
    have lg := hG.a.lt
    have lh := hG.b.lt
    have rG := hG.a.rng
    have HG := Lib.hid hG.a
    have HH := Lib.hid hG.b
    obtain ⟨nn1, cl1, m1, S1, hc1⟩ := CPR_ex ka kb kc (bytesLong 0 to8 [] 4 (P.length + 16) pn) P 4 pn
    obtain ⟨nn2, cl2, m2, S2, hc2⟩ := CPR_ex ja jb jc (bytesLong 1 to8 to8 4 (R.length + 16) pn) R 4 pn
    have hs1 := hc1.len
    have hs2 := hc2.len
    have hr1 : readS (S1 ++ S2) = (0, (⟨true, 0, to8, []⟩ : Hd), (bytesLong 0 to8 [] 4 (P.length + 16) pn).length - 4, S1.length) := long_read (behind := S2) hc1 (by decide) (by decide) (by decide) (by decide) (by decide) (by omega) (by omega)
    have hr2 : readS (S2 ++ []) = (0, (⟨true, 1, to8, to8⟩ : Hd), (bytesLong 1 to8 to8 4 (R.length + 16) pn).length - 4, S2.length) := long_read (behind := []) hc2 (by decide) (by decide) (by decide) (by decide) (by decide) (by omega) (by omega)
    have hb1 := long_bits 0 to8 [] 4 (P.length + 16) pn (by decide) (by decide) (by decide)
    have hb2 := long_bits 1 to8 to8 4 (R.length + 16) pn (by decide) (by decide) (by decide)
    have hl1 := bytesLong_len 0 to8 [] 4 (P.length + 16) pn
    have hl2 := bytesLong_len 1 to8 to8 4 (R.length + 16) pn
    rw [show lenL 0 to8 [] = 18 by decide] at hl1
    rw [show lenL 1 to8 to8 = 25 by decide] at hl2
    have hg := grow_cut (acked := pn) (pn := pn) (S := 4) (by decide) (by decide) (Nat.le_refl _) (by rw [Nat.sub_self]; exact Nat.zero_le _) (by omega)
    have ho1 := hc1.opr (behind := S2) (largest := pn) (some := true) (by decide) (by decide) (by omega) (by omega) hb1.1 hr1 (by rw [long_cut]; exact hg)
    have ho2 := hc2.opr (behind := []) (largest := pn) (some := true) (by decide) (by decide) (by omega) (by omega) hb2.1 hr2 (by rw [long_cut]; exact hg)
    have q1 : restN ((bytesLong 0 to8 [] 4 (P.length + 16) pn ++ cl1).getD 0 0).toNat = 0 := by
      rw [List.getD_eq_getElem?_getD, List.getElem?_append_left (by omega), ← List.getD_eq_getElem?_getD]; exact hb1.2
    have q2 : restN ((bytesLong 1 to8 to8 4 (R.length + 16) pn ++ cl2).getD 0 0).toNat = 0 := by
      rw [List.getD_eq_getElem?_getD, List.getElem?_append_left (by omega), ← List.getD_eq_getElem?_getD]; exact hb2.2
    have Hcl1 := Lib.hid (fun (w' : World) (a0 : Option Addr) (c0 : Nat) (h : BS w' a0 P.length c0 P) (ht : BS w' (some ⟨gt, 0, none⟩) 8 8 to8) (hk : KG w') => pclose_any w' (S := 4) (pn := pn) (l := true) (lv := 0) (ph := false) (ta := some ⟨gt, 0, none⟩) (tn := 8) (tc := 8) (fa := none) (fn := 0) (fc := 0) hkal hkbl hkcl h (by omega) (by omega) (by decide) (by decide) (by omega) (by omega) (by omega)
      (fun w'' hb => hby_long w'' 0 (by decide) pn 4 (P.length + 16) (by omega) (by decide) (by decide) (by omega) (by decide) (by decide) (RS.below ht hb (Nat.le_refl _)) (show BS w'' none 0 0 [] from RS_nil w'' 1) (hk.below hb)) hc1)
    have Hcl2 := Lib.hid (fun (w' : World) (a0 : Option Addr) (c0 : Nat) (h : BS w' a0 R.length c0 R) (ht : BS w' (some ⟨gt, 0, none⟩) 8 8 to8) (hk : KG w') => pclose_any w' (S := 4) (pn := pn) (l := true) (lv := 1) (ph := false) (ta := some ⟨gt, 0, none⟩) (tn := 8) (tc := 8) (fa := some ⟨gt, 0, none⟩) (fn := 8) (fc := 8) hjal hjbl hjcl h (by omega) (by omega) (by decide) (by decide) (by omega) (by omega) (by omega)
      (fun w'' hb => hby_long w'' 1 (by decide) pn 4 (R.length + 16) (by omega) (by decide) (by decide) (by omega) (by decide) (by decide) (RS.below ht hb (Nat.le_refl _)) (RS.below ht hb (Nat.le_refl _)) (hk.below hb)) hc2)
    have Hop1 := Lib.hid (fun (v : World) (a : Option Addr) (n c : Nat) (hn : n ≤ 1073741824) (h : BS v a n c (S1 ++ S2)) (hk : KG v) => popen_back v (by omega) hkal hkbl hkcl h hk hn ho1 q1)
    have Hop2 := Lib.hid (fun (v : World) (a : Option Addr) (n c : Nat) (hn : n ≤ 1073741824) (h : BS v a n c S2) (hk : KG v) => popen_back v (by omega) hjal hjbl hjcl (by rw [List.append_nil]; exact h) hk hn ho2 q2)
    clear hc1 hc2 hr1 hr2 hb1 hb2 ho1 ho2 q1 q2 hg
    rw [HDe.out] at Hcl1 Hop1
    rw [HJe.out] at Hcl2 Hop2
    rw [hPl] at Hcl1 Hop1 hs1
    rw [hRl] at Hcl2 Hop2 hs2
    obtain ⟨PH1, hPH1⟩ : ∃ b, phS true (bytesLong 0 to8 [] 4 (N + 16) pn ++ cl1) = b := ⟨_, rfl⟩
    obtain ⟨PH2, hPH2⟩ : ∃ b, phS true (bytesLong 1 to8 to8 4 (M + 16) pn ++ cl2) = b := ⟨_, rfl⟩
    dsimp only at Hop1 Hop2
    rw [List.length_nil] at Hop2
    rw [hPH1] at Hop1
    rw [hPH2] at Hop2
    obtain ⟨r1, hr1⟩ : ∃ r, S1.length = r := ⟨_, rfl⟩
    obtain ⟨r2, hr2⟩ : ∃ r, S2.length = r := ⟨_, rfl⟩
    rw [hPl] at hl1
    rw [hRl] at hl2
    have hr1u : r1 ≤ 1000 := by omega
    have hr2u : r2 ≤ 1000 := by omega
    have hiD := Lib.hid (show (Tryd.prog.info? 35).map (·.size) = some (D.map B).length by rw [List.length_map, hkl]; exact k76)
    have hiJ := Lib.hid (show (Tryd.prog.info? 35).map (·.size) = some (J.map B).length by rw [List.length_map, hjl]; exact k76)
    rw [hr1] at Hcl1
    rw [hr2] at Hcl2 Hop1
    clear hl1 hl2 hs1 hs2 hPH1 hPH2 hG b7 rA rM b0 Hda Hdb hia hib Hia Hib hHeld hu32 HWs HB5 HP5 HR5 HTo HKG5 HKT5
    go_upto_region 7 with (first
      | (refine wpList_load_mid rfl _ _ rfl _ _ rfl (D.map B) _ rG Tryd.underlying35 rfl hiD.out ?_)
      | (go_at_call 25; refine (Hcl1.out _ _ _ HP7.out HT7.out HKG7.out).mono ?_; rintro x w8 ⟨a8, c8, rfl, o8, B8⟩))
    have hH8 := HH.out.bl B8 lh
    have rH8 := hH8.rng
    have HH8 := Lib.hid hH8
    have HG8 := Lib.hid (HG.out.bl B8 lg)
    have HP8 := Lib.hid (RS.below HP7.out B8 (Nat.le_refl _))
    have HR8 := Lib.hid (RS.below HR7.out B8 (Nat.le_refl _))
    have HT8 := Lib.hid (RS.below HT7.out B8 (Nat.le_refl _))
    have HB8 := Lib.hid B8
    have HO8 := Lib.hid o8
    have HKG8 := Lib.hid (KG.below HKG7.out B8)
    clear hH8 rG B8 o8 Hcl1 HT7
    go_upto_region 8 with (first
      | (refine wpList_load_mid rfl _ _ rfl _ _ rfl (J.map B) _ rH8 Tryd.underlying35 rfl hiJ.out ?_)
      | (go_at_call 25; refine (Hcl2.out _ _ _ HR8.out HT8.out HKG8.out).mono ?_; rintro x w9 ⟨a9, c9, rfl, o9, B9⟩))
    have z8 := HB8.out.size
    have b79 := HB8.out.trans (B9.mono z8)
    have ho8 := HO8.out.below B9 (Nat.le_refl _)
    have hKG9 := KG.below HKG8.out B9
    have HP9 := Lib.hid (RS.below HP8.out B9 (Nat.le_refl _))
    have HR9 := Lib.hid (RS.below HR8.out B9 (Nat.le_refl _))
    have hG9 := HG8.out.bl B9 (Nat.lt_of_lt_of_le lg z8)
    have hH9 := HH8.out.bl B9 (Nat.lt_of_lt_of_le lh z8)
    have Hne := Lib.hid (OW.lateNe HO8.out o9 (Nat.le_refl _))
    obtain ⟨V, hV⟩ : ∃ V, w9.drew = V := ⟨_, rfl⟩
    have bV : Below w7.heap.size w7 V := by rw [← hV]; exact b79.drew
    have hoV : OW V w7.heap.size 5 1 a8 r1 c8 (S1.map B) := by rw [← hV]; exact ho8
    have hpV : OW V w8.heap.size 5 1 a9 r2 c9 (S2.map B) := by rw [← hV]; exact o9
    have hGV : AB V g 35 D := by rw [← hV]; exact hG9
    have hHV : AB V h 35 J := by rw [← hV]; exact hH9
    have hKV : KG V := by rw [← hV]; exact hKG9
    have hPV : BS V a4 N c4 P := by rw [← hV]; exact HP9.out
    have hRV : BS V a5 M c5 R := by rw [← hV]; exact HR9.out
    have HOV := Lib.hid hoV
    have HPV := Lib.hid hpV
    have HGV := Lib.hid hGV
    have HHV := Lib.hid hHV
    have HKV := Lib.hid hKV
    have HP := Lib.hid hPV
    have HR := Lib.hid hRV
    have HBV := Lib.hid bV
    have hu76 := Tryd.underlying35
    have hiD' := hiD.out
    have rGV := hGV.rng
    clear z8 b79 ho8 hKG9 HP9 HR9 hG9 hH9 bV hoV hpV hGV hHV hKV hPV hRV o9 B9 rH8 HH8 HG8 HP8 HR8 HT8 HB8 HO8 HKG8 Hcl2
    go_upto_region 10 with (fail)
    refine wp_region_held_drew (S := fun w' => w'.rangeAt g 0 (D.map B)) (by kernel_rfl) (by rw [hV]; exact rGV) (fun hHeld => ?_)
    rw [hV] at hHeld ⊢
    refine wpAnyH_take (i := 0) rfl (by kernel_rfl) (by kernel_rfl) (by kernel_rfl) (fun _ _ _ h => h) (yieldsIf_load_mid (by rfl) _ _ rfl _ _ rfl _ _ (fun w h => h) hu76 rfl hiD') hHeld ?_
    try simp only [Act.put, List.getElem_toArray, List.getElem_cons_zero, List.setIfInBounds_toArray, List.set_cons_zero, List.set_cons_succ]
    refine wpAnyH_take (i := 1) (v := .slice a8 r1 c8) rfl (by kernel_rfl) (by kernel_rfl) (by kernel_rfl) (fun _ _ _ h => h) (Or.inl ⟨by rfl, fun w h => by go_simp⟩) hHeld ?_
    try simp only [Act.put, List.getElem_toArray, List.getElem_cons_succ, List.getElem_cons_zero, List.setIfInBounds_toArray, List.set_cons_zero, List.set_cons_succ]
    refine wpAnyH_take (i := 2) (v := .slice a9 r2 c9) rfl (by kernel_rfl) (by kernel_rfl) (by kernel_rfl) (fun _ _ _ h => h) (Or.inl ⟨by rfl, fun w h => by go_simp⟩) hHeld ?_
    try simp only [Act.put, List.getElem_toArray, List.getElem_cons_succ, List.getElem_cons_zero, List.setIfInBounds_toArray, List.set_cons_zero, List.set_cons_succ]
    refine wpAnyH_take (i := 4) (v := .int .u64 (pn : Int)) rfl (by kernel_rfl) (by kernel_rfl) (by kernel_rfl) (fun _ _ _ h => h) (Or.inl ⟨by rfl, fun w h => by go_simp⟩) hHeld ?_
    try simp only [Act.put, List.getElem_toArray, List.getElem_cons_succ, List.getElem_cons_zero, List.setIfInBounds_toArray, List.set_cons_zero, List.set_cons_succ]
    refine (fun (hk : Hid (∀ (w : World) (gh : Nat) (ta : Option Addr) (tn tc : Nat) (fa : Option Addr) (fn fc : Nat) (a10 : Option Addr) (c10 : Nat) (a13 : Option Addr) (c13 : Nat) (a14 : Option Addr) (c14 : Nat), TWI w7.heap.size w7 w gh a9 r2 c9 S2 a13 N c13 P a14 c14 g D → (?P3 : World → Nat → Option Addr → Nat → Nat → Option Addr → Nat → Nat → Option Addr → Nat → Option Addr → Nat → Option Addr → Nat → Prop) w gh ta tn tc fa fn fc a10 c10 a13 c13 a14 c14)) => ?main3) (Lib.hid ?rest3)
    case main3 =>
      refine wpAnyH_ready (rs := [3, 12]) (by kernel_rfl) (by simp) (AllReadyH.cons rfl (fun K hK => ?oa) (AllReadyH.cons rfl (fun K hK => ?ob) AllReadyH.nil))
      case oa =>
        refine S_append tB HOV.out HPV.out.rs _ _ rfl rfl rfl rfl (by omega) (by unfold maxLen; omega) HBV.out.size ?_
        intro a10 c10 v1 o10 g10
        have b1 := below_own HBV.out HOV.out g10 (Nat.le_refl _) HBV.out.size
        have p1 := HPV.out.grown g10 Hne.out
        have gG1 := HGV.out.grown g10 (OW.oldNe HOV.out lg)
        have bs10 : BS v1 a10 (r1 + r2) c10 (S1 ++ S2) := by unfold BS; rw [List.map_append]; exact o10.rs
        refine hK.out _ _ gG1.rng (fun hHeld => ?_)
        clear hK K
        try simp only [Act.put, List.getElem_toArray, List.getElem_cons_succ, List.getElem_cons_zero, List.setIfInBounds_toArray, List.set_cons_zero, List.set_cons_succ]
        refine wpAnyH_ready (rs := [5, 12]) (by kernel_rfl) (by simp) (AllReadyH.cons rfl (fun K hK => ?oa1) (AllReadyH.cons rfl (fun K hK => ?oa2) AllReadyH.nil))
        case oa1 =>
          go_simp
          go_at_call 19
          refine (Hop1.out v1 _ _ _ (by omega) bs10 (KG.below HKG7.out b1)).mono ?_
          rintro x v2 ⟨ta, tn, tc, fa, fn, fc, a13, c13, a14, c14, rfl, -, -, h13, h14, B2⟩
          have b2 := b1.trans (B2.mono b1.size)
          have gG2 := gG1.bl B2 gG1.lt
          refine hK.out _ _ gG2.rng (fun hHeld => ?_)
          clear hK K
          try simp only [Act.put, List.getElem_toArray, List.getElem_cons_succ, List.getElem_cons_zero, List.setIfInBounds_toArray, List.set_cons_zero, List.set_cons_succ]
          refine wpAnyH_take (i := 6) (v := .tuple #[.agg #[.bool true, .int .i64 0, .bool PH1, .slice ta tn tc, .slice fa fn fc], .int .u64 (pn : Int), .slice a13 N c13, .slice a14 r2 c14, .int .i64 0]) rfl (by kernel_rfl) (by kernel_rfl) (by kernel_rfl) (fun _ _ _ h => h) (Or.inl ⟨by rfl, fun w h => by go_simp⟩) hHeld ?_
          try simp only [Act.put, List.getElem_toArray, List.getElem_cons_succ, List.getElem_cons_zero, List.setIfInBounds_toArray, List.set_cons_zero, List.set_cons_succ]
          refine wpAnyH_take (i := 7) (v := .agg #[.bool true, .int .i64 0, .bool PH1, .slice ta tn tc, .slice fa fn fc]) rfl (by kernel_rfl) (by kernel_rfl) (by kernel_rfl) (fun _ _ _ h => h) (Or.inl ⟨by rfl, fun w h => by go_simp⟩) hHeld ?_
          try simp only [Act.put, List.getElem_toArray, List.getElem_cons_succ, List.getElem_cons_zero, List.setIfInBounds_toArray, List.set_cons_zero, List.set_cons_succ]
          refine wpAnyH_take (i := 8) (v := .int .u64 (pn : Int)) rfl (by kernel_rfl) (by kernel_rfl) (by kernel_rfl) (fun _ _ _ h => h) (Or.inl ⟨by rfl, fun w h => by go_simp⟩) hHeld ?_
          try simp only [Act.put, List.getElem_toArray, List.getElem_cons_succ, List.getElem_cons_zero, List.setIfInBounds_toArray, List.set_cons_zero, List.set_cons_succ]
          refine wpAnyH_take (i := 9) (v := .slice a13 N c13) rfl (by kernel_rfl) (by kernel_rfl) (by kernel_rfl) (fun _ _ _ h => h) (Or.inl ⟨by rfl, fun w h => by go_simp⟩) hHeld ?_
          try simp only [Act.put, List.getElem_toArray, List.getElem_cons_succ, List.getElem_cons_zero, List.setIfInBounds_toArray, List.set_cons_zero, List.set_cons_succ]
          refine wpAnyH_take (i := 10) (v := .slice a14 r2 c14) rfl (by kernel_rfl) (by kernel_rfl) (by kernel_rfl) (fun _ _ _ h => h) (Or.inl ⟨by rfl, fun w h => by go_simp⟩) hHeld ?_
          try simp only [Act.put, List.getElem_toArray, List.getElem_cons_succ, List.getElem_cons_zero, List.setIfInBounds_toArray, List.set_cons_zero, List.set_cons_succ]
          refine wpAnyH_take (i := 11) (v := .int .i64 0) rfl (by kernel_rfl) (by kernel_rfl) (by kernel_rfl) (fun _ _ _ h => h) (Or.inl ⟨by rfl, fun w h => by go_simp⟩) hHeld ?_
          try simp only [Act.put, List.getElem_toArray, List.getElem_cons_succ, List.getElem_cons_zero, List.setIfInBounds_toArray, List.set_cons_zero, List.set_cons_succ]
          refine wpAnyH_ready (rs := [12]) (by kernel_rfl) (by simp) (AllReadyH.cons rfl (fun K hK => ?_) AllReadyH.nil)
          go_simp
          have hO := HB_new v2
          have b3 := b2.alloc b2.size (.cells #[.bool false, .int .i64 0, .bool false, .slice none 0 0, .slice none 0 0] 43)
          have lgh : w7.heap.size ≤ v2.heap.size := b2.size
          have gG3 := gG2.al (.cells #[.bool false, .int .i64 0, .bool false, .slice none 0 0, .slice none 0 0] 43)
          have p3 := RS.alloc (RS.below p1.rs B2 (Nat.le_refl _)) (.cells #[.bool false, .int .i64 0, .bool false, .slice none 0 0, .slice none 0 0] 43)
          have h13a := RS.alloc h13 (.cells #[.bool false, .int .i64 0, .bool false, .slice none 0 0, .slice none 0 0] 43)
          have h14a := RS.alloc h14 (.cells #[.bool false, .int .i64 0, .bool false, .slice none 0 0, .slice none 0 0] 43)
          refine hK.out _ _ gG3.rng (fun hHeld => ?_)
          clear hK K
          try simp only [Act.put, List.getElem_toArray, List.getElem_cons_succ, List.getElem_cons_zero, List.setIfInBounds_toArray, List.set_cons_zero, List.set_cons_succ]
          generalize (World.alloc _ _) = v3 at *
          obtain ⟨gh, hgh⟩ : ∃ gh, v2.heap.size = gh := ⟨_, rfl⟩
          rw [hgh] at hO lgh ⊢
          exact hk.out _ gh ta tn tc fa fn fc a10 c10 a13 c13 a14 c14 ⟨b3, hO, p3, h13a, h14a, lgh, gG3⟩
        case oa2 =>
          go_simp
          have hO := HB_new v1
          have b2 := b1.alloc b1.size (.cells #[.bool false, .int .i64 0, .bool false, .slice none 0 0, .slice none 0 0] 43)
          have lgh : w7.heap.size ≤ v1.heap.size := b1.size
          have gG2 := gG1.al (.cells #[.bool false, .int .i64 0, .bool false, .slice none 0 0, .slice none 0 0] 43)
          have p2 := RS.alloc p1.rs (.cells #[.bool false, .int .i64 0, .bool false, .slice none 0 0, .slice none 0 0] 43)
          have bs11 := RS.alloc bs10 (.cells #[.bool false, .int .i64 0, .bool false, .slice none 0 0, .slice none 0 0] 43)
          refine hK.out _ _ gG2.rng (fun hHeld => ?_)
          clear hK K
          try simp only [Act.put, List.getElem_toArray, List.getElem_cons_succ, List.getElem_cons_zero, List.setIfInBounds_toArray, List.set_cons_zero, List.set_cons_succ]
          generalize (World.alloc _ _) = v2 at *
          obtain ⟨gh, hgh⟩ : ∃ gh, v1.heap.size = gh := ⟨_, rfl⟩
          rw [hgh] at hO lgh ⊢
          clear bs10
          have bs10 := bs11
          refine wpAnyH_ready (rs := [5]) (by kernel_rfl) (by simp) (AllReadyH.cons rfl (fun K hK => ?_) AllReadyH.nil)
          go_simp
          go_at_call 19
          refine (Hop1.out v2 _ _ _ (by omega) bs10 (KG.below HKG7.out b2)).mono ?_
          rintro x v3 ⟨ta, tn, tc, fa, fn, fc, a13, c13, a14, c14, rfl, -, -, h13, h14, B2⟩
          have b3 := b2.trans (B2.mono b2.size)
          have gG3 := gG2.bl B2 gG2.lt
          have hO3 := hO.grown (grown_of_below (row := none) B2) (by simp)
          have p3 := RS.below p2 B2 (Nat.le_refl _)
          refine hK.out _ _ gG3.rng (fun hHeld => ?_)
          clear hK K
          try simp only [Act.put, List.getElem_toArray, List.getElem_cons_succ, List.getElem_cons_zero, List.setIfInBounds_toArray, List.set_cons_zero, List.set_cons_succ]
          refine wpAnyH_take (i := 6) (v := .tuple #[.agg #[.bool true, .int .i64 0, .bool PH1, .slice ta tn tc, .slice fa fn fc], .int .u64 (pn : Int), .slice a13 N c13, .slice a14 r2 c14, .int .i64 0]) rfl (by kernel_rfl) (by kernel_rfl) (by kernel_rfl) (fun _ _ _ h => h) (Or.inl ⟨by rfl, fun w h => by go_simp⟩) hHeld ?_
          try simp only [Act.put, List.getElem_toArray, List.getElem_cons_succ, List.getElem_cons_zero, List.setIfInBounds_toArray, List.set_cons_zero, List.set_cons_succ]
          refine wpAnyH_take (i := 7) (v := .agg #[.bool true, .int .i64 0, .bool PH1, .slice ta tn tc, .slice fa fn fc]) rfl (by kernel_rfl) (by kernel_rfl) (by kernel_rfl) (fun _ _ _ h => h) (Or.inl ⟨by rfl, fun w h => by go_simp⟩) hHeld ?_
          try simp only [Act.put, List.getElem_toArray, List.getElem_cons_succ, List.getElem_cons_zero, List.setIfInBounds_toArray, List.set_cons_zero, List.set_cons_succ]
          refine wpAnyH_take (i := 8) (v := .int .u64 (pn : Int)) rfl (by kernel_rfl) (by kernel_rfl) (by kernel_rfl) (fun _ _ _ h => h) (Or.inl ⟨by rfl, fun w h => by go_simp⟩) hHeld ?_
          try simp only [Act.put, List.getElem_toArray, List.getElem_cons_succ, List.getElem_cons_zero, List.setIfInBounds_toArray, List.set_cons_zero, List.set_cons_succ]
          refine wpAnyH_take (i := 9) (v := .slice a13 N c13) rfl (by kernel_rfl) (by kernel_rfl) (by kernel_rfl) (fun _ _ _ h => h) (Or.inl ⟨by rfl, fun w h => by go_simp⟩) hHeld ?_
          try simp only [Act.put, List.getElem_toArray, List.getElem_cons_succ, List.getElem_cons_zero, List.setIfInBounds_toArray, List.set_cons_zero, List.set_cons_succ]
          refine wpAnyH_take (i := 10) (v := .slice a14 r2 c14) rfl (by kernel_rfl) (by kernel_rfl) (by kernel_rfl) (fun _ _ _ h => h) (Or.inl ⟨by rfl, fun w h => by go_simp⟩) hHeld ?_
          try simp only [Act.put, List.getElem_toArray, List.getElem_cons_succ, List.getElem_cons_zero, List.setIfInBounds_toArray, List.set_cons_zero, List.set_cons_succ]
          refine wpAnyH_take (i := 11) (v := .int .i64 0) rfl (by kernel_rfl) (by kernel_rfl) (by kernel_rfl) (fun _ _ _ h => h) (Or.inl ⟨by rfl, fun w h => by go_simp⟩) hHeld ?_
          try simp only [Act.put, List.getElem_toArray, List.getElem_cons_succ, List.getElem_cons_zero, List.setIfInBounds_toArray, List.set_cons_zero, List.set_cons_succ]
          exact hk.out _ gh ta tn tc fa fn fc a10 c10 a13 c13 a14 c14 ⟨b3, hO3, p3, h13, h14, lgh, gG3⟩
      case ob =>
        go_simp
        have hO := HB_new V
        have b1 := HBV.out.alloc HBV.out.size (.cells #[.bool false, .int .i64 0, .bool false, .slice none 0 0, .slice none 0 0] 43)
        have lgh : w7.heap.size ≤ V.heap.size := HBV.out.size
        have gG0 := HGV.out.al (.cells #[.bool false, .int .i64 0, .bool false, .slice none 0 0, .slice none 0 0] 43)
        have ho1 := HOV.out.alloc (.cells #[.bool false, .int .i64 0, .bool false, .slice none 0 0, .slice none 0 0] 43)
        have hp1 := HPV.out.alloc (.cells #[.bool false, .int .i64 0, .bool false, .slice none 0 0, .slice none 0 0] 43)
        have hne := OW.newNe HOV.out (Nat.le_refl V.heap.size)
        refine hK.out _ _ gG0.rng (fun hHeld => ?_)
        clear hK K
        try simp only [Act.put, List.getElem_toArray, List.getElem_cons_succ, List.getElem_cons_zero, List.setIfInBounds_toArray, List.set_cons_zero, List.set_cons_succ]
        generalize (World.alloc _ _) = v1 at *
        obtain ⟨gh, hgh⟩ : ∃ gh, V.heap.size = gh := ⟨_, rfl⟩
        rw [hgh] at hO lgh hne ⊢
        refine wpAnyH_ready (rs := [3]) (by kernel_rfl) (by simp) (AllReadyH.cons rfl (fun K hK => ?_) AllReadyH.nil)
        refine S_append tB ho1 hp1.rs _ _ rfl rfl rfl rfl (by omega) (by unfold maxLen; omega) b1.size ?_
        intro a10 c10 v2 o10 g10
        have b2 := below_own b1 ho1 g10 (Nat.le_refl _) b1.size
        have p1 := hp1.grown g10 Hne.out
        have gG1 := gG0.grown g10 (OW.oldNe ho1 lg)
        have bs10 : BS v2 a10 (r1 + r2) c10 (S1 ++ S2) := by unfold BS; rw [List.map_append]; exact o10.rs
        have hO2 := hO.grown g10 hne
        refine hK.out _ _ gG1.rng (fun hHeld => ?_)
        clear hK K
        try simp only [Act.put, List.getElem_toArray, List.getElem_cons_succ, List.getElem_cons_zero, List.setIfInBounds_toArray, List.set_cons_zero, List.set_cons_succ]
        refine wpAnyH_ready (rs := [5]) (by kernel_rfl) (by simp) (AllReadyH.cons rfl (fun K hK => ?_) AllReadyH.nil)
        go_simp
        go_at_call 19
        refine (Hop1.out v2 _ _ _ (by omega) bs10 (KG.below HKG7.out b2)).mono ?_
        rintro x v3 ⟨ta, tn, tc, fa, fn, fc, a13, c13, a14, c14, rfl, -, -, h13, h14, B2⟩
        have b3 := b2.trans (B2.mono b2.size)
        have gG3 := gG1.bl B2 gG1.lt
        have hO3 := hO2.grown (grown_of_below (row := none) B2) (by simp)
        have p3 := RS.below p1.rs B2 (Nat.le_refl _)
        refine hK.out _ _ gG3.rng (fun hHeld => ?_)
        clear hK K
        try simp only [Act.put, List.getElem_toArray, List.getElem_cons_succ, List.getElem_cons_zero, List.setIfInBounds_toArray, List.set_cons_zero, List.set_cons_succ]
        refine wpAnyH_take (i := 6) (v := .tuple #[.agg #[.bool true, .int .i64 0, .bool PH1, .slice ta tn tc, .slice fa fn fc], .int .u64 (pn : Int), .slice a13 N c13, .slice a14 r2 c14, .int .i64 0]) rfl (by kernel_rfl) (by kernel_rfl) (by kernel_rfl) (fun _ _ _ h => h) (Or.inl ⟨by rfl, fun w h => by go_simp⟩) hHeld ?_
        try simp only [Act.put, List.getElem_toArray, List.getElem_cons_succ, List.getElem_cons_zero, List.setIfInBounds_toArray, List.set_cons_zero, List.set_cons_succ]
        refine wpAnyH_take (i := 7) (v := .agg #[.bool true, .int .i64 0, .bool PH1, .slice ta tn tc, .slice fa fn fc]) rfl (by kernel_rfl) (by kernel_rfl) (by kernel_rfl) (fun _ _ _ h => h) (Or.inl ⟨by rfl, fun w h => by go_simp⟩) hHeld ?_
        try simp only [Act.put, List.getElem_toArray, List.getElem_cons_succ, List.getElem_cons_zero, List.setIfInBounds_toArray, List.set_cons_zero, List.set_cons_succ]
        refine wpAnyH_take (i := 8) (v := .int .u64 (pn : Int)) rfl (by kernel_rfl) (by kernel_rfl) (by kernel_rfl) (fun _ _ _ h => h) (Or.inl ⟨by rfl, fun w h => by go_simp⟩) hHeld ?_
        try simp only [Act.put, List.getElem_toArray, List.getElem_cons_succ, List.getElem_cons_zero, List.setIfInBounds_toArray, List.set_cons_zero, List.set_cons_succ]
        refine wpAnyH_take (i := 9) (v := .slice a13 N c13) rfl (by kernel_rfl) (by kernel_rfl) (by kernel_rfl) (fun _ _ _ h => h) (Or.inl ⟨by rfl, fun w h => by go_simp⟩) hHeld ?_
        try simp only [Act.put, List.getElem_toArray, List.getElem_cons_succ, List.getElem_cons_zero, List.setIfInBounds_toArray, List.set_cons_zero, List.set_cons_succ]
        refine wpAnyH_take (i := 10) (v := .slice a14 r2 c14) rfl (by kernel_rfl) (by kernel_rfl) (by kernel_rfl) (fun _ _ _ h => h) (Or.inl ⟨by rfl, fun w h => by go_simp⟩) hHeld ?_
        try simp only [Act.put, List.getElem_toArray, List.getElem_cons_succ, List.getElem_cons_zero, List.setIfInBounds_toArray, List.set_cons_zero, List.set_cons_succ]
        refine wpAnyH_take (i := 11) (v := .int .i64 0) rfl (by kernel_rfl) (by kernel_rfl) (by kernel_rfl) (fun _ _ _ h => h) (Or.inl ⟨by rfl, fun w h => by go_simp⟩) hHeld ?_
        try simp only [Act.put, List.getElem_toArray, List.getElem_cons_succ, List.getElem_cons_zero, List.setIfInBounds_toArray, List.set_cons_zero, List.set_cons_succ]
        exact hk.out _ gh ta tn tc fa fn fc a10 c10 a13 c13 a14 c14 ⟨b3, hO3, p3, h13, h14, lgh, gG3⟩
    case rest3 =>
      intro v gh ta tn tc fa fn fc a10 c10 a13 c13 a14 c14 hI
      have hHeld := hI.gd.rng
      refine wpAnyH_ready (rs := [13]) (by kernel_rfl) (by simp) (AllReadyH.cons rfl (fun K hK => ?_) AllReadyH.nil)
      refine S_storeH rfl _ _ rfl rfl rfl rfl rfl hI.hb ?_
      intro v2 hH2 gr2
      have gG4 := hI.gd.grown gr2 (by have := hI.lg; simp; omega)
      refine hK.out _ _ gG4.rng (fun hHeld => ?_)
      clear hK K
      try simp only [Act.put, List.getElem_toArray, List.getElem_cons_succ, List.getElem_cons_zero]
      refine wpAnyH_take (i := 14) (v := .int .u64 (pn : Int)) rfl (by kernel_rfl) (by kernel_rfl) (by kernel_rfl) (fun _ _ _ h => h) (Or.inl ⟨by rfl, fun w h => by go_simp⟩) hHeld ?_
      try simp only [Act.put, List.getElem_toArray, List.getElem_cons_succ, List.getElem_cons_zero, List.setIfInBounds_toArray, List.set_cons_zero, List.set_cons_succ]
      refine wpAnyH_take (i := 15) (v := .slice a13 N c13) rfl (by kernel_rfl) (by kernel_rfl) (by kernel_rfl) (fun _ _ _ h => h) (Or.inl ⟨by rfl, fun w h => by go_simp⟩) hHeld ?_
      try simp only [Act.put, List.getElem_toArray, List.getElem_cons_succ, List.getElem_cons_zero, List.setIfInBounds_toArray, List.set_cons_zero, List.set_cons_succ]
      refine wpAnyH_take (i := 16) (v := .slice a14 r2 c14) rfl (by kernel_rfl) (by kernel_rfl) (by kernel_rfl) (fun _ _ _ h => h) (Or.inl ⟨by rfl, fun w h => by go_simp⟩) hHeld ?_
      try simp only [Act.put, List.getElem_toArray, List.getElem_cons_succ, List.getElem_cons_zero, List.setIfInBounds_toArray, List.set_cons_zero, List.set_cons_succ]
      refine wpAnyH_take (i := 17) (v := .int .i64 0) rfl (by kernel_rfl) (by kernel_rfl) (by kernel_rfl) (fun _ _ _ h => h) (Or.inl ⟨by rfl, fun w h => by go_simp⟩) hHeld ?_
      try simp only [Act.put, List.getElem_toArray, List.getElem_cons_succ, List.getElem_cons_zero, List.setIfInBounds_toArray, List.set_cons_zero, List.set_cons_succ]
      refine wpAnyH_done (by kernel_rfl) ?_ _
      try simp only [Act.put, List.getElem_toArray, List.getElem_cons_succ, List.getElem_cons_zero]
      have b4 : Below w7.heap.size w7 v2 := hI.bl.grown gr2 hI.bl.size (fun k hk => by cases hk; exact hI.lg)
      have h13 := hI.h13.grownHB hI.hb gr2
      have h14 := hI.h14.grownHB hI.hb gr2
      have h9 := hI.hd.grownHB hI.hb gr2
      have hJ4 := HH.out.bl b4 lh
      have rJ := hJ4.rng
      have lJ := hJ4.lt
      have HKG4 := Lib.hid (KG.below HKG7.out b4)
      have hsm1 := same_any v2 h13 (RS.below HP7.out b4 (Nat.le_refl _))
      have hsm2 := same_any v2 h14 h9
      rw [beq_self_eq_true] at hsm1 hsm2
      have Hs1 := Lib.hid hsm1
      have Hs2 := Lib.hid hsm2
      have H14 := Lib.hid h14
      have HR4 := Lib.hid (RS.below HR7.out b4 (Nat.le_refl _))
      have HB4 := Lib.hid (HB7.out.trans (b4.mono HB7.out.size))
      have c0 := hH2.cells
      clear b4 h13 h14 h9 hJ4 hsm1 hsm2 gG4 gr2 hI hH2 HP HR HOV HPV HGV HHV HKV HBV Hop1 Hne hHeld HP7 HR7 HB7 HKG7 HG HH
      go_upto_region 13 with (first
        | (go_at_call 15; (with_reducible refine Hs1.out.mono ?_); rintro x w13 ⟨rfl, rfl⟩)
        | (go_at_call 15; (with_reducible refine Hs2.out.mono ?_); rintro x w13 ⟨rfl, rfl⟩))
      go_upto_region 14 with (first
        | (refine wpList_load_mid rfl _ _ rfl _ _ rfl (J.map B) _ rJ Tryd.underlying35 rfl hiJ.out ?_)
        | (go_at_call 19; refine (Hop2.out _ _ _ _ (by omega) H14.out HKG4.out).mono ?_; rintro x w15 ⟨ta2, tn2, tc2, fa2, fn2, fc2, a15, c15, a16, c16, rfl, -, -, h15, h16, B15⟩; have hO15 := HB_new w15)
        | (refine L_storeH rfl _ _ rfl rfl rfl rfl rfl hO15 ?_; intro w16 hH16 gr16))
      have z15 := B15.size
      have b16 := (B15.alloc z15 (.cells #[.bool false, .int .i64 0, .bool false, .slice none 0 0, .slice none 0 0] 43)).grown gr16 (by simp; omega) (fun k hk => by cases hk; exact z15)
      have h15' := BS.grownHB (RS.alloc h15 (.cells #[.bool false, .int .i64 0, .bool false, .slice none 0 0, .slice none 0 0] 43)) hO15 gr16
      have hsm3 := same_any w16 h15' (RS.below HR4.out b16 (Nat.le_refl _))
      rw [beq_self_eq_true] at hsm3
      have Hs3 := Lib.hid hsm3
      have HBf := Lib.hid (HB4.out.trans (b16.mono HB4.out.size))
      have c1 := hH16.cells
      clear b16 h15' hsm3 hH16 gr16 hO15 h15 h16 B15 Hs1 Hs2 HB4 HR4 H14 HKG4 rJ Hop2
      go_wp2_with (go_at_call 15; (with_reducible refine Hs3.out.mono ?_); rintro x w17 ⟨rfl, rfl⟩)
      go_ret
      exact ⟨rfl, HBf.out⟩
end Go.Proofs.YtlncnjcbgfeaoaaDoor
