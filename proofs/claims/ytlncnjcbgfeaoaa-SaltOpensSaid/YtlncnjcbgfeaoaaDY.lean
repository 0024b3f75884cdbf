/- law03.SaltOpens: its walk. -/
import Derived.Test.YtlncnjcbgfeaoaaDU
import Derived.Test.YtlncnjcbgfeaoaaDL
import Derived.Deep.RegionHeld3
set_option maxRecDepth 100000
set_option linter.unusedVariables false
namespace Go.Proofs.Ytlncnjcbgfeaoaa
open Go.RowKit
set_option maxHeartbeats 4000000 in
theorem saltOpens_walk (W : World) {b2 b3 : Option Addr} {n2 c2 n3 c3 : Nat} {key nonce xs ys : List UInt8} (hkl : key.length = 32) (hnl : nonce.length = 12) (hx : BS W b2 n2 c2 xs) (hy : BS W b3 n3 c3 ys) :
    Calls Try.prog 5 #[.agg (key.map B).toArray, .agg (nonce.map B).toArray, .slice b2 n2 c2, .slice b3 n3 c3] W fun e w' => e = .returned (.bool true) ∧ Below W.heap.size W w' := by
  have hz1 : (W.alloc (.cells (key.map B).toArray 22)).heap.size = W.heap.size + 1 := by simp
  have hA := (AB_box W 22 key).al (.cells (nonce.map B).toArray 32)
  have hM := AB_box (W.alloc (.cells (key.map B).toArray 22)) 32 nonce
  have hbl : Below W.heap.size W _ := (below_alloc W (.cells (key.map B).toArray 22)).alloc (by simp) (.cells (nonce.map B).toArray 32)
  have hx1 := (RS.alloc hx (.cells (key.map B).toArray 22)).alloc (.cells (nonce.map B).toArray 32)
  have hy1 := (RS.alloc hy (.cells (key.map B).toArray 22)).alloc (.cells (nonce.map B).toArray 32)
  rw [hz1] at hM
  have hi32 := Lib.hid (show (Try.prog.info? 22).map (·.size) = some (key.map B).length by rw [List.length_map, hkl]; kernel_rfl)
  have hi12 := Lib.hid (show (Try.prog.info? 32).map (·.size) = some (nonce.map B).length by rw [List.length_map, hnl]; kernel_rfl)
  obtain ⟨N, hN⟩ : ∃ N, min n2 300 = N := ⟨_, rfl⟩
  obtain ⟨M, hM2⟩ : ∃ M, min n3 100 = M := ⟨_, rfl⟩
  obtain ⟨P, hP⟩ : ∃ P, xs.take N = P := ⟨_, rfl⟩
  obtain ⟨Q, hQ⟩ : ∃ Q, ys.take M = Q := ⟨_, rfl⟩
  have hxl := BS.len hx
  have hPl : P.length = N := by rw [← hP, List.length_take]; omega
  obtain ⟨d, k, hop⟩ := OPN_ex key nonce P Q
  have Hop := Lib.hid hop
  have Hcut1 := Lib.hid (fun w' (h : BS w' b2 n2 c2 xs) => cutP w' h 300 300 N rfl (by omega) hN hP)
  have Hcut2 := Lib.hid (fun w' (h : BS w' b3 n3 c3 ys) => cutP w' h 100 100 M rfl (by omega) hM2 hQ)
  have hN3 : N ≤ 300 := by omega
  have hM1 : M ≤ 100 := by omega
  clear hz1 hx hy hN hM2 hP hQ hop
  go_enter Try.func5, Try.ntmps5
  go_upto_region 1 with (fail)
  generalize (World.alloc _ _) = W1 at *
  have l0 := hA.lt
  have l1 := hM.lt
  have hbs := hbl.size
  go_upto_region 5 with (first
    | (go_at_call 9; refine (awake03 _).mono ?_; rintro x w2 ⟨rfl, B2⟩)
    | (go_at_call 11; refine (copyP _ o3' (by omega)).mono ?_; rintro x w5 ⟨a5, c5, rfl, o5, B5⟩)
    | (at_builtin; refine L_append tB (o5.alloc _) (RS_one _ _ _ rfl) _ _ rfl rfl rfl rfl (by omega) (by unfold maxLen; omega) (by have := B5.size; simp; omega) ?_; intro a9 c9 w9 o9 g9)
    | (refine L_slice_h tB o9.rs N _ _ rfl rfl _ _ rfl rfl rfl (by omega) ?_; intro hq0)
    | (go_at_call 10; refine (Hcut2.out _ (RS.below (RS.below hy1 B2 (Nat.le_refl _)) B3 (Nat.le_refl _))).mono ?_; rintro x w4 ⟨a4, c4, rfl, o4, B4⟩; have o3' := RS.below o3.rs B4 (Nat.le_refl _))
    | (go_at_call 10; refine (Hcut1.out _ (RS.below hx1 B2 (Nat.le_refl _))).mono ?_; rintro x w3 ⟨a3, c3', rfl, o3, B3⟩))
  have z2 := B2.size
  have b59 : Below w4.heap.size w4 w9 := below_own (B5.alloc B5.size _) (o5.alloc _) g9 (Nat.le_refl _) (by have := B5.size; simp; omega)
  obtain ⟨gq, rfl⟩ : ∃ g, a9 = some ⟨g, 0, none⟩ := by
    rcases o9.shape with ⟨_, h, _⟩ | ⟨g, cur, h1, _⟩
    · omega
    · exact ⟨g, h1⟩
  have hQ9 : QS w9 w4.heap.size gq N c9 P := ⟨o9, hPl⟩
  have b29 := btr (btr B3 B4) b59
  have hA5 := (hA.bl B2 l0).bl b29 (Nat.lt_of_lt_of_le l0 z2)
  have hM5 := (hM.bl B2 l1).bl b29 (Nat.lt_of_lt_of_le l1 z2)
  have hb5 := (hbl.trans (B2.mono hbs)).trans (b29.mono (Nat.le_trans hbs z2))
  have hp5 : BS w9 a3 N c3' P := RS.below o3' b59 (Nat.le_refl _)
  have hq5 : BS w9 a4 M c4 Q := RS.below o4.rs b59 (Nat.le_refl _)
  have rA := hA5.rng
  have rM := hM5.rng
  have k0_ := hA5.lt
  have k1_ := hM5.lt
  have Hopn := Lib.hid (open_any w9 hkl hnl hQ9.bs hq5 (by omega) Hop.out)
  have HA5 := Lib.hid hA5
  have HM5 := Lib.hid hM5
  have HB5 := Lib.hid hb5
  have HP5 := Lib.hid hp5
  have HQ5 := Lib.hid hq5
  have HS9 := Lib.hid hQ9
  clear hA hM hbl hx1 hy1 hA5 hM5 hb5 hp5 hq5 hQ9 b29 b59 o3 o3' o4 o5 o9 g9 hq0 B2 B3 B4 B5 Hcut1 Hcut2
  go_upto_region 6 with (first
    | (refine wpList_load_mid rfl _ _ rfl _ _ rfl (key.map B) _ rA Try.underlying22 rfl hi32.out ?_)
    | (refine wpList_load_mid rfl _ _ rfl _ _ rfl (nonce.map B) _ rM Try.underlying32 rfl hi12.out ?_)
    | (go_at_call 16; refine Hopn.out.mono ?_; rintro x w6 ⟨a6, c6, rfl, o6, B6⟩))
  have hA7 := HA5.out.bl B6 k0_
  have hM7 := HM5.out.bl B6 k1_
  have hkw := hA7.whole (n := 32) hkl (by omega)
  have hnw := hM7.whole (n := 12) hnl (by omega)
  have hp7 := RS.below HP5.out B6 (Nat.le_refl _)
  have hq7 := RS.below HQ5.out B6 (Nat.le_refl _)
  have hs7 : QS w6 w4.heap.size gq N c9 P := ⟨HS9.out.own.below B6 (Nat.le_refl _), hPl⟩
  have hb7 := HB5.out.trans (B6.mono HB5.out.size)
  have Hrc := Lib.hid (ropen_any w6.drew (RS.drew hkw) (RS.drew hnw) (RS.drew hp7) (RS.drew hq7) hkl hnl (by omega) (by omega) Hop.out)
  have HP7 := Lib.hid (RS.drew hp7)
  have HS7 : Hid (QS w6.drew w4.heap.size gq N c9 P) := Lib.hid ⟨hs7.own.drew, hPl⟩
  have HO7 := Lib.hid (RS.drew o6.rs)
  have HB7 := Lib.hid hb7.drew
  clear o6 B6 hA7 hM7 hkw hnw hp7 hq7 hs7 hb7 Hopn rA rM HA5 HM5 HP5 HQ5 HS9 HB5
  go_region_held3 (fun _ => True) (first | exact trivial | go_keep)
    (first
    | (go_at_call 18; (with_reducible refine Hrc.out.mono ?_); rintro x w8 ⟨a8, c8, rfl, o8, B8⟩))
  have hb8 := HB7.out.trans (B8.mono HB7.out.size)
  have hs8 : QS w8 w4.heap.size gq N c9 P := ⟨HS7.out.own.below B8 (Nat.le_refl _), hPl⟩
  have hsm1 := same_any w8 (RS.below HO7.out B8 (Nat.le_refl _)) o8.rs
  have hsm2 := same_any w8 hs8.bs (RS.below HP7.out B8 (Nat.le_refl _))
  rw [beq_self_eq_true] at hsm1 hsm2
  have Hs1 := Lib.hid hsm1
  have Hs2 := Lib.hid hsm2
  have hcell := hs8.cell
  have hroom := hs8.room
  have hsl := runB_hc (some ⟨gq, 0, none⟩) N c9 (N + 1) hroom
  obtain ⟨N1, hN1⟩ : ∃ N1, N + 1 = N1 := ⟨_, rfl⟩
  have hN1i : (N : Int) + 1 = (N1 : Int) := by omega
  rw [hN1] at hsl hroom
  have hNm : (N : Int) < (N1 : Int) := by omega
  have hcmx : c9 ≤ 9223372036854775807 := by have := hs8.own.rs.max; unfold maxLen at this; omega
  clear hsm1 hsm2 hs8 hN1 o8 B8 Hrc HO7 HS7 HP7
  go_wp2_with (first
    | (go_at_call 13; (with_reducible refine Hs1.out.mono ?_); rintro x w9 ⟨rfl, rfl⟩)
    | (go_at_call 13; (with_reducible refine Hs2.out.mono ?_); rintro x w9 ⟨rfl, rfl⟩))
  go_ret
  exact ⟨rfl, hb8⟩
end Go.Proofs.Ytlncnjcbgfeaoaa
