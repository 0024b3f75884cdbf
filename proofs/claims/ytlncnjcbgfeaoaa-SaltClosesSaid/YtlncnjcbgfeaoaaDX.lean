/- law03.SaltCloses: its walk. -/
import Derived.Test.YtlncnjcbgfeaoaaDU
import Derived.Test.YtlncnjcbgfeaoaaDL
import Derived.Deep.RegionHeld3
set_option maxRecDepth 100000
set_option linter.unusedVariables false
namespace Go.Proofs.Ytlncnjcbgfeaoaa
open Go.RowKit
theorem mixS_twice (key nonce p : List UInt8) : mixS key nonce (mixS key nonce p) = p := by
  have hl := mixS_len key nonce p
  apply List.ext_getElem?
  intro i
  rcases Nat.lt_or_ge i p.length with hi | hi
  · have h1 : (mixS key nonce p)[i]? = some (p.getD i 0 ^^^ (strS key nonce 1 ((p.length + 63) / 64)).getD i 0) := by
      unfold mixS
      rw [mixJ_get _ _ _ _ hi, if_pos hi]
    have h2 : (mixS key nonce (mixS key nonce p))[i]? = some ((mixS key nonce p).getD i 0 ^^^ (strS key nonce 1 ((p.length + 63) / 64)).getD i 0) := by
      rw [mixS.eq_1 key nonce (mixS key nonce p), mixJ_get _ _ _ _ (by rw [hl]; exact hi), if_pos (by rw [hl]; exact hi), hl]
    rw [h2, List.getD_eq_getElem?_getD (l := mixS key nonce p), h1, Option.getD_some, UInt8.xor_assoc, UInt8.xor_self, UInt8.xor_zero, List.getD_eq_getElem?_getD, List.getElem?_eq_getElem hi]; rfl
  · rw [List.getElem?_eq_none (by rw [mixS_len, mixS_len]; exact hi), List.getElem?_eq_none hi]
/-- what is closed is opened -/
theorem opened {key nonce p bs d : List UInt8} (hD : CL key nonce p bs d) : OPN key nonce d bs p 0 := by
  have hd := hD.h
  have hl := hD.len
  unfold closeS at hd
  have hml := mixS_len key nonce p
  have htl := markS_len key nonce (mixS key nonce p) bs
  have htw := mixS_twice key nonce p
  obtain ⟨M, hM⟩ : ∃ M, mixS key nonce p = M := ⟨_, rfl⟩
  rw [hM] at hd hml htl htw
  obtain ⟨T, hT⟩ : ∃ T, markS key nonce M bs = T := ⟨_, rfl⟩
  rw [hT] at hd htl
  refine ⟨?_⟩
  unfold openS
  have e1 : d.length - 16 = M.length := by omega
  rw [e1, if_neg (by omega), ← hd, List.take_left, List.drop_left, hT, beq_self_eq_true, if_pos rfl, htw]
set_option maxHeartbeats 4000000 in
theorem saltCloses_walk (W : World) {b2 b3 : Option Addr} {n2 c2 n3 c3 : Nat} {key nonce xs ys : List UInt8} (hkl : key.length = 32) (hnl : nonce.length = 12) (hx : BS W b2 n2 c2 xs) (hy : BS W b3 n3 c3 ys) :
    Calls Try.prog 4 #[.agg (key.map B).toArray, .agg (nonce.map B).toArray, .slice b2 n2 c2, .slice b3 n3 c3] W fun e w' => e = .returned (.bool true) ∧ Below W.heap.size W w' := by
  have hz1 : (W.alloc (.cells (key.map B).toArray 22)).heap.size = W.heap.size + 1 := by simp
  have hA := (AB_box W 22 key).al (.cells (nonce.map B).toArray 32)
  have hM := AB_box (W.alloc (.cells (key.map B).toArray 22)) 32 nonce
  have hbl : Below W.heap.size W _ := (below_alloc W (.cells (key.map B).toArray 22)).alloc (by simp) (.cells (nonce.map B).toArray 32)
  have hx1 := (RS.alloc hx (.cells (key.map B).toArray 22)).alloc (.cells (nonce.map B).toArray 32)
  have hy1 := (RS.alloc hy (.cells (key.map B).toArray 22)).alloc (.cells (nonce.map B).toArray 32)
  rw [hz1] at hM
  have hi32 := Lib.hid (show (Try.prog.info? 22).map (·.size) = some (key.map B).length by rw [List.length_map, hkl]; kernel_rfl)
  have hi12 := Lib.hid (show (Try.prog.info? 32).map (·.size) = some (nonce.map B).length by rw [List.length_map, hnl]; kernel_rfl)
  obtain ⟨N, hN⟩ : ∃ N, min n2 300 = N := ⟨_, rfl⟩
  obtain ⟨M, hM2⟩ : ∃ M, min n3 100 = M := ⟨_, rfl⟩
  obtain ⟨P, hP⟩ : ∃ P, xs.take N = P := ⟨_, rfl⟩
  obtain ⟨Q, hQ⟩ : ∃ Q, ys.take M = Q := ⟨_, rfl⟩
  have hxl := BS.len hx
  have hPl : P.length = N := by rw [← hP, List.length_take]; omega
  obtain ⟨d, hd⟩ := CL_ex key nonce P Q
  have hop := opened hd
  have Hhd := Lib.hid hd
  have Hop := Lib.hid hop
  have Hcut1 := Lib.hid (fun w' (h : BS w' b2 n2 c2 xs) => cutP w' h 300 300 N rfl (by omega) hN hP)
  have Hcut2 := Lib.hid (fun w' (h : BS w' b3 n3 c3 ys) => cutP w' h 100 100 M rfl (by omega) hM2 hQ)
  have hN3 : N ≤ 300 := by omega
  have hM1 : M ≤ 100 := by omega
  clear hz1 hx hy hN hM2 hP hQ hd hop
  go_enter Try.func4, Try.ntmps4
  go_upto_region 1 with (fail)
  generalize (World.alloc _ _) = W1 at *
  have l0 := hA.lt
  have l1 := hM.lt
  have hbs := hbl.size
  go_upto_region 5 with (first
    | (go_at_call 9; refine (awake03 _).mono ?_; rintro x w2 ⟨rfl, B2⟩)
    | (go_at_call 11; refine (copyP _ o3' (by omega)).mono ?_; rintro x w5 ⟨a5, c5, rfl, o5, B5⟩)
    | (go_at_call 10; refine (Hcut2.out _ (RS.below (RS.below hy1 B2 (Nat.le_refl _)) B3 (Nat.le_refl _))).mono ?_; rintro x w4 ⟨a4, c4, rfl, o4, B4⟩; have o3' := RS.below o3.rs B4 (Nat.le_refl _))
    | (go_at_call 10; refine (Hcut1.out _ (RS.below hx1 B2 (Nat.le_refl _))).mono ?_; rintro x w3 ⟨a3, c3', rfl, o3, B3⟩))
  have z2 := B2.size
  have b25 := btr (btr B3 B4) B5
  have hA5 := (hA.bl B2 l0).bl b25 (Nat.lt_of_lt_of_le l0 z2)
  have hM5 := (hM.bl B2 l1).bl b25 (Nat.lt_of_lt_of_le l1 z2)
  have hb5 := (hbl.trans (B2.mono hbs)).trans (b25.mono (Nat.le_trans hbs z2))
  have hp5 : BS w5 a3 N c3' P := RS.below o3' B5 (Nat.le_refl _)
  have hq5 : BS w5 a4 M c4 Q := RS.below o4.rs B5 (Nat.le_refl _)
  have hm5 : BS w5 a5 N c5 P := o5.rs
  have rA := hA5.rng
  have rM := hM5.rng
  have k0_ := hA5.lt
  have k1_ := hM5.lt
  have Hcl := Lib.hid (close_any w5 hkl hnl hm5 hq5 (by omega) Hhd.out)
  have HA5 := Lib.hid hA5
  have HM5 := Lib.hid hM5
  have HB5 := Lib.hid hb5
  have HP5 := Lib.hid hp5
  have HQ5 := Lib.hid hq5
  have Hm5 := Lib.hid hm5
  clear hA hM hbl hx1 hy1 hA5 hM5 hb5 hp5 hq5 hm5 b25 o3 o3' o4 o5 B2 B3 B4 B5 Hcut1 Hcut2
  go_upto_region 6 with (first
    | (refine wpList_load_mid rfl _ _ rfl _ _ rfl (key.map B) _ rA Try.underlying22 rfl hi32.out ?_)
    | (refine wpList_load_mid rfl _ _ rfl _ _ rfl (nonce.map B) _ rM Try.underlying32 rfl hi12.out ?_)
    | (go_at_call 15; refine Hcl.out.mono ?_; rintro x w6 ⟨a6, c6, rfl, o6, B6⟩))
  have rA6 := (HA5.out.bl B6 k0_).rng
  have rM6 := (HM5.out.bl B6 k1_).rng
  have hq6 := RS.below HQ5.out B6 (Nat.le_refl _)
  have z6 := B6.size
  have Hopn := Lib.hid (open_any w6 hkl hnl o6.rs hq6 (by omega) Hop.out)
  have HD6 := Lib.hid o6.rs
  have HB6 := Lib.hid B6
  clear o6 B6 hq6 rA rM Hcl
  go_upto_region 7 with (first
    | (refine wpList_load_mid rfl _ _ rfl _ _ rfl (key.map B) _ rA6 Try.underlying22 rfl hi32.out ?_)
    | (refine wpList_load_mid rfl _ _ rfl _ _ rfl (nonce.map B) _ rM6 Try.underlying32 rfl hi12.out ?_)
    | (go_at_call 16; refine Hopn.out.mono ?_; rintro x w7 ⟨a7, c7, rfl, o7, B7⟩))
  have b57 := btr HB6.out B7
  have hA7 := HA5.out.bl b57 k0_
  have hM7 := HM5.out.bl b57 k1_
  have hkw := hA7.whole (n := 32) hkl (by omega)
  have hnw := hM7.whole (n := 12) hnl (by omega)
  have hp7 := RS.below HP5.out b57 (Nat.le_refl _)
  have hq7 := RS.below HQ5.out b57 (Nat.le_refl _)
  have hm7 := RS.below Hm5.out b57 (Nat.le_refl _)
  have hd7 := RS.below HD6.out B7 (Nat.le_refl _)
  have hb7 := HB5.out.trans (b57.mono HB5.out.size)
  have Hrc := Lib.hid (rclose_any w7.drew (RS.drew hkw) (RS.drew hnw) (RS.drew hp7) (RS.drew hq7) hkl hnl (by omega) (by omega) Hhd.out)
  have HP7 := Lib.hid (RS.drew hp7)
  have HD7 := Lib.hid (RS.drew hd7)
  have HM7 := Lib.hid (RS.drew hm7)
  have o7' : BS w7 a7 N c7 P := by have := o7.rs; rw [hPl] at this; exact this
  have HO7 := Lib.hid (RS.drew o7')
  have HB7 := Lib.hid hb7
  clear o7 o7' B7 b57 hA7 hM7 hkw hnw hp7 hq7 hm7 hd7 hb7 Hopn rA6 rM6 HA5 HM5 HP5 HQ5 Hm5 HD6 HB6 HB5
  go_region_held3 (fun _ => True) (first | exact trivial | go_keep)
    (first
    | (go_at_call 17; (with_reducible refine Hrc.out.mono ?_); rintro x w8 ⟨a8, c8, rfl, o8, B8⟩; have hs1 := same_any w8 (RS.below HD7.out B8 (Nat.le_refl _)) o8.rs; have hs2 := same_any w8 (RS.below HO7.out B8 (Nat.le_refl _)) (RS.below HP7.out B8 (Nat.le_refl _)); have hs3 := same_any w8 (RS.below HM7.out B8 (Nat.le_refl _)) (RS.below HP7.out B8 (Nat.le_refl _)); rw [beq_self_eq_true] at hs1 hs2 hs3)
    | (go_at_call 13; (with_reducible refine hs1.mono ?_); rintro x w9 ⟨rfl, rfl⟩)
    | (go_at_call 13; (with_reducible refine hs2.mono ?_); rintro x w9 ⟨rfl, rfl⟩)
    | (go_at_call 13; (with_reducible refine hs3.mono ?_); rintro x w9 ⟨rfl, rfl⟩))
  have hb8 := HB7.out.drew.trans (B8.mono HB7.out.size)
  go_wp2
  go_ret
  exact ⟨rfl, hb8⟩
end Go.Proofs.Ytlncnjcbgfeaoaa
