/- law03.SaltStreams: its walk. -/
import Derived.Test.YtlncnjcbgfeaoaaDU
import Derived.Test.YtlncnjcbgfeaoaaDH
import Derived.Test.YtlncnjcbgfeaoaaE1
import Derived.Test.YtlncnjcbgfeaoaaE4
import Derived.Deep.RegionHeld3
set_option maxRecDepth 100000
set_option linter.unusedVariables false
namespace Go.Proofs.Ytlncnjcbgfeaoaa
open Go.RowKit
set_option maxHeartbeats 8000000 in
theorem saltStreams_walk (W : World) {key nonce sample : List UInt8} {a2 a3 : Int} (hkl : key.length = 32) (hnl : nonce.length = 12) (w2 : (Lit.int .u32 a2).wf = true) (w3 : (Lit.int .i64 a3).wf = true) (hsl : sample.length = 16) :
    Calls Try.prog 8 #[.agg (key.map B).toArray, .agg (nonce.map B).toArray, .int .u32 a2, .int .i64 a3, .agg (sample.map B).toArray] W fun e w' => e = .returned (.bool true) ∧ Below W.heap.size W w' := by
  obtain ⟨g1, g2⟩ := bounds_u32 w2
  obtain ⟨g3, g4⟩ := bounds_i64 w3
  obtain ⟨fr, rfl⟩ := Int.eq_ofNat_of_zero_le g1
  clear w2 w3 g1
  have hfr : fr < 4294967296 := by omega
  obtain ⟨N, hN⟩ : ∃ N : Int, 700 < a3 ∧ a3 ≤ 65536 ∧ N = 700 ∨ a3 ≤ 700 ∧ N = a3 ∨ 65536 < a3 ∧ N = a3 := by
    by_cases h1 : 700 < a3
    · by_cases h2 : a3 ≤ 65536
      · exact ⟨_, .inl ⟨h1, h2, rfl⟩⟩
      · exact ⟨_, .inr (.inr ⟨by omega, rfl⟩)⟩
    · exact ⟨_, .inr (.inl ⟨by omega, rfl⟩)⟩
  obtain ⟨d, M, k, hd⟩ := SR_ex key nonce fr N
  obtain ⟨m, hm⟩ := MSK_ex key sample
  obtain ⟨ds, hds⟩ := ST_ex key (sample.drop 4) (le4 sample)
  have hdm : ds.take 5 = m := by have := (MSK.of hds).h; rw [hm.h] at this; exact this.symm
  have hml := hm.len
  have hz1 : (W.alloc (.cells (key.map B).toArray 22)).heap.size = W.heap.size + 1 := by simp
  have hz2 : ((W.alloc (.cells (key.map B).toArray 22)).alloc (.cells (nonce.map B).toArray 32)).heap.size = W.heap.size + 1 + 1 := by simp
  have hA := ((AB_box W 22 key).al (.cells (nonce.map B).toArray 32)).al (.cells (sample.map B).toArray 27)
  have hM := (AB_box (W.alloc (.cells (key.map B).toArray 22)) 32 nonce).al (.cells (sample.map B).toArray 27)
  have hS := AB_box ((W.alloc (.cells (key.map B).toArray 22)).alloc (.cells (nonce.map B).toArray 32)) 27 sample
  have hbl : Below W.heap.size W _ := ((below_alloc W (.cells (key.map B).toArray 22)).alloc (by simp) (.cells (nonce.map B).toArray 32)).alloc (by simp; omega) (.cells (sample.map B).toArray 27)
  rw [hz1] at hM
  rw [hz2] at hS
  have hi32 := Lib.hid (show (Try.prog.info? 22).map (·.size) = some (key.map B).length by rw [List.length_map, hkl]; kernel_rfl)
  have hi12 := Lib.hid (show (Try.prog.info? 32).map (·.size) = some (nonce.map B).length by rw [List.length_map, hnl]; kernel_rfl)
  have hi16 := Lib.hid (show (Try.prog.info? 27).map (·.size) = some (sample.map B).length by rw [List.length_map, hsl]; kernel_rfl)
  have Hd := Lib.hid hd
  have Hm := Lib.hid hm
  have Hds := Lib.hid hds
  have Hdm := Lib.hid hdm
  clear hz1 hz2 hd hm hds hdm
  go_enter Try.func8, Try.ntmps8
  go_upto_region 1 with (fail)
  generalize (World.alloc _ _) = W1 at *
  have l0 := hA.lt
  have l1 := hM.lt
  have l2 := hS.lt
  have hbs := hbl.size
  go_upto_region 3 with (go_at_call 9; refine (awake03 _).mono ?_; rintro x w2 ⟨rfl, B2⟩)
  have hA2 := hA.bl B2 l0
  have hM2 := hM.bl B2 l1
  have hS2 := hS.bl B2 l2
  have hb2 := hbl.trans (B2.mono hbs)
  have z2 := B2.size
  have rA := hA2.rng
  have rM := hM2.rng
  have Hs1 := Lib.hid (stream_all w2 hkl hnl fr hfr N Hd.out)
  have HA2 := Lib.hid hA2
  have HM2 := Lib.hid hM2
  have HS2 := Lib.hid hS2
  have HB2 := Lib.hid hb2
  clear hA hM hS hbl B2 hA2 hM2 hS2 hb2
  rcases hN with ⟨c1, c2, rfl⟩ | ⟨c1, rfl⟩ | ⟨c1, rfl⟩
  all_goals
    go_upto_region 6 with (first
      | (refine wpList_load_mid rfl _ _ rfl _ _ rfl (key.map B) _ rA Try.underlying22 rfl hi32.out ?_)
      | (refine wpList_load_mid rfl _ _ rfl _ _ rfl (nonce.map B) _ rM Try.underlying32 rfl hi12.out ?_)
      | (go_at_call 19; refine Hs1.out.mono ?_; rintro x w3 ⟨a3', c3', rfl, o3, B3⟩))
    have k0 := Nat.lt_of_lt_of_le l0 z2
    have k1 := Nat.lt_of_lt_of_le l1 z2
    have k2 := Nat.lt_of_lt_of_le l2 z2
    have hA3 := HA2.out.bl B3 k0
    have hM3 := HM2.out.bl B3 k1
    have hS3 := HS2.out.bl B3 k2
    have hb3 := HB2.out.trans (B3.mono HB2.out.size)
    have hkw := hA3.whole (n := 32) hkl (by omega)
    have hnw := hM3.whole (n := 12) hnl (by omega)
    have Hrs := Lib.hid (rstream_all w3.drew (RS.drew hkw) (RS.drew hnw) hkl hnl fr hfr _ Hd.out)
    have HA3 := Lib.hid (show AB w3.drew W.heap.size 22 key from hA3)
    have HM3 := Lib.hid (show AB w3.drew (W.heap.size + 1) 32 nonce from hM3)
    have HS3 := Lib.hid (show AB w3.drew (W.heap.size + 1 + 1) 27 sample from hS3)
    have HB3 := Lib.hid hb3.drew
    have HO3 := Lib.hid (show OW w3.drew w2.heap.size 5 1 a3' M c3' (d.map B) from o3.drew)
    have z3 : w2.heap.size ≤ w3.drew.heap.size := B3.size
    clear hA3 hM3 hS3 hb3 hkw hnw o3 B3 rA rM Hs1 HA2 HM2 HS2 HB2
    go_region_held3 (fun _ => True) (first | exact trivial | go_keep)
      (first
      | (go_at_call 20; (with_reducible refine Hrs.out.mono ?_); rintro x w4 ⟨a4, c4, rfl, o4, B4⟩))
    have j0 := Nat.lt_of_lt_of_le k0 z3
    have j1 := Nat.lt_of_lt_of_le k1 z3
    have j2 := Nat.lt_of_lt_of_le k2 z3
    have hA4 := HA3.out.bl B4 j0
    have hS4 := HS3.out.bl B4 j2
    have hb4 := HB3.out.trans (B4.mono HB3.out.size)
    have hO4 := HO3.out.below B4 (Nat.le_refl _)
    have rA4 := hA4.rng
    have rS4 := hS4.rng
    have z4 := B4.size
    have Hmk := Lib.hid (mask_any w4 hkl hsl Hm.out)
    have HA4 := Lib.hid hA4
    have HS4 := Lib.hid hS4
    have HB4 := Lib.hid hb4
    have HO4 := Lib.hid hO4.rs
    have HR4 := Lib.hid o4.rs
    clear hA4 hS4 hb4 hO4 o4 B4 Hrs HA3 HM3 HS3 HB3 HO3
    go_upto_region 8 with (first
      | (refine wpList_load_mid rfl _ _ rfl _ _ rfl (key.map B) _ rA4 Try.underlying22 rfl hi32.out ?_)
      | (refine wpList_load_mid rfl _ _ rfl _ _ rfl (sample.map B) _ rS4 Try.underlying27 rfl hi16.out ?_)
      | (go_at_call 21; refine Hmk.out.mono ?_; rintro x w5 ⟨rfl, B5⟩)
      | (refine L_storeAB rfl _ _ _ rfl rfl rfl (show AB (w5.alloc _) w5.heap.size 46 z5 from heap_alloc_new w5 _) i5 (by simp [z5]) hml ?_; intro w6 hT6 hg6))
    have z5' := B5.size
    have b6 : Below w4.heap.size w4 w6 := (B5.alloc z5' _).grown hg6 (by simp; omega) (fun k hk => by cases hk; exact z5')
    obtain ⟨gt, hgt⟩ : ∃ gt, w5.heap.size = gt := ⟨_, rfl⟩
    rw [hgt] at hT6 ⊢
    have y0 := Nat.lt_of_lt_of_le j0 z4
    have y2 := Nat.lt_of_lt_of_le j2 z4
    have hkw6 := (HA4.out.bl b6 y0).whole (n := 32) hkl (by omega)
    have hsw6 := (HS4.out.bl b6 y2).whole (n := 16) hsl (by omega)
    have hmw6 := hT6.whole (n := 5) hml (by omega)
    have hb6 := HB4.out.trans (b6.mono HB4.out.size)
    have hsm := same_any w6.drew (RS.drew (RS.below HO4.out b6 (Nat.le_refl _))) (RS.drew (RS.below HR4.out b6 (Nat.le_refl _)))
    rw [beq_self_eq_true] at hsm
    have Hsm := Lib.hid hsm
    have Hrm := Lib.hid (rmask_any w6.drew (RS.drew hkw6) (RS.drew hsw6) hkl hsl Hds.out)
    have HMW := Lib.hid (RS.drew hmw6)
    have HB6 := Lib.hid hb6.drew
    rw [Hdm.out] at Hrm
    clear hkw6 hsw6 hmw6 hb6 hsm b6 hT6 hg6 B5 HA4 HS4 HB4 HO4 HR4 Hmk rA4 rS4
    go_region_held3 (fun _ => True) (first | exact trivial | go_keep)
      (first
      | (go_at_call 22; (with_reducible refine Hrm.out.mono ?_); rintro x w8 ⟨a8, c8, rfl, o8, B8⟩; have hs2 := same_any w8 (RS.below HMW.out B8 (Nat.le_refl _)) o8.rs; rw [beq_self_eq_true] at hs2)
      | (go_at_call 13; (with_reducible refine hs2.mono ?_); rintro x w9 ⟨rfl, rfl⟩)
      | (go_at_call 13; (with_reducible refine Hsm.out.mono ?_); rintro x w7 ⟨rfl, rfl⟩))
    have hb8 := HB6.out.trans (B8.mono HB6.out.size)
    go_wp2
    go_ret
    exact ⟨rfl, hb8⟩
end Go.Proofs.Ytlncnjcbgfeaoaa
