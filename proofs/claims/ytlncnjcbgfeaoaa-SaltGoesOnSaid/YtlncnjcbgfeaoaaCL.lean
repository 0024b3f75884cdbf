/- law03.SaltGoesOn: its walk. -/
import Derived.Test.YtlncnjcbgfeaoaaCK
set_option maxRecDepth 100000
set_option linter.unusedVariables false
namespace Go.Proofs.Ytlncnjcbgfeaoaa
open Go.RowKit
set_option maxHeartbeats 4000000 in
theorem saltGoesOn_walk (W : World) {key nonce : List UInt8} {a2 a3 a4 : Int} (hkl : key.length = 32) (hnl : nonce.length = 12) (w2 : (Lit.int .u32 a2).wf = true) (w3 : (Lit.int .u8 a3).wf = true) (w4 : (Lit.int .u8 a4).wf = true) :
    Calls Try.prog 7 #[.agg (key.map B).toArray, .agg (nonce.map B).toArray, .int .u32 a2, .int .u8 a3, .int .u8 a4] W fun e w' => e = .returned (.bool true) ∧ Below W.heap.size W w' := by
  obtain ⟨g1, g2⟩ := bounds_u32 w2
  obtain ⟨g3, g4⟩ := bounds_u8 w3
  obtain ⟨g5, g6⟩ := bounds_u8 w4
  obtain ⟨fr, rfl⟩ := Int.eq_ofNat_of_zero_le g1
  obtain ⟨sk, rfl⟩ := Int.eq_ofNat_of_zero_le g3
  obtain ⟨n, rfl⟩ := Int.eq_ofNat_of_zero_le g5
  clear w2 w3 w4 g1 g3 g5
  have hfr : fr < 4294967296 := by omega
  have hn : n < 256 := by omega
  obtain ⟨k, hk⟩ : ∃ k, sk % 5 = k := ⟨_, rfl⟩
  have hk5 : k < 5 := by omega
  have hki : (sk : Int) % 5 = (k : Int) := by omega
  obtain ⟨m, hm⟩ : ∃ m, 64 * k = m := ⟨_, rfl⟩
  have hmi : 64 * (k : Int) = (m : Int) := by omega
  obtain ⟨m2, hm2⟩ : ∃ m2, m + n = m2 := ⟨_, rfl⟩
  have hmi2 : (m : Int) + (n : Int) = (m2 : Int) := by omega
  obtain ⟨f2, hf2⟩ : ∃ f2, (fr + k) % 4294967296 = f2 := ⟨_, rfl⟩
  have hf2l : f2 < 4294967296 := by omega
  have hfi : ((fr : Int) + (k : Int)) % 4294967296 = (f2 : Int) := by omega
  have hwf : IntKind.u32.wrap ((fr : Int) + (k : Int)) = (f2 : Int) := by rw [IntKind.wrap_u32']; exact hfi
  obtain ⟨d, hd⟩ := SM_ex key nonce fr m2
  obtain ⟨e, he⟩ := SM_ex key nonce f2 n
  have hde : EB (d.drop m) e := ⟨by
    rw [← hm]
    refine goes_on (key := key) (nonce := nonce) (fr := fr) (n := n) ?_ ?_
    · rw [hm, hm2]; exact hd
    · rw [hf2]; exact he⟩
  have hz1 : (W.alloc (.cells (key.map B).toArray 22)).heap.size = W.heap.size + 1 := by simp
  have hA := (AB_box W 22 key).al (.cells (nonce.map B).toArray 32)
  have hM := AB_box (W.alloc (.cells (key.map B).toArray 22)) 32 nonce
  have hbl : Below W.heap.size W _ := (below_alloc W (.cells (key.map B).toArray 22)).alloc (by simp) (.cells (nonce.map B).toArray 32)
  rw [hz1] at hM
  have hi32 := Lib.hid (show (Try.prog.info? 22).map (·.size) = some (key.map B).length by rw [List.length_map, hkl]; kernel_rfl)
  have hi12 := Lib.hid (show (Try.prog.info? 32).map (·.size) = some (nonce.map B).length by rw [List.length_map, hnl]; kernel_rfl)
  have hm2l : m2 ≤ 65536 := by omega
  have hnl2 : n ≤ 65536 := by omega
  clear hz1 hk hm hm2 hf2
  go_enter Try.func7, Try.ntmps7
  go_upto_region 1 with (fail)
  generalize (World.alloc _ _) = W1 at *
  have l0 := hA.lt
  have l1 := hM.lt
  have hbs := hbl.size
  go_upto_region 4 with (go_at_call 9; refine (awake03 _).mono ?_; rintro x w2 ⟨rfl, B2⟩)
  have hA2 := hA.bl B2 l0
  have hM2 := hM.bl B2 l1
  have hb2 := hbl.trans (B2.mono hbs)
  have rA := hA2.rng
  have rM := hM2.rng
  have z2 := B2.size
  have Hs1 := Lib.hid (stream_any w2 hkl hnl fr hfr m2 hm2l hd)
  have HB2 := Lib.hid hb2
  clear hA hM hbl hb2 B2 hd
  go_upto_region 5 with (first
    | (refine wpList_load_mid rfl _ _ rfl _ _ rfl (key.map B) _ rA Try.underlying22 rfl hi32.out ?_)
    | (refine wpList_load_mid rfl _ _ rfl _ _ rfl (nonce.map B) _ rM Try.underlying32 rfl hi12.out ?_)
    | (go_at_call 19; refine Hs1.out.mono ?_; rintro x w3 ⟨a3, c3, rfl, o3, B3⟩))
  have rA3 := (hA2.bl B3 (Nat.lt_of_lt_of_le l0 z2)).rng
  have rM3 := (hM2.bl B3 (Nat.lt_of_lt_of_le l1 z2)).rng
  have hb3 := HB2.out.trans (B3.mono HB2.out.size)
  have Hs2 := Lib.hid (stream_any w3 hkl hnl f2 hf2l n hnl2 he)
  have O3 := Lib.hid o3.rs
  have HB3 := Lib.hid hb3
  clear hA2 hM2 rA rM B3 hb3 he o3 Hs1 HB2
  go_upto_region 6 with (first
    | (refine wpList_load_mid rfl _ _ rfl _ _ rfl (key.map B) _ rA3 Try.underlying22 rfl hi32.out ?_)
    | (refine wpList_load_mid rfl _ _ rfl _ _ rfl (nonce.map B) _ rM3 Try.underlying32 rfl hi12.out ?_)
    | (go_at_call 19; refine Hs2.out.mono ?_; rintro x w4 ⟨a4, c4, rfl, o4, B4⟩))
  have hb4 := HB3.out.trans (B4.mono HB3.out.size)
  have h3 : BS w4 a3 m2 c3 d := RS.below O3.out B4 (Nat.le_refl _)
  obtain ⟨a5, h5, hsl⟩ := runB_l h3 m (by omega)
  rw [hde.h] at h5
  have hsm := same_any w4 h5 o4.rs
  rw [beq_self_eq_true] at hsm
  have Hsm := Lib.hid hsm
  have HB4 := Lib.hid hb4
  have hmm : (m : Int) ≤ (m2 : Int) := by omega
  clear h5 hsm o4 B4 hb4 h3 rA3 rM3 Hs2
  go_wp2_with (go_at_call 13; refine Hsm.out.mono ?_; rintro x w5 ⟨rfl, rfl⟩)
  go_ret
  exact ⟨rfl, HB4.out⟩
end Go.Proofs.Ytlncnjcbgfeaoaa
