/- salt.Close, salt.Open. -/
import Derived.Test.YtlncnjcbgfeaoaaCG
set_option maxRecDepth 100000
set_option linter.unusedVariables false
namespace Go.Proofs.Ytlncnjcbgfeaoaa
open Go.RowKit
def closeS (key nonce p beside : List UInt8) : List UInt8 := mixS key nonce p ++ markS key nonce (mixS key nonce p) beside
structure CL (key nonce p beside d : List UInt8) : Prop where
  h : closeS key nonce p beside = d
  len : d.length = p.length + 16
theorem markS_len (key nonce p beside : List UInt8) : (markS key nonce p beside).length = 16 := tout_len _ _ _
theorem mixS_len (key nonce p : List UInt8) : (mixS key nonce p).length = p.length := mixJ_len _ _ _
theorem CL_ex (key nonce p beside : List UInt8) : ∃ d, CL key nonce p beside d := ⟨_, rfl, by simp [closeS, markS_len, mixS_len]⟩
/-- what opening answers -/
def openS (key nonce p beside : List UInt8) : List UInt8 × Nat :=
  if p.length < 16 then ([], 2) else
  if markS key nonce (p.take (p.length - 16)) beside == p.drop (p.length - 16) then (mixS key nonce (p.take (p.length - 16)), 0) else ([], 5)
set_option maxHeartbeats 4000000 in
theorem close_any (w : World) {a b : Option Addr} {n c m e : Nat} {key nonce p bs d : List UInt8} (hkl : key.length = 32) (hnl : nonce.length = 12) (hp : BS w a n c p) (hb : BS w b m e bs) (hn : n + m ≤ 549755813888) (hD : CL key nonce p bs d) :
    Calls Try.prog 15 #[.agg (key.map B).toArray, .agg (nonce.map B).toArray, .slice a n c, .slice b m e] w fun x w' => ∃ a' c', x = .returned (.slice a' (n + 16) c') ∧ OW w' w.heap.size 5 1 a' (n + 16) c' (d.map B) ∧ Below w.heap.size w w' := by
  have hz1 : (w.alloc (.cells (key.map B).toArray 22)).heap.size = w.heap.size + 1 := by simp
  have hA := (AB_box w 22 key).al (.cells (nonce.map B).toArray 32)
  have hM := AB_box (w.alloc (.cells (key.map B).toArray 22)) 32 nonce
  have hbl : Below w.heap.size w _ := (below_alloc w (.cells (key.map B).toArray 22)).alloc (by simp) (.cells (nonce.map B).toArray 32)
  have hp1 := (RS.alloc hp (.cells (key.map B).toArray 22)).alloc (.cells (nonce.map B).toArray 32)
  rw [hz1] at hM
  have hpl := BS.len hp
  have hi32 := Lib.hid (show (Try.prog.info? 22).map (·.size) = some (key.map B).length by rw [List.length_map, hkl]; kernel_rfl)
  have hi12 := Lib.hid (show (Try.prog.info? 32).map (·.size) = some (nonce.map B).length by rw [List.length_map, hnl]; kernel_rfl)
  obtain ⟨X, hX⟩ := MX_ex key nonce p
  obtain ⟨T, hT⟩ := MK_ex key nonce X bs
  have hTl := hT.len
  have hres : EB (X ++ T) d := ⟨by
    have h := hD.h
    unfold closeS at h
    rw [hX.h, hT.h] at h
    exact h⟩
  clear hz1
  go_enter Try.func15, Try.ntmps15
  go_upto_region 1 with (fail)
  generalize (World.alloc _ _) = W1 at *
  have l0 := hA.lt
  have l1 := hM.lt
  have hbs := hbl.size
  have rA := hA.rng
  have rM := hM.rng
  have Hmx := Lib.hid (mix_any W1 hkl hnl hp1 (by omega) hX)
  have HA := Lib.hid hA
  have HM := Lib.hid hM
  have HB := Lib.hid hbl
  clear hA hM hbl hX
  go_upto_region 2 with (first
    | (refine wpList_load_mid rfl _ _ rfl _ _ rfl (key.map B) _ rA Try.underlying22 rfl hi32.out ?_)
    | (refine wpList_load_mid rfl _ _ rfl _ _ rfl (nonce.map B) _ rM Try.underlying32 rfl hi12.out ?_)
    | (go_at_call 29; refine Hmx.out.mono ?_; rintro x w2 ⟨a2, c2, rfl, o2, B2⟩))
  have rA2 := (HA.out.bl B2 l0).rng
  have rM2 := (HM.out.bl B2 l1).rng
  have hb2 := HB.out.trans (B2.mono hbs)
  have z2 := B2.size
  have hq2 := RS.below hb hb2 (Nat.le_refl _)
  have Hmk := Lib.hid (mark_any w2 hkl hnl o2.rs hq2 hn hT)
  have O2 := Lib.hid o2
  have HB2 := Lib.hid hb2
  clear hb2 o2 B2 hq2 hT rA rM Hmx HA HM HB
  go_upto_region 3 with (first
    | (refine wpList_load_mid rfl _ _ rfl _ _ rfl (key.map B) _ rA2 Try.underlying22 rfl hi32.out ?_)
    | (refine wpList_load_mid rfl _ _ rfl _ _ rfl (nonce.map B) _ rM2 Try.underlying32 rfl hi12.out ?_)
    | (go_at_call 30; refine Hmk.out.mono ?_; rintro x w3 ⟨rfl, B3⟩)
    | (refine L_storeAB rfl _ _ _ rfl rfl rfl (show AB (w3.alloc _) w3.heap.size 27 z16 from heap_alloc_new w3 _) i16 (by simp [z16]) hTl ?_; intro w4 hT4 hg4))
  have z3 := B3.size
  have b4 : Below w2.heap.size w2 w4 := (B3.alloc z3 _).grown hg4 (by simp; omega) (fun k hk => by cases hk; exact z3)
  have o4 := O2.out.below b4 (Nat.le_refl _)
  have hT5 := hT4.whole (n := 16) hTl (by omega)
  have hb4 := HB2.out.trans (b4.mono HB2.out.size)
  have z4 := b4.size
  have HB4 := Lib.hid hb4
  clear hb4 hT4 b4 hg4 B3 rA2 rM2 Hmk
  go_wp2_with (refine L_append tB o4 hT5 _ _ rfl rfl rfl rfl (by omega) (by unfold maxLen; omega) (by omega) ?_; intro a5 c5 w5 o5 g5)
  have hb5 := HB4.out.grown g5 HB4.out.size (row_le (fun ad ha => Nat.le_trans hbs (o4.base_le ha).1) (Nat.le_refl _))
  rw [← List.map_append, hres.h] at o5
  have O5 := Lib.hid o5
  have HB5 := Lib.hid hb5
  clear o5 hb5 g5
  go_ret
  exact ⟨a5, c5, rfl, O5.out.mono hbs, HB5.out⟩
end Go.Proofs.Ytlncnjcbgfeaoaa
