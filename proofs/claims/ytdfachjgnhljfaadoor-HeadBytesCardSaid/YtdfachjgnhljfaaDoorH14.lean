/- HeadBytes: the walk, where the bytes are handed out. -/
import Derived.Test.YtdfachjgnhljfaaDoorH13
set_option maxRecDepth 100000
set_option linter.unusedVariables false
namespace Go.Proofs.YtdfachjgnhljfaaDoor
open Go.RowKit
theorem JW.below {w w' : World} {base : Nat} {e : TypeId} {a : Option Addr} {n c : Nat} {vs : List Value} (h : JW w base e a n c vs) (hb : Below w.heap.size w w') : JW w' base e a n c vs :=
  h.keepb fun _ _ hl => hb.block _ hl
theorem BS.setBool {w : World} {a : Option Addr} {n c : Nat} {xs : List UInt8} (h : BS w a n c xs) {b i : Nat} {p : Bool} (hc : w.cell? ⟨b, i, none⟩ = some (.bool p)) (v : Value) : BS (w.setCell ⟨b, i, none⟩ v) a n c xs := by
  refine ⟨h.1, h.2.1, h.2.2.1, h.2.2.2.1, h.2.2.2.2.1, fun ad ha => ⟨(h.2.2.2.2.2 ad ha).1, fun j u hu => ?_⟩⟩
  have hcell := (h.2.2.2.2.2 ad ha).2 j u hu
  rw [World.cell?_setCell_other w _ _ v (fun e => ?_)]
  · exact hcell
  · rw [← e, hc] at hcell
    rw [List.getElem?_map] at hu
    obtain ⟨x, _, rfl⟩ := Option.map_eq_some_iff.1 hu
    cases hcell
set_option maxHeartbeats 4000000 in
theorem headBytes_ok (w : World) (l : Bool) (lv : Int) (ph : Bool) {a b : Option Addr} {n c m k : Nat} {t f : List UInt8} (ht : BS w a n c t) (hf : BS w b m k f) (pn S L : Nat) (hk : KG w)
    {ts fs xs : List UInt8} {N1 M1 NX at_ : Nat} (hts : t.take (min n 30) = ts) (hfs : f.take (min m 30) = fs) (hN1 : min n 30 = N1) (hM1 : min m 30 = M1) (h1 : 1 ≤ S) (h4 : S ≤ 4) (hxl : xs.length = NX) (hNX : NX = at_ + S) (hat : at_ ≤ 60) (hLm : L < 9223372036854775808)
    (hR : L ≤ 2000 → 20 ≤ S + L → readS (xs ++ List.replicate L 0) = (0, ⟨l, lv, ts, fs⟩, at_, at_ + S + L))
    (P34 : ∀ (W : World) (a3 a4 : Option Addr) (c3 c4 : Nat), BS W a3 N1 c3 ts → BS W a4 M1 c4 fs → KG W → Calls Tryd.prog 34 #[.agg #[.bool l, .int .i64 lv, .bool ph, .slice a3 N1 c3, .slice a4 M1 c4], .int .u64 (pn : Int), .int .i64 (S : Int), .int .i64 (L : Int)] W fun e w' => ∃ a' c', e = .returned (.tuple #[.slice a' NX c', .int .i64 0]) ∧ JW w' W.heap.size 5 a' NX c' (xs.map B) ∧ Below W.heap.size W w')
    (P29 : ∀ (W : World) (a3 a4 : Option Addr) (c3 c4 : Nat), BS W a3 N1 c3 ts → BS W a4 M1 c4 fs → Calls Tryd.prog 29 #[.agg #[.bool l, .int .i64 lv, .bool ph, .slice a3 N1 c3, .slice a4 M1 c4], .int .u64 (pn : Int), .int .i64 (S : Int), .int .i64 (L : Int)] W fun e w' => ∃ a' c', e = .returned (.tuple #[.slice a' NX c', .int .i64 0]) ∧ OW w' W.heap.size 5 1 a' NX c' (xs.map B) ∧ Below W.heap.size W w') :
    Calls Tryd.prog 12 #[.agg #[.bool l, .int .i64 lv, .bool ph, .slice a n c, .slice b m k], .int .u64 (pn : Int), .int .i64 (S : Int), .int .i64 (L : Int)] w fun e w' => e = .returned (.bool true) ∧ Below w.heap.size w w' := by
  have HNX := Lib.hid hNX
  have hNXb : NX ≤ 64 := by omega
  clear hNX
  have T := few_any (w.alloc (.cells #[.bool l, .int .i64 lv, .bool ph, .slice a n c, .slice b m k] 40)) l lv ph (ht.alloc _) (hf.alloc _)
  have q0 : HB (w.alloc (.cells #[.bool l, .int .i64 lv, .bool ph, .slice a n c, .slice b m k] 40)) w.heap.size l lv ph (.slice a n c) (.slice b m k) := heap_alloc_new w _
  have q1 := q0.cells
  have HT := Lib.hid T
  clear T
  go_enter Tryd.func12, Tryd.ntmps12
  go_wp2_with (first | (go_at_call 24; refine (awake4 _).mono ?_; rintro e w' ⟨rfl, rfl⟩) | (go_at_call 28; (with_reducible refine HT.out.mono ?_); rintro e w1 ⟨a1, c1, a2, c2, rfl, g1, g2, g3⟩; have q2 : HB w1 w.heap.size l lv ph (.slice a n c) (.slice b m k) := HB.grown q0 (grown_of_below (row := none) g3) (by simp); have z1 := q2.cells; have z2 := q2.fr))
  have F0 := fewed g1 g2 g3 q2
  clear g1 g2 g3 q0 q1 HT
  rw [hts, hfs, hN1, hM1] at F0
  have hN30 : N1 ≤ 30 := by omega
  have hM30 : M1 ≤ 30 := by omega
  clear hts hfs hN1 hM1
  generalize hW : ((((w1.setCell _ _).setCell _ _).setCell _ _).setCell _ _).setCell _ _ = W at F0 ⊢
  clear hW z1 z2 q2
  refine (few_id W l lv ph hN30 hM30 F0.ht F0.hf).mono ?_
  rintro e w2 ⟨a3, c3, a4, c4, rfl, g1, g2, g3⟩
  have G0 : Two w (w2.alloc (.cells #[.bool l, .int .i64 lv, .bool ph, .slice a3 N1 c3, .slice a4 M1 c4] 40)) w.heap.size w2.heap.size l lv ph a1 N1 c1 a2 M1 c2 a3 c3 a4 c4 ts fs :=
    ⟨(F0.hb.grown (grown_of_below (row := none) g3) (by simp)).grown (grown_of_below (row := none) (below_alloc w2 _)) (by simp), heap_alloc_new w2 _, (RS.below F0.ht g3 (Nat.le_refl _)).alloc _, (RS.below F0.hf g3 (Nat.le_refl _)).alloc _, g1.alloc _, g2.alloc _, (below_then F0.bel g3 F0.bel.size).alloc (below_then F0.bel g3 F0.bel.size).size _, (hk.below (below_then F0.bel g3 F0.bel.size)).below (below_alloc w2 _)⟩
  obtain ⟨b9, hb9⟩ : ∃ b9, w2.heap.size = b9 := ⟨_, rfl⟩
  have z4 := G0.h4.cells
  clear F0 g1 g2 g3
  go_wp2_with fail
  generalize hW0 : w2.alloc _ = W0 at G0 ⊢
  rw [hb9] at G0
  clear z4 hW0 hb9
  refine (P34 W0 a3 a4 c3 c4 G0.t3 G0.f3 G0.kg).mono ?_
  rintro e w3 ⟨a5, c5, rfl, J3, b3⟩
  have G1 := G0.below b3
  have z5 := G1.h4.cells
  go_wp2_with fail
  refine (P29 w3 a1 a2 c1 c2 G1.t1 G1.f1).mono ?_
  rintro e w4 ⟨a6, c6, rfl, o4, b4'⟩
  have b4 := below_then b3 b4' b3.size
  have G2 := G0.below b4
  have J4 := J3.below b4'
  have z7 := G2.h4.cells
  have z8 := G2.h9.cells
  have T2 := same_any (xs := xs) (ys := xs) w4 J4.rs o4.rs
  rw [beq_self_eq_true] at T2
  have HT2 := Lib.hid T2
  clear G1 z5 T2
  go_wp2_with fail
  refine HT2.out.mono ?_
  rintro e w5 ⟨rfl, rfl⟩
  go_wp2_with fail
  refine (hsame_any _ l lv ph l lv ph G2.t3 G2.f3 G2.t1 G2.f1 rfl rfl rfl rfl rfl).mono ?_
  rintro e w6 ⟨rfl, b6'⟩
  have b6 := below_then b4 b6' b4.size
  have J6 := J4.below b6'
  clear G2 z7 z8 HT2 J3 J4 o4
  by_cases hL2 : L ≤ 2000
  · by_cases h20 : 20 ≤ S + L
    · have hR2 := hR hL2 h20
      have HR := Lib.hid hR2
      have hc20 : ¬ ((L : Int) + (S : Int) < 20) := by omega
      have hs6 := b6.size
      have hJb := J6.base_le
      clear hR hR2
      go_wp2_with (first
        | (at_builtin; refine L_append_J_zeros tB rfl rfl J6 3 Tryd.underlying3 L (by omega) _ _ rfl rfl _ rfl rfl rfl (by omega) hs6 ?_; intro a7 c7 w7 o7 g7; have b7 : Below W0.heap.size W0 w7 := b6.grown g7 hs6 (by intro q hq; obtain ⟨ad, h, rfl⟩ := Option.map_eq_some_iff.1 hq; exact hJb ad h); have hs7 := b7.size)
        | (go_at_call 18; refine (copy_any _ o7.rs (by omega)).mono ?_; rintro e w8 ⟨a8, c8, rfl, o8, b8'⟩; have b8 := below_then b7 b8' hs7; have o8a := o8.alloc (.cells #[.int .u8 7, .int .u8 7] 5); have x8 := RS_new w8 5 #[.int .u8 7, .int .u8 7] 2 rfl (by omega) (by simp [Value.oneCell']))
        | (at_builtin; refine L_append tB o8a x8 _ _ rfl rfl rfl rfl (by omega) (by unfold maxLen; omega) (by have := b8'.size; simp; omega) ?_; intro a9 c9 w9 o9 g9)
        | (refine L_slice_h tB o9.rs (NX + L) _ _ rfl rfl _ _ rfl rfl (by simp) (by omega) ?_; intro hq9))
      have b9' : Below W0.heap.size W0 w9 := below_own (b8.alloc b8.size _) o8a g9 hs7 (by have := b8.size; simp; omega)
      have hq : BS w9 a9 (NX + L) c9 (xs ++ List.replicate L 0) := by
        have h := hq9
        rw [Nat.mul_one, List.take_append_of_le_length (by rw [List.length_append, List.length_map, hxl, List.length_replicate]; omega), List.take_of_length_le (by rw [List.length_append, List.length_map, hxl, List.length_replicate]; omega)] at h
        unfold BS
        rw [List.map_append, List.map_replicate, show B 0 = .int .u8 0 from rfl]
        exact h
      have G9 := G0.below b9'
      refine (Readq w9 _ hq G9.kg (by omega) HR.out).mono ?_
      rintro e w10 ⟨ta, tn, tc, fa, fn, fc, rfl, d1, d2, b10'⟩
      have b10 := below_then b9' b10' b9'.size
      have G10 := G0.below b10
      have hlt := G10.h4.lt
      obtain ⟨X, hX0⟩ : ∃ X, Obj.cells #[.bool l, .int .i64 lv, .bool false, .slice ta tn tc, .slice fa fn fc] 40 = X := ⟨_, rfl⟩
      have hX : HB (w10.alloc (.cells #[.bool l, .int .i64 lv, .bool false, .slice ta tn tc, .slice fa fn fc] 40)) w10.heap.size l lv false (.slice ta tn tc) (.slice fa fn fc) := heap_alloc_new w10 _
      have h4a : HB (w10.alloc (.cells #[.bool l, .int .i64 lv, .bool false, .slice ta tn tc, .slice fa fn fc] 40)) w.heap.size l lv ph (.slice a1 N1 c1) (.slice a2 M1 c2) := G10.h4.grown (grown_of_below (row := none) (below_alloc w10 _)) (by simp)
      have e1 := G10.t1.alloc (.cells #[.bool l, .int .i64 lv, .bool false, .slice ta tn tc, .slice fa fn fc] 40)
      have e2 := G10.f1.alloc (.cells #[.bool l, .int .i64 lv, .bool false, .slice ta tn tc, .slice fa fn fc] 40)
      have d1a := d1.alloc (.cells #[.bool l, .int .i64 lv, .bool false, .slice ta tn tc, .slice fa fn fc] 40)
      have d2a := d2.alloc (.cells #[.bool l, .int .i64 lv, .bool false, .slice ta tn tc, .slice fa fn fc] 40)
      have bA := (G0.bel.trans (b10.mono G0.bel.size)).alloc (by omega) (.cells #[.bool l, .int .i64 lv, .bool false, .slice ta tn tc, .slice fa fn fc] 40)
      clear hX0 X hq hq9 o7 o8 o8a x8 o9 g7 g9 b6 b7 b8 b8' HR G9 d1 d2 J6 hJb
      generalize hWA : w10.alloc (.cells #[.bool l, .int .i64 lv, .bool false, .slice ta tn tc, .slice fa fn fc] 40) = WA at *
      have y1 := h4a.cells
      have y2 := h4a.fr
      have hXs := hX.grown (grownBy_setCell WA ⟨w.heap.size, 2, none⟩ (.bool false)) (by simp; omega)
      have h4s := h4a.set2 false
      have zX := hXs.cells
      have zh := h4s.cells
      have E1 := BS.setBool e1 y1.2.2.1 (.bool false)
      have E2 := BS.setBool e2 y1.2.2.1 (.bool false)
      have D1 := BS.setBool d1a y1.2.2.1 (.bool false)
      have D2 := BS.setBool d2a y1.2.2.1 (.bool false)
      have bS : Below w.heap.size w (WA.setCell ⟨w.heap.size, 2, none⟩ (.bool false)) := bA.setCell (Nat.le_refl _) _
      clear e1 e2 d1a d2a
      go_wp2_with fail
      refine (hsame_any _ l lv false l lv false D1 D2 E1 E2 rfl rfl rfl rfl rfl).mono ?_
      rintro e w12 ⟨rfl, b12⟩
      have bZ := below_then bS b12 bS.size
      clear zX zh y1 y2 hXs h4s hX h4a E1 E2 D1 D2
      have hfin := HNX.out
      clear HNX
      go_wp2_with fail
      go_ret
      exact ⟨ret_true (by simp; try omega), bZ⟩
    · have hc20 : (L : Int) + (S : Int) < 20 := by omega
      go_wp2_with fail
      go_ret
      exact ⟨rfl, G0.bel.trans (b6.mono G0.bel.size)⟩
  · go_wp2_with fail
    go_ret
    exact ⟨rfl, G0.bel.trans (b6.mono G0.bel.size)⟩
end Go.Proofs.YtdfachjgnhljfaaDoor
