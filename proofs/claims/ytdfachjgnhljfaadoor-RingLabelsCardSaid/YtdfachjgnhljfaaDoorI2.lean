/- law02.RingParts: its walk. -/
import Derived.Test.YtdfachjgnhljfaaDoorI1
import Derived.Test.YtdfachjgnhljfaaDoorM3
import Derived.Stop.BytesEq
set_option maxRecDepth 100000
set_option linter.unusedVariables false
namespace Go.Proofs.YtdfachjgnhljfaaDoor
open Go.RowKit Go.Joins
theorem sliced_eq (a : Option Addr) (i n c z : Nat) : sliced a i n c z = .slice (if c = i then a else a.map (·.add (i * z))) (n - i) (c - i) := by
  unfold sliced
  split <;> cases a <;> simp_all
theorem runB_l {W0 : World} {a : Option Addr} {n c : Nat} {xs : List UInt8} (hx : BS W0 a n c xs) (i : Nat) (hi : i ≤ n) :
    ∃ a', BS W0 a' (n - i) (c - i) (xs.drop i) ∧ ∀ W, (Instr.slice 22 (.slice a n c) (some (.int .i64 (i : Int))) none none).run Tryd.prog W = .ok (.slice a' (n - i) (c - i)) W := by
  have hle := RS.le hx
  have h := RS.cut hx i n c hi (Nat.le_refl _) hle (Nat.le_refl _)
  refine ⟨if c = i then a else a.map (·.add (i * 1)), ?_, fun W => ?_⟩
  · have e : ((xs.map B).drop (i * 1)).take ((n - i) * 1) = (xs.drop i).map B := by
      have hl := BS.len hx
      rw [List.take_of_length_le (by simp; omega), Nat.mul_one, List.map_drop]
    rw [e] at h
    exact h
  · have hz : (Go.sizeOf (Tryd.prog.elem 22)).run Tryd.prog W = .ok 1 W := tB.sizeOf
    rw [run_slice_l W 22 _ _ _ tB.und' .i64 _ (by omega) (by omega), hz]
    simp only [Result.andThen, Int.toNat_natCast]
    rw [sliced_eq]
theorem runB_h {W0 : World} {a : Option Addr} {n c : Nat} {xs : List UInt8} (hx : BS W0 a n c xs) (j : Nat) (hj : j ≤ n) :
    BS W0 a j c (xs.take j) ∧ ∀ W, (Instr.slice 22 (.slice a n c) none (some (.int .i64 (j : Int))) none).run Tryd.prog W = .ok (.slice a j c) W := by
  have hle := RS.le hx
  have h := RS.head hx j hj
  refine ⟨by rw [Nat.mul_one, ← List.map_take] at h; exact h, fun W => ?_⟩
  have hz : (Go.sizeOf (Tryd.prog.elem 22)).run Tryd.prog W = .ok 1 W := tB.sizeOf
  rw [run_slice_h W 22 _ _ _ tB.und' .i64 _ (by omega) (by omega), hz]
  simp only [Result.andThen, Int.toNat_natCast]
  rw [sliced_eq]
  split <;> cases a <;> simp [Addr.add]
theorem btrans {w w1 w2 : World} (h : Below w.heap.size w w1) (k : Below w1.heap.size w1 w2) : Below w.heap.size w w2 := h.trans (k.mono h.size)
/-- parts and rest between two rounds -/
structure PQ (w2 wr : World) (S : List UInt8) (a : Option Addr) (n c : Nat) (b : Option Addr) (m k : Nat) (vs : List Value) (ps : List (List UInt8)) (r : List UInt8) : Prop where
  own : OW wr w2.heap.size 22 1 a n c vs
  len : ps.length = n
  few : n ≤ 20
  each : ∀ (i : Nat) p, ps[i]? = some p → ∃ a' m' c', vs[i]? = some (.slice a' m' c') ∧ BS w2 a' m' c' p
  rest : BS w2 b m k r
  sum : ps.flatten ++ r = S
  bel : Below w2.heap.size w2 wr
theorem PQ.app {w2 wr w' : World} {S : List UInt8} {a a' : Option Addr} {n c c' : Nat} {b b' : Option Addr} {m k t m' k' : Nat} {vs : List Value} {ps : List (List UInt8)} {r : List UInt8} (h : PQ w2 wr S a n c b m k vs ps r)
    (hn : n < 20) (o : OW w' w2.heap.size 22 1 a' (n + 1) c' (vs ++ [.slice b t k])) (hg : Below w2.heap.size wr w') (ht : BS w2 b t k (r.take t)) (hd : BS w2 b' m' k' (r.drop t)) :
    PQ w2 w' S a' (n + 1) c' b' m' k' (vs ++ [.slice b t k]) (ps ++ [r.take t]) (r.drop t) := by
  refine ⟨o, by simp [h.len], by omega, fun i p hi => ?_, hd, by rw [List.flatten_append, ← h.sum]; simp, h.bel.trans hg⟩
  have hvl : vs.length = n := by have := h.own.len; omega
  rcases Nat.lt_or_ge i n with hlt | hge
  · rw [List.getElem?_append_left (by rw [h.len]; exact hlt)] at hi
    obtain ⟨a1, m1, c1, h1, h2⟩ := h.each i p hi
    exact ⟨a1, m1, c1, by rw [List.getElem?_append_left (by omega)]; exact h1, h2⟩
  · have hin : i = n := by
      have := (List.getElem?_eq_some_iff.1 hi).1
      simp [h.len] at this; omega
    subst hin
    rw [List.getElem?_append_right (by rw [h.len]; exact Nat.le_refl _), h.len, Nat.sub_self] at hi
    cases hi
    exact ⟨b, t, k, by rw [List.getElem?_append_right (by omega), hvl, Nat.sub_self]; rfl, ht⟩
theorem PQ.ps {w2 wr w' : World} {S : List UInt8} {a a' : Option Addr} {n c c' : Nat} {b : Option Addr} {m k : Nat} {vs : List Value} {ps : List (List UInt8)} {r : List UInt8} (h : PQ w2 wr S a n c b m k vs ps r)
    (o : OW w' w2.heap.size 22 1 a' (n + 1) c' (vs ++ [.slice b m k])) (hg : Below w2.heap.size wr w') : PS w' a' (n + 1) c' (ps ++ [r]) := by
  have hb := h.bel.trans hg
  have hvl : vs.length = n := by have := h.own.len; omega
  refine ⟨_, o.rs, by simp [h.len], fun i p hi => ?_⟩
  rcases Nat.lt_or_ge i n with hlt | hge
  · rw [List.getElem?_append_left (by rw [h.len]; exact hlt)] at hi
    obtain ⟨a1, m1, c1, h1, h2⟩ := h.each i p hi
    exact ⟨a1, m1, c1, by rw [List.getElem?_append_left (by omega)]; exact h1, RS.below h2 hb (Nat.le_refl _)⟩
  · have hin : i = n := by
      have := (List.getElem?_eq_some_iff.1 hi).1
      simp [h.len] at this; omega
    subst hin
    rw [List.getElem?_append_right (by rw [h.len]; exact Nat.le_refl _), h.len, Nat.sub_self] at hi
    cases hi
    exact ⟨b, m, k, by rw [List.getElem?_append_right (by omega), hvl, Nat.sub_self]; rfl, RS.below h.rest hb (Nat.le_refl _)⟩
theorem eq32 (xs : List UInt8) (h : xs.length = 32) (W : World) : (Op.equalIn 10000 26 (.agg (xs.map B).toArray) (.agg (xs.map B).toArray)).run Tryd.prog W = .ok true W := by
  have hz : ∀ w, (Go.sizeOf 5).run Tryd.prog w = .ok 1 w := fun w => by have := tB.sizeOf (w := w); rwa [tB.elem] at this
  have h2 := run_equalIn_bytes (P := Tryd.prog) W 9998 26 5 32 Tryd.underlying26 Tryd.underlying5 hz xs xs h h
  rw [beq_self_eq_true] at h2
  exact h2
set_option maxHeartbeats 4000000 in
theorem ringParts_walk (W : World) {a0 a1 : Option Addr} {n0 c0 n1 c1 : Nat} (xs ys : List UInt8) (hx : BS W a0 n0 c0 xs) (hy : BS W a1 n1 c1 ys) (hK : KT W) :
    Calls Tryd.prog 3 #[.slice a0 n0 c0, .slice a1 n1 c1] W fun e W' => e = .returned (.bool true) ∧ Below W.heap.size W W' := by
  have HK := Lib.hid hK
  have hyl := BS.len hy
  have hym := RS.max hy
  have hyc := RS.le hy
  unfold maxLen at hym
  clear hK
  go_enter Tryd.func3, Tryd.ntmps3
  go_upto_region 4 with (first
    | (go_at_call 13; refine (awake02 _ HK.out).mono ?_; rintro e w1 ⟨rfl, hB1⟩)
    | (go_at_call 14; refine (cut_any _ (RS.below hx hB1 (Nat.le_refl _)) 400 (by omega) (by omega)).mono ?_; rintro e w2 ⟨a2, c2, rfl, hO2, hB2⟩))
  have hbs : BS w2 a2 (min n0 400) c2 (xs.take (min n0 400)) := by
    have h := hO2.rs
    unfold BS
    rw [List.map_take]; exact h
  have hbw := hB1.trans (hB2.mono hB1.size)
  have hyw := RS.below hy hbw (Nat.le_refl _)
  have Hbw := Lib.hid hbw
  have Hbs := Lib.hid hbs
  have hK2 := HK.out.below hbw (Nat.le_refl _)
  have HK2 := Lib.hid hK2
  have hsn := BS.len hbs
  obtain ⟨S, hS⟩ : ∃ S, xs.take (min n0 400) = S := ⟨_, rfl⟩
  obtain ⟨N, hN⟩ : ∃ N, min n0 400 = N := ⟨_, rfl⟩
  have hN4 : N ≤ 400 := by omega
  rw [hS, hN] at Hbs hsn
  rw [hN]
  have HsN := Lib.hid hsn
  clear hO2 hbs hB1 hB2 hx hS hN hbw hK2 hsn
  have hP0 : PQ w2 w2 S none 0 0 a2 N c2 [] [] S := ⟨OW_nil _ _ _ _, rfl, by omega, fun i p h => by simp at h, Hbs.out, by simp, Below.refl _ _⟩
  go_wp2
  go_loopw [5, 6, 17] (fun s5 s6 s17 wr => ∃ (i : Nat) (a : Option Addr) (n c : Nat) (b : Option Addr) (m k : Nat) (vs : List Value) (ps : List (List UInt8)) (r : List UInt8),
    i ≤ n1 ∧ n = i ∧ s17 = .int .i64 (i : Int) ∧ s5 = .slice a n c ∧ s6 = .slice b m k ∧ PQ w2 wr S a n c b m k vs ps r) (fun _ _ s17 _ => n1 - (intOf s17).toNat)
  case atStart => exact ⟨0, _, _, _, _, _, _, _, _, _, by omega, rfl, rfl, rfl, rfl, hP0⟩
  case round =>
    obtain ⟨i, a, n, c, b, m, k, vs, ps, r, hi, rfl, rfl, rfl, rfl, hP⟩ := hrel
    have hfew := hP.few
    by_cases hlt : n < n1
    · have hyr := RS.below hyw hP.bel (Nat.le_refl _)
      obtain ⟨y, hyv⟩ : ∃ y, ys[n]? = some y := ⟨_, List.getElem?_eq_getElem (by omega)⟩
      by_cases h20 : n < 20
      · have hyt := y.toNat_lt
        have hml := BS.len hP.rest
        obtain ⟨t, ht⟩ : ∃ t, min y.toNat m = t := ⟨_, rfl⟩
        have htm : t ≤ m := by omega
        have hmin : min (y.toNat : Int) (m : Int) = (t : Int) := by omega
        obtain ⟨b2, hb2, hsl⟩ := runB_l hP.rest t htm
        obtain ⟨hbt, hsh⟩ := runB_h hP.rest t htm
        have HP := Lib.hid hP
        have Hb2 := Lib.hid hb2
        have Hbt := Lib.hid hbt
        have ho := hP.own
        have hszr := hP.bel.size
        have hc1 : (ys.map B)[n]? = some (.int .u8 (y.toNat : Int)) := by rw [List.getElem?_map, hyv]; rfl
        clear hP hb2 hbt ht hyv
        go_upto_region 11 with (refine L_index tB hyr _ _ rfl rfl _ _ rfl rfl (by omega) (by omega) _ (by simpa using hc1) ?_; intro q hq)
        go_region_law (first
          | (refine S_append tS (OW.alloc ho _) (RS_one _ _ _ rfl) _ _ rfl rfl rfl rfl (by omega) (by unfold maxLen; omega) (by simp; omega) ?_; intro a5 c5 w5 o5 g5; have hg5 : Below w2.heap.size wr w5 := ((Below.refl _ wr).alloc hszr _).grown g5 (by simp; omega) (row_ge (fun ad ha => (ho.base_le ha).1) (Nat.le_refl _)))
          | (refine S_append tS (OW.drew (OW.alloc ho _)) (RS.drew (RS_one _ _ _ rfl)) _ _ rfl rfl rfl rfl (by omega) (by unfold maxLen; omega) (by simp; omega) ?_; intro a5 c5 w5 o5 g5; have hg5 : Below w2.heap.size wr w5 := ((Below.refl _ wr).alloc hszr _).drew.grown g5 (by simp; omega) (row_ge (fun ad ha => (ho.base_le ha).1) (Nat.le_refl _))))
        have HQ := Lib.hid (HP.out.app h20 o5 hg5 Hbt.out Hb2.out)
        clear o5 g5 hg5 hsl hsh ho
        go_wp2
        go_roundw
        case rel => exact ⟨n + 1, _, _, _, _, _, _, _, _, _, by omega, rfl, by go_num, rfl, rfl, HQ.out⟩
        case measure => simp [intOf]; omega
      · have hc1 : (ys.map B)[n]? = some (.int .u8 (y.toNat : Int)) := by rw [List.getElem?_map, hyv]; rfl
        have ho := hP.own
        have hszr := hP.bel.size
        go_upto_region 14 with (first
          | (at_builtin; refine L_append tS (ho.alloc _) (RS_one _ _ _ rfl) _ _ rfl rfl rfl rfl (by omega) (by unfold maxLen; omega) (by simp; omega) ?_; intro a6 c6 w6 o6 g6; have hg6 : Below w2.heap.size wr w6 := ((Below.refl _ wr).alloc hszr _).grown g6 (by simp; omega) (row_ge (fun ad ha => (ho.base_le ha).1) (Nat.le_refl _)))
          | (refine L_index tB hyr _ _ rfl rfl _ _ rfl rfl (by omega) (by omega) _ (by simpa using hc1) ?_; intro q hq))
        have hps6 := hP.ps o6 hg6
        have hb6 := hP.bel.trans hg6
        have hS6 := RS.below Hbs.out hb6 (Nat.le_refl _)
        have hK6 := HK2.out.below hb6 (Nat.le_refl _)
        have hfl : (ps ++ [r]).flatten = S := by rw [List.flatten_append, ← hP.sum]; simp
        have Hfl := Lib.hid hfl
        have hl6 : (ps ++ [r]).flatten.length ≤ 1099511627776 - 200 := by rw [hfl, HsN.out]; omega
        have hq1 := eq32 (shaS S) (shaS_len _)
        have hq2 := eq32 (macS [107] S) (shaS_len _)
        have Hb6 := Lib.hid hb6
        clear o6 g6 hg6 hb6 ho hP hfl hszr
        go_wp2_with (first
          | (go_at_call 15; (with_reducible refine (sum_one w7 rfl hS7 (by omega) hK7).mono ?_); rintro e w8 ⟨rfl, hB8⟩; have hps8 := hps7.below hB8 (Nat.le_refl _); have hS8 := RS.below hS7 hB8 (Nat.le_refl _); have hK8 := hK7.below hB8 (Nat.le_refl _); have v1 := run_convert_bytes_const_at (P := Tryd.prog) w8 22 5 #[.int .u8 107] 1 1 w8.heap.size rfl Tryd.underlying22 Tryd.underlying5)
          | (go_at_call 15; refine (sum_any _ (ps ++ [r]) hps6 (by omega) hK6).mono ?_; rintro e w7 ⟨rfl, hB7⟩; have hps7 := hps6.below hB7 (Nat.le_refl _); have hS7 := RS.below hS6 hB7 (Nat.le_refl _); have hK7 := hK6.below hB7 (Nat.le_refl _); rw [Hfl.out])
          | (go_at_call 16; (with_reducible refine (mac_any _ [S] hk10 hps10 hl10 hn10 hn10 hK10).mono ?_); rintro e w10 ⟨rfl, hB10⟩; rw [show [S].flatten = S from by simp])
          | (go_at_call 16; refine (mac_any _ (ps ++ [r]) (BS_lit w8 [107] _ _ rfl 1 rfl (by omega) rfl) (hps8.below (below_alloc w8 _) (Nat.le_refl _)) hl6 (by omega) (by omega) (hK8.alloc _)).mono ?_; rintro e w9 ⟨rfl, hB9⟩; have hb9 := (below_alloc w8 _).trans (hB9.mono (by simp)); have hS9 := RS.below hS8 hb9 (Nat.le_refl _); have hK9 := hK8.below hb9 (Nat.le_refl _); have v2 := run_convert_bytes_const_at (P := Tryd.prog) w9 22 5 #[.int .u8 107] 1 1 w9.heap.size rfl Tryd.underlying22 Tryd.underlying5; have hk10 := RS.alloc (BS_lit w9 [107] #[.int .u8 107] (1, 2) rfl 1 rfl (by omega) rfl) (.cells #[.slice a2 N c2] 22); have hps10 := PS_one (w := w9.alloc (.cells #[.int .u8 107] 5 (1, 2))) (g := w9.heap.size + 1) (by simp) (RS.alloc hS9 _); have hl10 : [S].flatten.length ≤ 1099511627776 - 200 := (by have := HsN.out; simp; omega); have hn10 : 1 ≤ 1099511627776 := (by omega); have hK10 := (hK9.alloc (.cells #[.int .u8 107] 5 (1, 2))).alloc (.cells #[.slice a2 N c2] 22); rw [Hfl.out]))
        have b10 : Below w9.heap.size w9 w10 := ((below_alloc w9 _).alloc (by simp) _).trans (hB10.mono (by simp; omega))
        go_ret
        exact ⟨rfl, btrans Hbw.out (btrans Hb6.out (btrans hB7 (btrans hB8 (btrans hb9 b10))))⟩
    · obtain rfl : n = n1 := by omega
      have ho := hP.own
      have hszr := hP.bel.size
      go_upto_region 14 with (first
        | (at_builtin; refine L_append tS (ho.alloc _) (RS_one _ _ _ rfl) _ _ rfl rfl rfl rfl (by omega) (by unfold maxLen; omega) (by simp; omega) ?_; intro a6 c6 w6 o6 g6; have hg6 : Below w2.heap.size wr w6 := ((Below.refl _ wr).alloc hszr _).grown g6 (by simp; omega) (row_ge (fun ad ha => (ho.base_le ha).1) (Nat.le_refl _))))
      have hps6 := hP.ps o6 hg6
      have hb6 := hP.bel.trans hg6
      have hS6 := RS.below Hbs.out hb6 (Nat.le_refl _)
      have hK6 := HK2.out.below hb6 (Nat.le_refl _)
      have hfl : (ps ++ [r]).flatten = S := by rw [List.flatten_append, ← hP.sum]; simp
      have Hfl := Lib.hid hfl
      have hl6 : (ps ++ [r]).flatten.length ≤ 1099511627776 - 200 := by rw [hfl, HsN.out]; omega
      have hq1 := eq32 (shaS S) (shaS_len _)
      have hq2 := eq32 (macS [107] S) (shaS_len _)
      have Hb6 := Lib.hid hb6
      clear o6 g6 hg6 hb6 ho hP hfl hszr
      go_wp2_with (first
        | (go_at_call 15; (with_reducible refine (sum_one w7 rfl hS7 (by omega) hK7).mono ?_); rintro e w8 ⟨rfl, hB8⟩; have hps8 := hps7.below hB8 (Nat.le_refl _); have hS8 := RS.below hS7 hB8 (Nat.le_refl _); have hK8 := hK7.below hB8 (Nat.le_refl _); have v1 := run_convert_bytes_const_at (P := Tryd.prog) w8 22 5 #[.int .u8 107] 1 1 w8.heap.size rfl Tryd.underlying22 Tryd.underlying5)
        | (go_at_call 15; refine (sum_any _ (ps ++ [r]) hps6 (by omega) hK6).mono ?_; rintro e w7 ⟨rfl, hB7⟩; have hps7 := hps6.below hB7 (Nat.le_refl _); have hS7 := RS.below hS6 hB7 (Nat.le_refl _); have hK7 := hK6.below hB7 (Nat.le_refl _); rw [Hfl.out])
        | (go_at_call 16; (with_reducible refine (mac_any _ [S] hk10 hps10 hl10 hn10 hn10 hK10).mono ?_); rintro e w10 ⟨rfl, hB10⟩; rw [show [S].flatten = S from by simp])
        | (go_at_call 16; refine (mac_any _ (ps ++ [r]) (BS_lit w8 [107] _ _ rfl 1 rfl (by omega) rfl) (hps8.below (below_alloc w8 _) (Nat.le_refl _)) hl6 (by omega) (by omega) (hK8.alloc _)).mono ?_; rintro e w9 ⟨rfl, hB9⟩; have hb9 := (below_alloc w8 _).trans (hB9.mono (by simp)); have hS9 := RS.below hS8 hb9 (Nat.le_refl _); have hK9 := hK8.below hb9 (Nat.le_refl _); have v2 := run_convert_bytes_const_at (P := Tryd.prog) w9 22 5 #[.int .u8 107] 1 1 w9.heap.size rfl Tryd.underlying22 Tryd.underlying5; have hk10 := RS.alloc (BS_lit w9 [107] #[.int .u8 107] (1, 2) rfl 1 rfl (by omega) rfl) (.cells #[.slice a2 N c2] 22); have hps10 := PS_one (w := w9.alloc (.cells #[.int .u8 107] 5 (1, 2))) (g := w9.heap.size + 1) (by simp) (RS.alloc hS9 _); have hl10 : [S].flatten.length ≤ 1099511627776 - 200 := (by have := HsN.out; simp; omega); have hn10 : 1 ≤ 1099511627776 := (by omega); have hK10 := (hK9.alloc (.cells #[.int .u8 107] 5 (1, 2))).alloc (.cells #[.slice a2 N c2] 22); rw [Hfl.out]))
      have b10 : Below w9.heap.size w9 w10 := ((below_alloc w9 _).alloc (by simp) _).trans (hB10.mono (by simp; omega))
      go_ret
      exact ⟨rfl, btrans Hbw.out (btrans Hb6.out (btrans hB7 (btrans hB8 (btrans hb9 b10))))⟩
end Go.Proofs.YtdfachjgnhljfaaDoor
