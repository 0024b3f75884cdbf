/- the reference's Open of long heads. -/
import Derived.Test.YtlncnjcbgfeaoaaDoorYbf
set_option maxRecDepth 100000
set_option linter.unusedVariables false
namespace Go.Proofs.YtlncnjcbgfeaoaaDoor
open Go.RowKit
set_option maxHeartbeats 8000000 in
theorem ropenp_okt (w : World) {a : Option Addr} {n c t e k pn kk : Nat} {ka kb kc p m q nn d : List UInt8} {hd : Hd} {largest : Nat} {some_ : Bool} (hla : largest < 18446744073709551616) (hal : ka.length = 32) (hbl : kb.length = 12) (hcl : kc.length = 32) (hp : BS w a n c p) (hn : n ≤ 65536) (hD : OPR ka kb kc p largest some_ hd t e m q k pn nn d kk) (hLL : hd.long = true) :
    Calls Tryd.prog 20 #[.agg ((ka ++ kb ++ kc).map B).toArray, .slice a n c, .int .u64 (largest : Int), .bool some_] w fun x w' => ROO w w' x p d q hd pn e kk (cutS q t k) k := by
  obtain ⟨hk1, hk4, hte, hen, hql, b0, r0, hp0, hlong⟩ := hD.bar.le
  have ht5 := readS_pos hD.bar.rd
  have hpl := BS.len hp
  have hcn := RS.max hp
  unfold maxLen at hcn
  have hpn := hD.gr.lt
  have hclt := cutS_lt q t k hk4
  have hnl : nn.length = 12 := hD.non.len.trans hbl
  obtain ⟨D, hDe⟩ : ∃ D, ka ++ kb ++ kc = D := ⟨_, rfl⟩
  have hDl : D.length = 76 := by rw [← hDe, List.length_append, List.length_append, hal, hbl, hcl]
  have Hnon := Lib.hid (fun w' => rnonce_any w' (a := ka) (b := kb) (c := kc) hal hbl pn (by omega) hD.non)
  rw [hDe] at Hnon
  rw [hDe]
  have hz1 : (w.alloc (.cells (D.map B).toArray 33)).heap.size = w.heap.size + 1 := by simp
  have hA := (AB_box w 33 D).al hobj
  have hO : HB ((w.alloc (.cells (D.map B).toArray 33)).alloc hobj) (w.heap.size + 1) false 0 false (.slice none 0 0) (.slice none 0 0) := by
    have := HB_new (w.alloc (.cells (D.map B).toArray 33)); rw [hz1] at this; exact this
  have hbl' : Below w.heap.size w _ := (below_alloc w (.cells (D.map B).toArray 33)).alloc (by simp) hobj
  have hp1 := (RS.alloc hp (.cells (D.map B).toArray 33)).alloc hobj
  have hsD := Lib.hid (show (Tryd.prog.info? 33).map (·.size) = some (D.map B).length by rw [List.length_map, hDl]; exact r76)
  have Hpr := Lib.hid (fun (w' : World) (h : w'.rangeAt w.heap.size 0 (D.map B)) => rng_parts (a := ka) (b := kb) (c := kc) (by rw [hDe]; exact h) hal hbl)
  have HD := Lib.hid hD
  have Hrd := Lib.hid hD.bar.rd
  obtain ⟨L, lv, tt, ff⟩ := hd
  dsimp only at hlong hLL
  have HLL := Lib.hid hLL
  clear hLL
  have Hlong := Lib.hid hlong
  have Hp0 := Lib.hid hp0
  obtain ⟨C, hC⟩ : ∃ C, cutS q t k = C := ⟨_, rfl⟩
  have hgr := hD.gr
  rw [hC] at hgr hclt ⊢
  have Hgr := Lib.hid (fun w' => rgrow_any w' largest C k pn some_ hla (by omega) hgr hk1 hk4)
  have HC := Lib.hid hC
  clear hz1 hDe hD hgr hDl hC hlong hp0
  go_enter Tryd.func20, Tryd.ntmps20
  go_upto_region 1 with (fail)
  obtain ⟨W1, hW1⟩ : ∃ W1, (w.alloc (.cells (D.map B).toArray 33)).alloc hobj = W1 := ⟨_, rfl⟩
  have hW1' := hW1
  unfold hobj at hW1'
  rw [hW1'] 
  rw [hW1] at hA hO hbl' hp1
  clear hW1 hW1'
  have l0 := hA.lt
  have l1 := hO.lt
  have hbs := hbl'.size
  have Hrq := Lib.hid (Readr W1 p hp1 (by omega) Hrd.out)
  have HA := Lib.hid hA
  have HO := Lib.hid hO
  have HBb := Lib.hid hbl'
  have HP := Lib.hid hp1
  clear hA hO hbl' hp1 hp
  go_upto_region 2 with (go_at_call 39; refine Hrq.out.mono ?_; rintro x w2 ⟨ta, tn, tc, fa, fn, fc, rfl, hT2, hF2, B2⟩)
  have b2s := B2.size
  have hH3 : HB (w2.alloc (.cells #[.bool L, .int .i64 lv, .bool false, .slice ta tn tc, .slice fa fn fc] 43)) w2.heap.size L lv false (.slice ta tn tc) (.slice fa fn fc) := heap_alloc_new w2 _
  have b3 := B2.alloc b2s (.cells #[.bool L, .int .i64 lv, .bool false, .slice ta tn tc, .slice fa fn fc] 43)
  have HT3 := Lib.hid (RS.alloc hT2 (.cells #[.bool L, .int .i64 lv, .bool false, .slice ta tn tc, .slice fa fn fc] 43))
  have HF3 := Lib.hid (RS.alloc hF2 (.cells #[.bool L, .int .i64 lv, .bool false, .slice ta tn tc, .slice fa fn fc] 43))
  generalize (World.alloc _ _) = W3 at *
  obtain ⟨h3, hh3⟩ : ∃ h3, w2.heap.size = h3 := ⟨_, rfl⟩
  rw [hh3] at hH3 b2s ⊢
  have lh3 := hH3.lt
  have HA3 := Lib.hid (HA.out.bl b3 l0)
  have HO3 := Lib.hid (HO.out.grown (grown_of_below (row := none) b3) (by simp))
  have HB3 := Lib.hid (HBb.out.trans (b3.mono hbs))
  have hp3 := RS.below HP.out b3 (Nat.le_refl _)
  obtain ⟨hcut, hsl⟩ := runB_h hp3 e (by omega)
  have Hcl := Lib.hid (copyP W3 hcut (by omega))
  have HP3 := Lib.hid hp3
  have HH3 := Lib.hid hH3
  clear B2 b3 Hrq HA HO HBb HP hT2 hF2 hH3 hh3 hp3 hcut
  go_upto_region 5 with (go_at_call 18; refine Hcl.out.mono ?_; rintro x w4 ⟨a4, c4, rfl, o4, B4⟩)
  obtain ⟨g4, rfl, lg4, lg5⟩ : ∃ g, a4 = some ⟨g, 0, none⟩ ∧ W3.heap.size ≤ g ∧ g < w4.heap.size := by
    rcases o4.shape with ⟨_, h, _⟩ | ⟨g, cur, h1, h2, h3, _⟩
    · omega
    · exact ⟨g, h1, h2, h3⟩
  have hcm4 := RS.max o4.rs
  unfold maxLen at hcm4
  have hce4 := o4.rs.le
  have hA4 := HA3.out.bl B4 (by have := HA3.out.lt; exact this)
  have rA4 := hA4.rng
  have lA4 := hA4.lt
  have hmk : BS w4 (some ⟨w.heap.size, 44, none⟩) 32 32 kc := by
    refine ⟨by rw [List.length_map, hcl], Nat.le_refl _, by decide, one_B _, (fun h => by cases h), fun ad had => ?_⟩
    cases had
    exact ⟨fun _ => rfl, fun j v hv => (Hpr.out w4 rA4).2.2 j v hv⟩
  obtain ⟨a5, h5, hsl5⟩ := runB_lh o4.rs (t + 4) (t + 20) (by omega) (by omega)
  rw [show t + 20 - (t + 4) = 16 by omega] at h5 hsl5
  obtain ⟨u, hu⟩ : ∃ u, t + 4 = u := ⟨_, rfl⟩
  obtain ⟨v, hv⟩ : ∃ v, t + 20 = v := ⟨_, rfl⟩
  have hui : (t : Int) + 4 = (u : Int) := by omega
  have hvi : (t : Int) + 20 = (v : Int) := by omega
  have wu : IntKind.i64.wrap (u : Int) = (u : Int) := IntWalk.i64_in _ (by omega)
  have wv : IntKind.i64.wrap (v : Int) = (v : Int) := IntWalk.i64_in _ (by omega)
  obtain ⟨S, hS⟩ : ∃ S, ((p.take e).drop (t + 4)).take 16 = S := ⟨_, rfl⟩
  have hmm := HD.out.bar.mm
  rw [hS] at h5 hmm
  rw [hu, hv] at hsl5
  rw [hu] at h5
  have hSl : S.length = 16 := by rw [← hS, List.length_take, List.length_drop, List.length_take]; omega
  obtain ⟨ds, hds⟩ := ST_ex kc (S.drop 4) (le4 S)
  have hdm : ds.take 5 = m := by have := (MSK.of hds).h; rw [hmm.h] at this; exact this.symm
  have hml := hmm.len
  have hrm := rmask_any w4.drew (RS.drew hmk) (RS.drew h5) hcl hSl hds
  rw [hdm] at hrm
  have Hrm := Lib.hid hrm
  have HO4 := Lib.hid (OW.drew o4)
  have HB4 := Lib.hid (show Below W3.heap.size W3 w4.drew from B4.drew)
  have hun : (u : Int) ≤ (v : Int) := by omega
  have hve : (v : Int) ≤ (e : Int) := by omega
  clear o4 B4 hA4 rA4 hmk h5 hu hv hS hmm hds hdm hrm hSl Hcl
  go_region_held3 (fun _ => True) (first | exact trivial | go_keep)
    (first | (go_at_call 40; (with_reducible refine Hrm.out.mono ?_); rintro x w6 ⟨a6, c6, rfl, o6, B6⟩))
  have z6 := B6.size
  have o4' := HO4.out.below B6 (Nat.le_refl _)
  have b36 : Below W3.heap.size W3 w6 := HB4.out.trans (B6.mono HB4.out.size)
  obtain ⟨gm, rfl, lgm, lgm2⟩ : ∃ g, a6 = some ⟨g, 0, none⟩ ∧ w4.heap.size ≤ g ∧ g < w6.heap.size := by
    rcases o6.shape with ⟨_, h, _⟩ | ⟨g, cur, h1, h2, h3, _⟩
    · omega
    · exact ⟨g, h1, h2, h3⟩
  have hp0 := Hp0.out
  have hP0 : (p.take e)[0]? = some b0 := by rw [hp0, List.getElem?_take, if_pos (by omega)]; rfl
  have hpd : p.getD 0 0 = b0 := by rw [hp0]; rfl
  obtain ⟨m0, hm0⟩ : ∃ m0, m[0]? = some m0 := ⟨_, List.getElem?_eq_getElem (by omega)⟩
  have hmd : m.getD 0 0 = m0 := by rw [List.getD_eq_getElem?_getD, hm0]; rfl
  have hPd : (p.take e).getD 0 0 = b0 := by rw [List.getD_eq_getElem?_getD, hP0]; rfl
  have hkk := HD.out.bar.hk
  have hqq := HD.out.bar.hq
  rw [hpd, hmd] at hkk
  unfold unS at hqq
  rw [hPd, hmd] at hqq
  have hbl0 := b0.toNat_lt
  have hml0 := m0.toNat_lt
  have hz8 := (fstS b0 m0).toNat_lt
  have o7 := o4'.setCell 0 (B (fstS b0 m0)) rfl
  rw [← List.map_set] at o7
  have q0 : w6.cell? ⟨g4, 0, none⟩ = some (.int .u8 (b0.toNat : Int)) := o4'.cell 0 (B b0) (by rw [List.getElem?_map, hP0]; rfl)
  have f0 := o4'.frozen 0
  have q1 : w6.cell? ⟨gm, 0, none⟩ = some (.int .u8 (m0.toNat : Int)) := o6.cell 0 (B m0) (by rw [List.getElem?_map, hm0]; rfl)
  obtain ⟨z, hz⟩ : ∃ z, (fstS b0 m0).toNat = z := ⟨_, rfl⟩
  have hv : B (fstS b0 m0) = .int .u8 (z : Int) := by unfold B; rw [hz]
  have hfm := fst_mod b0 m0
  rw [hz] at hkk hz8 hfm
  obtain ⟨Q1, hQ1⟩ : ∃ Q1, (p.take e).set 0 (fstS b0 m0) = Q1 := ⟨_, rfl⟩
  rw [hQ1] at hqq o7
  rw [hv] at o7
  have g7 : w6.grownBy (w6.setCell ⟨g4, 0, none⟩ (.int .u8 (z : Int))) (some g4) := grownBy_setCell _ _ _
  have HO7 := Lib.hid o7.drew
  have HG7 := Lib.hid (grown_drew g7)
  have Hm6 := Lib.hid o6
  have HB36 := Lib.hid b36
  have Hqq : EB (unJ Q1 m t k) q := ⟨hqq⟩
  have hQ1l : Q1.length = e := by rw [← hQ1, List.length_set, List.length_take]; omega
  have hQ0 : Q1[0]? = some (fstS b0 m0) := by rw [← hQ1]; exact List.getElem?_set_self (by rw [List.length_take]; omega)
  have HQ0 := Lib.hid hQ0
  have Hz := Lib.hid hz
  have hH6 := HH3.out.grown (grown_of_below (row := none) b36) (by simp)
  have c0 := hH6.cells
  have HH6 := Lib.hid hH6
  have hL := Hlong.out
  have he0 : 0 < e := by omega
  clear o4' b36 hp0 hP0 hpd hm0 hmd hPd hqq hz hv hQ1 o7 g7 o6 B6 hQ0 hH6 HO4 HB4 Hrm Hrd
  obtain ⟨M, hM⟩ : ∃ M, (if b0.toNat < 128 then 32 else 16) = M := ⟨_, rfl⟩
  have hLM : L = true ∧ M = 16 ∨ L = false ∧ M = 32 := by
    by_cases h : b0.toNat < 128
    · rw [if_pos h] at hM
      exact .inr ⟨by rw [hL]; exact decide_eq_false (by omega), hM.symm⟩
    · rw [if_neg h] at hM
      exact .inl ⟨by rw [hL]; exact decide_eq_true (by omega), hM.symm⟩
  have hfm' := hfm M hM
  obtain ⟨r, hr⟩ : ∃ r, m0.toNat % M = r := ⟨_, rfl⟩
  rw [hr] at hfm'
  clear hM hfm hL
  rcases hLM with ⟨rfl, rfl⟩ | ⟨rfl, rfl⟩
  rotate_left
  · exact absurd HLL.out (by decide)
  · have hri : (m0.toNat : Int) % 16 = (r : Int) := by omega
    have hrl : r < 256 := by omega
    have hxor := u8_xor_nat b0.toNat r hbl0 hrl
    rw [← hfm'] at hxor
    clear hfm' hr
    go_upto_region 7 with (fail)
    go_still_tail 9, (by kernel_rfl)
    try refine wpStill_nil ?_
    change wpList _ _ _ _ _ w6.drew
    go_upto_region 9 with (fail)
    rw [hri, hxor]
    have hm7 : OW (w6.setCell ⟨g4, 0, none⟩ (.int .u8 (z : Int))).drew w4.drew.heap.size 5 1 (some ⟨gm, 0, none⟩) 5 c6 (m.map B) := Hm6.out.grown HG7.out (fun x hx => by cases hx; simp; omega)
    have Hm7 := Lib.hid hm7
    clear hm7 Hm6 q0 q1 f0 hxor hri c0
    generalize (World.setCell _ _ _).drew = W7 at *
    obtain ⟨k1, hk1e⟩ : ∃ k1, z % 4 = k1 := ⟨_, rfl⟩
    have hk1i : (z : Int) % 4 = (k1 : Int) := by omega
    have hki : 1 + (k1 : Int) = (k : Int) := by omega
    have hk14 : k1 < 4 := by omega
    have q7 : W7.cell? ⟨g4, 0, none⟩ = some (.int .u8 (z : Int)) := HO7.out.cell 0 _ (by rw [List.getElem?_map, HQ0.out]; show some (B _) = _; unfold B; rw [Hz.out])
    go_upto_region 10 with (fail)
    clear q7 hk1i
    have ho7 : OW W7 W3.heap.size 5 1 (some ⟨g4, 0, none⟩) e c4 ((unJ Q1 m t 0).map B) := HO7.out
    have hc70 : (0 : Int) = ((beNat ((q.drop t).take 0) 0 : Nat) : Int) := rfl
    have HqB : Hid (∀ i, i < k → (q.drop t)[i]? = some (Q1.getD (t + i) 0 ^^^ m.getD (1 + i) 0)) := Lib.hid (fun i hi => by
      rw [List.getElem?_drop, ← Hqq.h]; exact unJ_in Q1 m t k i hi (by omega))
    go_wp2
    go_loopw [79, 22] (fun s79 s22 wr => ∃ i : Nat, i ≤ k ∧ s79 = .int .i64 (i : Int) ∧ s22 = .int .u64 ((beNat ((q.drop t).take i) 0 : Nat) : Int) ∧ OW wr W3.heap.size 5 1 (some ⟨g4, 0, none⟩) e c4 ((unJ Q1 m t i).map B) ∧ W7.grownBy wr (some g4)) (fun s79 _ _ => k - (intOf s79).toNat)
    case atStart => exact ⟨0, by omega, rfl, rfl, ho7, World.grownBy.refl W7 _⟩
    case round =>
      obtain ⟨i, hi, rfl, rfl, hO, hG⟩ := hrel
      clear ho7 hc70
      by_cases hlt : i < k
      · obtain ⟨u', hu⟩ : ∃ u', t + i = u' := ⟨_, rfl⟩
        have hui' : (t : Int) + (i : Int) = (u' : Int) := by omega
        have hue : u' < e := by omega
        obtain ⟨x, hx⟩ : ∃ x, (unJ Q1 m t i)[u']? = some x := ⟨_, List.getElem?_eq_getElem (by rw [unJ_len]; omega)⟩
        obtain ⟨y, hy⟩ : ∃ y, m[1 + i]? = some y := ⟨_, List.getElem?_eq_getElem (by omega)⟩
        have hxl := x.toNat_lt
        have hyl := y.toNat_lt
        have q0 : wr.cell? ⟨g4, u', none⟩ = some (.int .u8 (x.toNat : Int)) := hO.cell u' (B x) (by rw [List.getElem?_map, hx]; rfl)
        have f0 := hO.frozen u'
        obtain ⟨v', hvv⟩ : ∃ v', i + 1 = v' := ⟨_, rfl⟩
        have hvi' : (i : Int) + 1 = (v' : Int) := by omega
        have hv5 : v' < 5 := by omega
        have q1 : wr.cell? ⟨gm, v', none⟩ = some (.int .u8 (y.toNat : Int)) := (Hm7.out.grown hG (fun x hx => by cases hx; simp; omega)).cell v' (B y) (by rw [List.getElem?_map, ← hvv, Nat.add_comm i 1, hy]; rfl)
        have hxor := u8_xor_nat x.toNat y.toNat hxl hyl
        have hv : B (x ^^^ y) = .int .u8 ((x.toNat ^^^ y.toNat : Nat) : Int) := by simp [B]
        have hset : (unJ Q1 m t i).set u' (x ^^^ y) = unJ Q1 m t (i + 1) := by
          rw [unJ, hu, List.getD_eq_getElem?_getD, hx, List.getD_eq_getElem?_getD, hy]; rfl
        have hxq : (q.drop t)[i]? = some (x ^^^ y) := by
          rw [HqB.out i hlt, List.getD_eq_getElem?_getD, List.getD_eq_getElem?_getD, hy, ← unJ_out Q1 m t i (t + i) (.inr (Nat.le_refl _)), hu, hx]; rfl
        have hsn := take_head_snoc (q.drop t) i 0 _ hxq
        have hO6 := hO.setCell u' (B (x ^^^ y)) rfl
        rw [← List.map_set, hset, hv] at hO6
        have hG6 := grown_set hG u' (B (x ^^^ y))
        rw [hv] at hG6
        have hxyl := (x ^^^ y).toNat_lt
        have hxyn : (x ^^^ y).toNat = x.toNat ^^^ y.toNat := UInt8.toNat_xor _ _
        rw [hxyn] at hsn hxyl
        obtain ⟨z', hz'⟩ : ∃ z', x.toNat ^^^ y.toNat = z' := ⟨_, rfl⟩
        rw [hz'] at hxor hO6 hG6 hsn hxyl
        have q2 : (wr.setCell ⟨g4, u', none⟩ (.int .u8 (z' : Int))).drew.cell? ⟨g4, u', none⟩ = some (.int .u8 (z' : Int)) := hO6.drew.cell u' (.int .u8 (z' : Int)) (by rw [← hset, List.map_set, hv, hz', List.getElem?_set_self (by rw [List.length_map, unJ_len]; omega)])
        have HO6 := Lib.hid (OW.drew hO6)
        have HG6 := Lib.hid (grown_drew hG6)
        have hb56 : beNat ((q.drop t).take i) 0 < 16777216 := by
          have h := beNat_lt ((q.drop t).take i) 0
          rw [List.length_take] at h
          have h2 : 256 ^ (min i (q.drop t).length) ≤ 256 ^ 3 := Nat.pow_le_pow_right (by omega) (by omega)
          omega
        obtain ⟨cc, hcc⟩ : ∃ cc, beNat ((q.drop t).take i) 0 = cc := ⟨_, rfl⟩
        rw [hcc] at hb56 hsn ⊢
        have Hsn := Lib.hid hsn
        clear hu hx hy hset hO hG hv hO6 hG6 hz' hvv hxq hsn hxyn hcc
        go_upto_region 14 with (fail)
        go_region
        clear q0 q1 f0 hxor
        generalize World.drew _ = W8 at *
        go_wp2
        go_roundw
        case rel => exact ⟨i + 1, by omega, by go_num, by rw [Hsn.out, Int.natCast_add, Int.natCast_mul]; rfl, HO6.out, HG6.out⟩
        case measure => simp [intOf]; omega
      · obtain rfl : i = k := by omega
        rw [Hqq.h] at hO
        have hCC : beNat ((q.drop t).take i) 0 = C := HC.out
        rw [hCC]
        clear hCC hlt
        have hG36 : w6.grownBy wr (some g4) := grown_trans HG7.out hG
        have hb3w : Below W3.heap.size W3 wr := HB36.out.grown hG36 HB36.out.size (fun k hk => by cases hk; exact lg4)
        have hHw : HB wr h3 true lv false (.slice ta tn tc) (.slice fa fn fc) := HH6.out.grown hG36 (by simp; omega)
        have hOw : HB wr (w.heap.size + 1) false 0 false (.slice none 0 0) (.slice none 0 0) := HO3.out.grown (grown_of_below (row := none) hb3w) (by simp)
        have hT8 := RS.below HT3.out hb3w (Nat.le_refl _)
        have hF8 := RS.below HF3.out hb3w (Nat.le_refl _)
        have hP8 := RS.below HP3.out hb3w (Nat.le_refl _)
        have hA8 := HA3.out.bl hb3w HA3.out.lt
        have hb8 := HB3.out.trans (hb3w.mono HB3.out.size)
        have hq0 : q[0]? = some (fstS b0 m0) := by rw [← Hqq.h, unJ_out _ _ _ _ _ (.inl (by omega))]; exact HQ0.out
        have hqd : (q.getD 0 0).toNat = z := by rw [List.getD_eq_getElem?_getD, hq0]; exact Hz.out
        have hqc := hO.cell 0 (B (fstS b0 m0)) (by rw [List.getElem?_map, hq0]; rfl)
        have q0 : wr.cell? ⟨g4, 0, none⟩ = some (.int .u8 (z : Int)) := by rw [hqc]; unfold B; rw [Hz.out]
        have hzlo : z < 128 ↔ (true : Bool) = false := by
          have h := fst_lo b0 m0
          rw [Hz.out] at h
          have h2 := Hlong.out
          rw [h, Bool.eq_false_iff]
          exact ⟨fun h4 h5 => by have := of_decide_eq_true (h2.symm.trans h5); omega, fun h4 => by have : ¬ 128 ≤ b0.toNat := fun h5 => h4 (h2.trans (decide_eq_true h5)); omega⟩
        have hph : phS true q = (!true && decide (z / 4 % 2 = 1)) := by unfold phS; rw [hqd]
        have hrn : restN (q.getD 0 0).toNat = if z < 128 then z / 8 % 4 else z / 4 % 4 := by rw [hqd]; rfl
        have HO := Lib.hid hO
        have HT8 := Lib.hid hT8
        have HF8 := Lib.hid hF8
        have HP8 := Lib.hid hP8
        have HA8 := Lib.hid hA8
        have HB8 := Lib.hid hb8
        have HHw := Lib.hid hHw
        have HOw := Lib.hid hOw
        have c0 := hHw.cells
        have c1 := hHw.fr
        clear hqc hO hT8 hF8 hP8 hA8 hb8 hb3w hG hG36 hq0 hqd hHw hOw HO7 HG7 Hm7 HH3 HO3 HB3 HT3 HF3 HP3 HA3 HB36 HH6 HqB HQ0 Hz Hlong Hp0
        obtain ⟨n4, h4⟩ : ∃ n4, z / 4 = n4 := ⟨_, rfl⟩
        obtain ⟨n8, h8⟩ : ∃ n8, z / 8 = n8 := ⟨_, rfl⟩
        rw [h4] at hph hrn
        rw [h8] at hrn
        have h4i : (z : Int) / 4 = (n4 : Int) := by omega
        have h8i : (z : Int) / 8 = (n8 : Int) := by omega
        have hn4 : n4 < 64 := by omega
        have hn8 : n8 < 32 := by omega
        clear h4 h8
        go_upto_region 21 with (fail)
        rename_i K1 a1 K2 a2
        clear a1
        have hH10 : HB wr h3 true lv false (.slice ta tn tc) (.slice fa fn fc) := HHw.out
        have HPH := Lib.hid (show phS true q = false by rw [hph]; exact rfl)
        have HRN := Lib.hid (show restN (q.getD 0 0).toNat = n4 % 4 by rw [hrn]; rw [if_neg (fun h => by cases hzlo.1 h)])
        have g10 : wr.grownBy wr (some h3) := World.grownBy.refl wr _
        have hT10 := BS.grownHB HT8.out HHw.out g10
        have hF10 := BS.grownHB HF8.out HHw.out g10
        have hP10 := BS.grownHB HP8.out HHw.out g10
        have hO10 := HO.out.grown g10 (fun x hx => by cases hx; simp; omega)
        have hA10 := HA8.out.grown g10 (by simp; omega)
        have hw10 := HOw.out.grown g10 (by simp; omega)
        have hb10 := HB8.out.grown g10 HB8.out.size (fun k hk => by cases hk; omega)
        clear hph hrn hzlo hsl5 wu wv hui hvi hun hve h4i h8i hki hk1e hkk g10 HT8 HF8 HP8 HO HA8 HOw HB8 HHw q0 c0 c1
        generalize wr = W10 at *
        have HH10 := Lib.hid hH10
        have HT10 := Lib.hid hT10
        have HF10 := Lib.hid hF10
        have HP10 := Lib.hid hP10
        have HO10 := Lib.hid hO10
        have HA10 := Lib.hid hA10
        have HW10 := Lib.hid hw10
        have HB10 := Lib.hid hb10
        clear hH10 hT10 hF10 hP10 hO10 hA10 hw10 hb10
        go_upto_region 22 with (go_at_call 41; refine (Hgr.out _).mono ?_; rintro x w11 ⟨rfl, B11⟩)
        have hA11 := HA10.out.bl B11 HA10.out.lt
        have rD : w11.drew.rangeAt w.heap.size 0 (D.map B) := hA11.rng
        have lD : w.heap.size < w11.heap.size := hA11.lt
        have o11 := (HO10.out.below B11 (Nat.le_refl _)).rs.drew
        have HP11 := Lib.hid (RS.drew (RS.below HP10.out B11 (Nat.le_refl _)))
        have HT11 := Lib.hid (RS.drew (RS.below HT10.out B11 (Nat.le_refl _)))
        have HF11 := Lib.hid (RS.drew (RS.below HF10.out B11 (Nat.le_refl _)))
        have HH11 := Lib.hid (HH10.out.grown (grown_of_below (row := none) B11) (by simp)).drew
        have HW11 := Lib.hid (HW10.out.grown (grown_of_below (row := none) B11) (by simp)).drew
        have HB11 := Lib.hid (HB10.out.trans (B11.mono HB10.out.size)).drew
        obtain ⟨tk, htk⟩ : ∃ tk, t + i = tk := ⟨_, rfl⟩
        have htki : (t : Int) + (i : Int) = (tk : Int) := by omega
        have htkw : IntKind.i64.wrap (tk : Int) = (tk : Int) := IntWalk.i64_in _ (by omega)
        have htke : tk + 16 ≤ e := by omega
        obtain ⟨a16, h16, hsl16⟩ := runB_l o11 tk (by omega)
        obtain ⟨h17, hsl17⟩ := runB_h o11 tk (by omega)
        have hopn := HD.out.op
        rw [htk] at hopn
        have Hop := Lib.hid hopn
        have H16 := Lib.hid h16
        have H17 := Lib.hid h17
        have hkab : ∀ w' : World, w'.rangeAt w.heap.size 0 (D.map B) → BS w' (some ⟨w.heap.size, 0, none⟩) 32 32 ka := fun w' h => by
          refine ⟨by rw [List.length_map, hal], Nat.le_refl _, by decide, one_B _, (fun h => by cases h), fun ad had => ?_⟩
          cases had
          exact ⟨fun _ => rfl, fun j v hv => (Hpr.out w' h).1 j v hv⟩
        have Hkab := Lib.hid hkab
        have hu76 := Tryd.underlying33
        have hsD' := hsD.out
        clear hA11 B11 o11 h16 h17 hopn htk hkab HH10 HT10 HF10 HP10 HO10 HA10 HW10 HB10 Hgr hclt
        refine wp_region_held_drew (S := fun w' => w'.rangeAt w.heap.size 0 (D.map B)) (by kernel_rfl) rD (fun hHeld => ?_)
        refine wpAnyH_take (i := 0) (v := .pointer (some ⟨w.heap.size, 0, none⟩)) rfl (by kernel_rfl) (by kernel_rfl) (by kernel_rfl) (fun _ _ _ h => h) (Or.inl ⟨by rfl, fun w h => by go_simp⟩) hHeld ?_
        try simp only [Act.put, List.getElem_toArray, List.getElem_cons_zero, List.setIfInBounds_toArray, List.set_cons_zero, List.set_cons_succ]
        refine wpAnyH_take (i := 1) (v := .slice (some ⟨w.heap.size, 0, none⟩) 32 32) rfl (by kernel_rfl) (by kernel_rfl) (by kernel_rfl) (fun _ _ _ h => h) (Or.inl ⟨by rfl, fun w h => by go_simp⟩) hHeld ?_
        try simp only [Act.put, List.getElem_toArray, List.getElem_cons_succ, List.getElem_cons_zero, List.setIfInBounds_toArray, List.set_cons_zero, List.set_cons_succ]
        refine wpAnyH_take (i := 2) rfl (by kernel_rfl) (by kernel_rfl) (by kernel_rfl) (fun _ _ _ h => h) (yieldsIf_load_mid (by rfl) _ _ rfl _ _ rfl _ _ (fun w' h => h) hu76 rfl hsD') hHeld ?_
        try simp only [Act.put, List.getElem_toArray, List.getElem_cons_succ, List.getElem_cons_zero, List.setIfInBounds_toArray, List.set_cons_zero, List.set_cons_succ]
        refine wpAnyH_take (i := 3) (v := .int .u64 (pn : Int)) rfl (by kernel_rfl) (by kernel_rfl) (by kernel_rfl) (fun _ _ _ h => h) (Or.inl ⟨by rfl, fun w h => by go_simp⟩) hHeld ?_
        try simp only [Act.put, List.getElem_toArray, List.getElem_cons_succ, List.getElem_cons_zero, List.setIfInBounds_toArray, List.set_cons_zero, List.set_cons_succ]
        refine wpAnyH_take (i := 5) (v := .slice (some ⟨g4, 0, none⟩) e c4) rfl (by kernel_rfl) (by kernel_rfl) (by kernel_rfl) (fun _ _ _ h => h) (Or.inl ⟨by rfl, fun w h => by go_simp⟩) hHeld ?_
        try simp only [Act.put, List.getElem_toArray, List.getElem_cons_succ, List.getElem_cons_zero, List.setIfInBounds_toArray, List.set_cons_zero, List.set_cons_succ]
        refine wpAnyH_take (i := 6) (v := .int .i64 (t : Int)) rfl (by kernel_rfl) (by kernel_rfl) (by kernel_rfl) (fun _ _ _ h => h) (Or.inl ⟨by rfl, fun w h => by go_simp⟩) hHeld ?_
        try simp only [Act.put, List.getElem_toArray, List.getElem_cons_succ, List.getElem_cons_zero, List.setIfInBounds_toArray, List.set_cons_zero, List.set_cons_succ]
        refine wpAnyH_take (i := 7) (v := .int .i64 (i : Int)) rfl (by kernel_rfl) (by kernel_rfl) (by kernel_rfl) (fun _ _ _ h => h) (Or.inl ⟨by rfl, fun w h => by go_simp⟩) hHeld ?_
        try simp only [Act.put, List.getElem_toArray, List.getElem_cons_succ, List.getElem_cons_zero, List.setIfInBounds_toArray, List.set_cons_zero, List.set_cons_succ]
        refine wpAnyH_take (i := 8) (v := .int .i64 (tk : Int)) rfl (by kernel_rfl) (by kernel_rfl) (by kernel_rfl) (fun _ _ _ h => h) (Or.inl ⟨by rfl, fun w h => by go_simp⟩) hHeld ?_
        try simp only [Act.put, List.getElem_toArray, List.getElem_cons_succ, List.getElem_cons_zero, List.setIfInBounds_toArray, List.set_cons_zero, List.set_cons_succ]
        refine wpAnyH_take (i := 9) (v := .slice a16 (e - tk) (c4 - tk)) rfl (by kernel_rfl) (by kernel_rfl) (by kernel_rfl) (fun _ _ _ h => h) (Or.inl ⟨by rfl, fun w h => by go_simp⟩) hHeld ?_
        try simp only [Act.put, List.getElem_toArray, List.getElem_cons_succ, List.getElem_cons_zero, List.setIfInBounds_toArray, List.set_cons_zero, List.set_cons_succ]
        refine wpAnyH_take (i := 10) (v := .slice (some ⟨g4, 0, none⟩) e c4) rfl (by kernel_rfl) (by kernel_rfl) (by kernel_rfl) (fun _ _ _ h => h) (Or.inl ⟨by rfl, fun w h => by go_simp⟩) hHeld ?_
        try simp only [Act.put, List.getElem_toArray, List.getElem_cons_succ, List.getElem_cons_zero, List.setIfInBounds_toArray, List.set_cons_zero, List.set_cons_succ]
        refine wpAnyH_take (i := 11) (v := .int .i64 (t : Int)) rfl (by kernel_rfl) (by kernel_rfl) (by kernel_rfl) (fun _ _ _ h => h) (Or.inl ⟨by rfl, fun w h => by go_simp⟩) hHeld ?_
        try simp only [Act.put, List.getElem_toArray, List.getElem_cons_succ, List.getElem_cons_zero, List.setIfInBounds_toArray, List.set_cons_zero, List.set_cons_succ]
        refine wpAnyH_take (i := 12) (v := .int .i64 (i : Int)) rfl (by kernel_rfl) (by kernel_rfl) (by kernel_rfl) (fun _ _ _ h => h) (Or.inl ⟨by rfl, fun w h => by go_simp⟩) hHeld ?_
        try simp only [Act.put, List.getElem_toArray, List.getElem_cons_succ, List.getElem_cons_zero, List.setIfInBounds_toArray, List.set_cons_zero, List.set_cons_succ]
        refine wpAnyH_take (i := 13) (v := .int .i64 (tk : Int)) rfl (by kernel_rfl) (by kernel_rfl) (by kernel_rfl) (fun _ _ _ h => h) (Or.inl ⟨by rfl, fun w h => by go_simp⟩) hHeld ?_
        try simp only [Act.put, List.getElem_toArray, List.getElem_cons_succ, List.getElem_cons_zero, List.setIfInBounds_toArray, List.set_cons_zero, List.set_cons_succ]
        refine wpAnyH_take (i := 14) (v := .slice (some ⟨g4, 0, none⟩) tk c4) rfl (by kernel_rfl) (by kernel_rfl) (by kernel_rfl) (fun _ _ _ h => h) (Or.inl ⟨by rfl, fun w h => by go_simp⟩) hHeld ?_
        try simp only [Act.put, List.getElem_toArray, List.getElem_cons_succ, List.getElem_cons_zero, List.setIfInBounds_toArray, List.set_cons_zero, List.set_cons_succ]
        refine wpAnyH_ready (rs := [4]) (by kernel_rfl) (by simp) (AllReadyH.cons rfl (fun K hK => ?_) AllReadyH.nil)
        go_simp
        go_at_call 43
        refine (Hnon.out _).mono ?_
        rintro x w12 ⟨a12, c12, rfl, o12, B12⟩
        have b12 : Below w11.drew.heap.size w11.drew w12 := B12
        have hr12 := rng_bel rD b12 lD
        have Hro := Lib.hid (ropen_any w12 (Hkab.out w12 hr12) o12.rs (RS.below H16.out b12 (Nat.le_refl _)) (RS.below H17.out b12 (Nat.le_refl _)) hal hnl (by omega) (by omega) Hop.out)
        refine hK.out _ _ hr12 (fun hHeld => ?_)
        clear hK K hr12
        try simp only [Act.put, List.getElem_toArray, List.getElem_cons_succ, List.getElem_cons_zero, List.setIfInBounds_toArray, List.set_cons_zero, List.set_cons_succ]
        refine wpAnyH_ready (rs := [15]) (by kernel_rfl) (by simp) (AllReadyH.cons rfl (fun K hK => ?_) AllReadyH.nil)
        go_simp
        go_at_call 42
        refine Hro.out.mono ?_
        rintro x w13 ⟨a13, c13, rfl, o13, B13⟩
        have b13 := btr b12 B13
        refine hK.out _ _ (rng_bel rD b13 lD) (fun hHeld => ?_)
        clear hK K Hro
        try simp only [Act.put, List.getElem_toArray, List.getElem_cons_succ, List.getElem_cons_zero, List.setIfInBounds_toArray, List.set_cons_zero, List.set_cons_succ]
        refine wpAnyH_take (i := 16) (v := .tuple #[.slice a13 d.length c13, .int .i64 (kk : Int)]) rfl (by kernel_rfl) (by kernel_rfl) (by kernel_rfl) (fun _ _ _ h => h) (Or.inl ⟨by rfl, fun w h => by go_simp⟩) hHeld ?_
        try simp only [Act.put, List.getElem_toArray, List.getElem_cons_succ, List.getElem_cons_zero, List.setIfInBounds_toArray, List.set_cons_zero, List.set_cons_succ]
        refine wpAnyH_take (i := 17) (v := .slice a13 d.length c13) rfl (by kernel_rfl) (by kernel_rfl) (by kernel_rfl) (fun _ _ _ h => h) (Or.inl ⟨by rfl, fun w h => by go_simp⟩) hHeld ?_
        try simp only [Act.put, List.getElem_toArray, List.getElem_cons_succ, List.getElem_cons_zero, List.setIfInBounds_toArray, List.set_cons_zero, List.set_cons_succ]
        refine wpAnyH_take (i := 18) (v := .int .i64 (kk : Int)) rfl (by kernel_rfl) (by kernel_rfl) (by kernel_rfl) (fun _ _ _ h => h) (Or.inl ⟨by rfl, fun w h => by go_simp⟩) hHeld ?_
        try simp only [Act.put, List.getElem_toArray, List.getElem_cons_succ, List.getElem_cons_zero, List.setIfInBounds_toArray, List.set_cons_zero, List.set_cons_succ]
        refine wpAnyH_take (i := 19) (v := .slice a13 d.length c13) rfl (by kernel_rfl) (by kernel_rfl) (by kernel_rfl) (fun _ _ _ h => h) (Or.inl ⟨by rfl, fun w h => by go_simp⟩) hHeld ?_
        try simp only [Act.put, List.getElem_toArray, List.getElem_cons_succ, List.getElem_cons_zero, List.setIfInBounds_toArray, List.set_cons_zero, List.set_cons_succ]
        refine wpAnyH_take (i := 20) (v := .int .i64 (kk : Int)) rfl (by kernel_rfl) (by kernel_rfl) (by kernel_rfl) (fun _ _ _ h => h) (Or.inl ⟨by rfl, fun w h => by go_simp⟩) hHeld ?_
        try simp only [Act.put, List.getElem_toArray, List.getElem_cons_succ, List.getElem_cons_zero, List.setIfInBounds_toArray, List.set_cons_zero, List.set_cons_succ]
        refine wpAnyH_done (by kernel_rfl) ?_ _
        try simp only [Act.put, List.getElem_toArray, List.getElem_cons_succ, List.getElem_cons_zero]
        have hW13 := HW11.out.grown (grown_of_below (row := none) b13) (by simp)
        have hH13 := HH11.out.grown (grown_of_below (row := none) b13) (by simp)
        have HT13 := Lib.hid (RS.below HT11.out b13 (Nat.le_refl _))
        have HF13 := Lib.hid (RS.below HF11.out b13 (Nat.le_refl _))
        have HP13 := Lib.hid (RS.below HP11.out b13 (Nat.le_refl _))
        have HB13 := Lib.hid (HB11.out.trans (b13.mono HB11.out.size))
        have H13 := Lib.hid o13.rs
        clear b12 b13 B12 B13 o12 o13 rD HW11 HH11 HT11 HF11 HP11 HB11 H16 H17 Hop hHeld Hkab Hnon
        by_cases hkk0 : kk = 0
        · subst hkk0
          by_cases hx0 : n4 % 4 = 0
          · have hx0' : ((n4 : Int) % 4 != 0) = false := by simp; omega
            obtain ⟨a9, h9, hsl9⟩ := runB_l HP13.out e (by omega)
            have Hcl := Lib.hid (copyP w13.drew (RS.drew h9) (by omega))
            obtain ⟨rr, hrr⟩ : ∃ rr, n - e = rr := ⟨_, rfl⟩
            rw [hrr] at Hcl hsl9
            have Hrr := Lib.hid hrr
            have HW13 := Lib.hid hW13
            have HH13 := Lib.hid hH13
            clear h9 hrr hW13 hH13
            go_upto_region 27 with (fail)
            have hH7d := HH13.out.drew
            have hl3 : h3 < w13.drew.heap.size := hH7d.lt
            refine wp_region_noPanic ?_
            refine wp_region_held_drew (S := fun w' => HC5 w' h3 true lv false (.slice ta tn tc) (.slice fa fn fc)) (by kernel_rfl) hH7d.cells (fun hHeld => ?_)
            refine wpAnyH_take (i := 0) (v := .agg #[.bool true, .int .i64 lv, .bool false, .slice ta tn tc, .slice fa fn fc]) rfl (by kernel_rfl) (by kernel_rfl) (by kernel_rfl) (fun _ _ _ h => h) (Or.inl ⟨by rfl, fun w h => by unfold HC5 at h; go_simp⟩) hHeld ?_
            try simp only [Act.put, List.getElem_toArray, List.getElem_cons_zero, List.setIfInBounds_toArray, List.set_cons_zero, List.set_cons_succ]
            refine wpAnyH_take (i := 1) (v := .int .u64 (pn : Int)) rfl (by kernel_rfl) (by kernel_rfl) (by kernel_rfl) (fun _ _ _ h => h) (Or.inl ⟨by rfl, fun w h => by go_simp⟩) hHeld ?_
            try simp only [Act.put, List.getElem_toArray, List.getElem_cons_succ, List.getElem_cons_zero, List.setIfInBounds_toArray, List.set_cons_zero, List.set_cons_succ]
            refine wpAnyH_take (i := 2) (v := .slice a13 d.length c13) rfl (by kernel_rfl) (by kernel_rfl) (by kernel_rfl) (fun _ _ _ h => h) (Or.inl ⟨by rfl, fun w h => by go_simp⟩) hHeld ?_
            try simp only [Act.put, List.getElem_toArray, List.getElem_cons_succ, List.getElem_cons_zero, List.setIfInBounds_toArray, List.set_cons_zero, List.set_cons_succ]
            refine wpAnyH_take (i := 3) (v := .slice a n c) rfl (by kernel_rfl) (by kernel_rfl) (by kernel_rfl) (fun _ _ _ h => h) (Or.inl ⟨by rfl, fun w h => by go_simp⟩) hHeld ?_
            try simp only [Act.put, List.getElem_toArray, List.getElem_cons_succ, List.getElem_cons_zero, List.setIfInBounds_toArray, List.set_cons_zero, List.set_cons_succ]
            refine wpAnyH_take (i := 4) (v := .int .i64 (e : Int)) rfl (by kernel_rfl) (by kernel_rfl) (by kernel_rfl) (fun _ _ _ h => h) (Or.inl ⟨by rfl, fun w h => by go_simp⟩) hHeld ?_
            try simp only [Act.put, List.getElem_toArray, List.getElem_cons_succ, List.getElem_cons_zero, List.setIfInBounds_toArray, List.set_cons_zero, List.set_cons_succ]
            refine wpAnyH_take (i := 5) (v := .slice a9 rr (c - e)) rfl (by kernel_rfl) (by kernel_rfl) (by kernel_rfl) (fun _ _ _ h => h) (Or.inl ⟨by rfl, fun w h => by go_simp⟩) hHeld ?_
            try simp only [Act.put, List.getElem_toArray, List.getElem_cons_succ, List.getElem_cons_zero, List.setIfInBounds_toArray, List.set_cons_zero, List.set_cons_succ]
            refine wpAnyH_take (i := 7) (v := .int .u64 (C : Int)) rfl (by kernel_rfl) (by kernel_rfl) (by kernel_rfl) (fun _ _ _ h => h) (Or.inl ⟨by rfl, fun w h => by go_simp⟩) hHeld ?_
            try simp only [Act.put, List.getElem_toArray, List.getElem_cons_succ, List.getElem_cons_zero, List.setIfInBounds_toArray, List.set_cons_zero, List.set_cons_succ]
            refine wpAnyH_take (i := 8) (v := .int .i64 (i : Int)) rfl (by kernel_rfl) (by kernel_rfl) (by kernel_rfl) (fun _ _ _ h => h) (Or.inl ⟨by rfl, fun w h => by go_simp⟩) hHeld ?_
            try simp only [Act.put, List.getElem_toArray, List.getElem_cons_succ, List.getElem_cons_zero, List.setIfInBounds_toArray, List.set_cons_zero, List.set_cons_succ]
            refine wpAnyH_ready (rs := [6]) (by kernel_rfl) (by simp) (AllReadyH.cons rfl (fun K hK => ?_) AllReadyH.nil)
            go_simp
            go_at_call 18
            refine Hcl.out.mono ?_
            rintro x w14 ⟨a14, c14, rfl, o14, B14⟩
            have b14 : Below w13.drew.heap.size w13.drew w14 := B14
            refine hK.out _ _ (HC5.bl hHeld b14 hl3) (fun hHeld => ?_)
            clear hK K
            try simp only [Act.put, List.getElem_toArray, List.getElem_cons_succ, List.getElem_cons_zero, List.setIfInBounds_toArray, List.set_cons_zero, List.set_cons_succ]
            have hW14 := HW13.out.drew.grown (grown_of_below (row := none) b14) (by simp)
            have hH14 := hH7d.grown (grown_of_below (row := none) b14) (by simp)
            refine wpAnyH_ready (rs := [9]) (by kernel_rfl) (by simp) (AllReadyH.cons rfl (fun K hK => ?_) AllReadyH.nil)
            refine S_storeH rfl _ _ rfl rfl rfl rfl rfl hW14 ?_
            intro w15 hW15 hg15
            refine hK.out _ _ (HB.grown hH14 hg15 (by simp; omega)).cells (fun hHeld => ?_)
            clear hK K
            try simp only [Act.put, List.getElem_toArray, List.getElem_cons_succ, List.getElem_cons_zero]
            refine wpAnyH_ready (rs := [10]) (by kernel_rfl) (by simp) (AllReadyH.cons rfl (fun K hK => ?_) AllReadyH.nil)
            go_simp
            refine hK.out _ _ hHeld (fun hHeld => ?_)
            clear hK K
            try simp only [Act.put, List.getElem_toArray, List.getElem_cons_succ, List.getElem_cons_zero, List.setIfInBounds_toArray, List.set_cons_zero, List.set_cons_succ]
            refine wpAnyH_ready (rs := [11]) (by kernel_rfl) (by simp) (AllReadyH.cons rfl (fun K hK => ?_) AllReadyH.nil)
            go_simp
            refine hK.out _ _ hHeld (fun hHeld => ?_)
            clear hK K
            try simp only [Act.put, List.getElem_toArray, List.getElem_cons_succ, List.getElem_cons_zero, List.setIfInBounds_toArray, List.set_cons_zero, List.set_cons_succ]
            refine wpAnyH_ready (rs := [12]) (by kernel_rfl) (by simp) (AllReadyH.cons rfl (fun K hK => ?_) AllReadyH.nil)
            go_simp
            refine hK.out _ _ hHeld (fun hHeld => ?_)
            clear hK K
            try simp only [Act.put, List.getElem_toArray, List.getElem_cons_succ, List.getElem_cons_zero, List.setIfInBounds_toArray, List.set_cons_zero, List.set_cons_succ]
            refine wpAnyH_ready (rs := [13]) (by kernel_rfl) (by simp) (AllReadyH.cons rfl (fun K hK => ?_) AllReadyH.nil)
            go_simp
            refine hK.out _ _ hHeld (fun hHeld => ?_)
            clear hK K
            try simp only [Act.put, List.getElem_toArray, List.getElem_cons_succ, List.getElem_cons_zero, List.setIfInBounds_toArray, List.set_cons_zero, List.set_cons_succ]
            refine wpAnyH_ready (rs := [14]) (by kernel_rfl) (by simp) (AllReadyH.cons rfl (fun K hK => ?_) AllReadyH.nil)
            go_simp
            refine hK.out _ _ hHeld (fun hHeld => ?_)
            clear hK K
            try simp only [Act.put, List.getElem_toArray, List.getElem_cons_succ, List.getElem_cons_zero, List.setIfInBounds_toArray, List.set_cons_zero, List.set_cons_succ]
            refine wpAnyH_ready (rs := [15]) (by kernel_rfl) (by simp) (AllReadyH.cons rfl (fun K hK => ?_) AllReadyH.nil)
            go_simp
            refine hK.out _ _ hHeld (fun hHeld => ?_)
            clear hK K
            try simp only [Act.put, List.getElem_toArray, List.getElem_cons_succ, List.getElem_cons_zero, List.setIfInBounds_toArray, List.set_cons_zero, List.set_cons_succ]
            refine wpAnyH_done (by kernel_rfl) ?_ _
            refine NoPanic.normal ?_
            try simp only [Act.put, List.getElem_toArray, List.getElem_cons_succ, List.getElem_cons_zero]
            have c15 := hW15.cells
            have HT15 := Lib.hid (BS.grownHB (RS.below (RS.drew HT13.out) b14 (Nat.le_refl _)) hW14 hg15)
            have HF15 := Lib.hid (BS.grownHB (RS.below (RS.drew HF13.out) b14 (Nat.le_refl _)) hW14 hg15)
            have H15 := Lib.hid (BS.grownHB (RS.below (RS.drew H13.out) b14 (Nat.le_refl _)) hW14 hg15)
            have H115 := Lib.hid (BS.grownHB o14.rs hW14 hg15)
            have hb14 := HB13.out.drew.trans (b14.mono HB13.out.drew.size)
            have HB15 := Lib.hid (hb14.grown hg15 hb14.size (fun k hk => by cases hk; exact Nat.le_succ _))
            clear hb14 hHeld b14 B14 o14 hW14 hH14 hg15
            go_wp2_with fail
            refine bodyPost_ret (v := .tuple #[.agg #[.bool true, .int .i64 lv, .bool false, .slice ta tn tc, .slice fa fn fc], .int .u64 (pn : Int), .slice a13 d.length c13, .slice a14 rr c14, .int .u64 (C : Int), .int .i64 (i : Int), .int .i64 0]) (by simp [results, Tryd.results20, go_sem, c15]) rfl ?_
            have hrp : p.length - e = rr := by rw [hpl]; exact Hrr.out
            refine ⟨⟨ta, tn, tc, fa, fn, fc, HT15.out, HF15.out, .inr (.inr ⟨rfl, by rw [HRN.out]; exact hx0, a13, c13, a14, c14, ?_, H15.out, ?_⟩)⟩, HB15.out⟩
            · rw [hrp, HPH.out]
            · rw [hrp]; exact H115.out
          · have hx0' : ((n4 : Int) % 4 != 0) = true := by simp; omega
            have c0 := hH13.cells
            go_wp2_with (refine L_storeH rfl _ _ rfl rfl rfl rfl rfl hW13 ?_; intro w15 hW15 hg15)
            have c15 := hW15.cells
            refine bodyPost_ret (v := .tuple #[.agg #[.bool true, .int .i64 lv, .bool false, .slice ta tn tc, .slice fa fn fc], .int .u64 0, .slice none 0 0, .slice none 0 0, .int .u64 (C : Int), .int .i64 (i : Int), .int .i64 4]) (by simp [results, Tryd.results20, go_sem, c15]) rfl ?_
            exact ⟨⟨ta, tn, tc, fa, fn, fc, BS.grownHB HT13.out hW13 hg15, BS.grownHB HF13.out hW13 hg15, .inr (.inl ⟨rfl, by rw [HRN.out]; exact hx0, by rw [HPH.out]⟩)⟩, HB13.out.grown hg15 HB13.out.size (fun k hk => by cases hk; exact Nat.le_succ _)⟩
        · have hkk' : ((kk : Int) != 0) = true := by simp; omega
          have c0 := hH13.cells
          go_wp2_with (refine L_storeH rfl _ _ rfl rfl rfl rfl rfl hW13 ?_; intro w15 hW15 hg15)
          have c15 := hW15.cells
          refine bodyPost_ret (v := .tuple #[.agg #[.bool true, .int .i64 lv, .bool false, .slice ta tn tc, .slice fa fn fc], .int .u64 0, .slice none 0 0, .slice none 0 0, .int .u64 (C : Int), .int .i64 (i : Int), .int .i64 5]) (by simp [results, Tryd.results20, go_sem, c15]) rfl ?_
          exact ⟨⟨ta, tn, tc, fa, fn, fc, BS.grownHB HT13.out hW13 hg15, BS.grownHB HF13.out hW13 hg15, .inl ⟨hkk0, by rw [HPH.out]⟩⟩, HB13.out.grown hg15 HB13.out.size (fun k hk => by cases hk; exact Nat.le_succ _)⟩
end Go.Proofs.YtlncnjcbgfeaoaaDoor
