/- HeadTwo: the walk. -/
import Derived.Test.YtdfachjgnhljfaaDoorH11
set_option maxRecDepth 100000
set_option linter.unusedVariables false
namespace Go.Proofs.YtdfachjgnhljfaaDoor
open Go.RowKit
theorem tH : STy Tryd.prog 53 40 (.agg #[.bool false, .int .i64 0, .bool false, .slice none 0 0, .slice none 0 0]) 5 72 := ⟨Tryd.underlying53, by kernel_rfl, rfl, by decide⟩
theorem tI : STy Tryd.prog 54 3 (.int .i64 0) 1 8 := ⟨Tryd.underlying54, by kernel_rfl, rfl, by decide⟩
def I64 (e : Nat) : Value := .int .i64 (e : Int)
/-- what the first loop has gathered -/
structure Gath (w wr : World) (ks : List Pk) (x5 : Option Addr) (y5 : Nat) (x6 : Option Addr) (y6 : Nat) : Prop where
  ok : ∀ k ∈ ks, k.Ok
  six : ks.length ≤ 6
  p : OW wr w.heap.size 5 1 x5 (flat ks).length y5 ((flat ks).map B)
  e : OW wr w.heap.size 3 1 x6 ks.length y6 ((ends ks).map I64)
  bel : Below w.heap.size w wr
theorem Gath.below {w wr W : World} {ks : List Pk} {x5 x6 : Option Addr} {y5 y6 : Nat} (h : Gath w wr ks x5 y5 x6 y6) (hb : Below wr.heap.size wr W) : Gath w W ks x5 y5 x6 y6 :=
  ⟨h.ok, h.six, h.p.below hb (Nat.le_refl _), h.e.below hb (Nat.le_refl _), below_then h.bel hb h.bel.size⟩
set_option maxHeartbeats 4000000 in
theorem headTwo_walk (w : World) {a a' : Option Addr} {n c m d : Nat} {zs : List UInt8} (hl : HS w a n) (hz : BS w a' m d zs) (hk : KG w) :
    Calls Tryd.prog 8 #[.slice a n c, .slice a' m d] w fun e w' => e = .returned (.bool true) ∧ Below w.heap.size w w' := by
  have hn63 := hl.1
  unfold maxLen at hn63
  have hmm := hz.max
  have hml := hz.le
  unfold maxLen at hmm
  go_enter Tryd.func8, Tryd.ntmps8
  go_wp2_with (go_at_call 24; refine (awake4 _).mono ?_; rintro e w' ⟨rfl, rfl⟩)
  go_loopw [5, 6, 23] (fun p en i wr => ∃ (j : Nat) (x5 x6 : Option Addr) (y5 y6 : Nat) (ks : List Pk), j ≤ n ∧ i = .int .i64 (j : Int) ∧ p = .slice x5 (flat ks).length y5 ∧ en = .slice x6 ks.length y6 ∧ ks.length ≤ j ∧ Gath w wr ks x5 y5 x6 y6) (fun _ _ i _ => n - (intOf i).toNat)
  case atStart => exact ⟨0, none, none, 0, 0, [], by omega, rfl, rfl, rfl, Nat.le_refl _, ⟨by simp, by simp, OW_nil _ _ _ _, OW_nil _ _ _ _, Below.refl _ _⟩⟩
  case round =>
    obtain ⟨j, x5, x6, y5, y6, ks, hj, rfl, rfl, rfl, hkj, G⟩ := hrel
    have hfl := flat_le ks G.ok
    have hs6 := G.six
    obtain ⟨FL, hFL⟩ : ∃ FL, (flat ks).length = FL := ⟨_, rfl⟩
    obtain ⟨KL, hKL⟩ : ∃ KL, ks.length = KL := ⟨_, rfl⟩
    rw [hFL, hKL] at hfl
    rw [hKL] at hs6 hkj
    rw [hFL, hKL]
    by_cases hlt : j < n
    · obtain ⟨b, o, rfl, hh⟩ := hl.2 (by omega)
      obtain ⟨l, lv, ph, a1, a2, n1, c1, n2, c2, t, f, z0, ht, hf⟩ := (hh j hlt).below G.bel
      have T := few_any (wr.alloc (.cells #[.bool l, .int .i64 lv, .bool ph, .slice a1 n1 c1, .slice a2 n2 c2] 40)) l lv ph (ht.alloc _) (hf.alloc _)
      have q0 : HB (wr.alloc (.cells #[.bool l, .int .i64 lv, .bool ph, .slice a1 n1 c1, .slice a2 n2 c2] 40)) wr.heap.size l lv ph (.slice a1 n1 c1) (.slice a2 n2 c2) := heap_alloc_new wr _
      have q1 := q0.cells
      have HT := Lib.hid T
      clear T
      go_wp2_with (refine L_index5 tH _ _ rfl rfl _ _ j rfl rfl rfl hlt ?_)
      refine HT.out.mono ?_
      rintro e w1 ⟨a3, c3, a4, c4, rfl, g1, g2, g3⟩
      have q2 : HB w1 wr.heap.size l lv ph (.slice a1 n1 c1) (.slice a2 n2 c2) := HB.grown q0 (grown_of_below (row := none) g3) (by simp)
      have z1 := q2.cells
      have z2 := q2.fr
      have F0 := fewed g1 g2 g3 q2
      clear g1 g2 g3 q0 q1 HT z0
      go_upto_region 9 with (fail)
      generalize hW : ((((w1.setCell _ _).setCell _ _).setCell _ _).setCell _ _).setCell _ _ = W at F0 ⊢
      clear hW
      obtain ⟨ts, hts⟩ : ∃ ts, t.take (min n1 30) = ts := ⟨_, rfl⟩
      obtain ⟨fs, hfs⟩ : ∃ fs, f.take (min n2 30) = fs := ⟨_, rfl⟩
      obtain ⟨N1, hN1⟩ : ∃ N, min n1 30 = N := ⟨_, rfl⟩
      obtain ⟨M1, hM1⟩ : ∃ M, min n2 30 = M := ⟨_, rfl⟩
      rw [hts, hfs, hN1, hM1] at F0
      rw [hN1, hM1]
      have hq := F0.hb
      have GW := G.below F0.bel
      clear hts hfs hN1 hM1 z1 z2 q2
      have zz := hq.cells
      by_cases hsk : 6 ≤ j ∨ l = false
      · have hskip : True := trivial
        rcases Nat.lt_or_ge j 6 with h6 | h6
        · obtain rfl : l = false := by rcases hsk with h | h; omega; exact h
          go_wp2_with fail
          exact ⟨⟨j + 1, x5, x6, y5, y6, ks, by omega, by go_num, by rw [hFL], by rw [hKL], by omega, GW⟩, by simp [intOf]; omega⟩
        · go_wp2_with fail
          exact ⟨⟨j + 1, x5, x6, y5, y6, ks, by omega, by go_num, by rw [hFL], by rw [hKL], by omega, GW⟩, by simp [intOf]; omega⟩
      · have h6 : j < 6 := by omega
        obtain rfl : l = true := by cases l <;> simp_all
        have hzW := (RS.below hz G.bel (Nat.le_refl _)).below F0.bel (Nat.le_refl _)
        by_cases hsz : j < m
        · obtain ⟨z, hzj⟩ := BS.get hzW j hsz
          have hzt := z.toNat_lt
          obtain ⟨L, hL⟩ : ∃ L, 16 + z.toNat = L := ⟨_, rfl⟩
          have hLi : (16 : Int) + (z.toNat : Int) = (L : Int) := by omega
          have hL1 : 16 ≤ L := by omega
          have hL2 : L ≤ 271 := by omega
          have Hzj := Lib.hid hzj
          clear hzj
          go_wp2_with (refine LB_index tB hzW z _ _ rfl rfl _ _ rfl rfl (by omega) (by omega) (by simpa using Hzj.out) ?_; intro q hq0)
          clear Hzj
          by_cases hr : rightS true lv ph N1 M1 = true
          · have hr2 : 0 ≤ lv ∧ lv ≤ 1 ∧ N1 < 21 ∧ M1 < 21 ∧ ph = false := by simpa [rightS] using hr
            obtain ⟨r1, r2, r3, r4, rfl⟩ := hr2
            obtain ⟨lvn, rfl⟩ := Int.eq_ofNat_of_zero_le r1
            have htl := BS.len F0.ht
            have hfl2 := BS.len F0.hf
            refine (rb_long (w := W) (pn := 7) lvn (by omega) (by omega) 4 L (by omega) (by omega) (by omega) r3 r4 F0.ht F0.hf).mono ?_
            rintro e w2 ⟨a5, c5, rfl, o3, b3⟩
            have hk1 : ({ lv := lvn, t := ts, f := fs, left := L } : Pk).Ok := ⟨by dsimp only; omega, by dsimp only; omega, by dsimp only; omega, hL1, hL2⟩
            have hkl := Pk.len { lv := lvn, t := ts, f := fs, left := L }
            have hkle := Pk.len_le _ hk1
            dsimp only at hkl
            obtain ⟨N3, hN3⟩ : ∃ N3, lenL lvn ts fs + 4 = N3 := ⟨_, rfl⟩
            rw [hN3] at o3 hkl ⊢
            have G2 := GW.below b3
            have hs3 := G2.bel.size
            have o5 := G2.p
            have o6 := G2.e
            rw [hFL] at o5
            rw [hKL] at o6
            have hP : (flat (ks ++ [{ lv := lvn, t := ts, f := fs, left := L }])).map B = (flat ks).map B ++ ((bytesLong lvn ts fs 4 L 7).map B ++ List.replicate L (.int .u8 0)) := by
              rw [flat_snoc, List.map_append]
              unfold Pk.bytes
              rw [List.map_append, List.map_replicate, show B 0 = .int .u8 0 from rfl]
            have hE := ends_snoc ks { lv := lvn, t := ts, f := fs, left := L }
            rw [hFL, hkl] at hE
            have HP := Lib.hid hP
            have HE := Lib.hid hE
            have HFL := Lib.hid hFL
            have HKL := Lib.hid hKL
            have Hkl := Lib.hid hkl
            have hN3b : N3 ≤ 325 := by omega
            have hFLb : FL ≤ 1950 := by omega
            clear F0 hq hr hP hE hFL hKL G GW hkl zz htl hfl2
            go_wp2_with (first | (at_builtin; refine L_append tB o5 o3.rs _ _ rfl rfl rfl rfl (by omega) (by unfold maxLen; omega) (by omega) ?_; intro a6 c6 w4 o7 g7; have hs4 := g7.size) | (at_builtin; refine L_append_zeros tB rfl rfl o7 3 Tryd.underlying3 L (by omega) _ _ rfl rfl _ rfl rfl rfl (by omega) (by omega) ?_; intro a7 c7 w5 o8 g8; have hs5 := g8.size; have o6a := o6.grown g7 (OW.ne o6 o5 (by decide)); have o6b := o6a.grown g8 (OW.ne o6a o7 (by decide))) | (at_builtin; refine L_append tI (o6b.alloc _) (RS_one _ _ _ rfl) _ _ rfl rfl rfl rfl (by omega) (by unfold maxLen; omega) (by simp; omega) ?_; intro a8 c8 w6 o9 g9))
            have hb5 : Below w.heap.size w w5 := below_own (below_own G2.bel o5 g7 (Nat.le_refl _) hs3) o7 g8 (Nat.le_refl _) (by omega)
            have o8a := (o8.alloc (.cells #[.int .i64 ((FL : Int) + (N3 : Int) + (L : Int))] 3))
            have o8b := o8a.grown g9 (OW.ne o8a (o6b.alloc _) (by decide))
            have hb6 : Below w.heap.size w w6 := below_own (hb5.alloc hb5.size _) (o6b.alloc _) g9 (Nat.le_refl _) (by simp; omega)
            have hlen : (flat (ks ++ [{ lv := lvn, t := ts, f := fs, left := L }])).length = FL + N3 + L := by rw [flat_snoc, List.length_append, HFL.out, Hkl.out]; omega
            have hklen : (ks ++ [({ lv := lvn, t := ts, f := fs, left := L } : Pk)]).length = KL + 1 := by rw [List.length_append, HKL.out]; rfl
            refine ⟨⟨j + 1, a7, a8, c7, c8, ks ++ [{ lv := lvn, t := ts, f := fs, left := L }], by omega, by go_num, by rw [hlen], by rw [hklen], by rw [hklen]; omega, ⟨?_, by rw [hklen]; omega, ?_, ?_, hb6⟩⟩, by simp [intOf]; omega⟩
            · intro k hk'
              rcases List.mem_append.1 hk' with h | h
              · exact G2.ok k h
              · rw [List.mem_singleton.1 h]; exact hk1
            · rw [hlen, HP.out, ← List.append_assoc]; exact o8b
            · rw [hklen, HE.out, List.map_append]
              have hv : List.map I64 [FL + (N3 + L)] = [.int .i64 ((FL : Int) + (N3 : Int) + (L : Int))] := by simp [I64, Int.add_assoc]
              rw [hv]; exact o9
          · refine (rb_form (w := W) (by omega) (by omega) (by omega) (fun _ => by omega) (by simpa using hr)).mono ?_
            rintro e w2 ⟨rfl, b3⟩
            have G2 := GW.below b3
            clear F0 hq hr zz
            go_wp2_with fail
            exact ⟨⟨j + 1, x5, x6, y5, y6, ks, by omega, by go_num, by rw [hFL], by rw [hKL], by omega, G2⟩, by simp [intOf]; omega⟩
        · go_wp2_with fail
          by_cases hr : rightS true lv ph N1 M1 = true
          · have hr2 : 0 ≤ lv ∧ lv ≤ 1 ∧ N1 < 21 ∧ M1 < 21 ∧ ph = false := by simpa [rightS] using hr
            obtain ⟨r1, r2, r3, r4, rfl⟩ := hr2
            obtain ⟨lvn, rfl⟩ := Int.eq_ofNat_of_zero_le r1
            have htl := BS.len F0.ht
            have hfl2 := BS.len F0.hf
            refine (rb_long (w := W) (pn := 7) lvn (by omega) (by omega) 4 16 (by omega) (by omega) (by omega) r3 r4 F0.ht F0.hf).mono ?_
            rintro e w2 ⟨a5, c5, rfl, o3, b3⟩
            have hk1 : ({ lv := lvn, t := ts, f := fs, left := 16 } : Pk).Ok := ⟨by dsimp only; omega, by dsimp only; omega, by dsimp only; omega, by dsimp only; omega, by dsimp only; omega⟩
            have hkl := Pk.len { lv := lvn, t := ts, f := fs, left := 16 }
            have hkle := Pk.len_le _ hk1
            dsimp only at hkl
            obtain ⟨N3, hN3⟩ : ∃ N3, lenL lvn ts fs + 4 = N3 := ⟨_, rfl⟩
            rw [hN3] at o3 hkl ⊢
            have G2 := GW.below b3
            have hs3 := G2.bel.size
            have o5 := G2.p
            have o6 := G2.e
            rw [hFL] at o5
            rw [hKL] at o6
            have hP : (flat (ks ++ [{ lv := lvn, t := ts, f := fs, left := 16 }])).map B = (flat ks).map B ++ ((bytesLong lvn ts fs 4 16 7).map B ++ List.replicate 16 (.int .u8 0)) := by
              rw [flat_snoc, List.map_append]
              unfold Pk.bytes
              rw [List.map_append, List.map_replicate, show B 0 = .int .u8 0 from rfl]
            have hE := ends_snoc ks { lv := lvn, t := ts, f := fs, left := 16 }
            rw [hFL, hkl] at hE
            have HP := Lib.hid hP
            have HE := Lib.hid hE
            have HFL := Lib.hid hFL
            have HKL := Lib.hid hKL
            have Hkl := Lib.hid hkl
            have hN3b : N3 ≤ 325 := by omega
            have hFLb : FL ≤ 1950 := by omega
            clear F0 hq hr hP hE hFL hKL G GW hkl zz htl hfl2
            go_wp2_with (first | (at_builtin; refine L_append tB o5 o3.rs _ _ rfl rfl rfl rfl (by omega) (by unfold maxLen; omega) (by omega) ?_; intro a6 c6 w4 o7 g7; have hs4 := g7.size) | (at_builtin; refine L_append_zeros tB rfl rfl o7 3 Tryd.underlying3 16 (by omega) _ _ rfl rfl _ rfl rfl rfl (by omega) (by omega) ?_; intro a7 c7 w5 o8 g8; have hs5 := g8.size; have o6a := o6.grown g7 (OW.ne o6 o5 (by decide)); have o6b := o6a.grown g8 (OW.ne o6a o7 (by decide))) | (at_builtin; refine L_append tI (o6b.alloc _) (RS_one _ _ _ rfl) _ _ rfl rfl rfl rfl (by omega) (by unfold maxLen; omega) (by simp; omega) ?_; intro a8 c8 w6 o9 g9))
            have hb5 : Below w.heap.size w w5 := below_own (below_own G2.bel o5 g7 (Nat.le_refl _) hs3) o7 g8 (Nat.le_refl _) (by omega)
            have o8a := (o8.alloc (.cells #[.int .i64 ((FL : Int) + (N3 : Int) + (16 : Int))] 3))
            have o8b := o8a.grown g9 (OW.ne o8a (o6b.alloc _) (by decide))
            have hb6 : Below w.heap.size w w6 := below_own (hb5.alloc hb5.size _) (o6b.alloc _) g9 (Nat.le_refl _) (by simp; omega)
            have hlen : (flat (ks ++ [{ lv := lvn, t := ts, f := fs, left := 16 }])).length = FL + N3 + 16 := by rw [flat_snoc, List.length_append, HFL.out, Hkl.out]; omega
            have hklen : (ks ++ [({ lv := lvn, t := ts, f := fs, left := 16 } : Pk)]).length = KL + 1 := by rw [List.length_append, HKL.out]; rfl
            refine ⟨⟨j + 1, a7, a8, c7, c8, ks ++ [{ lv := lvn, t := ts, f := fs, left := 16 }], by omega, by go_num, by rw [hlen], by rw [hklen], by rw [hklen]; omega, ⟨?_, by rw [hklen]; omega, ?_, ?_, hb6⟩⟩, by simp [intOf]; omega⟩
            · intro k hk'
              rcases List.mem_append.1 hk' with h | h
              · exact G2.ok k h
              · rw [List.mem_singleton.1 h]; exact hk1
            · rw [hlen, HP.out, ← List.append_assoc]; exact o8b
            · rw [hklen, HE.out, List.map_append]
              have hv : List.map I64 [FL + (N3 + 16)] = [.int .i64 ((FL : Int) + (N3 : Int) + (16 : Int))] := by simp [I64, Int.add_assoc]
              rw [hv]; exact o9
          · refine (rb_form (w := W) (by omega) (by omega) (by omega) (fun _ => by omega) (by simpa using hr)).mono ?_
            rintro e w2 ⟨rfl, b3⟩
            have G2 := GW.below b3
            clear F0 hq hr zz
            go_wp2_with fail
            exact ⟨⟨j + 1, x5, x6, y5, y6, ks, by omega, by go_num, by rw [hFL], by rw [hKL], by omega, G2⟩, by simp [intOf]; omega⟩
    · obtain rfl : j = n := by omega
      obtain ⟨W1, rfl⟩ : ∃ W1, W1 = wr := ⟨wr, rfl⟩
      have hbel := G.bel
      have hs0 := hbel.size
      have o5 := G.p
      have o6 := G.e
      rw [hFL] at o5
      rw [hKL] at o6
      have kw := hk.below hbel
      go_wp2
      go_loopw [12, 69] (fun fr i wr => ∃ q : Nat, q ≤ KL ∧ i = .int .i64 (q : Int) ∧ fr = .int .i64 ((flatL ks q : Nat) : Int) ∧ Below W1.heap.size W1 wr) (fun _ i _ => KL - (intOf i).toNat)
      case atStart => exact ⟨0, by omega, rfl, by rw [flatL_zero]; rfl, Below.refl _ _⟩
      case round =>
        obtain ⟨q, hq, rfl, rfl, b2⟩ := hrel
        by_cases hlt2 : q < KL
        · obtain ⟨k, hkq⟩ : ∃ k, ks[q]? = some k := ⟨_, List.getElem?_eq_getElem (by omega)⟩
          have hR := readS_flat ks G.ok q k hkq
          have he : ((ends ks).map I64)[q]? = some (.int .i64 ((flatL ks (q + 1) : Nat) : Int)) := by rw [List.getElem?_map, ends_get ks q (by omega)]; rfl
          have hsu := flatL_succ ks q k hkq
          have hle1 := flatL_le ks (q + 1)
          rw [hFL] at hle1
          obtain ⟨Fq, hFq⟩ : ∃ Fq, flatL ks q = Fq := ⟨_, rfl⟩
          obtain ⟨Fn, hFn⟩ : ∃ Fn, flatL ks (q + 1) = Fn := ⟨_, rfl⟩
          obtain ⟨KB, hKB⟩ : ∃ KB, k.bytes.length = KB := ⟨_, rfl⟩
          rw [hFq, hKB] at hR
          rw [hFn] at he
          rw [hFn, hFq, hKB] at hsu
          rw [hFn] at hle1
          rw [hFq]
          have hx5 : BS wr x5 FL y5 (flat ks) := RS.below o5.rs b2 (Nat.le_refl _)
          have hx6 := RS.below o6.rs b2 (Nat.le_refl _)
          have k2 := kw.below b2
          have HR := Lib.hid hR
          have He := Lib.hid he
          have Hsu := Lib.hid hsu
          have HFn := Lib.hid hFn
          have hsum : (Fq : Int) + (KB : Int) = (Fn : Int) := by omega
          clear hR he hkq hFq hFn hKB hsu
          go_wp2_with (first | (refine L_index tI hx6 _ _ rfl rfl _ _ rfl rfl (by omega) (by omega) _ (by simpa using He.out) ?_; intro ad had) | (refine LB_slice_l tB hx5 Fq _ _ rfl rfl _ _ rfl rfl rfl (by omega) ?_; intro sa hxs))
          refine (Readq wr _ hxs k2 (by omega) HR.out).mono ?_
          rintro e w3 ⟨ta, tn, tc, fa, fn, fc, rfl, d1, d2, b3⟩
          have b4 := below_then b2 b3 b2.size
          clear hxs HR hx5 hx6 had
          go_wp2_with fail
          exact ⟨⟨q + 1, by omega, by go_num, by rw [HFn.out], b4.alloc b4.size _⟩, by simp [intOf]; omega⟩
        · go_wp2
          go_ret
          exact ⟨rfl, below_then hbel b2 hbel.size⟩
end Go.Proofs.YtdfachjgnhljfaaDoor
