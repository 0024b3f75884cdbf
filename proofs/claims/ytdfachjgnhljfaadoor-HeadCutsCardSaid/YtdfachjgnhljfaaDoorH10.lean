/- HeadCuts: the walk. -/
import Derived.Test.YtdfachjgnhljfaaDoorH8
set_option maxRecDepth 100000
set_option linter.unusedVariables false
namespace Go.Proofs.YtdfachjgnhljfaaDoor
open Go.RowKit
set_option maxHeartbeats 2000000 in
theorem headCuts_walk (w : World) (l : Bool) (lv : Int) (ph : Bool) {a b : Option Addr} {n c m k : Nat} {t f : List UInt8} (ht : BS w a n c t) (hf : BS w b m k f) (pn x : Nat) (hp : pn < 18446744073709551616) (hx : x < 65536) (hk : KG w) :
    Calls Tryd.prog 7 #[.agg #[.bool l, .int .i64 lv, .bool ph, .slice a n c, .slice b m k], .int .u64 (pn : Int), .int .u16 (x : Int)] w fun e w' => e = .returned (.bool true) ∧ Below w.heap.size w w' := by
  have T := few_any (w.alloc (.cells #[.bool l, .int .i64 lv, .bool ph, .slice a n c, .slice b m k] 40)) l lv ph (ht.alloc _) (hf.alloc _)
  have q0 : HB (w.alloc (.cells #[.bool l, .int .i64 lv, .bool ph, .slice a n c, .slice b m k] 40)) w.heap.size l lv ph (.slice a n c) (.slice b m k) := heap_alloc_new w _
  have q1 := q0.cells
  have HT := Lib.hid T
  clear T
  go_enter Tryd.func7, Tryd.ntmps7
  go_wp2_with (first | (go_at_call 24; refine (awake4 _).mono ?_; rintro e w' ⟨rfl, rfl⟩) | (go_at_call 28; refine HT.out.mono ?_; rintro e w1 ⟨a1, c1, a2, c2, rfl, g1, g2, g3⟩; have q2 : HB w1 w.heap.size l lv ph (.slice a n c) (.slice b m k) := HB.grown q0 (grown_of_below (row := none) g3) (by simp); have z1 := q2.cells; have z2 := q2.fr))
  have F0 := fewed g1 g2 g3 q2
  generalize hW : ((((w1.setCell _ _).setCell _ _).setCell _ _).setCell _ _).setCell _ _ = W at F0 ⊢
  clear hW g1 g2 g3 q0 q1 q2 z1 z2 HT
  obtain ⟨ts, hts⟩ : ∃ ts, t.take (min n 30) = ts := ⟨_, rfl⟩
  obtain ⟨fs, hfs⟩ : ∃ fs, f.take (min m 30) = fs := ⟨_, rfl⟩
  obtain ⟨N1, hN1⟩ : ∃ N, min n 30 = N := ⟨_, rfl⟩
  obtain ⟨M1, hM1⟩ : ∃ M, min m 30 = M := ⟨_, rfl⟩
  rw [hts, hfs, hN1, hM1] at F0
  rw [hN1, hM1]
  have hN30 : N1 ≤ 30 := by omega
  clear hts hfs hN1 hM1 ht hf
  have b0 := F0.bel
  have hq := F0.hb
  by_cases hr : rightS l lv ph N1 M1 = true
  · cases l with
    | true =>
      have hr2 : 0 ≤ lv ∧ lv ≤ 1 ∧ N1 < 21 ∧ M1 < 21 ∧ ph = false := by simpa [rightS] using hr
      obtain ⟨r1, r2, r3, r4, rfl⟩ := hr2
      obtain rfl | rfl : lv = 0 ∨ lv = 1 := by omega
      · refine (rb_long0 (w := W) hp 4 16 (by omega) (by omega) (by omega) hr r3 r4 F0.ht F0.hf).mono ?_
        rintro e w2 ⟨a3, N3, c3, rfl, o3, b3⟩
        have z := (hq.grown (grown_of_below (row := none) b3) (by simp)).cells
        have htl := BS.len F0.ht
        have hfl := BS.len F0.hf
        have hs3 := b3.size
        have hN3 : lenL 0 ts fs + 4 = N3 := by have := o3.len; rw [List.length_map, bytesLong_len] at this; omega
        have hL : lenL 0 ts fs ≤ 60 := by unfold lenL; split <;> omega
        have b2 := below_then b0 b3 b0.size
        obtain ⟨K, hK⟩ : ∃ K, x % (N3 + 16) = K := ⟨_, rfl⟩
        have hKx : (x : Int) % ((N3 : Int) + 16) = (K : Int) := by rw [← hK]; push_cast; rfl
        have hK60 : K < N3 + 16 := by rw [← hK]; exact Nat.mod_lt _ (by omega)
        have hR := readS_long 0 (by omega) ts fs (beB 4 pn ++ List.replicate 16 0) 4 20 K (by omega) (by omega) (by omega) (by omega) (by omega) (by omega) (by rw [List.length_append, beB_len]; simp) (by rw [List.length_append, beB_len]; simp; omega)
        rw [if_pos (by omega), ← List.append_assoc, ← bytesLong_eq 0 ts fs 4 16 pn] at hR
        have HR := Lib.hid hR
        have hne : ¬ ((N3 : Int) + 16 = 0) := by omega
        clear F0 hq hr hR hK htl hfl
        go_wp2_with (first | (at_builtin; refine L_append_zeros tB rfl rfl o3 3 Tryd.underlying3 16 (by omega) _ _ rfl rfl _ rfl rfl rfl (by omega) (by omega) ?_; intro a4 c4 w3 o4 g4) | (refine L_slice_h tB o4.rs K _ _ rfl rfl _ _ rfl rfl (by omega) (by omega) ?_; intro hx5))
        have b4 : Below w.heap.size w w3 := below_own b2 o3 g4 b0.size b2.size
        have hp5 : BS w3 a4 K c4 ((bytesLong 0 ts fs 4 16 pn ++ List.replicate 16 0).take K) := by
          unfold BS
          rw [List.map_take, List.map_append, List.map_replicate, show B 0 = .int .u8 0 from rfl]
          simpa only [Nat.mul_one] using hx5
        have k4 := hk.below b4
        refine (Readq w3 _ hp5 k4 (by omega) HR.out).mono ?_
        rintro e w4 ⟨ta, tn, tc, fa, fn, fc, rfl, d1, d2, b5⟩
        clear hx5 hp5 HR
        go_wp2_with fail
        go_ret
        exact ⟨rfl, (below_then b4 b5 b4.size).alloc (below_then b4 b5 b4.size).size _⟩
      · refine (rb_long1 (w := W) hp 4 16 (by omega) (by omega) (by omega) hr r3 r4 F0.ht F0.hf).mono ?_
        rintro e w2 ⟨a3, N3, c3, rfl, o3, b3⟩
        have z := (hq.grown (grown_of_below (row := none) b3) (by simp)).cells
        have htl := BS.len F0.ht
        have hfl := BS.len F0.hf
        have hs3 := b3.size
        have hN3 : lenL 1 ts fs + 4 = N3 := by have := o3.len; rw [List.length_map, bytesLong_len] at this; omega
        have hL : lenL 1 ts fs ≤ 60 := by unfold lenL; split <;> omega
        have b2 := below_then b0 b3 b0.size
        obtain ⟨K, hK⟩ : ∃ K, x % (N3 + 16) = K := ⟨_, rfl⟩
        have hKx : (x : Int) % ((N3 : Int) + 16) = (K : Int) := by rw [← hK]; push_cast; rfl
        have hK60 : K < N3 + 16 := by rw [← hK]; exact Nat.mod_lt _ (by omega)
        have hR := readS_long 1 (by omega) ts fs (beB 4 pn ++ List.replicate 16 0) 4 20 K (by omega) (by omega) (by omega) (by omega) (by omega) (by omega) (by rw [List.length_append, beB_len]; simp) (by rw [List.length_append, beB_len]; simp; omega)
        rw [if_pos (by omega), ← List.append_assoc, ← bytesLong_eq 1 ts fs 4 16 pn] at hR
        have HR := Lib.hid hR
        have hne : ¬ ((N3 : Int) + 16 = 0) := by omega
        clear F0 hq hr hR hK htl hfl
        go_wp2_with (first | (at_builtin; refine L_append_zeros tB rfl rfl o3 3 Tryd.underlying3 16 (by omega) _ _ rfl rfl _ rfl rfl rfl (by omega) (by omega) ?_; intro a4 c4 w3 o4 g4) | (refine L_slice_h tB o4.rs K _ _ rfl rfl _ _ rfl rfl (by omega) (by omega) ?_; intro hx5))
        have b4 : Below w.heap.size w w3 := below_own b2 o3 g4 b0.size b2.size
        have hp5 : BS w3 a4 K c4 ((bytesLong 1 ts fs 4 16 pn ++ List.replicate 16 0).take K) := by
          unfold BS
          rw [List.map_take, List.map_append, List.map_replicate, show B 0 = .int .u8 0 from rfl]
          simpa only [Nat.mul_one] using hx5
        have k4 := hk.below b4
        refine (Readq w3 _ hp5 k4 (by omega) HR.out).mono ?_
        rintro e w4 ⟨ta, tn, tc, fa, fn, fc, rfl, d1, d2, b5⟩
        clear hx5 hp5 HR
        go_wp2_with fail
        go_ret
        exact ⟨rfl, (below_then b4 b5 b4.size).alloc (below_then b4 b5 b4.size).size _⟩
    | false =>
      have hr2 : lv = 2 ∧ N1 = 8 ∧ M1 = 0 := by simpa [rightS] using hr
      obtain ⟨rfl, rfl, rfl⟩ := hr2
      refine (rb_short (w := W) (left := 16) hp 4 (by omega) (by omega) (by omega) hr F0.ht F0.hf (by omega)).mono ?_
      rintro e w2 ⟨a3, c3, rfl, o3, b3⟩
      have z := (hq.grown (grown_of_below (row := none) b3) (by simp)).cells
      clear F0 hq hr
      go_wp2_with fail
      go_ret
      exact ⟨rfl, below_then b0 b3 b0.size⟩
  · refine (rb_form (w := W) (by omega) (by omega) (by omega) (fun _ => by omega) (by simpa using hr)).mono ?_
    rintro e w2 ⟨rfl, b3⟩
    have z := (hq.grown (grown_of_below (row := none) b3) (by simp)).cells
    clear F0 hq hr
    go_wp2_with fail
    go_ret
    exact ⟨rfl, below_then b0 b3 b0.size⟩
end Go.Proofs.YtdfachjgnhljfaaDoor
