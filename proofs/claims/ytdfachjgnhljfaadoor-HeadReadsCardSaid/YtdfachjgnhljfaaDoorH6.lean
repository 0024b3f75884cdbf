/- HeadReads: for every bytes p the law returns true, and p reads as before. Package-level head.kinds as the program's text lays it. No other condition. -/
import Derived.Test.YtdfachjgnhljfaaDoorH1
import Derived.Test.YtdfachjgnhljfaaDoorR16
set_option maxRecDepth 100000
set_option linter.unusedVariables false
namespace Go.Proofs.YtdfachjgnhljfaaDoor
open Go.RowKit
theorem rr_any (w : World) {a : Option Addr} {n c : Nat} (xs : List UInt8) (hx : BS w a n c xs) (hn : n ≤ 140737488355328) : Calls Tryd.prog 26 #[.slice a n c] w (ReadSPost w xs) := by
  cases xs with
  | nil => have hl := hx.len; obtain rfl : n = 0 := by simpa using hl.symm
           exact rr_nil hx
  | cons b bs =>
    by_cases h6 : b.toNat / 64 % 2 = 0
    · exact rr_form b bs hx h6
    · by_cases h7 : b.toNat < 128
      · by_cases hs : n < 9
        · exact rr_short2 b bs hx h6 h7 hs
        · by_cases hs2 : n < 29
          · exact rr_short4 b bs hx h6 h7 hs hs2
          · exact rr_app b bs hx hn h6 h7 hs2
      · by_cases h0 : b.toNat / 16 % 4 = 0
        · exact rr_long0 b bs hx hn h6 h7 h0
        · by_cases h2 : b.toNat / 16 % 4 = 2
          · exact rr_long1 b bs hx hn h6 h7 h2
          · exact rr_kind b bs hx h6 h7 h0 h2
theorem ReadSPost.form {w w' : World} {xs : List UInt8} {e : Ending} (h : ReadSPost w xs e w') : ∃ ta tn tc fa fn fc, e = .returned (.tuple #[.agg #[.bool (readS xs).2.1.long, .int .i64 (readS xs).2.1.level, .bool false, .slice ta tn tc, .slice fa fn fc], .int .i64 ((readS xs).2.2.1 : Nat), .int .i64 ((readS xs).2.2.2 : Nat), .int .i64 (readS xs).1]) ∧
    BS w' ta tn tc (readS xs).2.1.to ∧ BS w' fa fn fc (readS xs).2.1.frm ∧ Below w.heap.size w w' := by
  obtain ⟨l, lv, a1, n1, c1, a2, n2, c2, he, ⟨ta, tn, tc, fa, fn, fc, h1, h2, h3⟩, hb⟩ := h
  exact ⟨ta, tn, tc, fa, fn, fc, by rw [he, h1], h2, h3, hb⟩
theorem Readp (w : World) {a : Option Addr} {n c : Nat} (xs : List UInt8) (hx : BS w a n c xs) (hk : KG w) (hn : n ≤ 140737488355328) {e1 : Int} {hd : Hd} {pa pe : Nat} (hR : readS xs = (e1, hd, pa, pe)) :
    Calls Tryd.prog 25 #[.slice a n c] w fun e w' => ∃ ta tn tc fa fn fc, e = .returned (.tuple #[.agg #[.bool hd.long, .int .i64 hd.level, .bool false, .slice ta tn tc, .slice fa fn fc], .int .i64 (pa : Int), .int .i64 (pe : Int), .int .i64 e1]) ∧
    BS w' ta tn tc hd.to ∧ BS w' fa fn fc hd.frm ∧ Below w.heap.size w w' := by
  refine (Read_any w xs hx hk hn).mono fun e w' h => ?_
  have h2 := h.form
  rw [hR] at h2; exact h2
theorem Readr (w : World) {a : Option Addr} {n c : Nat} (xs : List UInt8) (hx : BS w a n c xs) (hn : n ≤ 140737488355328) {e1 : Int} {hd : Hd} {pa pe : Nat} (hR : readS xs = (e1, hd, pa, pe)) :
    Calls Tryd.prog 26 #[.slice a n c] w fun e w' => ∃ ta tn tc fa fn fc, e = .returned (.tuple #[.agg #[.bool hd.long, .int .i64 hd.level, .bool false, .slice ta tn tc, .slice fa fn fc], .int .i64 (pa : Int), .int .i64 (pe : Int), .int .i64 e1]) ∧
    BS w' ta tn tc hd.to ∧ BS w' fa fn fc hd.frm ∧ Below w.heap.size w w' := by
  refine (rr_any w xs hx hn).mono fun e w' h => ?_
  have h2 := h.form
  rw [hR] at h2; exact h2
set_option maxHeartbeats 2000000 in
theorem headReads_walk (w : World) {a : Option Addr} {n c : Nat} (xs : List UInt8) (hx : BS w a n c xs) (hk : KG w) :
    Calls Tryd.prog 6 #[.slice a n c] w fun e w' => e = .returned (.bool true) ∧ Below w.heap.size w w' := by
  obtain ⟨m, hm⟩ : ∃ m, min n (300 : Int).toNat = m := ⟨_, rfl⟩
  have hm3 : m ≤ 300 := by omega
  have T1 := cut_any w hx 300 (by omega) (by omega)
  rw [hm] at T1
  obtain ⟨ys, hys⟩ : ∃ ys, xs.take m = ys := ⟨_, rfl⟩
  rw [← List.map_take, hys] at T1
  have HT1 := Lib.hid T1
  obtain ⟨R, hR⟩ : ∃ R, readS ys = R := ⟨_, rfl⟩
  obtain ⟨e1, hd, pa, pe⟩ := R
  have HR := Lib.hid hR
  clear T1 hys hm hR
  go_enter Tryd.func6, Tryd.ntmps6
  go_wp2_with (first | (go_at_call 24; refine (awake4 _).mono ?_; rintro e w' ⟨rfl, rfl⟩) | (go_at_call 14; refine HT1.out.mono ?_; rintro e w1 ⟨a1, c1, rfl, g1, g2⟩; clear HT1) | (go_at_call 18; refine (copy_any _ g1.rs (by omega)).mono ?_; rintro e w2 ⟨a2, c2, rfl, g3, g4⟩) | (at_builtin; refine L_append tB (g3.alloc _) (RS_one _ _ _ rfl) _ _ rfl rfl rfl rfl (by omega) (by unfold maxLen; omega) (by have := g4.size; simp; omega) ?_; intro a3 c3 w3 g5 g6) | (refine L_slice_h tB g5.rs m _ _ rfl rfl _ _ rfl rfl rfl (by omega) ?_; intro hq0))
  have b3 : Below w1.heap.size w1 w3 := below_own (g4.alloc g4.size _) (g3.alloc _) g6 (Nat.le_refl _) (by have := g4.size; simp; omega)
  have hyl := BS.len g1.rs
  have hq : BS w3 a3 m c3 ys := by
    have h := hq0
    rw [Nat.mul_one, List.take_append_of_le_length (by rw [List.length_map]; omega), List.take_of_length_le (by rw [List.length_map]; omega)] at h
    exact h
  have hc3 := g5.rs.le
  have k3 := (hk.below g2).below b3
  have b03 := below_then g2 b3 g2.size
  have hp3 : BS w3 a1 m c1 ys := g1.rs.below b3 (Nat.le_refl _)
  have hq5 : RS w3 1 a3 (m + 1) c3 (ys.map B ++ [.int .u8 165]) := g5.rs
  clear hq0 g1 g2 g3 g4 g5 g6 b3
  refine (Readp w3 ys hq k3 (by omega) HR.out).mono ?_
  rintro e w4 ⟨ta, tn, tc, fa, fn, fc, rfl, h1, h2, b4⟩
  have b04 := below_then b03 b4 b03.size
  have hp4 : BS (w4.alloc (.cells #[.bool hd.long, .int .i64 hd.level, .bool false, .slice ta tn tc, .slice fa fn fc] 40)) a1 m c1 ys := (hp3.below b4 (Nat.le_refl _)).alloc _
  have hH4 : HB (w4.alloc (.cells #[.bool hd.long, .int .i64 hd.level, .bool false, .slice ta tn tc, .slice fa fn fc] 40)) w4.heap.size hd.long hd.level false (.slice ta tn tc) (.slice fa fn fc) := heap_alloc_new w4 _
  have hq5' : RS (w4.alloc (.cells #[.bool hd.long, .int .i64 hd.level, .bool false, .slice ta tn tc, .slice fa fn fc] 40)) 1 a3 (m + 1) c3 (ys.map B ++ [.int .u8 165]) := (hq5.below b4 (Nat.le_refl _)).alloc _
  have hq4 : BS (w4.alloc (.cells #[.bool hd.long, .int .i64 hd.level, .bool false, .slice ta tn tc, .slice fa fn fc] 40)) a3 m c3 ys := (hq.below b4 (Nat.le_refl _)).alloc _
  have h1' : BS (w4.alloc (.cells #[.bool hd.long, .int .i64 hd.level, .bool false, .slice ta tn tc, .slice fa fn fc] 40)) ta tn tc hd.to := h1.alloc _
  have h2' : BS (w4.alloc (.cells #[.bool hd.long, .int .i64 hd.level, .bool false, .slice ta tn tc, .slice fa fn fc] 40)) fa fn fc hd.frm := h2.alloc _
  have b04' : Below w.heap.size w (w4.alloc (.cells #[.bool hd.long, .int .i64 hd.level, .bool false, .slice ta tn tc, .slice fa fn fc] 40)) := b04.alloc b04.size _
  clear hp3 hq5 hq h1 h2 b03 b04 k3
  go_wp2_with fail
  refine (Readr _ ys hp4 (by omega) HR.out).mono ?_
  rintro e w5 ⟨sa, sn, sc, ra, rn, rc, rfl, h3, h4, b5⟩
  have z := (hH4.grown (grown_of_below (row := none) b5) (by simp)).cells
  have hlt : w4.heap.size < w5.heap.size := by have := b5.size; simp at this; omega
  have s1 : BS (w5.alloc (.cells #[.bool hd.long, .int .i64 hd.level, .bool false, .slice sa sn sc, .slice ra rn rc] 40)) ta tn tc hd.to := (RS.below h1' b5 (Nat.le_refl _)).alloc _
  have s2 : BS (w5.alloc (.cells #[.bool hd.long, .int .i64 hd.level, .bool false, .slice sa sn sc, .slice ra rn rc] 40)) fa fn fc hd.frm := (RS.below h2' b5 (Nat.le_refl _)).alloc _
  have s3 : BS (w5.alloc (.cells #[.bool hd.long, .int .i64 hd.level, .bool false, .slice sa sn sc, .slice ra rn rc] 40)) sa sn sc hd.to := h3.alloc _
  have s4 : BS (w5.alloc (.cells #[.bool hd.long, .int .i64 hd.level, .bool false, .slice sa sn sc, .slice ra rn rc] 40)) ra rn rc hd.frm := h4.alloc _
  have s5 : BS (w5.alloc (.cells #[.bool hd.long, .int .i64 hd.level, .bool false, .slice sa sn sc, .slice ra rn rc] 40)) a1 m c1 ys := (RS.below hp4 b5 (Nat.le_refl _)).alloc _
  have s6 : BS (w5.alloc (.cells #[.bool hd.long, .int .i64 hd.level, .bool false, .slice sa sn sc, .slice ra rn rc] 40)) a3 m c3 ys := (RS.below hq4 b5 (Nat.le_refl _)).alloc _
  have s7 : RS (w5.alloc (.cells #[.bool hd.long, .int .i64 hd.level, .bool false, .slice sa sn sc, .slice ra rn rc] 40)) 1 a3 (m + 1) c3 (ys.map B ++ [.int .u8 165]) := (RS.below hq5' b5 (Nat.le_refl _)).alloc _
  have b05 : Below w.heap.size w (w5.alloc (.cells #[.bool hd.long, .int .i64 hd.level, .bool false, .slice sa sn sc, .slice ra rn rc] 40)) := (below_then b04' b5 b04'.size).alloc (below_then b04' b5 b04'.size).size _
  clear hp4 hH4 hq5' hq4 h1' h2' b04' h3 h4 b5 b4
  go_wp2_with fail
  refine (hsame_any _ hd.long hd.level false hd.long hd.level false s1 s2 s3 s4 rfl rfl rfl rfl rfl).mono ?_
  rintro e w6 ⟨rfl, b6⟩
  have u5 : BS w6 a1 m c1 ys := RS.below s5 b6 (Nat.le_refl _)
  have u6 : BS w6 a3 m c3 ys := RS.below s6 b6 (Nat.le_refl _)
  have u7 : RS w6 1 a3 (m + 1) c3 (ys.map B ++ [.int .u8 165]) := RS.below s7 b6 (Nat.le_refl _)
  have b06 := below_then b05 b6 b05.size
  have T2 := same_any w6 u6 u5
  rw [beq_self_eq_true] at T2
  have HT2 := Lib.hid T2
  have hget : (ys.map B ++ [Value.int .u8 165])[m]? = some (.int .u8 165) := by
    rw [List.getElem?_append_right (by rw [List.length_map]; omega), List.length_map, hyl]; simp
  have Hget := Lib.hid hget
  clear s1 s2 s3 s4 s5 s6 s7 b05 b6 T2 z u5 u6 hget hyl HR
  go_wp2_with (first | (go_at_call 19; refine HT2.out.mono ?_; rintro e w' ⟨rfl, rfl⟩) | (refine L_reslice tB (m + 1) _ _ rfl rfl _ _ rfl rfl rfl (by omega) ?_) | (refine L_index tB u7 _ _ rfl rfl _ _ rfl rfl (by omega) (by omega) _ (by simpa using Hget.out) ?_; intro q hq))
  go_ret
  exact ⟨ret_true (by simp), b06⟩
end Go.Proofs.YtdfachjgnhljfaaDoor
