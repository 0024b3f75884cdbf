/- HeadBytes: the walk. -/
import Derived.Test.YtdfachjgnhljfaaDoorH11
import Derived.Test.YtdfachjgnhljfaaDoorB8
import Derived.Test.YtdfachjgnhljfaaDoorP6
set_option maxRecDepth 100000
set_option linter.unusedVariables false
namespace Go.Proofs.YtdfachjgnhljfaaDoor
open Go.RowKit
theorem few_id (w : World) (l : Bool) (v : Int) (p : Bool) {a b : Option Addr} {n c m k : Nat} {t f : List UInt8} (hn : n ≤ 30) (hm : m ≤ 30) (h1 : BS w a n c t) (h2 : BS w b m k f) :
    Calls Tryd.prog 28 #[.agg #[.bool l, .int .i64 v, .bool p, .slice a n c, .slice b m k]] w
      fun e w' => ∃ a1 c1 a2 c2, e = .returned (.agg #[.bool l, .int .i64 v, .bool p, .slice a1 n c1, .slice a2 m c2]) ∧ BS w' a1 n c1 t ∧ BS w' a2 m c2 f ∧ Below w.heap.size w w' := by
  refine (few_any w l v p h1 h2).mono ?_
  have l1 := BS.len h1
  have l2 := BS.len h2
  rw [Nat.min_eq_left hn, Nat.min_eq_left hm, List.take_of_length_le (by rw [List.length_map]; omega), List.take_of_length_le (by rw [List.length_map]; omega)]
  rintro e w' ⟨a1, c1, a2, c2, rfl, g1, g2, g3⟩
  exact ⟨a1, c1, a2, c2, rfl, g1.rs, g2.rs, g3⟩
/-- both heads of the law, cut: the boxes and what they name -/
structure Two (w W : World) (b4 b9 : Nat) (l : Bool) (lv : Int) (ph : Bool) (a1 : Option Addr) (n c1 : Nat) (a2 : Option Addr) (m c2 : Nat) (a3 : Option Addr) (c3 : Nat) (a4 : Option Addr) (c4 : Nat) (t f : List UInt8) : Prop where
  h4 : HB W b4 l lv ph (.slice a1 n c1) (.slice a2 m c2)
  h9 : HB W b9 l lv ph (.slice a3 n c3) (.slice a4 m c4)
  t1 : BS W a1 n c1 t
  f1 : BS W a2 m c2 f
  t3 : BS W a3 n c3 t
  f3 : BS W a4 m c4 f
  bel : Below w.heap.size w W
  kg : KG W
theorem Two.below {w W W' : World} {b4 b9 : Nat} {l : Bool} {lv : Int} {ph : Bool} {a1 a2 a3 a4 : Option Addr} {n m c1 c2 c3 c4 : Nat} {t f : List UInt8} (h : Two w W b4 b9 l lv ph a1 n c1 a2 m c2 a3 c3 a4 c4 t f) (hb : Below W.heap.size W W') :
    Two w W' b4 b9 l lv ph a1 n c1 a2 m c2 a3 c3 a4 c4 t f :=
  ⟨h.h4.grown (grown_of_below (row := none) hb) (by simp), h.h9.grown (grown_of_below (row := none) hb) (by simp), RS.below h.t1 hb (Nat.le_refl _), RS.below h.f1 hb (Nat.le_refl _), RS.below h.t3 hb (Nat.le_refl _), RS.below h.f3 hb (Nat.le_refl _), below_then h.bel hb h.bel.size, h.kg.below hb⟩
set_option maxHeartbeats 2000000 in
/-- the law's beginning: it is enough to go on from the two cut heads -/
theorem headBytes_err (w : World) (l : Bool) (lv : Int) (ph : Bool) {a b : Option Addr} {n c m k : Nat} {t f : List UInt8} (ht : BS w a n c t) (hf : BS w b m k f) (pn : Nat) (size left : Int) (hk : KG w) (code : Int) (hc : code ≠ 0)
    (P34 : ∀ (W : World) (a3 a4 : Option Addr) (c3 c4 : Nat), Calls Tryd.prog 34 #[.agg #[.bool l, .int .i64 lv, .bool ph, .slice a3 (min n 30) c3, .slice a4 (min m 30) c4], .int .u64 (pn : Int), .int .i64 size, .int .i64 left] W fun e w' => e = .returned (.tuple #[.slice none 0 0, .int .i64 code]) ∧ Below W.heap.size W w')
    (P29 : ∀ (W : World) (a3 a4 : Option Addr) (c3 c4 : Nat), Calls Tryd.prog 29 #[.agg #[.bool l, .int .i64 lv, .bool ph, .slice a3 (min n 30) c3, .slice a4 (min m 30) c4], .int .u64 (pn : Int), .int .i64 size, .int .i64 left] W fun e w' => e = .returned (.tuple #[.slice none 0 0, .int .i64 code]) ∧ Below W.heap.size W w') :
    Calls Tryd.prog 12 #[.agg #[.bool l, .int .i64 lv, .bool ph, .slice a n c, .slice b m k], .int .u64 (pn : Int), .int .i64 size, .int .i64 left] w fun e w' => e = .returned (.bool true) ∧ Below w.heap.size w w' := by
  have T := few_any (w.alloc (.cells #[.bool l, .int .i64 lv, .bool ph, .slice a n c, .slice b m k] 40)) l lv ph (ht.alloc _) (hf.alloc _)
  have q0 : HB (w.alloc (.cells #[.bool l, .int .i64 lv, .bool ph, .slice a n c, .slice b m k] 40)) w.heap.size l lv ph (.slice a n c) (.slice b m k) := heap_alloc_new w _
  have q1 := q0.cells
  have HT := Lib.hid T
  have hc1 : (code == 0) = false := by simpa using hc
  clear T
  go_enter Tryd.func12, Tryd.ntmps12
  go_wp2_with (first | (go_at_call 24; refine (awake4 _).mono ?_; rintro e w' ⟨rfl, rfl⟩) | (go_at_call 28; (with_reducible refine HT.out.mono ?_); rintro e w1 ⟨a1, c1, a2, c2, rfl, g1, g2, g3⟩; have q2 : HB w1 w.heap.size l lv ph (.slice a n c) (.slice b m k) := HB.grown q0 (grown_of_below (row := none) g3) (by simp); have z1 := q2.cells; have z2 := q2.fr))
  have F0 := fewed g1 g2 g3 q2
  clear g1 g2 g3 q0 q1 HT
  obtain ⟨ts, hts⟩ : ∃ ts, t.take (min n 30) = ts := ⟨_, rfl⟩
  obtain ⟨fs, hfs⟩ : ∃ fs, f.take (min m 30) = fs := ⟨_, rfl⟩
  obtain ⟨N1, hN1⟩ : ∃ N, min n 30 = N := ⟨_, rfl⟩
  obtain ⟨M1, hM1⟩ : ∃ M, min m 30 = M := ⟨_, rfl⟩
  rw [hts, hfs, hN1, hM1] at F0
  rw [hN1, hM1] at P34 P29
  rw [hN1, hM1]
  have hN30 : N1 ≤ 30 := by omega
  have hM30 : M1 ≤ 30 := by omega
  clear hts hfs hN1 hM1
  generalize hW : ((((w1.setCell _ _).setCell _ _).setCell _ _).setCell _ _).setCell _ _ = W at F0 ⊢
  clear hW z1 z2 q2
  refine (few_id W l lv ph hN30 hM30 F0.ht F0.hf).mono ?_
  rintro e w2 ⟨a3, c3, a4, c4, rfl, g1, g2, g3⟩
  have G0 : Two w (w2.alloc (.cells #[.bool l, .int .i64 lv, .bool ph, .slice a3 N1 c3, .slice a4 M1 c4] 40)) w.heap.size w2.heap.size l lv ph a1 N1 c1 a2 M1 c2 a3 c3 a4 c4 ts fs :=
    ⟨(F0.hb.grown (grown_of_below (row := none) g3) (by simp)).grown (grown_of_below (row := none) (below_alloc w2 _)) (by simp), heap_alloc_new w2 _, (RS.below F0.ht g3 (Nat.le_refl _)).alloc _, (RS.below F0.hf g3 (Nat.le_refl _)).alloc _, g1.alloc _, g2.alloc _, (below_then F0.bel g3 F0.bel.size).alloc (below_then F0.bel g3 F0.bel.size).size _, (hk.below (below_then F0.bel g3 F0.bel.size)).below (below_alloc w2 _)⟩
  obtain ⟨b9, hb9⟩ : ∃ b9, w2.heap.size = b9 := ⟨_, rfl⟩
  have z4 := G0.h4.cells
  clear F0 g1 g2 g3
  go_wp2_with fail
  generalize hW0 : w2.alloc _ = W0 at G0 ⊢
  rw [hb9] at G0
  clear z4 hW0 hb9
  refine (P34 W0 a3 a4 c3 c4).mono ?_
  rintro e w3 ⟨rfl, b3⟩
  have G1 := G0.below b3
  have z5 := G1.h4.cells
  clear G0
  go_wp2_with fail
  refine (P29 w3 a1 a2 c1 c2).mono ?_
  rintro e w4 ⟨rfl, b4⟩
  have G2 := G1.below b4
  have z7 := G2.h4.cells
  have z8 := G2.h9.cells
  have T2 := same_any (xs := []) (ys := []) w4 (RS_nil w4 1) (RS_nil w4 1)
  rw [beq_self_eq_true] at T2
  have HT2 := Lib.hid T2
  clear G1 z5 T2
  go_wp2_with fail
  refine HT2.out.mono ?_
  rintro e w5 ⟨rfl, rfl⟩
  go_wp2_with fail
  refine (hsame_any _ l lv ph l lv ph G2.t3 G2.f3 G2.t1 G2.f1 rfl rfl rfl rfl rfl).mono ?_
  rintro e w6 ⟨rfl, b6⟩
  have b7 := below_then G2.bel b6 G2.bel.size
  clear G2 z7 z8
  go_wp2_with fail
  go_ret
  exact ⟨rfl, b7⟩
end Go.Proofs.YtdfachjgnhljfaaDoor
