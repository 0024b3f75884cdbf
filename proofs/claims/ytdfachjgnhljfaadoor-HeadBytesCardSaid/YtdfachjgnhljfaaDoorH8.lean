/- What the laws HeadShort, HeadCuts, HeadTwo share: a head that has been cut. -/
import Derived.Test.YtdfachjgnhljfaaDoorH7
import Derived.Test.YtdfachjgnhljfaaDoorB2
import Derived.Test.YtdfachjgnhljfaaDoorB3
import Derived.Test.YtdfachjgnhljfaaDoorM2
import Derived.Test.YtdfachjgnhljfaaDoorP3
set_option maxRecDepth 100000
set_option linter.unusedVariables false
namespace Go.Proofs.YtdfachjgnhljfaaDoor
open Go.RowKit
theorem HB.set2 {w : World} {b : Nat} {l : Bool} {lv : Int} {ph : Bool} {t f : Value} (h : HB w b l lv ph t f) (v : Bool) : HB (w.setCell ⟨b, 2, none⟩ (.bool v)) b l lv v t f := by
  unfold HB at h ⊢; simp [World.setCell, Array.getElem?_modify, h]
theorem HB.st5 {w : World} {b : Nat} {l l' : Bool} {lv lv' : Int} {ph ph' : Bool} {t f t' f' : Value} (h : HB w b l lv ph t f) :
    HB (((((w.setCell ⟨b, 0, none⟩ (.bool l')).setCell ⟨b, 1, none⟩ (.int .i64 lv')).setCell ⟨b, 2, none⟩ (.bool ph')).setCell ⟨b, 3, none⟩ t').setCell ⟨b, 4, none⟩ f') b l' lv' ph' t' f' :=
  ((((h.set0 l').set1 lv').set2 ph').set3 t').set4 f'
theorem grown_st5 (w : World) (b : Nat) (v0 v1 v2 v3 v4 : Value) :
    w.grownBy (((((w.setCell ⟨b, 0, none⟩ v0).setCell ⟨b, 1, none⟩ v1).setCell ⟨b, 2, none⟩ v2).setCell ⟨b, 3, none⟩ v3).setCell ⟨b, 4, none⟩ v4) (some b) :=
  grown_trans (grown_trans (grown_trans (grown_trans (grownBy_setCell w _ v0) (grownBy_setCell _ _ v1)) (grownBy_setCell _ _ v2)) (grownBy_setCell _ _ v3)) (grownBy_setCell _ _ v4)
/-- what stands when a law of heads has cut its head: the box b, and its own names -/
structure Fewed (w W : World) (b : Nat) (l : Bool) (lv : Int) (ph : Bool) (a1 : Option Addr) (n1 c1 : Nat) (a2 : Option Addr) (n2 c2 : Nat) (t f : List UInt8) : Prop where
  hb : HB W b l lv ph (.slice a1 n1 c1) (.slice a2 n2 c2)
  ht : BS W a1 n1 c1 t
  hf : BS W a2 n2 c2 f
  bel : Below w.heap.size w W
theorem fewed {w w1 : World} {l : Bool} {lv : Int} {ph : Bool} {sv fv : Value} {n m : Nat} {a1 a2 : Option Addr} {c1 c2 : Nat} {t f : List UInt8}
    (g1 : OW w1 (w.alloc (.cells #[.bool l, .int .i64 lv, .bool ph, sv, fv] 40)).heap.size 5 1 a1 (min n 30) c1 (List.take (min n 30) (t.map B)))
    (g2 : OW w1 (w.alloc (.cells #[.bool l, .int .i64 lv, .bool ph, sv, fv] 40)).heap.size 5 1 a2 (min m 30) c2 (List.take (min m 30) (f.map B)))
    (g3 : Below (w.alloc (.cells #[.bool l, .int .i64 lv, .bool ph, sv, fv] 40)).heap.size (w.alloc (.cells #[.bool l, .int .i64 lv, .bool ph, sv, fv] 40)) w1)
    (q2 : HB w1 w.heap.size l lv ph sv fv) :
    Fewed w (((((w1.setCell ⟨w.heap.size, 0, none⟩ (.bool l)).setCell ⟨w.heap.size, 1, none⟩ (.int .i64 lv)).setCell ⟨w.heap.size, 2, none⟩ (.bool ph)).setCell ⟨w.heap.size, 3, none⟩ (.slice a1 (min n 30) c1)).setCell ⟨w.heap.size, 4, none⟩ (.slice a2 (min m 30) c2))
      w.heap.size l lv ph a1 (min n 30) c1 a2 (min m 30) c2 (t.take (min n 30)) (f.take (min m 30)) := by
  have hg := grown_st5 w1 w.heap.size (.bool l) (.int .i64 lv) (.bool ph) (.slice a1 (min n 30) c1) (.slice a2 (min m 30) c2)
  refine ⟨q2.st5, ?_, ?_, ?_⟩
  · have := (g1.grown hg fun ad had h => by have := (g1.base_le had).1; simp at this h; omega).rs
    unfold BS; rw [List.map_take]; exact this
  · have := (g2.grown hg fun ad had h => by have := (g2.base_le had).1; simp at this h; omega).rs
    unfold BS; rw [List.map_take]; exact this
  · have hb : Below w.heap.size w w1 := (below_alloc w _).trans (g3.mono (by simp))
    exact hb.grown hg hb.size fun k hk => by cases hk; exact Nat.le_refl _
theorem ReadSPost.form1 {w w' : World} {xs : List UInt8} {e : Ending} (h : ReadSPost w xs e w') : ∃ ta tn tc fa fn fc, e = .returned (.tuple #[.agg #[.bool (readS xs).2.1.long, .int .i64 (readS xs).2.1.level, .bool false, .slice ta tn tc, .slice fa fn fc], .int .i64 ((readS xs).2.2.1 : Nat), .int .i64 ((readS xs).2.2.2 : Nat), .int .i64 (readS xs).1]) ∧
    BS w' ta tn tc (readS xs).2.1.to ∧ BS w' fa fn fc (readS xs).2.1.frm ∧ Below w.heap.size w w' := by
  obtain ⟨l, lv, a1, n1, c1, a2, n2, c2, he, ⟨ta, tn, tc, fa, fn, fc, h1, h2, h3⟩, hb⟩ := h
  exact ⟨ta, tn, tc, fa, fn, fc, by rw [he, h1], h2, h3, hb⟩
theorem Readq (w : World) {a : Option Addr} {n c : Nat} (xs : List UInt8) (hx : BS w a n c xs) (hk : KG w) (hn : n ≤ 140737488355328) {e1 : Int} {hd : Hd} {pa pe : Nat} (hR : readS xs = (e1, hd, pa, pe)) :
    Calls Tryd.prog 25 #[.slice a n c] w fun e w' => ∃ ta tn tc fa fn fc, e = .returned (.tuple #[.agg #[.bool hd.long, .int .i64 hd.level, .bool false, .slice ta tn tc, .slice fa fn fc], .int .i64 (pa : Int), .int .i64 (pe : Int), .int .i64 e1]) ∧
    BS w' ta tn tc hd.to ∧ BS w' fa fn fc hd.frm ∧ Below w.heap.size w w' := by
  refine (Read_any w xs hx hk hn).mono fun e w' h => ?_
  have h2 := h.form1
  rw [hR] at h2; exact h2
end Go.Proofs.YtdfachjgnhljfaaDoor
