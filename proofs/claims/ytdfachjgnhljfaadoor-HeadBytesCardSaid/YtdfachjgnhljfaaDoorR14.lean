/- the reference's Few: a head of its own, cut. -/
import Derived.Test.YtdfachjgnhljfaaDoorR13
set_option maxRecDepth 100000
set_option linter.unusedVariables false
namespace Go.Proofs.YtdfachjgnhljfaaDoor
open Go.RowKit
theorem HB.drew {w : World} {b : Nat} {l : Bool} {lv : Int} {ph : Bool} {t f : Value} (h : HB w b l lv ph t f) : HB w.drew b l lv ph t f := h
set_option maxHeartbeats 1000000 in
theorem few_any (w : World) (l : Bool) (v : Int) (p : Bool) {a b : Option Addr} {n c m k : Nat} {t f : List Value}
    (h1 : RS w 1 a n c t) (h2 : RS w 1 b m k f) :
    Calls Tryd.prog 28 #[.agg #[.bool l, .int .i64 v, .bool p, .slice a n c, .slice b m k]] w
      fun e w' => ∃ a1 c1 a2 c2, e = .returned (.agg #[.bool l, .int .i64 v, .bool p, .slice a1 (min n 30) c1, .slice a2 (min m 30) c2]) ∧
        OW w' w.heap.size 5 1 a1 (min n 30) c1 (t.take (min n 30)) ∧ OW w' w.heap.size 5 1 a2 (min m 30) c2 (f.take (min m 30)) ∧ Below w.heap.size w w' := by
  obtain ⟨o1, ho1⟩ : ∃ o1 : Obj, o1 = .cells #[.bool l, .int .i64 v, .bool p, .slice a n c, .slice b m k] 40 := ⟨_, rfl⟩
  have hx1 : RS ((w.alloc o1).alloc hobj) 1 a n c t := (h1.alloc _).alloc _
  have hx2 : RS ((w.alloc o1).alloc hobj) 1 b m k f := (h2.alloc _).alloc _
  have hb := ((below_alloc w o1).alloc (by simp) hobj)
  have q0 : HB ((w.alloc o1).alloc hobj) w.heap.size l v p (.slice a n c) (.slice b m k) := by
    unfold HB
    rw [Below.heap_alloc (w.alloc o1) hobj w.heap.size (by simp), ho1]
    exact heap_alloc_new w _
  have q1 := q0.cells
  have q2 : HB ((w.alloc o1).alloc hobj) (w.heap.size + 1) false 0 false (.slice none 0 0) (.slice none 0 0) := by
    have := HB_new (w.alloc o1); simpa using this
  rw [ho1] at hx1 hx2 hb q0 q1 q2
  clear ho1 h1 h2
  go_enter Tryd.func28, Tryd.ntmps28
  go_wp2_with fail
  go_region_held3 (fun w' => w'.cell? ⟨w.heap.size, 0, none⟩ = some (.bool l) ∧ w'.cell? ⟨w.heap.size, 1, none⟩ = some (.int .i64 v) ∧ w'.cell? ⟨w.heap.size, 2, none⟩ = some (.bool p) ∧ w'.cell? ⟨w.heap.size, 3, none⟩ = some (.slice a n c) ∧ w'.cell? ⟨w.heap.size, 4, none⟩ = some (.slice b m k))
    (first | (with_reducible exact HB.cells Q2) | (with_reducible exact HB.cells Q1) | go_keep)
    (first | (go_at_call 14; (with_reducible refine (cut_any _ X2 30 (by omega) (by omega)).mono ?_); rintro e w2 ⟨a2, c2, rfl, g3, g4⟩; have Q2 : HB w2 w.heap.size l v p (.slice a n c) (.slice b m k) := HB.grown Q1 (grown_of_below (row := none) g4) (by simp); have R2 := HB.grown R1 (grown_of_below (row := none) g4) (by simp); have z1 := R2.cells; have z2 := R2.fr) | (go_at_call 14; (with_reducible refine (cut_any _ X1 30 (by omega) (by omega)).mono ?_); rintro e w2 ⟨a1, c1, rfl, g1, g2⟩; have Q2 : HB w2 w.heap.size l v p (.slice a n c) (.slice b m k) := HB.grown Q1 (grown_of_below (row := none) g2) (by simp); have R2 := HB.grown R1 (grown_of_below (row := none) g2) (by simp); have z1 := R2.cells; have z2 := R2.fr) | (go_at_call 14; (with_reducible refine (cut_any _ hx1.drew 30 (by omega) (by omega)).mono ?_); rintro e w1 ⟨a1, c1, rfl, g1, g2⟩; have Q1 : HB w1 w.heap.size l v p (.slice a n c) (.slice b m k) := HB.grown q0.drew (grown_of_below (row := none) g2) (by simp); have R1 := HB.grown q2.drew (grown_of_below (row := none) g2) (by simp); have X2 : RS w1 1 b m k f := RS.below hx2.drew g2 (Nat.le_refl _)) | (go_at_call 14; (with_reducible refine (cut_any _ hx2.drew 30 (by omega) (by omega)).mono ?_); rintro e w1 ⟨a2, c2, rfl, g3, g4⟩; have Q1 : HB w1 w.heap.size l v p (.slice a n c) (.slice b m k) := HB.grown q0.drew (grown_of_below (row := none) g4) (by simp); have R1 := HB.grown q2.drew (grown_of_below (row := none) g4) (by simp); have X1 : RS w1 1 a n c t := RS.below hx1.drew g4 (Nat.le_refl _)))
  go_wp2_with fail
  refine bodyPost_ret (v := .agg #[.bool l, .int .i64 v, .bool p, .slice a1 (min n 30) c1, .slice a2 (min m 30) c2]) (by simp [results, Tryd.results28, go_sem, z1]) rfl ?_
  have hz1 := g2.size
  have hz2 := g4.size
  simp at hz1
  have e1 : ∀ x, a1 = some x → x.block ≠ w.heap.size + 1 := fun x hx => by have := (g1.base_le hx).1; simp at this; omega
  have e2 : ∀ x, a2 = some x → x.block ≠ w.heap.size + 1 := fun x hx => by have := (g3.base_le hx).1; omega
  have o5 : ∀ {a' : Option Addr} {n' c' base : Nat} {vs : List Value}, OW w2 base 5 1 a' n' c' vs → (∀ x, a' = some x → x.block ≠ w.heap.size + 1) → w.heap.size ≤ base → ∀ v0 v1 v2 v3 v4,
      OW (((((w2.setCell ⟨w.heap.size + 1, 0, none⟩ v0).setCell ⟨w.heap.size + 1, 1, none⟩ v1).setCell ⟨w.heap.size + 1, 2, none⟩ v2).setCell ⟨w.heap.size + 1, 3, none⟩ v3).setCell ⟨w.heap.size + 1, 4, none⟩ v4) w.heap.size 5 1 a' n' c' vs :=
    fun h hn hb v0 v1 v2 v3 v4 => (OW.setOther (OW.setOther (OW.setOther (OW.setOther (OW.setOther h hn _) hn _) hn _) hn _) hn _).mono hb
  refine ⟨a1, c1, a2, c2, rfl, ?_, ?_, ?_⟩
  · exact o5 (g1.below g4 (Nat.le_refl _)) e1 (by simp; omega) _ _ _ _ _
  · exact o5 g3 e2 (by omega) _ _ _ _ _
  · have hB : Below w.heap.size w w2 := (hb.trans ((below_undrew g2).mono (by simp; omega))).trans (g4.mono (by omega))
    exact ((((hB.setCell (by simp) _).setCell (by simp) _).setCell (by simp) _).setCell (by simp) _).setCell (by simp) _
end Go.Proofs.YtdfachjgnhljfaaDoor
