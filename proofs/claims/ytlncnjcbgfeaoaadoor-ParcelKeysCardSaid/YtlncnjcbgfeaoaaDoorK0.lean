/- nothing in parts; literal bytes. -/
import Derived.Test.YtlncnjcbgfeaoaaDoorG7
import Derived.Lib.SmallJoins
set_option maxRecDepth 100000
set_option linter.unusedVariables false
namespace Go.Proofs.YtlncnjcbgfeaoaaDoor
open Go.RowKit Go.Shelf Go.Joins
theorem PS_nil (w : World) : PS w none 0 0 [] := ⟨[], RS_nil w 1, rfl, fun i p h => by simp at h⟩
theorem BS_lit (w : World) (xs : List UInt8) (cs : Array Value) (fr : Nat × Nat) (h : cs = (xs.map B).toArray) (n : Nat) (hn : xs.length = n) (hm : n ≤ 140737488355328) {g : Nat} (hg : g = w.heap.size) : BS (w.alloc (.cells cs 5 fr)) (some ⟨g, 0, none⟩) n n xs := by
  subst hg h
  refine ⟨by simp [hn], Nat.le_refl _, by unfold maxLen; omega, one_B _, (fun h => by cases h), fun ad had => ?_⟩
  cases had
  refine ⟨fun _ => rfl, fun q v hq => ?_⟩
  rw [cell_alloc_mark_at w _ _ fr _ _ rfl]
  simpa using hq
end Go.Proofs.YtlncnjcbgfeaoaaDoor
