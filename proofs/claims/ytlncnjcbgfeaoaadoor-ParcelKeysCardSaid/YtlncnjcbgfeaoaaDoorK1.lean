/- pieces of slices; two arrays of 32 bytes. -/
import Derived.Test.YtlncnjcbgfeaoaaDoorK0
import Derived.Test.YtlncnjcbgfeaoaaDoorM3
import Derived.Stop.BytesEq
set_option maxRecDepth 100000
set_option linter.unusedVariables false
namespace Go.Proofs.YtlncnjcbgfeaoaaDoor
open Go.RowKit Go.Joins
theorem sliced_eq (a : Option Addr) (i n c z : Nat) : sliced a i n c z = .slice (if c = i then a else a.map (·.add (i * z))) (n - i) (c - i) := by
  unfold sliced
  split <;> cases a <;> simp_all
theorem runB_l {W0 : World} {a : Option Addr} {n c : Nat} {xs : List UInt8} (hx : BS W0 a n c xs) (i : Nat) (hi : i ≤ n) :
    ∃ a', BS W0 a' (n - i) (c - i) (xs.drop i) ∧ ∀ W, (Instr.slice 23 (.slice a n c) (some (.int .i64 (i : Int))) none none).run Tryd.prog W = .ok (.slice a' (n - i) (c - i)) W := by
  have hle := RS.le hx
  have h := RS.cut hx i n c hi (Nat.le_refl _) hle (Nat.le_refl _)
  refine ⟨if c = i then a else a.map (·.add (i * 1)), ?_, fun W => ?_⟩
  · have e : ((xs.map B).drop (i * 1)).take ((n - i) * 1) = (xs.drop i).map B := by
      have hl := BS.len hx
      rw [List.take_of_length_le (by simp; omega), Nat.mul_one, List.map_drop]
    rw [e] at h
    exact h
  · have hz : (Go.sizeOf (Tryd.prog.elem 23)).run Tryd.prog W = .ok 1 W := tB.sizeOf
    rw [run_slice_l W 23 _ _ _ tB.und' .i64 _ (by omega) (by omega), hz]
    simp only [Result.andThen, Int.toNat_natCast]
    rw [sliced_eq]
theorem runB_h {W0 : World} {a : Option Addr} {n c : Nat} {xs : List UInt8} (hx : BS W0 a n c xs) (j : Nat) (hj : j ≤ n) :
    BS W0 a j c (xs.take j) ∧ ∀ W, (Instr.slice 23 (.slice a n c) none (some (.int .i64 (j : Int))) none).run Tryd.prog W = .ok (.slice a j c) W := by
  have hle := RS.le hx
  have h := RS.head hx j hj
  refine ⟨by rw [Nat.mul_one, ← List.map_take] at h; exact h, fun W => ?_⟩
  have hz : (Go.sizeOf (Tryd.prog.elem 23)).run Tryd.prog W = .ok 1 W := tB.sizeOf
  rw [run_slice_h W 23 _ _ _ tB.und' .i64 _ (by omega) (by omega), hz]
  simp only [Result.andThen, Int.toNat_natCast]
  rw [sliced_eq]
  split <;> cases a <;> simp [Addr.add]
theorem btrans {w w1 w2 : World} (h : Below w.heap.size w w1) (k : Below w1.heap.size w1 w2) : Below w.heap.size w w2 := h.trans (k.mono h.size)
theorem eq32 (xs : List UInt8) (h : xs.length = 32) (W : World) : (Op.equalIn 10000 22 (.agg (xs.map B).toArray) (.agg (xs.map B).toArray)).run Tryd.prog W = .ok true W := by
  have hz : ∀ w, (Go.sizeOf 5).run Tryd.prog w = .ok 1 w := fun w => by have := tB.sizeOf (w := w); rwa [tB.elem] at this
  have h2 := run_equalIn_bytes (P := Tryd.prog) W 9998 22 5 32 Tryd.underlying22 Tryd.underlying5 hz xs xs h h
  rw [beq_self_eq_true] at h2
  exact h2
end Go.Proofs.YtlncnjcbgfeaoaaDoor
