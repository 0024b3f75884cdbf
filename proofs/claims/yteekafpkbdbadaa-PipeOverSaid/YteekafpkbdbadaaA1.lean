/- Slices of bytes: what a cut runs as. -/
import Derived.Test.YteekafpkbdbadaaR1
import Derived.Lib.SmallJoins
set_option maxRecDepth 100000
set_option linter.unusedVariables false
namespace Go.Proofs.Yteekafpkbdbadaa
open Go.RowKit Go.Joins Go.Lib
theorem sliced_eq (a : Option Addr) (i n c z : Nat) : sliced a i n c z = .slice (if c = i then a else a.map (·.add (i * z))) (n - i) (c - i) := by
  unfold sliced
  split <;> cases a <;> simp_all
theorem runB_l {W0 : World} {a : Option Addr} {n c : Nat} {xs : List UInt8} (hx : BS W0 a n c xs) (i : Nat) (hi : i ≤ n) :
    ∃ a', BS W0 a' (n - i) (c - i) (xs.drop i) ∧ ∀ W, (Instr.slice 34 (.slice a n c) (some (.int .i64 (i : Int))) none none).run Try.prog W = .ok (.slice a' (n - i) (c - i)) W := by
  have hle := RS.le hx
  have h := RS.cut hx i n c hi (Nat.le_refl _) hle (Nat.le_refl _)
  refine ⟨if c = i then a else a.map (·.add (i * 1)), ?_, fun W => ?_⟩
  · have e : ((xs.map B).drop (i * 1)).take ((n - i) * 1) = (xs.drop i).map B := by
      have hl := BS.len hx
      rw [List.take_of_length_le (by simp; omega), Nat.mul_one, List.map_drop]
    rw [e] at h
    exact h
  · have hz : (Go.sizeOf (Try.prog.elem 34)).run Try.prog W = .ok 1 W := tB.sizeOf
    rw [run_slice_l W 34 _ _ _ tB.und' .i64 _ (by omega) (by omega), hz]
    simp only [Result.andThen, Int.toNat_natCast]
    rw [sliced_eq]
theorem runB_h {W0 : World} {a : Option Addr} {n c : Nat} {xs : List UInt8} (hx : BS W0 a n c xs) (j : Nat) (hj : j ≤ n) :
    BS W0 a j c (xs.take j) ∧ ∀ W, (Instr.slice 34 (.slice a n c) none (some (.int .i64 (j : Int))) none).run Try.prog W = .ok (.slice a j c) W := by
  have hle := RS.le hx
  have h := RS.head hx j hj
  refine ⟨by rw [Nat.mul_one, ← List.map_take] at h; exact h, fun W => ?_⟩
  have hz : (Go.sizeOf (Try.prog.elem 34)).run Try.prog W = .ok 1 W := tB.sizeOf
  rw [run_slice_h W 34 _ _ _ tB.und' .i64 _ (by omega) (by omega), hz]
  simp only [Result.andThen, Int.toNat_natCast]
  rw [sliced_eq]
  split <;> cases a <;> simp [Addr.add]
theorem BS_lit (w : World) (xs : List UInt8) (cs : Array Value) (fr : Nat × Nat) (h : cs = (xs.map B).toArray) (n : Nat) (hn : xs.length = n) (hm : n ≤ 140737488355328) {g : Nat} (hg : g = w.heap.size) : BS (w.alloc (.cells cs 5 fr)) (some ⟨g, 0, none⟩) n n xs := by
  subst hg h
  refine ⟨by simp [hn], Nat.le_refl _, by unfold maxLen; omega, one_B _, (fun h => by cases h), fun ad had => ?_⟩
  cases had
  refine ⟨fun _ => rfl, fun q v hq => ?_⟩
  rw [cell_alloc_mark_at w _ _ fr _ _ rfl]
  simpa using hq
end Go.Proofs.Yteekafpkbdbadaa
