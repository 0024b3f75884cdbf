/- what the laws of salt with the reference share. -/
import Derived.Test.YtlncnjcbgfeaoaaCK
import Derived.Test.YtlncnjcbgfeaoaaDB
set_option maxRecDepth 100000
set_option linter.unusedVariables false
namespace Go.Proofs.Ytlncnjcbgfeaoaa
open Go.RowKit
theorem cutP (w : World) {a : Option Addr} {n c : Nat} {xs P : List UInt8} (hx : BS w a n c xs) (K : Int) (k N : Nat) (hK : K = k) (hk : k ≤ 140737488355328) (hN : min n k = N) (hP : xs.take N = P) :
    Calls Try.prog 10 #[.slice a n c, .int .i64 K] w fun e w' => ∃ a' c', e = .returned (.slice a' N c') ∧ OW w' w.heap.size 5 1 a' N c' (P.map B) ∧ Below w.heap.size w w' := by
  subst hK
  refine (cut_any w hx (k : Int) (by omega) (by omega)).mono ?_
  rintro e w' ⟨a', c', h1, h2, h3⟩
  rw [Int.toNat_natCast, hN] at h1 h2
  rw [← List.map_take, hP] at h2
  exact ⟨a', c', h1, h2, h3⟩
theorem copyP (w : World) {a : Option Addr} {n c : Nat} {xs : List UInt8} (hx : BS w a n c xs) (hn : n ≤ 140737488355328) :
    Calls Try.prog 11 #[.slice a n c] w fun e w' => ∃ a' c', e = .returned (.slice a' n c') ∧ OW w' w.heap.size 5 1 a' n c' (xs.map B) ∧ Below w.heap.size w w' := copy_any w hx hn
/-- s[:j] into the spare room -/
theorem runB_hc (a : Option Addr) (n c j : Nat) (hj : j ≤ c) :
    ∀ W, (Instr.slice 23 (.slice a n c) none (some (.int .i64 (j : Int))) none).run Try.prog W = .ok (.slice a j c) W := by
  intro W
  have hz : (Go.sizeOf (Try.prog.elem 23)).run Try.prog W = .ok 1 W := tB.sizeOf
  rw [run_slice_h W 23 _ _ _ tB.und' .i64 _ (by omega) (by omega), hz]
  simp only [Result.andThen, Int.toNat_natCast]
  rw [sliced_eq]
  split <;> cases a <;> simp [Addr.add]
/-- the bytes with one more in their spare room, cut off again -/
structure QS (w : World) (base g n c : Nat) (xs : List UInt8) : Prop where
  own : OW w base 5 1 (some ⟨g, 0, none⟩) (n + 1) c (xs.map B ++ [.int .u8 165])
  len : xs.length = n
theorem QS.bs {w : World} {base g n c : Nat} {xs : List UInt8} (h : QS w base g n c xs) : BS w (some ⟨g, 0, none⟩) n c xs := by
  have h1 := h.own.rs.head n (by omega)
  rw [Nat.mul_one, List.take_append_of_le_length (by rw [List.length_map, h.len]; exact Nat.le_refl _), List.take_of_length_le (by rw [List.length_map, h.len]; exact Nat.le_refl _)] at h1
  exact h1
theorem QS.cell {w : World} {base g n c : Nat} {xs : List UInt8} (h : QS w base g n c xs) : w.cell? ⟨g, n, none⟩ = some (.int .u8 165) :=
  h.own.cell n _ (by rw [List.getElem?_append_right (by rw [List.length_map, h.len]; exact Nat.le_refl _), List.length_map, h.len, Nat.sub_self]; rfl)
theorem QS.room {w : World} {base g n c : Nat} {xs : List UInt8} (h : QS w base g n c xs) : n + 1 ≤ c := h.own.rs.le
end Go.Proofs.Ytlncnjcbgfeaoaa
