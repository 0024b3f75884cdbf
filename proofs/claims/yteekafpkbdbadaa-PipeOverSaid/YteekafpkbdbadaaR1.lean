/- ref01: Copy, Cut, Same: what they hand back. -/
import Derived.Test.YteekafpkbdbadaaRows
import Derived.Test.YteekafpkbdbadaaMem
import Derived.Handy
import Derived.Deep.DeepFit
namespace Go.Proofs.Yteekafpkbdbadaa
open Go.RowKit
theorem tB : STy Try.prog 34 5 (.int .u8 0) 1 1 := ⟨Try.underlying34, by kernel_rfl, rfl, by decide⟩
/-- what a function that makes a slice of its own hands back -/
def Made (w : World) (n : Nat) (vs : List Value) (e : Ending) (w' : World) : Prop :=
  ∃ a' c', e = .returned (.slice a' n c') ∧ OW w' w.heap.size 5 1 a' n c' vs ∧ Below w.heap.size w w'
theorem cut_any (w : World) {a : Option Addr} {n c : Nat} {vs : List Value} (hx : RS w 1 a n c vs) (k : Int) (h0 : 0 ≤ k) (hk : k ≤ 140737488355328) :
    Calls Try.prog 30 #[.slice a n c, .int .i64 k] w (Made w (min n k.toNat) (vs.take (min n k.toNat))) := by
  have hO := OW_empty w w.heap.size 5 1 (Nat.le_refl _)
  have hx1 := hx.alloc (.cells #[] 5)
  obtain ⟨m, hm⟩ : ∃ m, m = min n k.toNat := ⟨_, rfl⟩
  rw [← hm]
  have hm1 : m ≤ n := by omega
  have hm2 : (m : Int) ≤ k := by omega
  by_cases hk : k < n
  · obtain ⟨k', rfl⟩ := Int.eq_ofNat_of_zero_le h0
    obtain rfl : m = k' := by omega
    clear hm
    go_enter Try.func30, Try.ntmps30
    go_wp2_with (first | (refine L_slice_h tB hx1 m _ _ rfl rfl _ _ rfl rfl rfl hm1 ?_; intro hx2) | (at_builtin; refine L_append tB hO hx2 _ _ rfl rfl rfl rfl (by omega) (by unfold maxLen; omega) (by simp) ?_; intro a' c' w' h1 h2))
    go_ret
    exact ⟨a', c', rfl, by simpa using h1, below_own (below_alloc w _) hO h2 (Nat.le_refl _) (by simp)⟩
  · obtain rfl : m = n := by omega
    clear hm
    go_enter Try.func30, Try.ntmps30
    go_wp2_with (first | (refine L_slice_h tB hx1 m _ _ rfl rfl _ _ rfl rfl rfl hm1 ?_; intro hx2) | (at_builtin; refine L_append tB hO hx2 _ _ rfl rfl rfl rfl (by omega) (by unfold maxLen; omega) (by simp) ?_; intro a' c' w' h1 h2))
    go_ret
    exact ⟨a', c', rfl, by simpa using h1, below_own (below_alloc w _) hO h2 (Nat.le_refl _) (by simp)⟩
end Go.Proofs.Yteekafpkbdbadaa
