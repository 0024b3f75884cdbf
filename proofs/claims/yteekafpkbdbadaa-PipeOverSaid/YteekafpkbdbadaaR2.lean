/- bytes.Clone, bytes.Equal; numbers of QUIC: vint.Take and its reference: what they hand back. -/
import Derived.Test.YteekafpkbdbadaaR1
import Derived.WalkSpells
import Derived.BigQuiet
import Derived.Deep.QuietTactic
namespace Go.Proofs.Yteekafpkbdbadaa
open Go.RowKit
theorem ret_true {b : Bool} (h : b = true) : Ending.returned (.bool b) = .returned (.bool true) := by rw [h]
theorem clone_any (w : World) {a : Option Addr} {n c : Nat} {vs : List Value} (hx : RS w 1 a n c vs) (hn : n ≤ 140737488355328) :
    Calls Try.prog 66 #[.slice a n c] w (Made w n vs) := by
  cases a with
  | none =>
    obtain ⟨rfl, rfl, rfl⟩ := hx.nil_inv
    have hq := fun w1 => Lib.run_eql_slice_nil (P := Try.prog) w1 34 5 none 0 0 0 0 Try.underlying34
    go_enter Try.func66, Try.ntmps66
    go_wp2
    go_ret
    exact ⟨none, 0, rfl, OW_nil _ _ _ _, Below.refl _ _⟩
  | some ad =>
    have hq := fun w1 => Lib.run_eql_slice_nil (P := Try.prog) w1 34 5 (some ad) n c 0 0 Try.underlying34
    have hO := OW_empty w w.heap.size 5 1 (Nat.le_refl _)
    go_enter Try.func66, Try.ntmps66
    go_wp2_with (at_builtin; refine L_append tB hO (hx.alloc _) _ _ rfl rfl rfl rfl (by omega) (by unfold maxLen; omega) (by simp) ?_; intro a' c' w' h1 h2)
    go_ret
    exact ⟨a', c', rfl, by simpa using h1, below_own (below_alloc w _) hO h2 (Nat.le_refl _) (by simp)⟩
end Go.Proofs.Yteekafpkbdbadaa
