/- slices.SortFunc of one patch; quilt's check, patch.end. -/
import Derived.Test.YteekafpkbdbadaaOA
import Derived.Test.YteekafpkbdbadaaR2
set_option maxRecDepth 100000
set_option linter.unusedVariables false
namespace Go.Proofs.Yteekafpkbdbadaa.Pi
open Go.RowKit
theorem len64_1 (w : World) : Calls Try.prog 95 #[.int .u64 1] w fun e w' => e = .returned (.int .i64 1) ∧ w = w' := by
  go_enter Try.func95, Try.ntmps95
  go_wp2
  go_ret
  exact ⟨by kernel_rfl, rfl⟩
theorem len_1 (w : World) : Calls Try.prog 76 #[.int .u64 1] w fun e w' => e = .returned (.int .i64 1) ∧ w = w' := by
  go_enter Try.func76, Try.ntmps76
  go_wp2_with (go_at_call 95; refine (len64_1 _).mono ?_; rintro e w' ⟨rfl, rfl⟩)
  go_ret
  exact ⟨rfl, rfl⟩
theorem ins_1 (w : World) (s c : Value) : Calls Try.prog 86 #[s, .int .i64 0, .int .i64 1, c] w fun e w' => e = .returned (.tuple #[]) ∧ w = w' := by
  go_enter Try.func86, Try.ntmps86
  go_wp2
  refine wp_loop_rounds 1 ?_
  rw [rounds_succ]
  go_wp2_with fail
  go_end0
  exact ⟨rfl, rfl⟩
theorem pdq_1 (w : World) (s c l : Value) : Calls Try.prog 75 #[s, .int .i64 0, .int .i64 1, l, c] w fun e w' => e = .returned (.tuple #[]) ∧ w = w' := by
  go_enter Try.func75, Try.ntmps75
  go_wp2
  refine wp_loop_rounds 1 ?_
  rw [rounds_succ]
  go_wp2_with (go_at_call 86; refine (ins_1 _ _ _).mono ?_; rintro e w' ⟨rfl, rfl⟩)
  refine bodyPost_ret (results_none rfl _ _ _) rfl ?_
  exact ⟨rfl, rfl⟩
theorem pend_any (w : World) (o : Nat) (s : SA) (h : o + s.n < 18446744073709551616) : Calls Try.prog 67 #[.agg #[.int .u64 (o : Int), .slice s.a s.n s.c]] w fun e w' => e = .returned (.int .u64 ((o + s.n : Nat) : Int)) ∧ Below w.heap.size w w' := by
  have hb := Lib.hid (below_alloc w (.cells #[.int .u64 (o : Int), .slice s.a s.n s.c] 113))
  obtain ⟨X, hX⟩ : ∃ X, o + s.n = X := ⟨_, rfl⟩
  rw [hX]
  have q1 : IntKind.u64.wrap (s.n : Int) = (s.n : Int) := IntWalk.u64_in _ (by omega)
  have q2 : (o : Int) + (s.n : Int) = (X : Int) := by omega
  have q3 : IntKind.u64.wrap (X : Int) = (X : Int) := IntWalk.u64_in _ (by omega)
  clear hX h
  go_enter Try.func67, Try.ntmps67
  go_wp2
  go_ret
  exact ⟨rfl, hb.out⟩
set_option maxHeartbeats 2000000 in
theorem check_0 {w : World} {qb : Nat} {v0 : Value} (h : CR w qb 111 [v0, u64 0, u64 0, u64 0, .bool false]) (n : Nat) (hn : n ≤ 4611686018427387903) :
    Calls Try.prog 65 #[ptr qb, .int .u64 0, .int .i64 (n : Int), .bool true] w fun e w' => e = .returned (.int .i64 0) ∧ w = w' := by
  have c2 : w.cell? ⟨qb, 2, none⟩ = some (.int .u64 0) := h.at_ 2
  have c4 : w.cell? ⟨qb, 4, none⟩ = some (.bool false) := h.at_ 4
  have q1 : IntKind.u64.wrap (n : Int) = (n : Int) := IntWalk.u64_in _ (by omega)
  have q2 : decide ((4611686018427387903 : Int) < (n : Int)) = false := decide_eq_false (by omega)
  have q3 : decide (4611686018427387903 < n) = false := decide_eq_false (by omega)
  have q4 : decide ((n : Int) < 0) = false := decide_eq_false (by omega)
  clear h hn
  unfold ptr
  go_enter Try.func65, Try.ntmps65
  go_wp2
  go_ret
  exact ⟨rfl, rfl⟩
theorem sort_1 (w : World) (a : Option Addr) (c : Nat) (f : Value) : Calls Try.prog 68 #[.slice a 1 c, f] w fun e w' => e = .returned (.tuple #[]) ∧ w = w' := by
  go_enter Try.func68, Try.ntmps68
  go_wp2_with (first
    | (go_at_call 76; refine (len_1 _).mono ?_; rintro e w' ⟨rfl, rfl⟩)
    | (go_at_call 75; refine (pdq_1 _ _ _ _).mono ?_; rintro e w' ⟨rfl, rfl⟩))
  go_end0
  exact ⟨rfl, rfl⟩
end Go.Proofs.Yteekafpkbdbadaa.Pi
