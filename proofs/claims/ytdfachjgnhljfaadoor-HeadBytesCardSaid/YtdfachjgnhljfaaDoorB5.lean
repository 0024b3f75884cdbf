/- The program's Wide of two bytes. -/
import Derived.Test.YtdfachjgnhljfaaDoorB4
set_option maxRecDepth 100000
set_option linter.unusedVariables false
namespace Go.Proofs.YtdfachjgnhljfaaDoor
open Go.RowKit
theorem or_64 (m : Nat) (h : m < 64) : bits .or .u8 (m : Int) 64 = (m : Int) + 64 := by
  have h1 : ∀ m : Fin 64, bits .or .u8 ((m.val : Nat) : Int) 64 = ((m.val : Nat) : Int) + 64 := by decide
  exact h1 ⟨m, h⟩
theorem pwide_any (w : World) (n : Nat) (hn : n < 16384) (h0 : 0 < n) :
    Calls Tryd.prog 53 #[.int .u64 (n : Int), .int .i64 2] w fun e w' => ∃ a c, e = .returned (.tuple #[.slice a 2 c, .int .i64 0]) ∧ OW w' w.heap.size 5 1 a 2 c ((wide2 n).map B) ∧ Below w.heap.size w w' := by
  have T := Lib.hid (psize_any w n hn h0)
  have hv : (wide2 n).map B = [.int .u8 ((n : Int) / 256 % 256 + 64), .int .u8 ((n : Int) % 256)] := by
    simp only [wide2, List.map_cons, List.map_nil, B, UInt8.toNat_ofNat']
    rw [show (((n / 256 + 64) % 2 ^ 8 : Nat) : Int) = (n : Int) / 256 % 256 + 64 by omega, show ((n % 2 ^ 8 : Nat) : Int) = (n : Int) % 256 by omega]
  have Hv := Lib.hid hv
  clear hv
  go_enter Tryd.func53, Tryd.ntmps53
  go_wp2
  refine wp_loop_rounds 5 ?_
  rw [rounds_succ]
  go_wp2
  rw [rounds_succ]
  go_wp2
  rw [rounds_succ]
  go_wp2
  rw [rounds_succ]
  go_wp2
  rw [rounds_succ]
  go_wp2_with (first | (refine L_make tB w.heap.size 2 rfl rfl _ _ rfl rfl _ _ _ _ rfl rfl rfl rfl (by omega) (by unfold maxLen; omega) (Nat.le_refl _) ?_; intro w1 o1 g1) | (go_at_call 64; refine T.out.mono ?_; rintro e w' ⟨⟨s, rfl, hs1, hs2⟩, rfl⟩; have q1 : (s == 0) = false := (by simp; omega); have q2 : ¬ 2 < s := (by omega)))
  have b1 := below_none (Below.refl w.heap.size w) g1 (Nat.le_refl _)
  have c0 := o1.cell 0 _ rfl
  have c1 := o1.cell 1 _ rfl
  have d0 := o1.frozen 0
  have d1 := o1.frozen 1
  refine wp_loop_rounds 3 ?_
  rw [rounds_succ]
  go_wp2
  have o2 := o1.setCell 1 (.int .u8 ((n : Int) % 256)) rfl
  have e0 := o2.cell 0 _ rfl
  have e1 := o2.cell 1 _ rfl
  have f0 := o2.frozen 0
  have f1 := o2.frozen 1
  rw [rounds_succ]
  go_wp2
  have o3 := o2.setCell 0 (.int .u8 ((n : Int) / 256)) rfl
  have h0 := o3.cell 0 _ rfl
  have i0 := o3.frozen 0
  rw [rounds_succ]
  go_wp2
  go_ret2
  have hor : bits .or .u8 ((n : Int) / 256) 64 = (n : Int) / 256 + 64 := by
    have := or_64 (n / 256) (by omega)
    rwa [show ((n / 256 : Nat) : Int) = (n : Int) / 256 by omega] at this
  rw [hor]
  have o4 := o3.setCell 0 (.int .u8 ((n : Int) / 256 + 64)) rfl
  refine ⟨_, _, rfl, ?_, ((b1.setCell (Nat.le_refl _) _).setCell (Nat.le_refl _) _).setCell (Nat.le_refl _) _⟩
  rw [Hv.out, show (n : Int) / 256 % 256 = (n : Int) / 256 by omega]
  exact o4
end Go.Proofs.YtdfachjgnhljfaaDoor
