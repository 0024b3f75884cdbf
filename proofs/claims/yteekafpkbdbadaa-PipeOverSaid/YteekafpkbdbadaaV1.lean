/- vint: Size, Wide, Num of small numbers; Text of short texts. -/
import Derived.Test.YteekafpkbdbadaaR2
import Derived.Test.YteekafpkbdbadaaM4
import Derived.Deep.DeepCutAuto
import Derived.StillTailTactics
set_option maxRecDepth 100000
set_option linter.unusedVariables false
namespace Go.Proofs.Yteekafpkbdbadaa
open Go.RowKit
/-- a number below 16384, in its least form -/
def numS (n : Nat) : List UInt8 := if n < 64 then [UInt8.ofNat n] else [UInt8.ofNat (n / 256 + 64), UInt8.ofNat n]
def vsz (n : Nat) : Nat := if n < 64 then 1 else 2
theorem numS_len (n : Nat) : (numS n).length = vsz n := by unfold numS vsz; split <;> rfl
def textS (t : List UInt8) : List UInt8 := numS t.length ++ t
theorem textS_len (t : List UInt8) : (textS t).length = vsz t.length + t.length := by rw [textS, List.length_append, numS_len]
theorem vsz_bd (n : Nat) : 1 ≤ vsz n ∧ vsz n ≤ 2 := by unfold vsz; split <;> omega
theorem vsize_any (w : World) (n : Nat) (hn : n < 16384) :
    Calls Try.prog 84 #[.int .u64 (n : Int)] w fun e w' => e = .returned (.int .i64 (vsz n : Int)) ∧ w = w' := by
  unfold vsz
  by_cases h1 : n < 64
  · rw [if_pos h1]
    have q : ((n : Int) / 64 == 0) = true := by simp; omega
    go_enter Try.func84, Try.ntmps84
    go_wp2
    refine wp_loop_rounds 2 ?_
    rw [rounds_succ]
    go_wp2
    go_ret
    exact ⟨rfl, rfl⟩
  · rw [if_neg h1]
    have q : ((n : Int) / 64 == 0) = false := by simp; omega
    have q2 : ((n : Int) / 16384 == 0) = true := by simp; omega
    go_enter Try.func84, Try.ntmps84
    go_wp2
    refine wp_loop_rounds 3 ?_
    rw [rounds_succ]
    go_wp2
    rw [rounds_succ]
    go_wp2
    go_ret
    exact ⟨rfl, rfl⟩
theorem or_64v (m : Nat) (h : m < 64) : bits .or .u8 (m : Int) 64 = (m : Int) + 64 := by
  have h1 : ∀ m : Fin 64, bits .or .u8 ((m.val : Nat) : Int) 64 = ((m.val : Nat) : Int) + 64 := by decide
  exact h1 ⟨m, h⟩
theorem or_0v (m : Nat) (h : m < 64) : bits .or .u8 (m : Int) 0 = (m : Int) := by
  have h1 : ∀ m : Fin 64, bits .or .u8 ((m.val : Nat) : Int) 0 = ((m.val : Nat) : Int) := by decide
  exact h1 ⟨m, h⟩
theorem vwide1 (w : World) (n : Nat) (hn : n < 64) :
    Calls Try.prog 85 #[.int .u64 (n : Int), .int .i64 1] w fun e w' => ∃ a c, e = .returned (.tuple #[.slice a 1 c, .int .i64 0]) ∧ OW w' w.heap.size 5 1 a 1 c ((numS n).map B) ∧ Below w.heap.size w w' := by
  have hs := vsize_any w n (by omega)
  rw [show vsz n = 1 by unfold vsz; rw [if_pos hn]] at hs
  have T := Lib.hid hs
  have hv : (numS n).map B = [.int .u8 (n : Int)] := by
    unfold numS; rw [if_pos hn]
    simp only [List.map_cons, List.map_nil, B, UInt8.toNat_ofNat']
    rw [show ((n % 2 ^ 8 : Nat) : Int) = (n : Int) by omega]
  have Hv := Lib.hid hv
  have ho := or_0v n hn
  have hm : (n : Int) % 256 = (n : Int) := by omega
  clear hv hs
  go_enter Try.func85, Try.ntmps85
  go_wp2
  refine wp_loop_rounds 5 ?_
  rw [rounds_succ]
  go_wp2
  rw [rounds_succ]
  go_wp2
  rw [rounds_succ]
  go_wp2
  rw [rounds_succ]
  go_wp2
  rw [rounds_succ]
  go_wp2_with (first | (refine L_make tB w.heap.size 1 rfl rfl _ _ rfl rfl _ _ _ _ rfl rfl rfl rfl (by omega) (by unfold maxLen; omega) (Nat.le_refl _) ?_; intro w1 o1 g1) | (go_at_call 84; refine T.out.mono ?_; rintro e w' ⟨rfl, rfl⟩))
  have b1 := below_none (Below.refl w.heap.size w) g1 (Nat.le_refl _)
  have c0 := o1.cell 0 _ rfl
  have d0 := o1.frozen 0
  refine wp_loop_rounds 2 ?_
  rw [rounds_succ]
  go_wp2
  have o3 := o1.setCell 0 (.int .u8 (n : Int)) rfl
  have h0 := o3.cell 0 _ rfl
  have i0 := o3.frozen 0
  rw [rounds_succ]
  go_wp2
  go_ret2
  have o4 := o3.setCell 0 (.int .u8 (n : Int)) rfl
  refine ⟨_, _, rfl, ?_, (b1.setCell (Nat.le_refl _) _).setCell (Nat.le_refl _) _⟩
  rw [Hv.out]
  exact o4
theorem vwide2 (w : World) (n : Nat) (hn : n < 16384) (h0 : 64 ≤ n) :
    Calls Try.prog 85 #[.int .u64 (n : Int), .int .i64 2] w fun e w' => ∃ a c, e = .returned (.tuple #[.slice a 2 c, .int .i64 0]) ∧ OW w' w.heap.size 5 1 a 2 c ((numS n).map B) ∧ Below w.heap.size w w' := by
  have hs := vsize_any w n hn
  rw [show vsz n = 2 by unfold vsz; rw [if_neg (by omega)]] at hs
  have T := Lib.hid hs
  have hv : (numS n).map B = [.int .u8 ((n : Int) / 256 % 256 + 64), .int .u8 ((n : Int) % 256)] := by
    unfold numS; rw [if_neg (by omega)]
    simp only [List.map_cons, List.map_nil, B, UInt8.toNat_ofNat']
    rw [show (((n / 256 + 64) % 2 ^ 8 : Nat) : Int) = (n : Int) / 256 % 256 + 64 by omega, show ((n % 2 ^ 8 : Nat) : Int) = (n : Int) % 256 by omega]
  have Hv := Lib.hid hv
  clear hv hs
  go_enter Try.func85, Try.ntmps85
  go_wp2
  refine wp_loop_rounds 5 ?_
  rw [rounds_succ]
  go_wp2
  rw [rounds_succ]
  go_wp2
  rw [rounds_succ]
  go_wp2
  rw [rounds_succ]
  go_wp2
  rw [rounds_succ]
  go_wp2_with (first | (refine L_make tB w.heap.size 2 rfl rfl _ _ rfl rfl _ _ _ _ rfl rfl rfl rfl (by omega) (by unfold maxLen; omega) (Nat.le_refl _) ?_; intro w1 o1 g1) | (go_at_call 84; refine T.out.mono ?_; rintro e w' ⟨rfl, rfl⟩))
  have b1 := below_none (Below.refl w.heap.size w) g1 (Nat.le_refl _)
  have c0 := o1.cell 0 _ rfl
  have c1 := o1.cell 1 _ rfl
  have d0 := o1.frozen 0
  have d1 := o1.frozen 1
  refine wp_loop_rounds 3 ?_
  rw [rounds_succ]
  go_wp2
  have o2 := o1.setCell 1 (.int .u8 ((n : Int) % 256)) rfl
  have e0 := o2.cell 0 _ rfl
  have e1 := o2.cell 1 _ rfl
  have f0 := o2.frozen 0
  have f1 := o2.frozen 1
  rw [rounds_succ]
  go_wp2
  have o3 := o2.setCell 0 (.int .u8 ((n : Int) / 256)) rfl
  have h0 := o3.cell 0 _ rfl
  have i0 := o3.frozen 0
  rw [rounds_succ]
  go_wp2
  go_ret2
  have hor : bits .or .u8 ((n : Int) / 256) 64 = (n : Int) / 256 + 64 := by
    have := or_64v (n / 256) (by omega)
    rwa [show ((n / 256 : Nat) : Int) = (n : Int) / 256 by omega] at this
  rw [hor]
  have o4 := o3.setCell 0 (.int .u8 ((n : Int) / 256 + 64)) rfl
  refine ⟨_, _, rfl, ?_, ((b1.setCell (Nat.le_refl _) _).setCell (Nat.le_refl _) _).setCell (Nat.le_refl _) _⟩
  rw [Hv.out, show (n : Int) / 256 % 256 = (n : Int) / 256 by omega]
  exact o4
theorem vnum_any (w : World) (n : Nat) (hn : n < 16384) :
    Calls Try.prog 74 #[.int .u64 (n : Int)] w fun e w' => ∃ a c, e = .returned (.tuple #[.slice a (vsz n) c, .int .i64 0]) ∧ OW w' w.heap.size 5 1 a (vsz n) c ((numS n).map B) ∧ Below w.heap.size w w' := by
  have hs := vsize_any w n hn
  by_cases h : n < 64
  · have e : vsz n = 1 := by unfold vsz; rw [if_pos h]
    rw [e] at hs ⊢
    have T := Lib.hid hs
    have T2 := Lib.hid (vwide1 w n h)
    clear hs e
    go_enter Try.func74, Try.ntmps74
    go_wp2_with (first | (go_at_call 84; refine T.out.mono ?_; rintro e w' ⟨rfl, rfl⟩) | (go_at_call 85; refine T2.out.mono ?_; rintro e w2 ⟨a, c, rfl, h1, h2⟩))
    go_ret2
    exact ⟨a, c, rfl, h1, h2⟩
  · have e : vsz n = 2 := by unfold vsz; rw [if_neg h]
    rw [e] at hs ⊢
    have T := Lib.hid hs
    have T2 := Lib.hid (vwide2 w n hn (by omega))
    clear hs e
    go_enter Try.func74, Try.ntmps74
    go_wp2_with (first | (go_at_call 84; refine T.out.mono ?_; rintro e w' ⟨rfl, rfl⟩) | (go_at_call 85; refine T2.out.mono ?_; rintro e w2 ⟨a, c, rfl, h1, h2⟩))
    go_ret2
    exact ⟨a, c, rfl, h1, h2⟩
theorem vtext_any (w : World) {a : Option Addr} {n c : Nat} {t : List UInt8} (hx : BS w a n c t) (hn : n < 16384) :
    Calls Try.prog 58 #[.slice a n c] w fun e w' => ∃ a' c', e = .returned (.slice a' (vsz n + n) c') ∧ OW w' w.heap.size 5 1 a' (vsz n + n) c' ((textS t).map B) ∧ Below w.heap.size w w' := by
  have T := Lib.hid (vnum_any w n hn)
  have hl := BS.len hx
  have HX := Lib.hid hx
  have e : textS t = numS n ++ t := by unfold textS; rw [hl]
  have HE := Lib.hid e
  have hv := vsz_bd n
  clear hx e
  go_enter Try.func58, Try.ntmps58
  go_wp2_with (first
    | (go_at_call 74; refine T.out.mono ?_; rintro x w1 ⟨a1, c1, rfl, o1, B1⟩; have hx1 := RS.below HX.out B1 (Nat.le_refl _))
    | (at_builtin; refine L_append tB o1 hx1 _ _ rfl rfl rfl rfl (by omega) (by unfold maxLen; omega) B1.size ?_; intro a2 c2 w2 o2 g2))
  go_ret
  refine ⟨a2, c2, rfl, ?_, below_own B1 o1 g2 (Nat.le_refl _) B1.size⟩
  rw [HE.out, List.map_append]; exact o2
end Go.Proofs.Yteekafpkbdbadaa
