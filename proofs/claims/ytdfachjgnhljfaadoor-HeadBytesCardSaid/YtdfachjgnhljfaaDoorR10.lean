/- head.read: long heads. -/
import Derived.Test.YtdfachjgnhljfaaDoorR9
set_option maxRecDepth 100000
set_option linter.unusedVariables false
namespace Go.Proofs.YtdfachjgnhljfaaDoor
open Go.RowKit
section more
variable {w : World} {r : Nat} {a : Option Addr} {n c : Nat}
theorem read_kind (b : UInt8) (bs : List UInt8) (h : RD w r a n c 0) (hx : BS w a n c (b :: bs)) (hk : KG w) (hkr : r ≠ 0) (hn : n ≤ 140737488355328) (hrb : ∀ ad, a = some ad → ad.block ≠ r) (h6 : b.toNat / 64 % 2 ≠ 0) (h7 : ¬ b.toNat < 128) (ht0 : b.toNat / 16 % 4 ≠ 0) (ht2 : b.toNat / 16 % 4 ≠ 2) :
    Calls Tryd.prog 47 #[.pointer (some ⟨r, 0, none⟩)] w (ReadPost w r (b :: bs)) := by
  have hl := hx.len
  have hn1 : 1 ≤ n := by simp at hl; omega
  have hb8 := u8_lt b
  have hR := h.below (below_alloc w hobj)
  have hX := hx.alloc hobj
  have hH := HB_new w
  have hlt := h.lt
  have hkl := hk.lt
  have T1 := Lib.hid (take_yes _ hR hX 1 (by omega) hn (by omega) hrb)
  have h64 := and64 b
  rw [show b.toNat / 64 % 2 = 1 by omega] at h64
  have h128 := and128 b
  rw [show b.toNat / 128 % 2 = 1 by omega] at h128
  have hA3 := and3 b
  have hx0 : (((b.toNat / 16 % 4 : Nat) : Int) == 0) = false := by simp; omega
  have hx2 : (((b.toNat / 16 % 4 : Nat) : Int) == 2) = false := by simp; omega
  have Hp := Lib.hid (show readP (b :: bs) = errR 4 by rw [readP, if_neg h6, if_neg h7, if_neg ht0, if_neg ht2])
  generalize b.toNat / 16 % 4 = t at *
  clear h6 hl h7 ht0 ht2
  go_enter Tryd.func47, Tryd.ntmps47
  go_wp2_with (first | (go_at_call 60; refine T1.out.mono ?_; rintro e w1 ⟨a1, c1, rfl, g1, g2, g3⟩; clear T1; have q1 := (hH.grown g3 (by simp; omega)).cells; have q2 := (hH.grown g3 (by simp; omega)).fr; have q3 := ((hk.below (below_alloc w hobj)).grown g3 (by simp; omega)).1; have q4 := ((hk.below (below_alloc w hobj)).grown g3 (by simp; omega)).2) | (refine LB_index tB (xs := [b]) (RS.setOther (g1.rs) (by intro x hx; have h1 := (g1.base_le hx).1; simp at h1 ⊢; omega) _) b _ _ rfl rfl _ _ rfl rfl (by omega) (by omega) rfl ?_; intro q hq) | (refine LB_index tB (xs := [b]) g1.rs b _ _ rfl rfl _ _ rfl rfl (by omega) (by omega) rfl ?_; intro q hq))
  refine bodyPost_ret (v := .tuple #[.agg #[.bool true, .int .i64 0, .bool false, .slice none 0 0, .slice none 0 0], .int .i64 0, .int .i64 0, .int .i64 4]) (by simp [results, Tryd.results47, go_sem, q1]) rfl ?_
  refine ⟨_, _, _, _, _, _, _, _, _, _, by rw [Hp.out]; rfl, gr5 (grown_setNew (grown_trans (World.grownBy_alloc w _ (some r)) g3) (Nat.le_refl _) _) _ (Nat.le_refl _) _ _ _ _ _, by rw [Hp.out]; simp [errR]⟩
end more
end Go.Proofs.YtdfachjgnhljfaaDoor
