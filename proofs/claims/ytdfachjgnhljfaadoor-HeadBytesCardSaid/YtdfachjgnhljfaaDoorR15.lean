/- the reference's Read: all but the long heads. -/
import Derived.Test.YtdfachjgnhljfaaDoorR9
import Derived.Test.YtdfachjgnhljfaaDoorP2
set_option maxRecDepth 100000
set_option linter.unusedVariables false
namespace Go.Proofs.YtdfachjgnhljfaaDoor
open Go.RowKit
/-- what a reader of heads hands back -/
def ReadSPost (w : World) (xs : List UInt8) (e : Ending) (w' : World) : Prop :=
  ∃ (l : Bool) (lv : Int) (a1 : Option Addr) (n1 c1 : Nat) (a2 : Option Addr) (n2 c2 : Nat), e = .returned (.tuple #[.agg #[.bool l, .int .i64 lv, .bool false, .slice a1 n1 c1, .slice a2 n2 c2], .int .i64 ((readS xs).2.2.1 : Nat), .int .i64 ((readS xs).2.2.2 : Nat), .int .i64 (readS xs).1]) ∧
    HV w' (.agg #[.bool l, .int .i64 lv, .bool false, .slice a1 n1 c1, .slice a2 n2 c2]) (readS xs).2.1 ∧ Below w.heap.size w w'
theorem HV0 (w : World) : HV w (.agg #[.bool false, .int .i64 0, .bool false, .slice none 0 0, .slice none 0 0]) hd0 :=
  ⟨none, 0, 0, none, 0, 0, rfl, RS_nil _ _, RS_nil _ _⟩
theorem readS_err {p : List UInt8} {e : Int} (h : readP p = errR e) (he : e ≠ 0) : readS p = errR e := by
  unfold readS; rw [h]; exact if_pos he
section rr
variable {w : World} {a : Option Addr} {n c : Nat}
theorem ReadSPost_err {w w' : World} {xs : List UInt8} {e : Int} (h : readS xs = errR e) (hb : Below w.heap.size w w') :
    ReadSPost w xs (.returned (.tuple #[.agg #[.bool false, .int .i64 0, .bool false, .slice none 0 0, .slice none 0 0], .int .i64 0, .int .i64 0, .int .i64 e])) w' := by
  refine ⟨false, 0, none, 0, 0, none, 0, 0, by rw [h]; rfl, by rw [h]; exact HV0 w', hb⟩
theorem rr_nil (hx : BS w a 0 c []) : Calls Tryd.prog 26 #[.slice a 0 c] w (ReadSPost w []) := by
  have Hp := Lib.hid (readS_err (p := []) (e := 2) rfl (by decide))
  go_enter Tryd.func26, Tryd.ntmps26
  go_wp2_with fail
  refine bodyPost_ret (v := .tuple #[.agg #[.bool false, .int .i64 0, .bool false, .slice none 0 0, .slice none 0 0], .int .i64 0, .int .i64 0, .int .i64 2]) (by simp [results, Tryd.results26, go_sem]) rfl (ReadSPost_err Hp.out ?_)
  go_grown
theorem rr_form (b : UInt8) (bs : List UInt8) (hx : BS w a n c (b :: bs)) (h6 : b.toNat / 64 % 2 = 0) : Calls Tryd.prog 26 #[.slice a n c] w (ReadSPost w (b :: bs)) := by
  have hl := hx.len
  have h0 : ((n : Int) == 0) = false := by simp at hl ⊢; omega
  have hn1 : 1 ≤ n := by simp at hl; omega
  have hb8 := u8_lt b
  have hq : (b.toNat : Int) / 64 % 2 = 0 := by omega
  have Hp := Lib.hid (readS_err (p := b :: bs) (e := 4) (by simp [readP, h6]) (by decide))
  have hx1 := (hx.alloc hobj).alloc hobj
  clear h6 hl
  go_enter Tryd.func26, Tryd.ntmps26
  go_wp2_with (refine LB_index tB hx1 b _ _ rfl rfl _ _ rfl rfl (by omega) (by omega) rfl ?_; intro q hq)
  refine bodyPost_ret (v := .tuple #[.agg #[.bool false, .int .i64 0, .bool false, .slice none 0 0, .slice none 0 0], .int .i64 0, .int .i64 0, .int .i64 4]) (by simp [results, Tryd.results26, go_sem]) rfl (ReadSPost_err Hp.out ?_)
  go_grown
theorem rr_short2 (b : UInt8) (bs : List UInt8) (hx : BS w a n c (b :: bs)) (h6 : b.toNat / 64 % 2 ≠ 0) (h7 : b.toNat < 128) (hs : n < 9) : Calls Tryd.prog 26 #[.slice a n c] w (ReadSPost w (b :: bs)) := by
  have hl := hx.len
  have h0 : ((n : Int) == 0) = false := by simp at hl ⊢; omega
  have hn1 : 1 ≤ n := by simp at hl; omega
  have hb8 := u8_lt b
  have hq : (b.toNat : Int) / 64 % 2 = 1 := by omega
  have h7' : (b.toNat : Int) < 128 := by omega
  have Hp := Lib.hid (readS_err (p := b :: bs) (e := 2) (by rw [readP, if_neg h6, if_pos h7, if_pos (by omega)]) (by decide))
  have hx1 := (hx.alloc hobj).alloc hobj
  clear h6 hl h7
  go_enter Tryd.func26, Tryd.ntmps26
  go_wp2_with (refine LB_index tB hx1 b _ _ rfl rfl _ _ rfl rfl (by omega) (by omega) rfl ?_; intro q hq)
  refine bodyPost_ret (v := .tuple #[.agg #[.bool false, .int .i64 0, .bool false, .slice none 0 0, .slice none 0 0], .int .i64 0, .int .i64 0, .int .i64 2]) (by simp [results, Tryd.results26, go_sem]) rfl (ReadSPost_err Hp.out ?_)
  go_grown
theorem rr_short4 (b : UInt8) (bs : List UInt8) (hx : BS w a n c (b :: bs)) (h6 : b.toNat / 64 % 2 ≠ 0) (h7 : b.toNat < 128) (hs : ¬ n < 9) (hs2 : n < 29) : Calls Tryd.prog 26 #[.slice a n c] w (ReadSPost w (b :: bs)) := by
  have hl := hx.len
  have h0 : ((n : Int) == 0) = false := by simp at hl ⊢; omega
  have hn1 : 1 ≤ n := by simp at hl; omega
  have hb8 := u8_lt b
  have hq : (b.toNat : Int) / 64 % 2 = 1 := by omega
  have h7' : (b.toNat : Int) < 128 := by omega
  have Hp := Lib.hid (show readS (b :: bs) = errR 4 by
    have h : readP (b :: bs) = (0, ⟨false, 2, ((b :: bs).drop 1).take 8, []⟩, 9, n) := by rw [readP, if_neg h6, if_pos h7, if_neg (by omega), hl]
    unfold readS
    rw [h, if_neg (by simp), if_pos (by dsimp only; omega)])
  have hx1 := (hx.alloc hobj).alloc hobj
  clear h6 hl h7
  go_enter Tryd.func26, Tryd.ntmps26
  go_wp2_with (refine LB_index tB hx1 b _ _ rfl rfl _ _ rfl rfl (by omega) (by omega) rfl ?_; intro q hq)
  refine bodyPost_ret (v := .tuple #[.agg #[.bool false, .int .i64 0, .bool false, .slice none 0 0, .slice none 0 0], .int .i64 0, .int .i64 0, .int .i64 4]) (by simp [results, Tryd.results26, go_sem]) rfl (ReadSPost_err Hp.out ?_)
  go_grown
theorem rr_kind (b : UInt8) (bs : List UInt8) (hx : BS w a n c (b :: bs)) (h6 : b.toNat / 64 % 2 ≠ 0) (h7 : ¬ b.toNat < 128) (ht0 : b.toNat / 16 % 4 ≠ 0) (ht2 : b.toNat / 16 % 4 ≠ 2) : Calls Tryd.prog 26 #[.slice a n c] w (ReadSPost w (b :: bs)) := by
  have hl := hx.len
  have h0 : ((n : Int) == 0) = false := by simp at hl ⊢; omega
  have hn1 : 1 ≤ n := by simp at hl; omega
  have hb8 := u8_lt b
  have hq : (b.toNat : Int) / 64 % 2 = 1 := by omega
  have h7' : ¬ (b.toNat : Int) < 128 := by omega
  have Hp := Lib.hid (readS_err (p := b :: bs) (e := 4) (by rw [readP, if_neg h6, if_neg h7, if_neg ht0, if_neg ht2]) (by decide))
  have hx1 := (hx.alloc hobj).alloc hobj
  have t0 : ((b.toNat : Int) / 16 % 4 == 0) = false := by simp; omega
  have t2 : ((b.toNat : Int) / 16 % 4 == 2) = false := by simp; omega
  clear h6 hl h7 ht0 ht2
  go_enter Tryd.func26, Tryd.ntmps26
  go_wp2_with (refine LB_index tB hx1 b _ _ rfl rfl _ _ rfl rfl (by omega) (by omega) rfl ?_; intro q hq)
  refine bodyPost_ret (v := .tuple #[.agg #[.bool false, .int .i64 0, .bool false, .slice none 0 0, .slice none 0 0], .int .i64 0, .int .i64 0, .int .i64 4]) (by simp [results, Tryd.results26, go_sem]) rfl (ReadSPost_err Hp.out ?_)
  go_grown
theorem rr_app (b : UInt8) (bs : List UInt8) (hx : BS w a n c (b :: bs)) (hn : n ≤ 140737488355328) (h6 : b.toNat / 64 % 2 ≠ 0) (h7 : b.toNat < 128) (hs2 : ¬ n < 29) : Calls Tryd.prog 26 #[.slice a n c] w (ReadSPost w (b :: bs)) := by
  have hl := hx.len
  have h0 : ((n : Int) == 0) = false := by simp at hl ⊢; omega
  have hn1 : 1 ≤ n := by simp at hl; omega
  have hb8 := u8_lt b
  have hq : (b.toNat : Int) / 64 % 2 = 1 := by omega
  have h7' : (b.toNat : Int) < 128 := by omega
  have Hp := Lib.hid (show readS (b :: bs) = (0, ⟨false, 2, ((b :: bs).drop 1).take 8, []⟩, 9, n) by
    have h : readP (b :: bs) = (0, ⟨false, 2, ((b :: bs).drop 1).take 8, []⟩, 9, n) := by rw [readP, if_neg h6, if_pos h7, if_neg (by omega), hl]
    unfold readS
    rw [h, if_neg (by simp), if_neg (by dsimp only; omega)])
  have hx1 := (hx.alloc hobj).alloc hobj
  have hH : HB ((w.alloc hobj).alloc hobj) w.heap.size false 0 false (.slice none 0 0) (.slice none 0 0) := by
    unfold HB
    rw [Below.heap_alloc (w.alloc hobj) hobj w.heap.size (by simp)]
    exact heap_alloc_new w _
  have hb := ((below_alloc w hobj).alloc (by simp) hobj)
  clear h6 hl h7
  go_enter Tryd.func26, Tryd.ntmps26
  go_wp2_with (first | (refine LB_index tB hx1 b _ _ rfl rfl _ _ rfl rfl (by omega) (by omega) rfl ?_; intro q hq) | (refine LB_slice_lh tB hx1 1 9 _ _ _ rfl rfl _ _ _ _ rfl rfl rfl rfl rfl (by decide) (by omega) ?_; intro a1 hx2) | (go_at_call 18; refine (copy_any _ hx2 (by omega)).mono ?_; rintro e w1 ⟨a2, c2, rfl, g1, g2⟩; have z := (hH.grown (grown_of_below (row := none) g2) (by simp)).cells; have z2 := (hH.grown (grown_of_below (row := none) g2) (by simp)).fr))
  refine bodyPost_ret (v := .tuple #[.agg #[.bool false, .int .i64 2, .bool false, .slice a2 8 c2, .slice none 0 0], .int .i64 9, .int .i64 n, .int .i64 0]) (by simp [results, Tryd.results26, go_sem, z]) rfl ?_
  have e2 : ∀ x, a2 = some x → x.block ≠ w.heap.size := fun x hx => by have := (g1.base_le hx).1; simp at this; omega
  refine ⟨false, 2, a2, 8, c2, none, 0, 0, by rw [Hp.out]; rfl, ?_, ?_⟩
  · rw [Hp.out]
    exact ⟨a2, 8, c2, none, 0, 0, rfl, rs5 g1.rs _ e2 _ _ _ _ _, RS_nil _ _⟩
  · have hB : Below w.heap.size w w1 := hb.trans (g2.mono (by simp; omega))
    exact ((((hB.setCell (by simp) _).setCell (by simp) _).setCell (by simp) _).setCell (by simp) _).setCell (by simp) _
end rr
end Go.Proofs.YtdfachjgnhljfaaDoor
