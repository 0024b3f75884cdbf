/- head's reader: take, id, num: what they hand back. -/
import Derived.Test.YtdfachjgnhljfaaDoorR4
import Derived.RegionTactic
import Derived.Deep.RegionWith
import Derived.Deep.RegionHeld3
import Derived.StillTailTactics
set_option maxRecDepth 100000
namespace Go.Proofs.YtdfachjgnhljfaaDoor
open Go.RowKit
/-- a reader in memory: its bytes, and how far they are read -/
def RD (w : World) (r : Nat) (a : Option Addr) (n c : Nat) (at_ : Nat) : Prop := w.heap[r]? = some (.cells #[.slice a n c, .int .i64 (at_ : Int)] 85 (0, 0))
theorem RD.c0 {w : World} {r : Nat} {a : Option Addr} {n c at_ : Nat} (h : RD w r a n c at_) : w.cell? ⟨r, 0, none⟩ = some (.slice a n c) := by
  unfold RD at h; simp [World.cell?, h]
theorem RD.c1 {w : World} {r : Nat} {a : Option Addr} {n c at_ : Nat} (h : RD w r a n c at_) : w.cell? ⟨r, 1, none⟩ = some (.int .i64 (at_ : Int)) := by
  unfold RD at h; simp [World.cell?, h]
theorem RD.fr {w : World} {r : Nat} {a : Option Addr} {n c at_ : Nat} (h : RD w r a n c at_) (i : Nat) : w.frozen? ⟨r, i, none⟩ = false := by
  unfold RD at h; simp [World.frozen?, h]
theorem RD.lt {w : World} {r : Nat} {a : Option Addr} {n c at_ : Nat} (h : RD w r a n c at_) : r < w.heap.size := (Array.getElem?_eq_some_iff.1 h).1
theorem RD.set {w : World} {r : Nat} {a : Option Addr} {n c at_ : Nat} (h : RD w r a n c at_) (k : Nat) : RD (w.setCell ⟨r, 1, none⟩ (.int .i64 (k : Int))) r a n c k := by
  unfold RD at h ⊢
  simp [World.setCell, Array.getElem?_modify, h]
theorem RD.below {w w' : World} {r : Nat} {a : Option Addr} {n c at_ : Nat} (h : RD w r a n c at_) (hb : Below w.heap.size w w') : RD w' r a n c at_ := by
  have := h.lt
  unfold RD at h ⊢
  rw [hb.block r this]; exact h
theorem take_no (w : World) {r : Nat} {a : Option Addr} {n c at_ : Nat} (h : RD w r a n c at_) (k : Nat) (hat : at_ ≤ n) (hk : n - at_ < k) (hk2 : k ≤ 140737488355328) :
    Calls Tryd.prog 60 #[.pointer (some ⟨r, 0, none⟩), .int .i64 (k : Int)] w fun e w' => e = .returned (.tuple #[.slice none 0 0, .bool false]) ∧ RD w' r a n c at_ ∧ w.grownBy w' (some r) := by
  have h0 := h.c0
  have h1 := h.c1
  have h2 := h.fr 1
  have ht : ((n : Int) - (at_ : Int) < (k : Int)) := by omega
  go_enter Tryd.func60, Tryd.ntmps60
  go_wp2_with fail
  go_quiet (fail)
  go_wp2_with fail
  go_ret2
  exact ⟨rfl, h, ⟨rfl, rfl, rfl, Nat.le_refl _, fun _ _ _ => rfl⟩⟩
theorem take_yes (w : World) {r : Nat} {a : Option Addr} {n c at_ : Nat} {xs : List UInt8} (h : RD w r a n c at_) (hx : BS w a n c xs) (k : Nat) (hat : at_ ≤ n) (hn : n ≤ 140737488355328) (hk : k ≤ n - at_) (hrb : ∀ ad, a = some ad → ad.block ≠ r) :
    Calls Tryd.prog 60 #[.pointer (some ⟨r, 0, none⟩), .int .i64 (k : Int)] w fun e w' => ∃ a' c', e = .returned (.tuple #[.slice a' k c', .bool true]) ∧ OW w' w.heap.size 5 1 a' k c' (((xs.drop at_).take k).map B) ∧ RD w' r a n c (at_ + k) ∧ w.grownBy w' (some r) := by
  have h0 := h.c0
  have h1 := h.c1
  have h2 := h.fr 1
  have ht : ¬ ((n : Int) - (at_ : Int) < (k : Int)) := by omega
  go_enter Tryd.func60, Tryd.ntmps60
  go_wp2_with fail
  go_quiet (fail)
  go_wp2_with fail
  obtain ⟨W, hW⟩ : ∃ W, W = (w.drewN nq).setCell ⟨r, 1, none⟩ (.int .i64 ((at_ : Int) + (k : Int))) := ⟨_, rfl⟩
  rw [← hW]
  have hR : RD W r a n c (at_ + k) := by
    rw [hW]; have := RD.set (w := w.drewN nq) h (at_ + k); simpa using this
  have hG : w.grownBy W (some r) := by rw [hW]; have g := grownBy_setCell (w.drewN nq) ⟨r, 1, none⟩ (.int .i64 ((at_ : Int) + (k : Int))); exact ⟨g.os, g.tape, g.output, g.size, g.block⟩
  have hz : w.heap.size ≤ W.heap.size := hG.size
  have hxW : BS W a n c xs := hx.grown hG (fun ad ha he => hrb ad ha (by simpa using he))
  clear hW h0 h1 h2
  have h0 := hR.c0
  have h1 := hR.c1
  have hw0 : IntKind.i64.wrap (at_ : Int) = at_ := IntWalk.i64_in _ (by omega)
  go_still_tail 14, (by kernel_rfl)
  clear hw0
  change wpList _ _ _ _ _ W.drew
  have hxW2 : BS W.drew a n c xs := hxW
  go_wp2_with (first | (refine LB_slice_lh tB hxW2 at_ (at_ + k) _ _ _ rfl rfl _ _ _ _ rfl rfl rfl rfl rfl (by omega) (by omega) ?_; rw [Nat.add_sub_cancel_left]; intro a1 hx1) | (go_at_call 65; refine (clone_any _ hx1 (by omega)).mono ?_; rintro e w' ⟨a', c', rfl, h1, h2⟩))
  go_ret2
  have hR2 := RD.below (w := W.drew) hR h2
  refine ⟨a', c', rfl, h1.mono (by simpa using hz), hR2, ?_⟩
  exact ⟨h2.os.trans hG.os, h2.tape.trans hG.tape, h2.output.trans hG.output, Nat.le_trans hz h2.size, fun b hb hbr => (h2.block b (by simp; omega)).trans (hG.block b hb hbr)⟩
end Go.Proofs.YtdfachjgnhljfaaDoor
