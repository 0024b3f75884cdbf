/- head.read: what it hands back. -/
import Derived.Test.YtdfachjgnhljfaaDoorR8
set_option maxRecDepth 100000
set_option linter.unusedVariables false
namespace Go.Proofs.YtdfachjgnhljfaaDoor
open Go.RowKit
/-- a head in memory -/
def HB (w : World) (b : Nat) (l : Bool) (lv : Int) (ph : Bool) (t f : Value) : Prop := w.heap[b]? = some (.cells #[.bool l, .int .i64 lv, .bool ph, t, f] 40 (0, 0))
section hb
variable {w : World} {b : Nat} {l : Bool} {lv : Int} {ph : Bool} {t f : Value}
theorem HB.lt (h : HB w b l lv ph t f) : b < w.heap.size := (Array.getElem?_eq_some_iff.1 h).1
theorem HB.cells (h : HB w b l lv ph t f) : w.cell? ⟨b, 0, none⟩ = some (.bool l) ∧ w.cell? ⟨b, 1, none⟩ = some (.int .i64 lv) ∧ w.cell? ⟨b, 2, none⟩ = some (.bool ph) ∧ w.cell? ⟨b, 3, none⟩ = some t ∧ w.cell? ⟨b, 4, none⟩ = some f := by
  unfold HB at h
  simp [World.cell?, h]
theorem HB.fr (h : HB w b l lv ph t f) : w.frozen? ⟨b, 0, none⟩ = false ∧ w.frozen? ⟨b, 1, none⟩ = false ∧ w.frozen? ⟨b, 2, none⟩ = false ∧ w.frozen? ⟨b, 3, none⟩ = false ∧ w.frozen? ⟨b, 4, none⟩ = false := by
  unfold HB at h
  simp [World.frozen?, h]
theorem HB.set0 (h : HB w b l lv ph t f) (v : Bool) : HB (w.setCell ⟨b, 0, none⟩ (.bool v)) b v lv ph t f := by
  unfold HB at h ⊢; simp [World.setCell, Array.getElem?_modify, h]
theorem HB.set1 (h : HB w b l lv ph t f) (v : Int) : HB (w.setCell ⟨b, 1, none⟩ (.int .i64 v)) b l v ph t f := by
  unfold HB at h ⊢; simp [World.setCell, Array.getElem?_modify, h]
theorem HB.set3 (h : HB w b l lv ph t f) (v : Value) : HB (w.setCell ⟨b, 3, none⟩ v) b l lv ph v f := by
  unfold HB at h ⊢; simp [World.setCell, Array.getElem?_modify, h]
theorem HB.set4 (h : HB w b l lv ph t f) (v : Value) : HB (w.setCell ⟨b, 4, none⟩ v) b l lv ph t v := by
  unfold HB at h ⊢; simp [World.setCell, Array.getElem?_modify, h]
theorem HB.grown {w' : World} {row : Option Nat} (h : HB w b l lv ph t f) (hg : w.grownBy w' row) (hb : some b ≠ row) : HB w' b l lv ph t f := by
  have := h.lt
  unfold HB at h ⊢
  rw [hg.block b this hb]; exact h
theorem HB_new (w : World) : HB (w.alloc (.cells #[.bool false, .int .i64 0, .bool false, .slice none 0 0, .slice none 0 0] 40)) w.heap.size false 0 false (.slice none 0 0) (.slice none 0 0) := heap_alloc_new w _
end hb
theorem RD.other {w : World} {r : Nat} {a : Option Addr} {n c at_ : Nat} (h : RD w r a n c at_) {b i : Nat} {v : Value} (hb : b ≠ r) : RD (w.setCell ⟨b, i, none⟩ v) r a n c at_ := by
  unfold RD at h ⊢
  rw [Below.heap_setCell _ _ _ _ (fun h => hb h.symm)]; exact h
/-- a head as a value -/
def HV (w : World) (hv : Value) (hd : Hd) : Prop :=
  ∃ ta tn tc fa fn fc, hv = .agg #[.bool hd.long, .int .i64 hd.level, .bool false, .slice ta tn tc, .slice fa fn fc] ∧ BS w ta tn tc hd.to ∧ BS w fa fn fc hd.frm
def ReadPost (w : World) (r : Nat) (xs : List UInt8) (e : Ending) (w' : World) : Prop :=
  ∃ (l : Bool) (lv : Int) (a1 : Option Addr) (n1 c1 : Nat) (a2 : Option Addr) (n2 c2 : Nat) (at_ en : Int), e = .returned (.tuple #[.agg #[.bool l, .int .i64 lv, .bool false, .slice a1 n1 c1, .slice a2 n2 c2], .int .i64 at_, .int .i64 en, .int .i64 (readP xs).1]) ∧ w.grownBy w' (some r) ∧
    ((readP xs).1 = 0 → HV w' (.agg #[.bool l, .int .i64 lv, .bool false, .slice a1 n1 c1, .slice a2 n2 c2]) (readP xs).2.1 ∧ at_ = ((readP xs).2.2.1 : Nat) ∧ en = ((readP xs).2.2.2 : Nat))
/-- the kinds of long heads, as the package lays them -/
def KG (w : World) : Prop := w.cell? ⟨0, 0, none⟩ = some (.int .u8 0) ∧ w.cell? ⟨0, 1, none⟩ = some (.int .u8 2)
theorem KG.lt {w : World} (h : KG w) : 0 < w.heap.size := World.block_lt_of_cell? w _ h.1
theorem KG.grown {w w' : World} {row : Option Nat} (h : KG w) (hg : w.grownBy w' row) (hne : some 0 ≠ row) : KG w' :=
  ⟨hg.cell h.1 hne, hg.cell h.2 hne⟩
theorem KG.below {w w' : World} (h : KG w) (hg : Below w.heap.size w w') : KG w' := h.grown (grown_of_below (row := none) hg) (by simp)
theorem KG.setOther {w : World} (h : KG w) {ad : Addr} (hne : ad.block ≠ 0) (v : Value) : KG (w.setCell ad v) :=
  h.grown (grownBy_setCell w ad v) (by simp; omega)
abbrev hobj : Obj := .cells #[.bool false, .int .i64 0, .bool false, .slice none 0 0, .slice none 0 0] 40
theorem and64 (b : UInt8) : bits .and .u8 (b.toNat : Int) 64 = ((b.toNat / 64 % 2 * 64 : Nat) : Int) := by
  rw [show (64 : Int) = ((64 : Nat) : Int) from rfl, u8_and_nat _ _ (u8_lt b) (by omega), show (64 : Nat) = 2 ^ 6 from rfl, nat_bit 6]
theorem and128 (b : UInt8) : bits .and .u8 (b.toNat : Int) 128 = ((b.toNat / 128 % 2 * 128 : Nat) : Int) := by
  rw [show (128 : Int) = ((128 : Nat) : Int) from rfl, u8_and_nat _ _ (u8_lt b) (by omega), show (128 : Nat) = 2 ^ 7 from rfl, nat_bit 7]
theorem and3 (b : UInt8) : bits .and .u8 ((b.toNat : Int) / 16) 3 = ((b.toNat / 16 % 4 : Nat) : Int) := by
  have := u8_lt b
  rw [show (3 : Int) = ((3 : Nat) : Int) from rfl, show ((b.toNat : Int) / 16) = ((b.toNat / 16 : Nat) : Int) from rfl, u8_and_nat _ _ (by omega) (by omega), nat_mask2]
theorem gr5 {w w1 : World} {r : Nat} (h : w.grownBy w1 (some r)) (b : Nat) (hb : w.heap.size ≤ b) (v0 v1 v2 v3 v4 : Value) :
    w.grownBy (((((w1.setCell ⟨b, 0, none⟩ v0).setCell ⟨b, 1, none⟩ v1).setCell ⟨b, 2, none⟩ v2).setCell ⟨b, 3, none⟩ v3).setCell ⟨b, 4, none⟩ v4) (some r) :=
  grown_setNew (grown_setNew (grown_setNew (grown_setNew (grown_setNew h hb _) hb _) hb _) hb _) hb _
theorem rs5 {w1 : World} {z : Nat} {a : Option Addr} {n c : Nat} {vs : List Value} (h : RS w1 z a n c vs) (b : Nat) (hb : ∀ x, a = some x → x.block ≠ b) (v0 v1 v2 v3 v4 : Value) :
    RS (((((w1.setCell ⟨b, 0, none⟩ v0).setCell ⟨b, 1, none⟩ v1).setCell ⟨b, 2, none⟩ v2).setCell ⟨b, 3, none⟩ v3).setCell ⟨b, 4, none⟩ v4) z a n c vs :=
  ((((h.setOther hb _).setOther hb _).setOther hb _).setOther hb _).setOther hb _
theorem read_nil (w : World) {r : Nat} {a : Option Addr} {c : Nat} (h : RD w r a 0 c 0) (hx : BS w a 0 c []) :
    Calls Tryd.prog 47 #[.pointer (some ⟨r, 0, none⟩)] w (ReadPost w r []) := by
  have hR := h.below (below_alloc w hobj)
  have hH := HB_new w
  have hlt := h.lt
  go_enter Tryd.func47, Tryd.ntmps47
  go_wp2_with (go_at_call 60; refine (take_no _ hR 1 (by omega) (by omega) (by omega)).mono ?_; rintro e w1 ⟨rfl, g1, g2⟩; have q1 := (hH.grown g2 (by simp; omega)).cells; have q2 := (hH.grown g2 (by simp; omega)).fr)
  refine bodyPost_ret (v := .tuple #[.agg #[.bool false, .int .i64 0, .bool false, .slice none 0 0, .slice none 0 0], .int .i64 0, .int .i64 0, .int .i64 2]) (by simp [results, Tryd.results47, go_sem, q1]) rfl ?_
  exact ⟨_, _, _, _, _, _, _, _, _, _, rfl, gr5 (grown_trans (World.grownBy_alloc w _ (some r)) g2) _ (Nat.le_refl _) _ _ _ _ _, by simp [readP, errR]⟩
section more
variable {w : World} {r : Nat} {a : Option Addr} {n c : Nat}
theorem read_form (b : UInt8) (bs : List UInt8) (h : RD w r a n c 0) (hx : BS w a n c (b :: bs)) (hn : n ≤ 140737488355328) (hrb : ∀ ad, a = some ad → ad.block ≠ r) (h6 : b.toNat / 64 % 2 = 0) :
    Calls Tryd.prog 47 #[.pointer (some ⟨r, 0, none⟩)] w (ReadPost w r (b :: bs)) := by
  have hl := hx.len
  have hn1 : 1 ≤ n := by simp at hl; omega
  have hb8 := u8_lt b
  have hR := h.below (below_alloc w hobj)
  have hX := hx.alloc hobj
  have hH := HB_new w
  have hlt := h.lt
  have T1 := Lib.hid (take_yes _ hR hX 1 (by omega) hn (by omega) hrb)
  have h64 := and64 b
  rw [h6] at h64
  have Hp := Lib.hid (show readP (b :: bs) = errR 4 by simp [readP, h6])
  clear h6 hl
  go_enter Tryd.func47, Tryd.ntmps47
  go_wp2_with (first | (go_at_call 60; refine T1.out.mono ?_; rintro e w1 ⟨a1, c1, rfl, g1, g2, g3⟩; clear T1; have q1 := (hH.grown g3 (by simp; omega)).cells; have q2 := (hH.grown g3 (by simp; omega)).fr) | (refine LB_index tB (xs := [b]) g1.rs b _ _ rfl rfl _ _ rfl rfl (by omega) (by omega) rfl ?_; intro q hq))
  refine bodyPost_ret (v := .tuple #[.agg #[.bool false, .int .i64 0, .bool false, .slice none 0 0, .slice none 0 0], .int .i64 0, .int .i64 0, .int .i64 4]) (by simp [results, Tryd.results47, go_sem, q1]) rfl ?_
  refine ⟨_, _, _, _, _, _, _, _, _, _, by rw [Hp.out]; rfl, gr5 (grown_trans (World.grownBy_alloc w _ (some r)) g3) _ (Nat.le_refl _) _ _ _ _ _, by rw [Hp.out]; simp [errR]⟩
theorem read_short (b : UInt8) (bs : List UInt8) (h : RD w r a n c 0) (hx : BS w a n c (b :: bs)) (hn : n ≤ 140737488355328) (hrb : ∀ ad, a = some ad → ad.block ≠ r) (h6 : b.toNat / 64 % 2 ≠ 0) (h7 : b.toNat < 128) (hs : n < 9) :
    Calls Tryd.prog 47 #[.pointer (some ⟨r, 0, none⟩)] w (ReadPost w r (b :: bs)) := by
  have hl := hx.len
  have hn1 : 1 ≤ n := by simp at hl; omega
  have hb8 := u8_lt b
  have hR := h.below (below_alloc w hobj)
  have hX := hx.alloc hobj
  have hH := HB_new w
  have hlt := h.lt
  have T1 := Lib.hid (take_yes _ hR hX 1 (by omega) hn (by omega) hrb)
  have h64 := and64 b
  rw [show b.toNat / 64 % 2 = 1 by omega] at h64
  have h128 := and128 b
  rw [show b.toNat / 128 % 2 = 0 by omega] at h128
  have Hp := Lib.hid (show readP (b :: bs) = errR 2 by rw [readP, if_neg h6, if_pos h7, if_pos (by omega)])
  clear h6 hl h7
  go_enter Tryd.func47, Tryd.ntmps47
  go_wp2_with (first | (go_at_call 60; refine T1.out.mono ?_; rintro e w1 ⟨a1, c1, rfl, g1, g2, g3⟩; clear T1; have q1 := (hH.grown g3 (by simp; omega)).cells; have q2 := (hH.grown g3 (by simp; omega)).fr) | (refine LB_index tB (xs := [b]) g1.rs b _ _ rfl rfl _ _ rfl rfl (by omega) (by omega) rfl ?_; intro q hq) | (go_at_call 60; refine (take_no _ (RD.other g2 (by omega)) 8 (by omega) (by omega) (by omega)).mono ?_; rintro e w2 ⟨rfl, k1, k2⟩; have q3 := (((hH.grown g3 (by simp; omega)).set1 2).grown k2 (by simp; omega)).cells; have q4 := (((hH.grown g3 (by simp; omega)).set1 2).grown k2 (by simp; omega)).fr))
  refine bodyPost_ret (v := .tuple #[.agg #[.bool false, .int .i64 2, .bool false, .slice none 0 0, .slice none 0 0], .int .i64 0, .int .i64 0, .int .i64 2]) (by simp [results, Tryd.results47, go_sem, q3]) rfl ?_
  refine ⟨_, _, _, _, _, _, _, _, _, _, by rw [Hp.out]; rfl, ?_, by rw [Hp.out]; simp [errR]⟩
  exact gr5 (grown_setNew (grown_trans (grown_setNew (grown_trans (World.grownBy_alloc w _ (some r)) g3) (Nat.le_refl _) _) k2) (Nat.le_refl _) _) _ (Nat.le_refl _) _ _ _ _ _
theorem read_app (b : UInt8) (bs : List UInt8) (h : RD w r a n c 0) (hx : BS w a n c (b :: bs)) (hn : n ≤ 140737488355328) (hrb : ∀ ad, a = some ad → ad.block ≠ r) (h6 : b.toNat / 64 % 2 ≠ 0) (h7 : b.toNat < 128) (hs : 9 ≤ n) :
    Calls Tryd.prog 47 #[.pointer (some ⟨r, 0, none⟩)] w (ReadPost w r (b :: bs)) := by
  have hl := hx.len
  have hn1 : 1 ≤ n := by simp at hl; omega
  have hb8 := u8_lt b
  have hR := h.below (below_alloc w hobj)
  have hX := hx.alloc hobj
  have hH := HB_new w
  have hlt := h.lt
  have T1 := Lib.hid (take_yes _ hR hX 1 (by omega) hn (by omega) hrb)
  have h64 := and64 b
  rw [show b.toNat / 64 % 2 = 1 by omega] at h64
  have h128 := and128 b
  rw [show b.toNat / 128 % 2 = 0 by omega] at h128
  have hb0 : ∀ x, a = some x → x.block ≠ w.heap.size := fun x hxa => by have := hx.block_lt hxa (by omega) (by omega); omega
  have Hp := Lib.hid (show readP (b :: bs) = (0, ⟨false, 2, ((b :: bs).drop 1).take 8, []⟩, 9, n) by rw [readP, if_neg h6, if_pos h7, if_neg (by omega), hl])
  clear h6 hl h7
  go_enter Tryd.func47, Tryd.ntmps47
  go_wp2_with (first | (go_at_call 60; refine T1.out.mono ?_; rintro e w1 ⟨a1, c1, rfl, g1, g2, g3⟩; clear T1; have q1 := (hH.grown g3 (by simp; omega)).cells; have q2 := (hH.grown g3 (by simp; omega)).fr; have hX1 : BS w1 a n c (b :: bs) := RS.grown hX g3 (fun ad ha he => hrb ad ha (by simpa using he))) | (refine LB_index tB (xs := [b]) g1.rs b _ _ rfl rfl _ _ rfl rfl (by omega) (by omega) rfl ?_; intro q hq) | (go_at_call 60; refine (take_yes _ (RD.other g2 (by omega)) (RS.setOther hX1 hb0 _) 8 (by omega) hn (by omega) hrb).mono ?_; rintro e w2 ⟨a2, c2, rfl, k1, k2, k3⟩; have q3 := (((hH.grown g3 (by simp; omega)).set1 2).grown k3 (by simp; omega)).cells; have q4 := (((hH.grown g3 (by simp; omega)).set1 2).grown k3 (by simp; omega)).fr))
  have r0 := k2.c0
  have r1 := k2.c1
  go_region
  go_wp2
  refine bodyPost_ret (v := .tuple #[.agg #[.bool false, .int .i64 2, .bool false, .slice a2 8 c2, .slice none 0 0], .int .i64 9, .int .i64 n, .int .i64 0]) (by simp [results, Tryd.results47, go_sem, q3]) rfl ?_
  have e2 : ∀ x, a2 = some x → x.block ≠ w.heap.size := fun x hxa => by
    have h1 := (k1.base_le hxa).1
    have h2 := g3.size
    simp at h1 h2
    omega
  have hG := gr5 (grown_setNew (grown_trans (grown_setNew (grown_trans (World.grownBy_alloc w hobj (some r)) g3) (Nat.le_refl _) (.int .i64 2)) k3) (Nat.le_refl _) (.slice a2 8 c2) : w.grownBy (w2.setCell ⟨w.heap.size, 3, none⟩ (.slice a2 8 c2)) (some r)) _ (Nat.le_refl _) (.bool false) (.int .i64 2) (.bool false) (.slice a2 8 c2) (.slice none 0 0)
  refine ⟨_, _, _, _, _, _, _, _, _, _, by rw [Hp.out], grown_drew hG, fun _ => ?_⟩
  rw [Hp.out]
  refine ⟨⟨a2, 8, c2, none, 0, 0, rfl, ?_, RS_nil _ _⟩, rfl, rfl⟩
  exact RS.drew (rs5 (RS.setOther k1.rs e2 _) _ e2 _ _ _ _ _)
end more
end Go.Proofs.YtdfachjgnhljfaaDoor
