/- head.Read: what it hands back. -/
import Derived.Test.YtlncnjcbgfeaoaaDoorYbc
import Derived.Test.YtlncnjcbgfeaoaaDoorYbb
import Derived.Deep.DeepCutAuto
set_option maxRecDepth 100000
set_option linter.unusedVariables false
namespace Go.Proofs.YtlncnjcbgfeaoaaDoor
open Go.RowKit
theorem read_any (w : World) {r : Nat} {a : Option Addr} {n c : Nat} (xs : List UInt8) (h : RD w r a n c 0) (hx : BS w a n c xs) (hk : KG w) (hkr : r ≠ 1) (hn : n ≤ 140737488355328) (hrb' : 1 ≤ n → ∀ ad, a = some ad → ad.block ≠ r) :
    Calls Tryd.prog 72 #[.pointer (some ⟨r, 0, none⟩)] w (ReadPost w r xs) := by
  cases xs with
  | nil => have hl := hx.len; obtain rfl : n = 0 := by simpa using hl.symm
           exact read_nil w h hx
  | cons b bs =>
    have hrb := hrb' (by have hl := hx.len; simp at hl; omega)
    by_cases h6 : b.toNat / 64 % 2 = 0
    · exact read_form b bs h hx hn hrb h6
    · by_cases h7 : b.toNat < 128
      · by_cases hs : n < 9
        · exact read_short b bs h hx hn hrb h6 h7 hs
        · exact read_app b bs h hx hn hrb h6 h7 (by omega)
      · by_cases h0 : b.toNat / 16 % 4 = 0
        · exact read_long0 b bs h hx hk hkr hn hrb h6 h7 h0
        · by_cases h2 : b.toNat / 16 % 4 = 2
          · exact read_long1 b bs h hx hk hkr hn hrb h6 h7 h2
          · exact read_kind b bs h hx hk hkr hn hrb h6 h7 h0 h2
theorem below_sets {w w1 : World} {B b : Nat} (h : Below B w w1) (hb : B ≤ b) (v0 v1 v2 v3 v4 : Value) :
    Below B w (((((w1.setCell ⟨b, 0, none⟩ v0).setCell ⟨b, 1, none⟩ v1).setCell ⟨b, 2, none⟩ v2).setCell ⟨b, 3, none⟩ v3).setCell ⟨b, 4, none⟩ v4) :=
  ((((h.setCell hb _).setCell hb _).setCell hb _).setCell hb _).setCell hb _
theorem RS.empty {w : World} {z : Nat} {a : Option Addr} {c : Nat} (h : RS w z a 0 c []) (w' : World) : RS w' z a 0 c [] := by
  obtain ⟨h1, h2, h3, h4, h5, h6⟩ := h
  exact ⟨h1, h2, h3, h4, h5, fun ad ha => ⟨(h6 ad ha).1, fun j v hv => by cases hv⟩⟩
theorem BS.notHB {w : World} {a : Option Addr} {n c : Nat} {xs : List UInt8} (h : BS w a n c xs) (hn : 0 < n) {b : Nat} {l : Bool} {lv : Int} {ph : Bool} {a1 a2 : Option Addr} {n1 c1 n2 c2 : Nat}
    (hB : HB w b l lv ph (.slice a1 n1 c1) (.slice a2 n2 c2)) : ∀ x, a = some x → x.block ≠ b := by
  intro x hx hb
  have hl := h.len
  obtain ⟨y, hy⟩ := h.get 0 hn
  have hc := (h.2.2.2.2.2 x hx).2 0 (B y) (by rw [List.getElem?_map, hy]; rfl)
  rw [hb] at hc
  unfold HB at hB
  simp only [World.cell?, hB, Option.isSome_none, Bool.false_eq_true, if_false, Nat.add_zero] at hc
  obtain ⟨o, ho⟩ : ∃ o, x.off = o := ⟨_, rfl⟩
  rw [ho] at hc
  match o, hc with
  | 0, hc => simp [B] at hc
  | 1, hc => simp [B] at hc
  | 2, hc => simp [B] at hc
  | 3, hc => simp [B] at hc
  | 4, hc => simp [B] at hc
  | k + 5, hc => simp at hc
theorem BS.setsHB {w : World} {a : Option Addr} {n c : Nat} {xs : List UInt8} (h : BS w a n c xs) {b : Nat} {l : Bool} {lv : Int} {ph : Bool} {a1 a2 : Option Addr} {n1 c1 n2 c2 : Nat}
    (hB : HB w b l lv ph (.slice a1 n1 c1) (.slice a2 n2 c2)) (v0 v1 v2 v3 v4 : Value) :
    BS (((((w.setCell ⟨b, 0, none⟩ v0).setCell ⟨b, 1, none⟩ v1).setCell ⟨b, 2, none⟩ v2).setCell ⟨b, 3, none⟩ v3).setCell ⟨b, 4, none⟩ v4) a n c xs := by
  by_cases hn : 0 < n
  · exact rs5 h b (h.notHB hn hB) v0 v1 v2 v3 v4
  · have hl := h.len
    obtain rfl : n = 0 := by omega
    obtain rfl : xs = [] := List.eq_nil_of_length_eq_zero hl
    exact RS.empty h _
set_option maxHeartbeats 1000000 in
theorem Read_any (w : World) {a : Option Addr} {n c : Nat} (xs : List UInt8) (hx : BS w a n c xs) (hk : KG w) (hn : n ≤ 140737488355328) :
    Calls Tryd.prog 52 #[.slice a n c] w (ReadSPost w xs) := by
  have hkl := hk.lt
  have hl := hx.len
  obtain ⟨W, hW⟩ : ∃ W, (w.alloc hobj).alloc (.cells #[.slice a n c, .int .i64 0] 116) = W := ⟨_, rfl⟩
  have hR : RD W (w.heap.size + 1) a n c 0 := by
    rw [← hW]; unfold RD; rw [show w.heap.size + 1 = (w.alloc hobj).heap.size by simp]; exact heap_alloc_new (w.alloc hobj) (.cells #[.slice a n c, .int .i64 0] 116)
  have hX : BS W a n c xs := by rw [← hW]; exact (hx.alloc _).alloc _
  have hK : KG W := by rw [← hW]; exact (hk.below (below_alloc w hobj)).below (below_alloc _ _)
  have hb : Below w.heap.size w W := by rw [← hW]; exact (below_alloc w hobj).alloc (by simp) _
  have hA : HB W w.heap.size false 0 false (.slice none 0 0) (.slice none 0 0) := by
    rw [← hW]; unfold HB; rw [Below.heap_alloc _ _ _ (by simp)]; exact heap_alloc_new w _
  have hWs : W.heap.size = w.heap.size + 2 := by rw [← hW]; simp
  have T := read_any W xs hR hX hK (by omega) hn (fun h1 ad ha => by have := hx.block_lt ha h1 (by omega); omega)
  have hbd := readP_bd xs
  unfold ReadPost at T
  obtain ⟨R, hRe⟩ : ∃ R, readP xs = R := ⟨_, rfl⟩
  have hS : readS xs = if R.1 ≠ 0 then errR R.1 else if R.2.2.2 < R.2.2.1 + 20 then errR 4 else R := by unfold readS; rw [hRe]
  rw [hRe] at T hbd
  obtain ⟨e1, hd, pa, pe⟩ := R
  unfold Bd at hbd
  dsimp only at T hS hbd
  rw [hl] at hbd
  have HT := Lib.hid T
  have HS := Lib.hid hS
  have HBd := Lib.hid hbd
  have Hs := Lib.hid hWs
  have hz : w.heap.size + 2 ≤ W.heap.size := by omega
  clear T hS hRe hl hR hX hK hWs hbd
  go_enter Tryd.func52, Tryd.ntmps52
  go_wp2_with fail
  refine HT.out.mono ?_
  rintro e w1 ⟨l, lv, a1, n1, c1, a2, n2, c2, at_, en, rfl, g1, g2⟩
  have hA1 := hA.grown g1 (by simp)
  have hz1 := g1.size
  have hlt1 : w.heap.size < w1.heap.size := by omega
  have hb1 : Below w.heap.size w w1 := ⟨g1.os.trans hb.os, g1.tape.trans hb.tape, g1.output.trans hb.output, Nat.le_trans hb.size g1.size, fun k hk => (g1.block k (by omega) (by simp; omega)).trans (hb.block k hk)⟩
  clear hW HT hA
  go_upto_region 2 with (fail)
  obtain ⟨W2, hW2⟩ : ∃ W2, w1.alloc (.cells #[.bool l, .int .i64 lv, .bool false, .slice a1 n1 c1, .slice a2 n2 c2] 43) = W2 := ⟨_, rfl⟩
  rw [hW2]
  have hA2 : HB W2 w.heap.size false 0 false (.slice none 0 0) (.slice none 0 0) := by
    rw [← hW2]; unfold HB; rw [Below.heap_alloc _ _ _ hlt1]; exact hA1
  have hN : HB W2 w1.heap.size l lv false (.slice a1 n1 c1) (.slice a2 n2 c2) := by
    rw [← hW2]; exact heap_alloc_new w1 _
  have hb2 : Below w.heap.size w W2 := by rw [← hW2]; exact hb1.alloc (by omega) _
  have g2' : e1 = 0 → HV W2 (.agg #[.bool l, .int .i64 lv, .bool false, .slice a1 n1 c1, .slice a2 n2 c2]) hd ∧ at_ = (pa : Int) ∧ en = (pe : Int) := by
    intro he
    obtain ⟨⟨ta, tn, tc, fa, fn, fc, h1, h2, h3⟩, h4⟩ := g2 he
    rw [← hW2]
    exact ⟨⟨ta, tn, tc, fa, fn, fc, h1, RS.alloc h2 _, RS.alloc h3 _⟩, h4⟩
  have z0 := hA2.cells
  have z1 := hA2.fr
  have z2 := hN.cells
  clear hW2 g2 hb1 hA1 hb
  by_cases he : e1 = 0
  · subst he
    obtain ⟨hv, rfl, rfl⟩ := g2' rfl
    have hbd := HBd.out rfl
    clear g2'
    by_cases h20 : pe < pa + 20
    · have Hp := Lib.hid (show readS xs = errR 4 by rw [HS.out, if_neg (by simp), if_pos h20])
      have h20' : ((pe : Int) - (pa : Int) < 20) := by omega
      go_wp2_with fail
      refine bodyPost_ret (v := .tuple #[.agg #[.bool false, .int .i64 0, .bool false, .slice none 0 0, .slice none 0 0], .int .i64 0, .int .i64 0, .int .i64 4]) (by simp [results, Tryd.results52, go_sem, z0]) rfl (ReadSPost_err Hp.out ?_)
      exact below_sets hb2 (Nat.le_refl _) _ _ _ _ _
    · have Hp := Lib.hid (show readS xs = (0, hd, pa, pe) by rw [HS.out, if_neg (by simp), if_neg h20])
      have h20' : ¬ ((pe : Int) - (pa : Int) < 20) := by omega
      go_wp2_with fail
      refine bodyPost_ret (v := .tuple #[.agg #[.bool l, .int .i64 lv, .bool false, .slice a1 n1 c1, .slice a2 n2 c2], .int .i64 pa, .int .i64 pe, .int .i64 0]) (by simp [results, Tryd.results52, go_sem, z0]) rfl ?_
      refine ⟨l, lv, a1, n1, c1, a2, n2, c2, ?_, ?_, ?_⟩
      · rw [Hp.out]
      · rw [Hp.out]
        obtain ⟨ta, tn, tc, fa, fn, fc, h1, h2, h3⟩ := hv
        exact ⟨ta, tn, tc, fa, fn, fc, h1, h2.setsHB hA2 _ _ _ _ _, h3.setsHB hA2 _ _ _ _ _⟩
      · exact below_sets hb2 (Nat.le_refl _) _ _ _ _ _
  · have he1 : (e1 == 0) = false := by simpa using he
    have he2 : (e1 != 0) = true := by simpa using he
    have Hp := Lib.hid (show readS xs = errR e1 by rw [HS.out, if_pos he])
    clear g2' he
    go_wp2_with fail
    refine bodyPost_ret (v := .tuple #[.agg #[.bool false, .int .i64 0, .bool false, .slice none 0 0, .slice none 0 0], .int .i64 0, .int .i64 0, .int .i64 e1]) (by simp [results, Tryd.results52, go_sem, z0]) rfl (ReadSPost_err Hp.out ?_)
    exact below_sets hb2 (Nat.le_refl _) _ _ _ _ _
end Go.Proofs.YtlncnjcbgfeaoaaDoor
