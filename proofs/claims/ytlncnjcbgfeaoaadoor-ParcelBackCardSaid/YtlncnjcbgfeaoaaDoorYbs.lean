/- The program's Bytes of a short head. -/
import Derived.Test.YtlncnjcbgfeaoaaDoorYbr
import Derived.Test.YtlncnjcbgfeaoaaDoorYai
import Derived.Test.YtlncnjcbgfeaoaaDoorYaa
import Derived.Test.YtlncnjcbgfeaoaaDoorYbb
import Derived.Deep.RegionHeld3
set_option maxRecDepth 100000
set_option linter.unusedVariables false
namespace Go.Proofs.YtlncnjcbgfeaoaaDoor
open Go.RowKit
theorem or_64i (m : Nat) (h : m < 64) : bits .or .i64 64 (m : Int) = 64 + (m : Int) := by
  have h1 : ∀ m : Fin 64, bits .or .i64 64 ((m.val : Nat) : Int) = 64 + ((m.val : Nat) : Int) := by decide
  exact h1 ⟨m, h⟩
theorem or_ph (S : Nat) (h1 : 1 ≤ S) (h4 : S ≤ 4) : bits .or .u8 (64 + (S : Int) - 1) 4 = 67 + (S : Int) := by
  have : S = 1 ∨ S = 2 ∨ S = 3 ∨ S = 4 := by omega
  rcases this with rfl | rfl | rfl | rfl <;> decide
theorem shortN (w : World) (pn S : Nat) (h1 : 1 ≤ S) (h4 : S ≤ 4) : Calls Tryd.prog 63 #[.int .u64 (pn : Int), .int .i64 (S : Int)] w (Made w S ((beB S pn).map B)) := by
  have := short_any w pn S (by omega) (by omega)
  rwa [Int.toNat_natCast] at this
theorem PS3 (w : World) {a1 a2 a3 : Option Addr} {n1 n2 n3 c1 c2 c3 : Nat} {x1 x2 x3 : List UInt8} (h1 : BS w a1 n1 c1 x1) (h2 : BS w a2 n2 c2 x2) (h3 : BS w a3 n3 c3 x3) :
    PS (w.alloc (.cells #[.slice a1 n1 c1, .slice a2 n2 c2, .slice a3 n3 c3] 23)) (some ⟨w.heap.size, 0, none⟩) 3 3 [x1, x2, x3] := by
  refine ⟨[.slice a1 n1 c1, .slice a2 n2 c2, .slice a3 n3 c3], RS_new w _ #[.slice a1 n1 c1, .slice a2 n2 c2, .slice a3 n3 c3] 3 rfl (by omega) (by simp [Value.oneCell']), rfl, fun i p hp => ?_⟩
  match i, hp with
  | 0, hp => cases hp; exact ⟨a1, n1, c1, rfl, h1.alloc _⟩
  | 1, hp => cases hp; exact ⟨a2, n2, c2, rfl, h2.alloc _⟩
  | 2, hp => cases hp; exact ⟨a3, n3, c3, rfl, h3.alloc _⟩
section bb
variable {w : World} {lv : Int} {ph : Bool} {a b : Option Addr} {n c m k : Nat} {pn : Nat} {left : Int}
set_option maxHeartbeats 2000000 in
theorem pb_short {t f : List UInt8} (hp : pn < 18446744073709551616) (S : Nat) (h1 : 1 ≤ S) (h4 : S ≤ 4) (h0 : 0 ≤ left) (hr : rightS false lv ph n m = true) (ht : BS w a n c t) (hf : BS w b m k f) (hn : n ≤ 1000) :
    Calls Tryd.prog 45 #[.agg #[.bool false, .int .i64 lv, .bool ph, .slice a n c, .slice b m k], .int .u64 (pn : Int), .int .i64 (S : Int), .int .i64 left] w
      fun e w' => ∃ a' c', e = .returned (.tuple #[.slice a' (1 + n + S) c', .int .i64 0]) ∧ JW w' w.heap.size 5 a' (1 + n + S) c' ((bytesShort ph t S pn).map B) ∧ Below w.heap.size w w' := by
  have T := pright_any (w.alloc (gobj false lv ph (.slice a n c) (.slice b m k))) false lv ph (a := a) (b := b) (n := n) (c := c) (m := m) (k := k)
  rw [hr] at T
  have HT := Lib.hid T
  have c3 : ¬ left < 0 := by omega
  have ht1 := ht.alloc (gobj false lv ph (.slice a n c) (.slice b m k))
  have hH : HB (w.alloc (gobj false lv ph (.slice a n c) (.slice b m k))) w.heap.size false lv ph (.slice a n c) (.slice b m k) := heap_alloc_new w _
  have ho1 := or_64i S (by omega)
  have ho2 := or_ph S h1 h4
  clear T hr ht hf
  have htl := BS.len ht1
  have hlen : (bytesShort ph t S pn).length = 1 + n + S := by unfold bytesShort; rw [List.length_cons, List.length_append, beB_len, htl]; omega
  cases ph with
  | false =>
    have hflat : [[UInt8.ofNat (63 + S)], t, beB S pn].flatten = bytesShort false t S pn := by
      have e : 63 + S = 63 + S + if false then 4 else 0 := by simp; try omega
      rw [e]; simp [bytesShort]
    have hB0 : B (UInt8.ofNat (63 + S)) = .int .u8 (64 + (S : Int) - 1) := by
      unfold B; rw [UInt8.toNat_ofNat']; congr 1; simp; omega
    have HB0 := Lib.hid hB0
    have HL := Lib.hid hlen
    have HF := Lib.hid hflat
    clear hB0 hlen hflat
    go_enter Tryd.func45, Tryd.ntmps45
    go_wp2_with (go_at_call 61; refine HT.out.mono ?_; rintro e w1 ⟨rfl, b1⟩; have hH1 := hH.grown (grown_of_below (row := none) b1) (by simp); have z1 := hH1.cells)
    have ht2 := RS.below ht1 b1 (Nat.le_refl _)
    have b01 : Below w.heap.size w w1 := (below_alloc w _).trans (b1.mono (by simp))
    have hz1 := hH1.lt
    clear ht1 hH b1 HT
    go_region_held3 (fun w' => w'.cell? ⟨w.heap.size, 3, none⟩ = some (.slice a n c))
      (first | (with_reducible exact (HB.cells Q4).2.2.2.1) | (with_reducible exact (HB.cells Q2).2.2.2.1) | go_keep)
      (first
        | (go_at_call 63; (with_reducible refine (shortN _ pn S h1 h4).mono ?_); rintro e w2 ⟨a2, c2, rfl, g3, g4⟩; have Q2 : HB w2 w.heap.size false lv false (.slice a n c) (.slice b m k) := HB.grown (HB.drew hH1) (grown_of_below (row := none) g4) (by simp); have Q3 : HB (w2.alloc (.cells #[.int .u8 (64 + (S : Int) - 1)] 5)) w.heap.size false lv false (.slice a n c) (.slice b m k) := HB.grown Q2 (grown_of_below (row := none) (below_alloc _ _)) (by simp); have k2 : BS (w2.alloc (.cells #[.int .u8 (64 + (S : Int) - 1)] 5)) a n c t := (RS.below ht2.drew g4 (Nat.le_refl _)).alloc _; have k3 : BS (w2.alloc (.cells #[.int .u8 (64 + (S : Int) - 1)] 5)) a2 S c2 (beB S pn) := g3.rs.alloc _; have k1 : BS (w2.alloc (.cells #[.int .u8 (64 + (S : Int) - 1)] 5)) (some ⟨w2.heap.size, 0, none⟩) 1 1 [UInt8.ofNat (63 + S)] := (by show RS _ 1 _ 1 1 [B _]; rw [HB0.out]; exact RS_one w2 _ _ rfl); have kP := PS3 _ k1 k2 k3; rw [World.size_alloc] at kP; have kb : Below w.heap.size w (w2.alloc (.cells #[.int .u8 (64 + (S : Int) - 1)] 5)) := (b01.trans ((below_undrew g4).mono (by show w.heap.size ≤ w1.heap.size; omega))).alloc (by have h9 : w1.heap.size ≤ w2.heap.size := g4.size; omega) _)
        | (go_at_call 63; (with_reducible refine (shortN _ pn S h1 h4).mono ?_); rintro e w2 ⟨a2, c2, rfl, g3, g4⟩; have Q2 : HB w2 w.heap.size false lv false (.slice a n c) (.slice b m k) := HB.grown (HB.drew (HB.grown hH1 (grown_of_below (row := none) (below_alloc _ _)) (by simp))) (grown_of_below (row := none) g4) (by simp); have Q3 := Q2; have k2 : BS w2 a n c t := (RS.below (ht2.alloc _).drew g4 (Nat.le_refl _)); have k3 : BS w2 a2 S c2 (beB S pn) := g3.rs; have k1 : BS w2 (some ⟨w1.heap.size, 0, none⟩) 1 1 [UInt8.ofNat (63 + S)] := (by show RS _ 1 _ 1 1 [B _]; rw [HB0.out]; exact RS.below (RS_one w1 _ _ rfl).drew g4 (Nat.le_refl _)); have kP := PS3 _ k1 k2 k3; have kb : Below w.heap.size w w2 := ((b01.alloc (by omega) _).trans ((below_undrew g4).mono (by show w.heap.size ≤ (w1.alloc _).heap.size; simp; omega))))
        | (go_at_call 62; (with_reducible refine (join_any _ _ kP (by rw [HF.out, HL.out]; omega)).mono ?_); rw [HF.out, HL.out]; rintro e w4 ⟨a5, c5, rfl, g5, g6⟩; have kc := below_then (kb.alloc kb.size _) g6 (kb.alloc kb.size _).size; have g7 := JW.mono g5 (kb.alloc kb.size _).size; have Q4 : HB w4 w.heap.size false lv false (.slice a n c) (.slice b m k) := HB.grown (HB.grown Q3 (grown_of_below (row := none) (below_alloc _ _)) (by simp)) (grown_of_below (row := none) g6) (by simp)))
    all_goals
      go_wp2_with fail
      go_ret2
      exact ⟨a5, c5, rfl, g7, kc⟩
  | true =>
    have hflat : [[UInt8.ofNat (67 + S)], t, beB S pn].flatten = bytesShort true t S pn := by
      have e : 67 + S = 63 + S + if true then 4 else 0 := by simp; try omega
      rw [e]; simp [bytesShort]
    have hB0 : B (UInt8.ofNat (67 + S)) = .int .u8 (67 + (S : Int)) := by
      unfold B; rw [UInt8.toNat_ofNat']; congr 1; simp; omega
    have HB0 := Lib.hid hB0
    have HL := Lib.hid hlen
    have HF := Lib.hid hflat
    clear hB0 hlen hflat
    go_enter Tryd.func45, Tryd.ntmps45
    go_wp2_with (go_at_call 61; refine HT.out.mono ?_; rintro e w1 ⟨rfl, b1⟩; have hH1 := hH.grown (grown_of_below (row := none) b1) (by simp); have z1 := hH1.cells)
    have ht2 := RS.below ht1 b1 (Nat.le_refl _)
    have b01 : Below w.heap.size w w1 := (below_alloc w _).trans (b1.mono (by simp))
    have hz1 := hH1.lt
    clear ht1 hH b1 HT
    go_region_held3 (fun w' => w'.cell? ⟨w.heap.size, 3, none⟩ = some (.slice a n c))
      (first | (with_reducible exact (HB.cells Q4).2.2.2.1) | (with_reducible exact (HB.cells Q2).2.2.2.1) | go_keep)
      (first
        | (go_at_call 63; (with_reducible refine (shortN _ pn S h1 h4).mono ?_); rintro e w2 ⟨a2, c2, rfl, g3, g4⟩; have Q2 : HB w2 w.heap.size false lv true (.slice a n c) (.slice b m k) := HB.grown (HB.drew hH1) (grown_of_below (row := none) g4) (by simp); have Q3 : HB (w2.alloc (.cells #[.int .u8 (67 + (S : Int))] 5)) w.heap.size false lv true (.slice a n c) (.slice b m k) := HB.grown Q2 (grown_of_below (row := none) (below_alloc _ _)) (by simp); have k2 : BS (w2.alloc (.cells #[.int .u8 (67 + (S : Int))] 5)) a n c t := (RS.below ht2.drew g4 (Nat.le_refl _)).alloc _; have k3 : BS (w2.alloc (.cells #[.int .u8 (67 + (S : Int))] 5)) a2 S c2 (beB S pn) := g3.rs.alloc _; have k1 : BS (w2.alloc (.cells #[.int .u8 (67 + (S : Int))] 5)) (some ⟨w2.heap.size, 0, none⟩) 1 1 [UInt8.ofNat (67 + S)] := (by show RS _ 1 _ 1 1 [B _]; rw [HB0.out]; exact RS_one w2 _ _ rfl); have kP := PS3 _ k1 k2 k3; rw [World.size_alloc] at kP; have kb : Below w.heap.size w (w2.alloc (.cells #[.int .u8 (67 + (S : Int))] 5)) := (b01.trans ((below_undrew g4).mono (by show w.heap.size ≤ w1.heap.size; omega))).alloc (by have h9 : w1.heap.size ≤ w2.heap.size := g4.size; omega) _)
        | (go_at_call 63; (with_reducible refine (shortN _ pn S h1 h4).mono ?_); rintro e w2 ⟨a2, c2, rfl, g3, g4⟩; have Q2 : HB w2 w.heap.size false lv true (.slice a n c) (.slice b m k) := HB.grown (HB.drew (HB.grown hH1 (grown_of_below (row := none) (below_alloc _ _)) (by simp))) (grown_of_below (row := none) g4) (by simp); have Q3 := Q2; have k2 : BS w2 a n c t := (RS.below (ht2.alloc _).drew g4 (Nat.le_refl _)); have k3 : BS w2 a2 S c2 (beB S pn) := g3.rs; have k1 : BS w2 (some ⟨w1.heap.size, 0, none⟩) 1 1 [UInt8.ofNat (67 + S)] := (by show RS _ 1 _ 1 1 [B _]; rw [HB0.out]; exact RS.below (RS_one w1 _ _ rfl).drew g4 (Nat.le_refl _)); have kP := PS3 _ k1 k2 k3; have kb : Below w.heap.size w w2 := ((b01.alloc (by omega) _).trans ((below_undrew g4).mono (by show w.heap.size ≤ (w1.alloc _).heap.size; simp; omega))))
        | (go_at_call 62; (with_reducible refine (join_any _ _ kP (by rw [HF.out, HL.out]; omega)).mono ?_); rw [HF.out, HL.out]; rintro e w4 ⟨a5, c5, rfl, g5, g6⟩; have kc := below_then (kb.alloc kb.size _) g6 (kb.alloc kb.size _).size; have g7 := JW.mono g5 (kb.alloc kb.size _).size; have Q4 : HB w4 w.heap.size false lv true (.slice a n c) (.slice b m k) := HB.grown (HB.grown Q3 (grown_of_below (row := none) (below_alloc _ _)) (by simp)) (grown_of_below (row := none) g6) (by simp)))
    all_goals
      go_wp2_with fail
      go_ret2
      exact ⟨a5, c5, rfl, g7, kc⟩
end bb
end Go.Proofs.YtlncnjcbgfeaoaaDoor
