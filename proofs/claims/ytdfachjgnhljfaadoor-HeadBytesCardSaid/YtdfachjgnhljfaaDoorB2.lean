/- the reference's Bytes of a head. -/
import Derived.Test.YtdfachjgnhljfaaDoorB1
set_option maxRecDepth 100000
set_option linter.unusedVariables false
namespace Go.Proofs.YtdfachjgnhljfaaDoor
open Go.RowKit
abbrev gobj (l : Bool) (lv : Int) (ph : Bool) (t f : Value) : Obj := .cells #[.bool l, .int .i64 lv, .bool ph, t, f] 40
section bb
variable {w : World} {l : Bool} {lv : Int} {ph : Bool} {a b : Option Addr} {n c m k : Nat} {pn : Nat} {size left : Int}
theorem rb_form (h1 : 1 ≤ size) (h4 : size ≤ 4) (h0 : 0 ≤ left) (hl : l = true → left ≤ 16383 - size) (hr : rightS l lv ph n m = false) :
    Calls Tryd.prog 29 #[.agg #[.bool l, .int .i64 lv, .bool ph, .slice a n c, .slice b m k], .int .u64 (pn : Int), .int .i64 size, .int .i64 left] w fun e w' => e = .returned (.tuple #[.slice none 0 0, .int .i64 4]) ∧ Below w.heap.size w w' := by
  have T := right_any (w.alloc (gobj l lv ph (.slice a n c) (.slice b m k))) l lv ph (a := a) (b := b) (n := n) (c := c) (m := m) (k := k)
  rw [hr] at T
  have HT := Lib.hid T
  have c1 : ¬ size < 1 := by omega
  have c2 : ¬ 4 < size := by omega
  have c3 : ¬ left < 0 := by omega
  clear T hr
  cases l with
  | true =>
    have hl' := hl rfl
    have c4 : ¬ 16383 - size < left := by omega
    clear hl
    go_enter Tryd.func29, Tryd.ntmps29
    go_wp2_with (go_at_call 49; refine HT.out.mono ?_; rintro e w1 ⟨rfl, b1⟩)
    go_ret2
    exact ⟨rfl, (below_alloc w _).trans (b1.mono (by simp))⟩
  | false =>
    clear hl
    go_enter Tryd.func29, Tryd.ntmps29
    go_wp2_with (go_at_call 49; refine HT.out.mono ?_; rintro e w1 ⟨rfl, b1⟩)
    go_ret2
    exact ⟨rfl, (below_alloc w _).trans (b1.mono (by simp))⟩
set_option maxHeartbeats 2000000 in
theorem rb_short {t f : List UInt8} (hp : pn < 18446744073709551616) (S : Nat) (h1 : 1 ≤ S) (h4 : S ≤ 4) (h0 : 0 ≤ left) (hr : rightS false lv ph n m = true) (ht : BS w a n c t) (hf : BS w b m k f) (hn : n ≤ 1000) :
    Calls Tryd.prog 29 #[.agg #[.bool false, .int .i64 lv, .bool ph, .slice a n c, .slice b m k], .int .u64 (pn : Int), .int .i64 (S : Int), .int .i64 left] w
      fun e w' => ∃ a' c', e = .returned (.tuple #[.slice a' (1 + n + S) c', .int .i64 0]) ∧ OW w' w.heap.size 5 1 a' (1 + n + S) c' ((bytesShort ph t S pn).map B) ∧ Below w.heap.size w w' := by
  have T := right_any (w.alloc (gobj false lv ph (.slice a n c) (.slice b m k))) false lv ph (a := a) (b := b) (n := n) (c := c) (m := m) (k := k)
  rw [hr] at T
  have HT := Lib.hid T
  have c3 : ¬ left < 0 := by omega
  have ht1 := ht.alloc (gobj false lv ph (.slice a n c) (.slice b m k))
  have hH : HB (w.alloc (gobj false lv ph (.slice a n c) (.slice b m k))) w.heap.size false lv ph (.slice a n c) (.slice b m k) := heap_alloc_new w _
  clear T hr ht hf
  go_enter Tryd.func29, Tryd.ntmps29
  go_wp2_with (go_at_call 49; refine HT.out.mono ?_; rintro e w1 ⟨rfl, b1⟩)
  have ht2 := RS.below ht1 b1 (Nat.le_refl _)
  have hH1 := hH.grown (grown_of_below (row := none) b1) (by simp)
  have hz1 := hH1.lt
  have b01 : Below w.heap.size w w1 := (below_alloc w _).trans (b1.mono (by simp))
  clear ht1 hH b1 HT
  go_loopw [10, 1, 37] (fun nv p i wr => ∃ (j : Nat) (x : Option Addr) (y : Nat), j ≤ S ∧ i = .int .i64 (j : Int) ∧ p = .int .u64 ((pn / 256 ^ j : Nat) : Int) ∧ nv = .slice x j y ∧ OW wr w.heap.size 5 1 x j y ((beB j pn).map B) ∧ Below w1.heap.size w1 wr) (fun _ _ i _ => S - (intOf i).toNat)
  case atStart => exact ⟨0, none, 0, by omega, rfl, by simp, rfl, OW_nil _ _ _ _, Below.refl _ _⟩
  case round =>
    obtain ⟨j, x, y, hj, rfl, rfl, rfl, ho, hbr⟩ := hrel
    have hszr := hbr.size
    by_cases hlt : j < S
    · have hcons := beB_cons j pn
      have hv : B (UInt8.ofNat (pn / 256 ^ j)) = .int .u8 (((pn / 256 ^ j : Nat) : Int) % 256) := by
        unfold B; rw [UInt8.toNat_ofNat']; rfl
      have hpow : pn / 256 ^ (j + 1) = pn / 256 ^ j / 256 := by rw [Nat.pow_succ, Nat.div_div_eq_div_mul]
      have hpj : pn / 256 ^ j < 18446744073709551616 := Nat.lt_of_le_of_lt (Nat.div_le_self _ _) hp
      generalize pn / 256 ^ j = P at *
      have Hc := Lib.hid hcons
      have Hv := Lib.hid hv
      have Hpow := Lib.hid hpow
      clear hcons hv hpow
      go_wp2_with (at_builtin; refine L_append tB (OW_made _ w.heap.size _ 1 #[_] 1 (by omega) rfl (by unfold maxLen; omega) (by simp [Value.oneCell'])) (ho.rs.alloc _) _ _ rfl rfl rfl rfl (by omega) (by unfold maxLen; omega) (by simp; omega) ?_; intro a1 c1 w2 o1 g1)
      have b2 : Below w1.heap.size w1 w2 := (hbr.alloc hszr _).grown g1 (by simp; omega) (by intro q hq; simp at hq; omega)
      go_roundw
      case rel =>
        refine ⟨j + 1, a1, c1, by omega, by go_num, by rw [Hpow.out]; go_num, by rw [Nat.add_comm], ?_, b2⟩
        rw [Hc.out, List.map_cons, Hv.out, Nat.add_comm j 1]
        exact o1
      case measure => simp [intOf]; omega
    · obtain rfl : j = S := by omega
      have hH2 := hH1.grown (grown_of_below (row := none) hbr) (by simp)
      have q1 := hH2.cells
      have ht3 := RS.below ht2 hbr (Nat.le_refl _)
      have b02 := below_then b01 hbr b01.size
      have htl := BS.len ht2
      have hlt2 : w.heap.size < wr.heap.size := by omega
      cases ph with
      | false =>
        have hv : (bytesShort false t j pn).map B = .int .u8 (64 + (j : Int) - 1) :: (t.map B ++ (beB j pn).map B) := by
          simp only [bytesShort, List.map_cons, List.map_append, B_eq, UInt8.toNat_ofNat']
          congr 2; simp; omega
        have Hv := Lib.hid hv
        clear hv
        go_wp2_with (first | (at_builtin; refine L_append tB (OW_made _ w.heap.size _ 1 #[_] 1 (by omega) rfl (by unfold maxLen; omega) (by simp [Value.oneCell'])) (ht3.alloc _) _ _ rfl rfl rfl rfl (by omega) (by unfold maxLen; omega) (by simp; omega) ?_; intro a1 c1 w2 o1 g1; have b2 : Below wr.heap.size wr w2 := (below_alloc wr _).grown g1 (by simp) (by intro q hq; simp at hq; omega); have hx2 : RS w2 1 x j y ((beB j pn).map B) := RS.below ho.rs b2 (Nat.le_refl _); have hs2 := b2.size) | (at_builtin; refine L_append tB o1 hx2 _ _ rfl rfl rfl rfl (by omega) (by unfold maxLen; omega) (by omega) ?_; intro a2 c2 w3 o2 g2))
        have b3 : Below w.heap.size w w3 := (below_then b02 b2 b02.size).grown g2 (by omega) (by intro q hq; obtain ⟨ad, h, rfl⟩ := Option.map_eq_some_iff.1 hq; exact (o1.base_le h).1)
        go_ret2
        refine ⟨a2, c2, rfl, ?_, b3⟩
        rw [Hv.out]
        simpa using o2
      | true =>
        have hv : (bytesShort true t j pn).map B = .int .u8 (64 + (j : Int) - 1 + 4) :: (t.map B ++ (beB j pn).map B) := by
          simp only [bytesShort, List.map_cons, List.map_append, B_eq, UInt8.toNat_ofNat']
          congr 2; simp; omega
        have Hv := Lib.hid hv
        clear hv
        go_wp2_with (first | (at_builtin; refine L_append tB (OW_made _ w.heap.size _ 1 #[_] 1 (by omega) rfl (by unfold maxLen; omega) (by simp [Value.oneCell'])) (ht3.alloc _) _ _ rfl rfl rfl rfl (by omega) (by unfold maxLen; omega) (by simp; omega) ?_; intro a1 c1 w2 o1 g1; have b2 : Below wr.heap.size wr w2 := (below_alloc wr _).grown g1 (by simp) (by intro q hq; simp at hq; omega); have hx2 : RS w2 1 x j y ((beB j pn).map B) := RS.below ho.rs b2 (Nat.le_refl _); have hs2 := b2.size) | (at_builtin; refine L_append tB o1 hx2 _ _ rfl rfl rfl rfl (by omega) (by unfold maxLen; omega) (by omega) ?_; intro a2 c2 w3 o2 g2))
        have b3 : Below w.heap.size w w3 := (below_then b02 b2 b02.size).grown g2 (by omega) (by intro q hq; obtain ⟨ad, h, rfl⟩ := Option.map_eq_some_iff.1 hq; exact (o1.base_le h).1)
        go_ret2
        refine ⟨a2, c2, rfl, ?_, b3⟩
        rw [Hv.out]
        simpa using o2
end bb
end Go.Proofs.YtdfachjgnhljfaaDoor
