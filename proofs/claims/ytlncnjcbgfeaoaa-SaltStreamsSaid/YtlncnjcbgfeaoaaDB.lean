/- the reference's less. -/
import Derived.Test.YtlncnjcbgfeaoaaDA
import Derived.Deep.QuietTactic
import Derived.BigQuiet
set_option maxRecDepth 100000
set_option linter.unusedVariables false
namespace Go.Proofs.Ytlncnjcbgfeaoaa
open Go.RowKit
theorem RS.drewN {w : World} {z : Nat} {a : Option Addr} {n c : Nat} {vs : List Value} (h : RS w z a n c vs) (k : Nat) : RS (w.drewN k) z a n c vs := h
theorem below_drewN {B : Nat} {a w : World} (h : Below B a w) (k : Nat) : Below B a (w.drewN k) := ⟨h.os, h.tape, h.output, h.size, h.block⟩
structure LQ (xs ys : List Nat) (k : Nat) : Prop where
  h : xs.drop k = ys.drop k
set_option maxHeartbeats 2000000 in
theorem rless_any (w : World) {a b : Option Addr} {n c d : Nat} {xs ys : List Nat} (hx : IS w a n c xs) (hy : IS w b n d ys) (hn : 0 < n) (hx2 : ∀ z ∈ xs, z < 256) (hy2 : ∀ z ∈ ys, z < 256) :
    Calls Try.prog 38 #[.slice a n c, .slice b n d] w fun e w' => e = .returned (.bool (lessS xs ys)) ∧ Below w.heap.size w w' := by
  have hxl := IS.len hx
  have hyl := IS.len hy
  have hmx := RS.max hx
  have hmy := RS.max hy
  have hlx := RS.le hx
  have hly := RS.le hy
  unfold maxLen at hmx hmy
  obtain ⟨b1, o1, rfl, hc1⟩ := RS.at_ hx hn
  obtain ⟨b2, o2, rfl, hc2⟩ := RS.at_ hy hn
  have HC1 := Lib.hid hc1
  have HC2 := Lib.hid hc2
  have HX2 := Lib.hid hx2
  have HY2 := Lib.hid hy2
  have hq0 : LQ xs ys n := ⟨by rw [List.drop_of_length_le (by omega), List.drop_of_length_le (by omega)]⟩
  clear hc1 hc2 hx hy hx2 hy2
  go_enter Try.func38, Try.ntmps38
  go_wp2
  go_loopw [5] (fun s5 wr => ∃ (k m : Nat), k ≤ n ∧ s5 = .int .i64 ((k : Int) - 1) ∧ LQ xs ys k ∧ wr = w.drewN m) (fun s5 _ => (intOf s5 + 1).toNat)
  case atStart => exact ⟨n, 0, by omega, rfl, hq0, rfl⟩
  case round =>
    obtain ⟨k, m, hk, rfl, hq, rfl⟩ := hrel
    clear hq0
    cases k with
    | zero =>
      have hE : xs = ys := by simpa using hq.h
      have hr := less_eq hE
      have HR := Lib.hid hr
      clear hE hr hq
      go_wp2
      go_ret
      rw [HR.out]
      exact ⟨rfl, below_drewN (Below.refl _ _) _⟩
    | succ j =>
      rw [show (((j + 1 : Nat) : Int) - 1) = (j : Int) by omega]
      obtain ⟨x, ex⟩ : ∃ x, xs[j]? = some x := ⟨_, List.getElem?_eq_getElem (by omega)⟩
      obtain ⟨y, ey⟩ : ∃ y, ys[j]? = some y := ⟨_, List.getElem?_eq_getElem (by omega)⟩
      have q1 := HC1.out j _ (iv_get ex)
      have q2 := HC2.out j _ (iv_get ey)
      have lx := HX2.out x (List.mem_of_getElem? ex)
      have ly := HY2.out y (List.mem_of_getElem? ey)
      by_cases hxy : x = y
      · subst hxy
        have hq2 : LQ xs ys j := ⟨by
          obtain ⟨h1, h2⟩ := List.getElem?_eq_some_iff.1 ex
          obtain ⟨h3, h4⟩ := List.getElem?_eq_some_iff.1 ey
          rw [List.drop_eq_getElem_cons h1, List.drop_eq_getElem_cons h3, hq.h, h2, h4]⟩
        clear ex ey hq
        go_upto_region 4 with (fail)
        go_quiet (fail)
        go_wp2
        go_roundw
        case rel => exact ⟨j, _, by omega, by go_num, hq2, rfl⟩
        case measure => simp [intOf]
      · have hr := less_top HX2.out HY2.out (by omega) (by omega) ex ey hxy hq.h
        have HR := Lib.hid hr
        clear ex ey hq hr
        go_upto_region 4 with (fail)
        go_quiet (fail)
        go_upto_region 5 with (fail)
        go_quiet (fail)
        go_wp2
        go_ret
        refine ⟨?_, below_drewN (below_drewN (below_drewN (Below.refl _ _) _) _) _⟩
        rw [← HR.out]
        simp
end Go.Proofs.Ytlncnjcbgfeaoaa
