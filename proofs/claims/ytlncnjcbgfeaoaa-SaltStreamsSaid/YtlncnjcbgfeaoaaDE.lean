/- the reference's Block: plain laws. -/
import Derived.Test.YtlncnjcbgfeaoaaC5
import Derived.Test.YtlncnjcbgfeaoaaD1
set_option maxRecDepth 100000
set_option linter.unusedVariables false
namespace Go.Proofs.Ytlncnjcbgfeaoaa
open Go.RowKit
/-- the j-th word of so many bytes -/
def wpB (bs : List UInt8) (i j : Nat) : Nat := numL ((bs.drop (4 * j)).take (min 4 (i - 4 * j)))
/-- words that bytes are laid into, so many of them -/
def updB (S : List Nat) (o : Nat) (bs : List UInt8) (i : Nat) : List Nat := (List.range 16).map fun k => if o ≤ k ∧ 4 * (k - o) < i then wpB bs i (k - o) else S.getD k 0
theorem updB_len (S : List Nat) (o : Nat) (bs : List UInt8) (i : Nat) : (updB S o bs i).length = 16 := by simp [updB]
theorem updB_get (S : List Nat) (o : Nat) (bs : List UInt8) (i k : Nat) (hk : k < 16) : (updB S o bs i)[k]? = some (if o ≤ k ∧ 4 * (k - o) < i then wpB bs i (k - o) else S.getD k 0) := by
  unfold updB; rw [List.getElem?_map, List.getElem?_range hk]; rfl
theorem wpB_zero (bs : List UInt8) (v : Nat) : wpB bs (4 * v) v = 0 := by
  unfold wpB; rw [Nat.sub_self]; rfl
theorem wpB_lt (bs : List UInt8) (v r : Nat) (hr : r < 4) : wpB bs (4 * v + r) v < 256 ^ r := by
  unfold wpB
  rw [show min 4 (4 * v + r - 4 * v) = r by omega]
  refine Nat.lt_of_lt_of_le (numL_lt _) (Nat.pow_le_pow_right (by decide) ?_)
  rw [List.length_take]; omega
theorem wpB_step (bs : List UInt8) (v r : Nat) (x : UInt8) (hr : r < 4) (hx : bs[4 * v + r]? = some x) : wpB bs (4 * v + r + 1) v = wpB bs (4 * v + r) v + 256 ^ r * x.toNat := by
  have hl := (List.getElem?_eq_some_iff.1 hx).1
  unfold wpB
  rw [show min 4 (4 * v + r + 1 - 4 * v) = r + 1 by omega, show min 4 (4 * v + r - 4 * v) = r by omega, List.take_add_one, List.getElem?_drop, hx, numL_append, List.length_take, List.length_drop, Nat.min_eq_left (by omega)]
  simp [numL]
theorem updB_old (S : List Nat) (o : Nat) (bs : List UInt8) (v r : Nat) (hr : r < 4) (hv : o + v < 16) (hS : S.getD (o + v) 0 = 0) : (updB S o bs (4 * v + r))[o + v]? = some (wpB bs (4 * v + r) v) := by
  rw [updB_get _ _ _ _ _ hv, show o + v - o = v by omega]
  by_cases h : r = 0
  · subst h
    rw [if_neg (by omega), hS, Nat.add_zero, wpB_zero]
  · rw [if_pos (by omega)]
theorem updB_set (S : List Nat) (o : Nat) (bs : List UInt8) (v r : Nat) (x : UInt8) (hr : r < 4) (hv : o + v < 16) (hx : bs[4 * v + r]? = some x) :
    (updB S o bs (4 * v + r)).set (o + v) (wpB bs (4 * v + r) v + 256 ^ r * x.toNat) = updB S o bs (4 * v + r + 1) := by
  apply List.ext_getElem?
  intro k
  rcases Nat.lt_or_ge k 16 with hk | hk
  · by_cases e : k = o + v
    · subst e
      rw [List.getElem?_set_self (by rw [updB_len]; exact hk), updB_get _ _ _ _ _ hk, if_pos (by omega), show o + v - o = v by omega, wpB_step _ _ _ _ hr hx]
    · rw [List.getElem?_set_ne (fun h => e h.symm), updB_get _ _ _ _ _ hk, updB_get _ _ _ _ _ hk]
      by_cases h : o ≤ k ∧ 4 * (k - o) < 4 * v + r
      · rw [if_pos h, if_pos (by omega)]
        unfold wpB
        rw [show min 4 (4 * v + r - 4 * (k - o)) = 4 by omega, show min 4 (4 * v + r + 1 - 4 * (k - o)) = 4 by omega]
      · rw [if_neg h, if_neg (by omega)]
  · rw [List.getElem?_eq_none (by rw [List.length_set, updB_len]; exact hk), List.getElem?_eq_none (by rw [updB_len]; exact hk)]
theorem le4_num (xs : List UInt8) (h : 4 ≤ xs.length) : numL (xs.take 4) = le4 xs := by
  match xs, h with
  | a :: b :: c :: d :: r, _ => simp [numL, le4]; omega
def expK : List UInt8 := [101, 120, 112, 97, 110, 100, 32, 51, 50, 45, 98, 121, 116, 101, 32, 107]
def Z16 : List Nat := [0, 0, 0, 0, 0, 0, 0, 0, 0, 0, 0, 0, 0, 0, 0, 0]
/-- the state while it is laid -/
def st1 : List Nat := updB Z16 0 expK 16
def st2 (key : List UInt8) : List Nat := updB st1 4 key 32
def st3 (key : List UInt8) (q : Nat) : List Nat := (st2 key).set 12 q
theorem st1_eq : st1 = [1634760805, 857760878, 2036477234, 1797285236, 0, 0, 0, 0, 0, 0, 0, 0, 0, 0, 0, 0] := by decide +kernel
theorem updB_zero (S : List Nat) (o : Nat) (bs : List UInt8) (hS : S.length = 16) : updB S o bs 0 = S := by
  apply List.ext_getElem?
  intro k
  rcases Nat.lt_or_ge k 16 with hk | hk
  · rw [updB_get _ _ _ _ _ hk, if_neg (by omega), List.getD_eq_getElem?_getD, List.getElem?_eq_getElem (by omega)]; rfl
  · rw [List.getElem?_eq_none (by rw [updB_len]; exact hk), List.getElem?_eq_none (by omega)]
theorem st2_getD (key : List UInt8) (k : Nat) (hk : k < 16) : (st2 key).getD k 0 = if 4 ≤ k ∧ k < 12 then wpB key 32 (k - 4) else st1.getD k 0 := by
  rw [List.getD_eq_getElem?_getD]
  unfold st2
  rw [updB_get _ _ _ _ _ hk]
  simp only [Option.getD_some]
  by_cases h : 4 ≤ k ∧ k < 12
  · rw [if_pos (by omega), if_pos h]
  · rw [if_neg (by omega), if_neg h]
theorem st3_getD (key : List UInt8) (q k : Nat) (hk : k < 16) : (st3 key q).getD k 0 = if k = 12 then q else (st2 key).getD k 0 := by
  unfold st3
  rw [List.getD_eq_getElem?_getD, List.getElem?_set]
  by_cases h : k = 12
  · subst h
    rw [if_pos rfl, if_pos (by unfold st2; rw [updB_len]; omega), if_pos rfl]; rfl
  · rw [if_neg (fun e => h e.symm), if_neg h, List.getD_eq_getElem?_getD]
theorem st4_eq {key nonce : List UInt8} (hk : key.length = 32) (hn : nonce.length = 12) (q : Nat) : updB (st3 key q) 13 nonce 12 = initC key nonce q := by
  have hs1 := st1_eq
  apply List.ext_getElem?
  intro k
  rcases Nat.lt_or_ge k 16 with hk16 | hk16
  · rw [updB_get _ _ _ _ _ hk16]
    rcases Nat.lt_or_ge k 13 with h13 | h13
    · rw [if_neg (by omega), st3_getD _ _ _ hk16]
      by_cases h12 : k = 12
      · subst h12; rw [if_pos rfl, initC_n]
      · rw [if_neg h12, st2_getD _ _ hk16]
        by_cases h4 : 4 ≤ k
        · rw [if_pos (by omega)]
          have := initC_key key nonce q (k - 4) (by omega)
          rw [show 4 + (k - 4) = k by omega] at this
          rw [this]
          unfold wpB
          rw [show min 4 (32 - 4 * (k - 4)) = 4 by omega, le4_num _ (by rw [List.length_drop]; omega)]
        · rw [if_neg (by omega), hs1]
          have hk4 : k = 0 ∨ k = 1 ∨ k = 2 ∨ k = 3 := by omega
          rcases hk4 with rfl | rfl | rfl | rfl <;> rfl
    · rw [if_pos (by omega)]
      have := initC_nonce key nonce q (k - 13) (by omega)
      rw [show 13 + (k - 13) = k by omega] at this
      rw [this]
      unfold wpB
      rw [show min 4 (12 - 4 * (k - 13)) = 4 by omega, le4_num _ (by rw [List.length_drop]; omega)]
  · rw [List.getElem?_eq_none (by rw [updB_len]; exact hk16), List.getElem?_eq_none (by rw [initC_len]; exact hk16)]
theorem st1_zero (v : Nat) (h : v < 12) : st1.getD (4 + v) 0 = 0 := by
  rw [st1_eq]
  have hv : v = 0 ∨ v = 1 ∨ v = 2 ∨ v = 3 ∨ v = 4 ∨ v = 5 ∨ v = 6 ∨ v = 7 ∨ v = 8 ∨ v = 9 ∨ v = 10 ∨ v = 11 := by omega
  rcases hv with rfl | rfl | rfl | rfl | rfl | rfl | rfl | rfl | rfl | rfl | rfl | rfl <;> rfl
theorem st3_zero (key : List UInt8) (q v : Nat) (h : v < 3) : (st3 key q).getD (13 + v) 0 = 0 := by
  rw [st3_getD _ _ _ (by omega), if_neg (by omega), st2_getD _ _ (by omega), if_neg (by omega)]
  have := st1_zero (9 + v) (by omega)
  rw [show 4 + (9 + v) = 13 + v by omega] at this
  exact this
theorem Z16_zero (v : Nat) (h : v < 16) : Z16.getD (0 + v) 0 = 0 := by
  have : ∀ v, v < 16 → Z16.getD (0 + v) 0 = 0 := by decide
  exact this v h
end Go.Proofs.Ytlncnjcbgfeaoaa
