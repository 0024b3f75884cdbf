/- texts B0 P3 in one. -/
import Derived.Test.YtlncnjcbgfeaoaaDoorYad

/- Plain functions: a head's bytes. -/
namespace Go.Proofs.YtlncnjcbgfeaoaaDoor
theorem beB_cons (k : Nat) : ∀ n, beB (k + 1) n = UInt8.ofNat (n / 256 ^ k) :: beB k n := by
  induction k with
  | zero => intro n; simp [beB]
  | succ k ih =>
    intro n
    have h := ih (n / 256)
    rw [Nat.div_div_eq_div_mul] at h
    have e : beB (k + 1 + 1) n = beB (k + 1) (n / 256) ++ [UInt8.ofNat n] := rfl
    rw [e, h, Nat.pow_succ, Nat.mul_comm (256 ^ k) 256]
    rfl
/-- may a head be so? -/
def rightS (l : Bool) (lv : Int) (ph : Bool) (nt nf : Nat) : Bool :=
  if l then decide (0 ≤ lv ∧ lv ≤ 1 ∧ nt < 21 ∧ nf < 21 ∧ ph = false) else decide (lv = 2 ∧ nt = 8 ∧ nf = 0)
/-- a form of two bytes -/
def wide2 (n : Nat) : List UInt8 := [UInt8.ofNat (n / 256 + 64), UInt8.ofNat n]
def bytesShort (ph : Bool) (t : List UInt8) (size pn : Nat) : List UInt8 := UInt8.ofNat (63 + size + if ph then 4 else 0) :: (t ++ beB size pn)
def bytesLong (lv : Nat) (t f : List UInt8) (size left pn : Nat) : List UInt8 :=
  [UInt8.ofNat (191 + 32 * lv + size), 0, 0, 0, 1, UInt8.ofNat t.length] ++ t ++ [UInt8.ofNat f.length] ++ f ++ (if lv = 0 then [0] else []) ++ wide2 (size + left) ++ beB size pn
end Go.Proofs.YtlncnjcbgfeaoaaDoor

/- Plain laws on readS: heads cut short, heads with more behind them. -/
namespace Go.Proofs.YtlncnjcbgfeaoaaDoor
theorem readS_app (b : UInt8) (r : List UInt8) (h6 : b.toNat / 64 % 2 ≠ 0) (h7 : b.toNat < 128) :
    readS (b :: r) = if (b :: r).length < 9 then errR 2 else if (b :: r).length < 29 then errR 4 else (0, ⟨false, 2, r.take 8, []⟩, 9, (b :: r).length) := by
  have e : readP (b :: r) = if (b :: r).length < 9 then errR 2 else (0, ⟨false, 2, ((b :: r).drop 1).take 8, []⟩, 9, (b :: r).length) := by
    unfold readP; dsimp only; rw [if_neg h6, if_pos h7]
  unfold readS
  rw [e]
  by_cases h9 : (b :: r).length < 9
  · simp only [if_pos h9]; rfl
  · simp only [if_neg h9]
    rw [if_neg (by simp)]
    by_cases h29 : (b :: r).length < 29
    · rw [if_pos h29, if_pos (by omega)]
    · rw [if_neg h29, if_neg (by omega)]; rfl
theorem readS_short (ph : Bool) (t : List UInt8) (pn k N : Nat) (ht : t.length = 8) (hk : k ≤ 13 + N) :
    readS ((bytesShort ph t 4 pn ++ List.replicate N 0).take k) = if k < 9 then errR 2 else if k < 29 then errR 4 else (0, ⟨false, 2, t, []⟩, 9, k) := by
  cases k with
  | zero => rfl
  | succ k =>
    have e : (bytesShort ph t 4 pn ++ List.replicate N 0).take (k + 1) = UInt8.ofNat (63 + 4 + if ph then 4 else 0) :: ((t ++ beB 4 pn) ++ List.replicate N 0).take k := rfl
    have hl : (((t ++ beB 4 pn) ++ List.replicate N (0 : UInt8)).take k).length = k := by
      simp only [List.length_take, List.length_append, beB_len, List.length_replicate, ht]; omega
    rw [e, readS_app _ _ (by cases ph <;> decide) (by cases ph <;> decide), List.length_cons, hl]
    by_cases h9 : k + 1 < 9
    · rw [if_pos h9, if_pos h9]
    · rw [if_neg h9, if_neg h9]
      by_cases h29 : k + 1 < 29
      · rw [if_pos h29, if_pos h29]
      · rw [if_neg h29, if_neg h29]
        congr 3
        rw [List.take_take, Nat.min_eq_left (by omega), List.append_assoc, List.take_append_of_le_length (by omega), List.take_of_length_le (by omega)]
theorem idS_app (t r : List UInt8) (ht : t.length ≤ 20) : idS (UInt8.ofNat t.length :: (t ++ r)) = (0, t) := by
  rw [idS_cons, UInt8.toNat_ofNat', if_neg (by omega), if_neg (by simp; omega), Nat.mod_eq_of_lt (by omega), List.take_append_of_le_length (by omega), List.take_of_length_le (by omega)]
theorem idS_cut (t r : List UInt8) (ht : t.length ≤ 20) (k : Nat) (hk : k < 1 + t.length) : idS ((UInt8.ofNat t.length :: (t ++ r)).take k) = (2, []) := by
  cases k with
  | zero => rfl
  | succ k =>
    rw [List.take_succ_cons, idS_cons, UInt8.toNat_ofNat', if_neg (by omega), if_pos]
    rw [List.length_take, Nat.mod_eq_of_lt (by omega)]; omega
theorem idS_take (t r : List UInt8) (ht : t.length ≤ 20) (k : Nat) (hk : 1 + t.length ≤ k) : idS ((UInt8.ofNat t.length :: (t ++ r)).take k) = (0, t) := by
  obtain ⟨k, rfl⟩ : ∃ j, k = j + 1 := ⟨k - 1, by omega⟩
  have e : (UInt8.ofNat t.length :: (t ++ r)).take (k + 1) = UInt8.ofNat t.length :: (t ++ r.take (k - t.length)) := by
    rw [List.take_succ_cons, List.take_append, List.take_of_length_le (by omega)]
  rw [e, idS_app _ _ ht]
/-- the number of two bytes -/
theorem takeS_wide (V : Nat) (hV : V < 16384) (r : List UInt8) (k : Nat) : takeS ((wide2 V ++ r).take k) = if k < 2 then none else some (V, r.take (k - 2)) := by
  have hb : (UInt8.ofNat (V / 256 + 64)).toNat = V / 256 + 64 := by rw [UInt8.toNat_ofNat']; omega
  match k with
  | 0 => rfl
  | 1 =>
    show takeS [UInt8.ofNat (V / 256 + 64)] = none
    rw [takeS_cons, hb, show (V / 256 + 64) / 64 = 1 by omega]; rfl
  | k + 2 =>
    show takeS (UInt8.ofNat (V / 256 + 64) :: UInt8.ofNat V :: r.take k) = _
    rw [takeS_cons, hb, show (V / 256 + 64) / 64 = 1 by omega, if_neg (by simp), if_neg (by omega)]
    congr 2
    show beNat [UInt8.ofNat V] ((V / 256 + 64) % 64) = V
    have : beNat [UInt8.ofNat V] ((V / 256 + 64) % 64) = (V / 256 + 64) % 64 * 256 + (UInt8.ofNat V).toNat := rfl
    rw [this, UInt8.toNat_ofNat']; omega
theorem takeS_zero (r : List UInt8) (k : Nat) : takeS (((0 : UInt8) :: r).take k) = if k < 1 then none else some (0, r.take (k - 1)) := by
  match k with
  | 0 => rfl
  | k + 1 =>
    show takeS ((0 : UInt8) :: r.take k) = _
    have h0 : 2 ^ ((0 : UInt8).toNat / 64) = 1 := rfl
    rw [takeS_cons, h0, if_neg (by simp), if_neg (by omega)]; rfl
/-- what stands ahead of a long packet's number -/
def hdrL (lv : Nat) (t f : List UInt8) (S V : Nat) : List UInt8 :=
  UInt8.ofNat (191 + 32 * lv + S) :: 0 :: 0 :: 0 :: 1 :: UInt8.ofNat t.length :: (t ++ (UInt8.ofNat f.length :: (f ++ ((if lv = 0 then [0] else []) ++ wide2 V))))
def lenL (lv : Nat) (t f : List UInt8) : Nat := 9 + t.length + f.length + if lv = 0 then 1 else 0
theorem hdrL_len (lv : Nat) (t f : List UInt8) (S V : Nat) : (hdrL lv t f S V).length = lenL lv t f := by
  by_cases h : lv = 0 <;> simp [hdrL, lenL, wide2, h] <;> omega
theorem bytesLong_eq (lv : Nat) (t f : List UInt8) (S L pn : Nat) : bytesLong lv t f S L pn = hdrL lv t f S (S + L) ++ beB S pn := by
  unfold bytesLong hdrL; simp
theorem bytesLong_len (lv : Nat) (t f : List UInt8) (S L pn : Nat) : (bytesLong lv t f S L pn).length = lenL lv t f + S := by
  rw [bytesLong_eq, List.length_append, hdrL_len, beB_len]
theorem readN_wide (p : List UInt8) (lv : Int) (i1 i2 r : List UInt8) (V k : Nat) (hV : V < 16384) (hr : V ≤ r.length) :
    readN p lv i1 i2 ((wide2 V ++ r).take k) = if k < 2 + V then errR 2 else (0, ⟨true, lv, i1, i2⟩, p.length - min (k - 2) r.length, p.length - min (k - 2) r.length + V) := by
  unfold readN
  rw [takeS_wide V hV]
  by_cases h2 : k < 2
  · rw [if_pos h2, if_pos (by omega)]
  · rw [if_neg h2]
    dsimp only
    rw [List.length_take]
    by_cases h3 : k < 2 + V
    · rw [if_pos h3, if_pos (by omega)]
    · rw [if_neg h3, if_neg (by omega)]
theorem readL_long (lv : Nat) (hlv : lv ≤ 1) (t f r : List UInt8) (S V k : Nat) (ht : t.length ≤ 20) (hf : f.length ≤ 20) (hV : V < 16384) (hr : V ≤ r.length) (hk : k ≤ lenL lv t f + r.length) :
    readL ((hdrL lv t f S V ++ r).take k) lv = if k < lenL lv t f + V then errR 2 else (0, ⟨true, lv, t, f⟩, lenL lv t f, lenL lv t f + V) := by
  have hlen : ((hdrL lv t f S V ++ r).take k).length = k := by rw [List.length_take, List.length_append, hdrL_len]; omega
  have hL : 9 + t.length + f.length ≤ lenL lv t f := by unfold lenL; omega
  have e0 : hdrL lv t f S V ++ r = UInt8.ofNat (191 + 32 * lv + S) :: 0 :: 0 :: 0 :: 1 :: UInt8.ofNat t.length :: (t ++ (UInt8.ofNat f.length :: (f ++ ((if lv = 0 then [0] else []) ++ (wide2 V ++ r))))) := by
    unfold hdrL; simp
  have e5 : ((hdrL lv t f S V ++ r).take k).drop 5 = (UInt8.ofNat t.length :: (t ++ (UInt8.ofNat f.length :: (f ++ ((if lv = 0 then [0] else []) ++ (wide2 V ++ r)))))).take (k - 5) := by
    rw [e0, List.drop_take]; rfl
  have e6 : ∀ j, j = 5 + 1 + t.length → ((hdrL lv t f S V ++ r).take k).drop j = (UInt8.ofNat f.length :: (f ++ ((if lv = 0 then [0] else []) ++ (wide2 V ++ r)))).take (k - (6 + t.length)) := by
    rintro j rfl
    rw [e0, List.drop_take, show 5 + 1 + t.length = t.length + 6 by omega, show k - (t.length + 6) = k - (6 + t.length) by omega]
    congr 1
    show List.drop t.length (t ++ _) = _
    rw [List.drop_append_of_le_length (by omega), List.drop_of_length_le (by omega), List.nil_append]
  have e7 : ∀ j, j = 5 + 1 + t.length + 1 + f.length → ((hdrL lv t f S V ++ r).take k).drop j = ((if lv = 0 then [0] else []) ++ (wide2 V ++ r)).take (k - (7 + t.length + f.length)) := by
    rintro j rfl
    rw [show 5 + 1 + t.length + 1 + f.length = (5 + 1 + t.length) + (1 + f.length) by omega, ← List.drop_drop, e6 _ rfl, List.drop_take, show k - (6 + t.length) - (1 + f.length) = k - (7 + t.length + f.length) by omega, show 1 + f.length = f.length + 1 by omega]
    congr 1
    show List.drop f.length (f ++ _) = _
    rw [List.drop_append_of_le_length (by omega), List.drop_of_length_le (by omega), List.nil_append]
  unfold readL
  rw [hlen]
  by_cases h5 : k < 5
  · rw [if_pos h5, if_pos (by omega)]
  rw [if_neg h5, if_neg (by
    rw [Decidable.not_not, e0, List.drop_take, List.take_take, Nat.min_eq_left (by omega)]; rfl)]
  by_cases h6 : k < 6 + t.length
  · rw [e5, idS_cut _ _ ht _ (by omega), if_pos (by simp), if_pos (by omega)]
  have i5 : idS (((hdrL lv t f S V ++ r).take k).drop 5) = (0, t) := by rw [e5]; exact idS_take _ _ ht _ (by omega)
  rw [i5]
  rw [if_neg (by simp)]
  dsimp only
  by_cases h7 : k < 7 + t.length + f.length
  · rw [e6 _ rfl, idS_cut _ _ hf _ (by omega), if_pos (by simp), if_pos (by omega)]
  have i6 : idS (((hdrL lv t f S V ++ r).take k).drop (5 + 1 + t.length)) = (0, f) := by rw [e6 _ rfl]; exact idS_take _ _ hf _ (by omega)
  rw [i6]
  rw [if_neg (by simp)]
  dsimp only
  rw [e7 _ rfl]
  obtain rfl | rfl : lv = 0 ∨ lv = 1 := by omega
  · have hL0 : lenL 0 t f = 10 + t.length + f.length := by unfold lenL; simp; omega
    rw [hL0] at hk ⊢
    unfold readT
    rw [if_pos (by simp), if_pos rfl]
    rw [show ([0] ++ (wide2 V ++ r)) = (0 : UInt8) :: (wide2 V ++ r) from rfl, takeS_zero]
    by_cases h8 : k - (7 + t.length + f.length) < 1
    · rw [if_pos h8, if_pos (by omega)]
    · rw [if_neg h8]
      dsimp only
      rw [if_neg (by simp), readN_wide _ _ _ _ _ _ _ hV hr, hlen]
      by_cases h9 : k < 10 + t.length + f.length + V
      · rw [if_pos h9, if_pos (by omega)]
      · rw [if_neg h9, if_neg (by omega)]
        congr 3 <;> omega
  · have hL1 : lenL 1 t f = 9 + t.length + f.length := by unfold lenL; simp
    rw [hL1] at hk ⊢
    unfold readT
    rw [if_neg (by simp), if_neg (by simp), List.nil_append, readN_wide _ _ _ _ _ _ _ hV hr, hlen]
    by_cases h9 : k < 9 + t.length + f.length + V
    · rw [if_pos h9, if_pos (by omega)]
    · rw [if_neg h9, if_neg (by omega)]
      congr 3 <;> omega
theorem readS_long (lv : Nat) (hlv : lv ≤ 1) (t f r : List UInt8) (S V k : Nat) (h1 : 1 ≤ S) (h4 : S ≤ 4) (ht : t.length ≤ 20) (hf : f.length ≤ 20) (hV : V < 16384) (h20 : 20 ≤ V) (hr : V ≤ r.length) (hk : k ≤ lenL lv t f + r.length) :
    readS ((hdrL lv t f S V ++ r).take k) = if k < lenL lv t f + V then errR 2 else (0, ⟨true, lv, t, f⟩, lenL lv t f, lenL lv t f + V) := by
  have hR := readL_long lv hlv t f r S V k ht hf hV hr hk
  have e : readP ((hdrL lv t f S V ++ r).take k) = if k < lenL lv t f + V then errR 2 else (0, ⟨true, lv, t, f⟩, lenL lv t f, lenL lv t f + V) := by
    cases k with
    | zero => rw [if_pos (by omega)]; rfl
    | succ k =>
      rw [← hR]
      have hb : (UInt8.ofNat (191 + 32 * lv + S)).toNat = 191 + 32 * lv + S := by rw [UInt8.toNat_ofNat']; omega
      generalize hX : (hdrL lv t f S V ++ r).take (k + 1) = X
      have hX2 : ∃ Y, X = UInt8.ofNat (191 + 32 * lv + S) :: Y := by rw [← hX]; exact ⟨_, rfl⟩
      obtain ⟨Y, rfl⟩ := hX2
      unfold readP
      dsimp only
      rw [hb, if_neg (by omega), if_neg (by omega)]
      obtain rfl | rfl : lv = 0 ∨ lv = 1 := by omega
      · rw [if_pos (by omega)]; rfl
      · rw [if_neg (by omega), if_pos (by omega)]; rfl
  unfold readS
  rw [e]
  by_cases h9 : k < lenL lv t f + V
  · simp only [if_pos h9]; rfl
  · simp only [if_neg h9]
    rw [if_neg (by simp), if_neg (by omega)]
end Go.Proofs.YtlncnjcbgfeaoaaDoor
