/- texts EI EK in one. -/
import Derived.Test.YtlncnjcbgfeaoaaDoorYca
import Derived.Test.YtlncnjcbgfeaoaaDoorYbw

/- a long packet that was closed is read again. -/
set_option maxRecDepth 100000
set_option linter.unusedVariables false
namespace Go.Proofs.YtlncnjcbgfeaoaaDoor
theorem long_read {ka kb kc plain nn cl m R t f behind : List UInt8} {S pn lv : Nat} (h : CPR ka kb kc (bytesLong lv t f S (plain.length + 16) pn) plain S pn nn cl m R) (hlv : lv ≤ 1) (h1 : 1 ≤ S) (h4 : S ≤ 4) (ht : t.length ≤ 20) (hf : f.length ≤ 20) (hs4 : 4 ≤ plain.length + S) (hL : plain.length ≤ 10000) :
    readS (R ++ behind) = (0, ⟨true, lv, t, f⟩, (bytesLong lv t f S (plain.length + 16) pn).length - S, R.length) := by
  have hl := bytesLong_len lv t f S (plain.length + 16) pn
  obtain ⟨V, hV⟩ : ∃ V, S + (plain.length + 16) = V := ⟨_, rfl⟩
  have hh := hdrL_len lv t f S V
  have hLL : 9 ≤ lenL lv t f := by unfold lenL; omega
  obtain ⟨b0, hb0⟩ : ∃ b0, UInt8.ofNat (191 + 32 * lv + S) = b0 := ⟨_, rfl⟩
  have hbn : b0.toNat = 191 + 32 * lv + S := by rw [← hb0, UInt8.toNat_ofNat']; omega
  obtain ⟨M, hM⟩ : ∃ M, hdrL lv t f S V = b0 :: M := ⟨_, by unfold hdrL; rw [hb0]⟩
  have hH : (bytesLong lv t f S (plain.length + 16) pn).take ((bytesLong lv t f S (plain.length + 16) pn).length - S) = b0 :: M := by
    rw [hl, Nat.add_sub_cancel, bytesLong_eq, hV, ← hh, List.take_left' rfl, hM]
  obtain ⟨X, hX, hXl⟩ := h.shape b0 M h1 hH (by omega)
  have hRl := h.len
  have e : R ++ behind = fstS b0 (m.getD 0 0) :: (M ++ (X ++ behind)) := by rw [hX, List.cons_append, List.append_assoc]
  have e2 : b0 :: (M ++ (X ++ behind)) = (hdrL lv t f S V ++ (X ++ behind)).take (lenL lv t f + (X ++ behind).length) := by
    rw [List.take_of_length_le (by rw [List.length_append, hh]; omega), hM]; rfl
  rw [e, readS_first b0 _ _ (by omega) (fst_16 b0 (m.getD 0 0) (by omega)), e2, readS_long lv hlv t f (X ++ behind) S V _ h1 h4 ht hf (by omega) (by omega) (by rw [List.length_append]; omega) (Nat.le_refl _)]
  rw [if_neg (by rw [List.length_append]; omega), hl]
  congr 3 <;> omega
theorem long_bits (lv : Nat) (t f : List UInt8) (S L pn : Nat) (hlv : lv ≤ 1) (h1 : 1 ≤ S) (h4 : S ≤ 4) : ((bytesLong lv t f S L pn).getD 0 0).toNat % 4 + 1 = S ∧ restN ((bytesLong lv t f S L pn).getD 0 0).toNat = 0 := by
  have e : (bytesLong lv t f S L pn).getD 0 0 = UInt8.ofNat (191 + 32 * lv + S) := rfl
  have hbn : (UInt8.ofNat (191 + 32 * lv + S)).toNat = 191 + 32 * lv + S := by rw [UInt8.toNat_ofNat']; omega
  rw [e, hbn]
  unfold restN
  rw [if_neg (by omega)]
  omega
theorem long_cut (lv : Nat) (t f : List UInt8) (S L pn : Nat) : cutS (bytesLong lv t f S L pn) ((bytesLong lv t f S L pn).length - S) S = cutS (beB S pn) 0 S := by
  have hl := bytesLong_len lv t f S L pn
  rw [hl, Nat.add_sub_cancel, bytesLong_eq]
  unfold cutS
  rw [List.drop_left' (hdrL_len ..), List.drop_zero]
/-- a long head's bytes, as Close wants them -/
theorem hby_long (w : World) {a b : Option Addr} {n c n2 c2 : Nat} {t f : List UInt8} (lv : Nat) (hlv : lv ≤ 1) (pn S L : Nat) (hp : pn < 18446744073709551616) (h1 : 1 ≤ S) (h4 : S ≤ 4) (hL : S + L ≤ 16383) (hn : n < 21) (hm : n2 < 21) (ht : BS w a n c t) (hf : BS w b n2 c2 f) (hk : KG w) :
    HBy w (.agg #[.bool true, .int .i64 (lv : Int), .bool false, .slice a n c, .slice b n2 c2]) pn S L (bytesLong lv t f S L pn) := by
  unfold HBy
  rw [bytesLong_len]
  obtain rfl | rfl : lv = 0 ∨ lv = 1 := by omega
  · refine (pb_long0 hp S L h1 h4 hL hn hm ht hf hk).mono ?_
    rintro e w' ⟨a', c', h, ho, hb⟩
    exact ⟨a', c', h, .inl ho, hb⟩
  · refine (pb_long1 hp S L h1 h4 hL hn hm ht hf hk).mono ?_
    rintro e w' ⟨a', c', h, ho, hb⟩
    exact ⟨a', c', h, .inl ho, hb⟩
end Go.Proofs.YtlncnjcbgfeaoaaDoor

/- a number cut to its lowest bytes is the number again, if it isn't too far from what was acknowledged. -/
set_option maxRecDepth 100000
set_option linter.unusedVariables false
namespace Go.Proofs.YtlncnjcbgfeaoaaDoor
open Go.RowKit
theorem beNat_beB (S : Nat) : ∀ pn, beNat (beB S pn) 0 = pn % 256 ^ S := by
  induction S with
  | zero => intro pn; simp [beB, beNat, Nat.mod_one]
  | succ S ih =>
    intro pn
    rw [beB, beNat_snoc, ih, UInt8.toNat_ofNat']
    have h1 : pn % (256 ^ S * 256) % 256 = pn % 256 := Nat.mod_mod_of_dvd pn ⟨256 ^ S, Nat.mul_comm _ _⟩
    have h2 : pn % (256 ^ S * 256) / 256 = pn / 256 % 256 ^ S := by rw [Nat.mul_comm, Nat.mod_mul_right_div_self]
    have h3 : 256 ^ (S + 1) = 256 ^ S * 256 := rfl
    have h4 : pn % 2 ^ 8 = pn % 256 := rfl
    rw [h3, h4]
    omega
theorem cut_beB (S pn : Nat) : cutS (beB S pn) 0 S = pn % 256 ^ S := by
  unfold cutS
  rw [List.drop_zero, List.take_of_length_le (by rw [beB_len]; omega), beNat_beB]
theorem grow_cut {acked pn S : Nat} (h1 : 1 ≤ S) (h4 : S ≤ 4) (ha : acked ≤ pn) (hd : pn - acked ≤ 256 ^ S / 2) (hp : pn < 2305843009213693952) : GR acked true (cutS (beB S pn) 0 S) S pn := by
  refine ⟨?_, by omega⟩
  rw [cut_beB]
  unfold growF nextN growN
  rw [if_pos rfl, Nat.min_eq_left (by omega)]
  rw [Nat.mod_mod]
  obtain rfl | rfl | rfl | rfl : S = 1 ∨ S = 2 ∨ S = 3 ∨ S = 4 := by omega
  all_goals
    simp only [Nat.reducePow, Nat.reduceDiv] at hd ⊢
    repeat' split
    all_goals omega
/-- what was closed is opened, whatever stands behind it -/
theorem popen_back (v : World) {a : Option Addr} {n c t k pn largest : Nat} {ka kb kc plain behind m q nn R : List UInt8} {hd : Hd} (hla : largest < 18446744073709551616) (hal : ka.length = 32) (hbl : kb.length = 12) (hcl : kc.length = 32)
    (hp : BS v a n c (R ++ behind)) (hK : KG v) (hn : n ≤ 1073741824) (hD : OPR ka kb kc (R ++ behind) largest true hd t R.length m q k pn nn plain 0) (hr : restN (q.getD 0 0).toNat = 0) :
    Calls Tryd.prog 19 #[.agg ((ka ++ kb ++ kc).map B).toArray, .slice a n c, .int .u64 (largest : Int), .bool true] v fun x w' => ∃ ta tn tc fa fn fc a1 c1 a2 c2, x = .returned (.tuple #[.agg #[.bool hd.long, .int .i64 hd.level, .bool (phS hd.long q), .slice ta tn tc, .slice fa fn fc], .int .u64 (pn : Int), .slice a1 plain.length c1, .slice a2 behind.length c2, .int .i64 0]) ∧
      BS w' ta tn tc hd.to ∧ BS w' fa fn fc hd.frm ∧ BS w' a1 plain.length c1 plain ∧ BS w' a2 behind.length c2 behind ∧ Below v.heap.size v w' := by
  refine (popen_ok v hla hal hbl hcl hp hK hn hD).mono ?_
  rintro x w' ⟨h, hb⟩
  rcases h with ⟨h, _⟩ | ⟨_, h, _⟩ | ⟨_, _, ta, tn, tc, fa, fn, fc, a1, c1, a2, c2, rfl, h1, h2, h3, h4⟩
  · exact absurd rfl h
  · exact absurd hr h
  · rw [List.drop_left] at h4
    rw [show (R ++ behind).length - R.length = behind.length by rw [List.length_append]; omega] at h4 ⊢
    exact ⟨ta, tn, tc, fa, fn, fc, a1, c1, a2, c2, rfl, h1, h2, h3, h4, hb⟩
end Go.Proofs.YtlncnjcbgfeaoaaDoor
