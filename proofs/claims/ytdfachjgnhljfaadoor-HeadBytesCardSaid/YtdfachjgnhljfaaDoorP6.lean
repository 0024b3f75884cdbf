/- Plain: a head's bytes are read again. -/
import Derived.Test.YtdfachjgnhljfaaDoorP3
namespace Go.Proofs.YtdfachjgnhljfaaDoor
theorem readS_again_short (ph : Bool) (t : List UInt8) (S pn L : Nat) (ht : t.length = 8) (h1 : 1 ≤ S) (h4 : S ≤ 4) (h20 : 20 ≤ S + L) :
    readS (bytesShort ph t S pn ++ List.replicate L 0) = (0, ⟨false, 2, t, []⟩, 9, 9 + S + L) := by
  have e : bytesShort ph t S pn ++ List.replicate L 0 = UInt8.ofNat (63 + S + if ph then 4 else 0) :: ((t ++ beB S pn) ++ List.replicate L 0) := rfl
  have hb : (UInt8.ofNat (63 + S + if ph then 4 else 0)).toNat = 63 + S + if ph then 4 else 0 := by
    rw [UInt8.toNat_ofNat']; split <;> omega
  have hl : (UInt8.ofNat (63 + S + if ph then 4 else 0) :: ((t ++ beB S pn) ++ List.replicate L 0)).length = 9 + S + L := by
    simp only [List.length_cons, List.length_append, beB_len, List.length_replicate, ht]; omega
  rw [e, readS_app _ _ (by rw [hb]; split <;> omega) (by rw [hb]; split <;> omega), hl, if_neg (by omega), if_neg (by omega)]
  congr 3
  rw [List.append_assoc, List.take_append_of_le_length (by omega), List.take_of_length_le (by omega)]
theorem readS_again_long (lv : Nat) (hlv : lv ≤ 1) (t f : List UInt8) (S pn L : Nat) (ht : t.length ≤ 20) (hf : f.length ≤ 20) (h1 : 1 ≤ S) (h4 : S ≤ 4) (h20 : 20 ≤ S + L) (hL : S + L < 16384) :
    readS (bytesLong lv t f S L pn ++ List.replicate L 0) = (0, ⟨true, lv, t, f⟩, lenL lv t f, lenL lv t f + S + L) := by
  have hr := readS_long lv hlv t f (beB S pn ++ List.replicate L 0) S (S + L) (lenL lv t f + (beB S pn ++ List.replicate L 0).length) h1 h4 ht hf hL h20 (by rw [List.length_append, beB_len, List.length_replicate]; omega) (Nat.le_refl _)
  rw [List.take_of_length_le (by rw [List.length_append, hdrL_len]; exact Nat.le_refl _), if_neg (by rw [List.length_append, beB_len, List.length_replicate]; omega)] at hr
  rw [bytesLong_eq, List.append_assoc, hr, Nat.add_assoc]
end Go.Proofs.YtdfachjgnhljfaaDoor
