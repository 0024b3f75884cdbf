/- Plain bounds on what readP says. -/
import Derived.Test.YtdfachjgnhljfaaDoorPure
namespace Go.Proofs.YtdfachjgnhljfaaDoor
def Bd (p : List UInt8) (R : Int × Hd × Nat × Nat) : Prop := R.1 = 0 → R.2.2.1 ≤ R.2.2.2 ∧ R.2.2.2 ≤ p.length
theorem Bd_err (p : List UInt8) (e : Int) (h : e ≠ 0) : Bd p (errR e) := fun h0 => absurd h0 h
theorem takeS_le {p : List UInt8} {v : Nat} {ys : List UInt8} (h : takeS p = some (v, ys)) : ys.length ≤ p.length := by
  cases p with
  | nil => cases h
  | cons b bs =>
    rw [takeS_cons] at h
    split at h
    · cases h
    · simp only [Option.some.injEq, Prod.mk.injEq] at h
      rw [← h.2, List.length_drop]; exact Nat.sub_le _ _
theorem takeS_num_lt2 {p : List UInt8} {v : Nat} {ys : List UInt8} (h : takeS p = some (v, ys)) : v < 4611686018427387904 := by
  cases p with
  | nil => cases h
  | cons b bs =>
    rw [takeS_cons] at h
    split at h
    · cases h
    · simp only [Option.some.injEq, Prod.mk.injEq] at h
      have hb : b.toNat < 256 := b.toNat_lt
      rw [← h.1]
      refine beNat_lt' _ _ (by omega) ?_
      rw [List.length_take]
      have : 2 ^ (b.toNat / 64) ≤ 2 ^ 3 := Nat.pow_le_pow_right (by omega) (by omega)
      omega
theorem readN_bd (p : List UInt8) (lv : Int) (i1 i2 r4 : List UInt8) (h : r4.length ≤ p.length) : Bd p (readN p lv i1 i2 r4) := by
  unfold readN
  split
  · exact Bd_err _ _ (by decide)
  · next v r5 ht =>
    have := takeS_le ht
    split
    · exact Bd_err _ _ (by decide)
    · intro _; dsimp only; omega
theorem readT_bd (p : List UInt8) (lv : Int) (i1 i2 r3 : List UInt8) (h : r3.length ≤ p.length) : Bd p (readT p lv i1 i2 r3) := by
  unfold readT
  split
  · split
    · exact Bd_err _ _ (by decide)
    · next v r4 ht =>
      have := takeS_le ht
      split
      · exact Bd_err _ _ (by decide)
      · exact readN_bd _ _ _ _ _ (by omega)
  · exact readN_bd _ _ _ _ _ h
theorem readL_bd (p : List UInt8) (lv : Int) : Bd p (readL p lv) := by
  unfold readL
  split
  · exact Bd_err _ _ (by decide)
  · split
    · exact Bd_err _ _ (by decide)
    · split
      · next h => exact Bd_err _ _ h
      · split
        · next h => exact Bd_err _ _ h
        · exact readT_bd _ _ _ _ _ (by rw [List.length_drop]; omega)
theorem readP_bd (p : List UInt8) : Bd p (readP p) := by
  unfold readP
  split
  · exact Bd_err _ _ (by decide)
  · split
    · exact Bd_err _ _ (by decide)
    · split
      · split
        · exact Bd_err _ _ (by decide)
        · intro _; dsimp only; omega
      · split
        · exact readL_bd _ _
        · split
          · exact readL_bd _ _
          · exact Bd_err _ _ (by decide)
end Go.Proofs.YtdfachjgnhljfaaDoor
