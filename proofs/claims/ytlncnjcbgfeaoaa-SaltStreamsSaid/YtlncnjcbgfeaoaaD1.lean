/- The tag by its value: plain laws. -/
import Derived.Test.YtlncnjcbgfeaoaaCC
set_option maxRecDepth 100000
set_option linter.unusedVariables false
namespace Go.Proofs.Ytlncnjcbgfeaoaa
/-- the polynomial's value behind so many parts -/
def polyN (r : Nat) (p : List UInt8) : Nat → Nat
  | 0 => 0
  | n + 1 => ((polyN r p n + numL (blk17 (p.drop (16 * n)))) * r) % pP
theorem numL_append (xs ys : List UInt8) : numL (xs ++ ys) = numL xs + 256 ^ xs.length * numL ys := by
  induction xs with
  | nil => simp [numL]
  | cons x xs ih =>
    rw [List.cons_append, numL, numL, ih, List.length_cons, Nat.pow_succ, Nat.mul_add, ← Nat.add_assoc, Nat.mul_comm (256 ^ xs.length) 256, Nat.mul_assoc]
theorem numL_zeros (n : Nat) : numL (List.replicate n 0) = 0 := by
  induction n with
  | zero => rfl
  | succ n ih => rw [List.replicate_succ, numL, ih]; rfl
theorem numL_lt (xs : List UInt8) : numL xs < 256 ^ xs.length := by
  induction xs with
  | nil => exact Nat.one_pos
  | cons x xs ih =>
    have := x.toNat_lt
    rw [numL, List.length_cons, Nat.pow_succ]; omega
theorem blk17_num (p : List UInt8) : numL (blk17 p) = numL (p.take 16) + 256 ^ (p.take 16).length := by
  unfold blk17
  rw [numL_append, numL_append, numL_zeros]; simp [numL]
theorem blk17_lt (p : List UInt8) : numL (blk17 p) < 680564733841876926926749214863536422912 := by
  rw [blk17_num]
  have h1 := numL_lt (p.take 16)
  have h2 : 256 ^ (p.take 16).length ≤ 256 ^ 16 := Nat.pow_le_pow_right (by decide) (by rw [List.length_take]; omega)
  have h3 : (256 : Nat) ^ 16 = 340282366920938463463374607431768211456 := by decide
  omega
theorem mod_of_add {a b q : Nat} (h : a = b + q * pP) : a % pP = b % pP := by
  rw [h, Nat.add_mul_mod_self_right]
theorem hrun_val {k : List Nat} (Hk : LF k) (p : List UInt8) (n : Nat) : valL (hrun k p n) % pP = polyN (valL k) p n := by
  induction n with
  | zero => rfl
  | succ n ih =>
    have hl := (hrun_nf Hk p n).lf
    rw [hrun, polyN]
    unfold hstep
    have hx := ldL_lf (numL (blk17 (p.drop (16 * n))))
    have hm := addL_lm hl hx
    have hc := (cars_nf hm).lf
    obtain ⟨q1, h1⟩ := cars_val (h := addL (hrun k p n) (ldL (numL (blk17 (p.drop (16 * n)))) 5 0) 5) (addL_len _ _ _)
    obtain ⟨q2, h2⟩ := tmul_val hc.len Hk.len
    obtain ⟨q3, h3⟩ := cars_val (LT.mul hc Hk 5 (Nat.le_refl _)).len
    rw [addL_val hl.len hx.len, ldL_val _ (by have := blk17_lt (p.drop (16 * n)); omega)] at h1
    have e1 := mod_of_add h1
    have e2 := mod_of_add h2
    have e3 := mod_of_add h3
    rw [← e3, ← e2, Nat.mul_mod, ← e1, ← ih, ← Nat.mul_mod]
    rw [Nat.mul_mod (valL (hrun k p n) + _), Nat.mul_mod (valL (hrun k p n) % pP + _), Nat.mod_add_mod]
theorem polyN_lt (r : Nat) (p : List UInt8) (n : Nat) : polyN r p n < pP := by
  cases n with
  | zero => exact (by decide : 0 < pP)
  | succ n => exact Nat.mod_lt _ (by decide)
theorem tag_num (key p : List UInt8) (hk : LF (tagK key)) : tagS key p = tout (polyN (valL (tagK key)) p ((p.length + 15) / 16)) (key.drop 16) 16 := by
  unfold tagS
  have hn := hrun_nf hk p ((p.length + 15) / 16)
  have hc := cars_nn hn
  rw [(leastS_val hc).2]
  obtain ⟨q, h⟩ := cars_val hn.lf.len
  rw [← mod_of_add h, hrun_val hk]
end Go.Proofs.Ytlncnjcbgfeaoaa
