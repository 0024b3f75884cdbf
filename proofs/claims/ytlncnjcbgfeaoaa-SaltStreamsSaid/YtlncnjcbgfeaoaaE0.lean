/- Packets, in plain Lean: what the mask, the nonce, the unmasked packet are. -/
import Derived.Test.YtlncnjcbgfeaoaaC5
namespace Go.Proofs.Ytlncnjcbgfeaoaa
/-- the five bytes that a sample draws -/
def maskS (key s : List UInt8) : List UInt8 := (blkS key (s.drop 4) (le4 s)).take 5
structure MSK (key s m : List UInt8) : Prop where
  h : maskS key s = m
  len : m.length = 5
theorem maskS_len (key s : List UInt8) : (maskS key s).length = 5 := by
  unfold maskS; rw [List.length_take, show (blkS key (s.drop 4) (le4 s)).length = 64 from outC_len _ _ _]; rfl
theorem MSK_ex (key s : List UInt8) : ∃ m, MSK key s m := ⟨_, rfl, maskS_len _ _⟩
theorem MSK.of {key s d : List UInt8} (h : ST key (s.drop 4) (le4 s) d) : MSK key s (d.take 5) := ⟨by rw [← h.h]; rfl, by rw [List.length_take, h.len]; rfl⟩
/-- a nonce of a number: the last i bytes done -/
def nonJ (n : List UInt8) (pn : Nat) : Nat → List UInt8
  | 0 => n
  | i + 1 => (nonJ n pn i).set (11 - i) ((nonJ n pn i).getD (11 - i) 0 ^^^ UInt8.ofNat (pn / 256 ^ i))
structure NON (n : List UInt8) (pn : Nat) (d : List UInt8) : Prop where
  h : nonJ n pn 8 = d
  len : d.length = n.length
theorem nonJ_len (n : List UInt8) (pn i : Nat) : (nonJ n pn i).length = n.length := by
  induction i with
  | zero => rfl
  | succ i ih => rw [nonJ, List.length_set, ih]
theorem NON_ex (n : List UInt8) (pn : Nat) : ∃ d, NON n pn d := ⟨_, rfl, nonJ_len _ _ _⟩
/-- the number's bytes unmasked, i of them -/
def unJ (q m : List UInt8) (a : Nat) : Nat → List UInt8
  | 0 => q
  | i + 1 => (unJ q m a i).set (a + i) ((unJ q m a i).getD (a + i) 0 ^^^ m.getD (1 + i) 0)
theorem unJ_len (q m : List UInt8) (a i : Nat) : (unJ q m a i).length = q.length := by
  induction i with
  | zero => rfl
  | succ i ih => rw [unJ, List.length_set, ih]
theorem unJ_out (q m : List UInt8) (a i j : Nat) (h : j < a ∨ a + i ≤ j) : (unJ q m a i)[j]? = q[j]? := by
  induction i with
  | zero => rfl
  | succ i ih => rw [unJ, List.getElem?_set_ne (by omega), ih (by omega)]
theorem unJ_in (q m : List UInt8) (a i j : Nat) (hj : j < i) (hq : a + j < q.length) : (unJ q m a i)[a + j]? = some (q.getD (a + j) 0 ^^^ m.getD (1 + j) 0) := by
  induction i with
  | zero => omega
  | succ i ih =>
    rw [unJ]
    by_cases h : j = i
    · subst h
      rw [List.getElem?_set_self (by rw [unJ_len]; exact hq), List.getD_eq_getElem?_getD, unJ_out _ _ _ _ _ (by omega), ← List.getD_eq_getElem?_getD]
    · rw [List.getElem?_set_ne (by omega), ih (by omega)]
theorem unJ_twice (q m : List UInt8) (a i : Nat) (hq : a + i ≤ q.length) : unJ (unJ q m a i) m a i = q := by
  apply List.ext_getElem?
  intro j
  by_cases h : a ≤ j ∧ j < a + i
  · obtain ⟨k, rfl⟩ : ∃ k, j = a + k := ⟨j - a, by omega⟩
    rw [unJ_in _ _ _ _ _ (by omega) (by rw [unJ_len]; omega), List.getD_eq_getElem?_getD, unJ_in _ _ _ _ _ (by omega) (by omega), Option.getD_some, UInt8.xor_assoc, UInt8.xor_self, UInt8.xor_zero, List.getD_eq_getElem?_getD, List.getElem?_eq_getElem (by omega)]
    rfl
  · rw [unJ_out _ _ _ _ _ (by omega), unJ_out _ _ _ _ _ (by omega)]
/-- the first byte, masked or unmasked -/
def fstS (b m : UInt8) : UInt8 := b ^^^ UInt8.ofNat (m.toNat % if b.toNat < 128 then 32 else 16)
def unS (q m : List UInt8) (a : Nat) (k : Nat) : List UInt8 := unJ (q.set 0 (fstS (q.getD 0 0) (m.getD 0 0))) m a k
theorem and_15 (m : Nat) : m &&& 15 = m % 16 := Nat.and_two_pow_sub_one_eq_mod m 4
theorem and_31 (m : Nat) : m &&& 31 = m % 32 := Nat.and_two_pow_sub_one_eq_mod m 5
theorem fst_nat (b m : UInt8) : (fstS b m).toNat = b.toNat ^^^ (m.toNat % if b.toNat < 128 then 32 else 16) := by
  unfold fstS
  rw [UInt8.toNat_xor, UInt8.toNat_ofNat']
  congr 1
  have := m.toNat_lt
  split <;> omega
theorem nat_xor_lo : ∀ b, b < 128 → ∀ r, r < 32 → (b ^^^ r) < 128 ∧ (b ^^^ r) / 32 = b / 32 := by decide +kernel
theorem nat_xor_hi : ∀ b, b < 128 → ∀ r, r < 16 → 128 ≤ (128 + b ^^^ r) ∧ (128 + b ^^^ r) / 16 = (128 + b) / 16 := by decide +kernel
theorem nat_xor_lt (b : Nat) (hb : b < 256) (m : Nat) : ((b ^^^ (m % if b < 128 then 32 else 16)) < 128 ↔ b < 128) ∧
    (b ^^^ (m % if b < 128 then 32 else 16)) / 32 = b / 32 ∧ (128 ≤ b → (b ^^^ (m % if b < 128 then 32 else 16)) / 16 = b / 16) := by
  by_cases h : b < 128
  · rw [if_pos h]
    have h1 := nat_xor_lo b h (m % 32) (Nat.mod_lt _ (by decide))
    exact ⟨⟨fun _ => h, fun _ => h1.1⟩, h1.2, fun h2 => by omega⟩
  · rw [if_neg h]
    have h1 := nat_xor_hi (b - 128) (by omega) (m % 16) (Nat.mod_lt _ (by decide))
    rw [show 128 + (b - 128) = b by omega] at h1
    exact ⟨⟨fun h2 => by omega, fun h2 => by omega⟩, by omega, fun _ => h1.2⟩
theorem fst_lo (b m : UInt8) : (fstS b m).toNat < 128 ↔ b.toNat < 128 := by
  rw [fst_nat]; exact (nat_xor_lt b.toNat b.toNat_lt m.toNat).1
theorem fst_32 (b m : UInt8) : (fstS b m).toNat / 32 = b.toNat / 32 := by
  rw [fst_nat]; exact (nat_xor_lt b.toNat b.toNat_lt m.toNat).2.1
theorem fst_16 (b m : UInt8) (h : 128 ≤ b.toNat) : (fstS b m).toNat / 16 = b.toNat / 16 := by
  rw [fst_nat]; exact (nat_xor_lt b.toNat b.toNat_lt m.toNat).2.2 h
theorem fst_twice (b m : UInt8) : fstS (fstS b m) m = b := by
  have h := fst_lo b m
  unfold fstS at h ⊢
  by_cases hb : b.toNat < 128
  · simp only [hb, iff_true, if_true] at h ⊢
    rw [if_pos h, UInt8.xor_assoc, UInt8.xor_self, UInt8.xor_zero]
  · simp only [hb, iff_false, if_false] at h ⊢
    rw [if_neg h, UInt8.xor_assoc, UInt8.xor_self, UInt8.xor_zero]
end Go.Proofs.Ytlncnjcbgfeaoaa
