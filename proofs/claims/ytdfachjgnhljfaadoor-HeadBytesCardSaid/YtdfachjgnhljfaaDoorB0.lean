/- Plain functions: a head's bytes. -/
import Derived.Test.YtdfachjgnhljfaaDoorPure
namespace Go.Proofs.YtdfachjgnhljfaaDoor
theorem beB_cons (k : Nat) : ∀ n, beB (k + 1) n = UInt8.ofNat (n / 256 ^ k) :: beB k n := by
  induction k with
  | zero => intro n; simp [beB]
  | succ k ih =>
    intro n
    have h := ih (n / 256)
    rw [Nat.div_div_eq_div_mul] at h
    have e : beB (k + 1 + 1) n = beB (k + 1) (n / 256) ++ [UInt8.ofNat n] := rfl
    rw [e, h, Nat.pow_succ, Nat.mul_comm (256 ^ k) 256]
    rfl
/-- may a head be so? -/
def rightS (l : Bool) (lv : Int) (ph : Bool) (nt nf : Nat) : Bool :=
  if l then decide (0 ≤ lv ∧ lv ≤ 1 ∧ nt < 21 ∧ nf < 21 ∧ ph = false) else decide (lv = 2 ∧ nt = 8 ∧ nf = 0)
/-- a form of two bytes -/
def wide2 (n : Nat) : List UInt8 := [UInt8.ofNat (n / 256 + 64), UInt8.ofNat n]
def bytesShort (ph : Bool) (t : List UInt8) (size pn : Nat) : List UInt8 := UInt8.ofNat (63 + size + if ph then 4 else 0) :: (t ++ beB size pn)
def bytesLong (lv : Nat) (t f : List UInt8) (size left pn : Nat) : List UInt8 :=
  [UInt8.ofNat (191 + 32 * lv + size), 0, 0, 0, 1, UInt8.ofNat t.length] ++ t ++ [UInt8.ofNat f.length] ++ f ++ (if lv = 0 then [0] else []) ++ wide2 (size + left) ++ beB size pn
end Go.Proofs.YtdfachjgnhljfaaDoor
