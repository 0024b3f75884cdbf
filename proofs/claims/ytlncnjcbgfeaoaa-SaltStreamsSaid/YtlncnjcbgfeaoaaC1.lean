/- ChaCha20's quarter: what it computes; the walk. -/
import Derived.Test.YtlncnjcbgfeaoaaA0
import Derived.Test.YtlncnjcbgfeaoaaP7
set_option maxRecDepth 100000
set_option linter.unusedVariables false
namespace Go.Proofs.Ytlncnjcbgfeaoaa
open Go.RowKit
theorem rl_16 (w : World) (x : Nat) (hx : x < 4294967296) : Calls Try.prog 46 #[.int .u32 (x : Int), .int .i64 16] w fun e w' => e = .returned (.int .u32 ((rotr x 16 : Nat) : Int)) ∧ w = w' := by
  have hb : bits .and .u64 16 31 = 16 := by decide
  have hv : bits .or .u32 ((x : Int) * 65536 % 4294967296) ((x : Int) / 65536) = ((rotr x 16 : Nat) : Int) := by
    have h := u32_or_nat (x * 65536 % 4294967296) (x / 65536) (by omega) (by omega)
    rw [show ((x * 65536 % 4294967296 : Nat) : Int) = (x : Int) * 65536 % 4294967296 by omega, show ((x / 65536 : Nat) : Int) = (x : Int) / 65536 by omega] at h
    rw [h]
    unfold rotr
    rw [Nat.or_comm, Nat.shiftRight_eq_div_pow, Nat.shiftLeft_eq]
  have HV := Lib.hid hv
  clear hv
  go_enter Try.func46, Try.ntmps46
  go_wp2
  go_ret
  exact ⟨ret_u32 HV.out, rfl⟩
theorem rl_12 (w : World) (x : Nat) (hx : x < 4294967296) : Calls Try.prog 46 #[.int .u32 (x : Int), .int .i64 12] w fun e w' => e = .returned (.int .u32 ((rotr x 20 : Nat) : Int)) ∧ w = w' := by
  have hb : bits .and .u64 12 31 = 12 := by decide
  have hv : bits .or .u32 ((x : Int) * 4096 % 4294967296) ((x : Int) / 1048576) = ((rotr x 20 : Nat) : Int) := by
    have h := u32_or_nat (x * 4096 % 4294967296) (x / 1048576) (by omega) (by omega)
    rw [show ((x * 4096 % 4294967296 : Nat) : Int) = (x : Int) * 4096 % 4294967296 by omega, show ((x / 1048576 : Nat) : Int) = (x : Int) / 1048576 by omega] at h
    rw [h]
    unfold rotr
    rw [Nat.or_comm, Nat.shiftRight_eq_div_pow, Nat.shiftLeft_eq]
  have HV := Lib.hid hv
  clear hv
  go_enter Try.func46, Try.ntmps46
  go_wp2
  go_ret
  exact ⟨ret_u32 HV.out, rfl⟩
theorem rl_8 (w : World) (x : Nat) (hx : x < 4294967296) : Calls Try.prog 46 #[.int .u32 (x : Int), .int .i64 8] w fun e w' => e = .returned (.int .u32 ((rotr x 24 : Nat) : Int)) ∧ w = w' := by
  have hb : bits .and .u64 8 31 = 8 := by decide
  have hv : bits .or .u32 ((x : Int) * 256 % 4294967296) ((x : Int) / 16777216) = ((rotr x 24 : Nat) : Int) := by
    have h := u32_or_nat (x * 256 % 4294967296) (x / 16777216) (by omega) (by omega)
    rw [show ((x * 256 % 4294967296 : Nat) : Int) = (x : Int) * 256 % 4294967296 by omega, show ((x / 16777216 : Nat) : Int) = (x : Int) / 16777216 by omega] at h
    rw [h]
    unfold rotr
    rw [Nat.or_comm, Nat.shiftRight_eq_div_pow, Nat.shiftLeft_eq]
  have HV := Lib.hid hv
  clear hv
  go_enter Try.func46, Try.ntmps46
  go_wp2
  go_ret
  exact ⟨ret_u32 HV.out, rfl⟩
theorem rl_7 (w : World) (x : Nat) (hx : x < 4294967296) : Calls Try.prog 46 #[.int .u32 (x : Int), .int .i64 7] w fun e w' => e = .returned (.int .u32 ((rotr x 25 : Nat) : Int)) ∧ w = w' := by
  have hb : bits .and .u64 7 31 = 7 := by decide
  have hv : bits .or .u32 ((x : Int) * 128 % 4294967296) ((x : Int) / 33554432) = ((rotr x 25 : Nat) : Int) := by
    have h := u32_or_nat (x * 128 % 4294967296) (x / 33554432) (by omega) (by omega)
    rw [show ((x * 128 % 4294967296 : Nat) : Int) = (x : Int) * 128 % 4294967296 by omega, show ((x / 33554432 : Nat) : Int) = (x : Int) / 33554432 by omega] at h
    rw [h]
    unfold rotr
    rw [Nat.or_comm, Nat.shiftRight_eq_div_pow, Nat.shiftLeft_eq]
  have HV := Lib.hid hv
  clear hv
  go_enter Try.func46, Try.ntmps46
  go_wp2
  go_ret
  exact ⟨ret_u32 HV.out, rfl⟩
/-- four words of the state -/
def S4 (s : List Nat) (i j k l a b c d : Nat) : List Nat := (((s.set i a).set j b).set k c).set l d
structure IX (s : List Nat) (i j k l : Nat) : Prop where
  len : s.length = 16
  hi : i < 16
  hj : j < 16
  hk : k < 16
  hl : l < 16
  ij : i ≠ j
  ik : i ≠ k
  il : i ≠ l
  jk : j ≠ k
  jl : j ≠ l
  kl : k ≠ l
section
variable {s : List Nat} {i j k l a b c d : Nat}
theorem S4_i (h : IX s i j k l) : (S4 s i j k l a b c d)[i]? = some a := by
  have := h.len; have := h.hi; unfold S4; simp [List.getElem?_set, h.ij.symm, h.ik.symm, h.il.symm]; omega
theorem S4_j (h : IX s i j k l) : (S4 s i j k l a b c d)[j]? = some b := by
  have := h.len; have := h.hj; unfold S4; simp [List.getElem?_set, h.jk.symm, h.jl.symm]; omega
theorem S4_k (h : IX s i j k l) : (S4 s i j k l a b c d)[k]? = some c := by
  have := h.len; have := h.hk; unfold S4; simp [List.getElem?_set, h.kl.symm]; omega
theorem S4_l (h : IX s i j k l) : (S4 s i j k l a b c d)[l]? = some d := by
  have := h.len; have := h.hl; unfold S4; simp [List.getElem?_set]; omega
theorem S4_seti (h : IX s i j k l) (x : Nat) : (S4 s i j k l a b c d).set i x = S4 s i j k l x b c d := by
  unfold S4
  rw [List.set_comm _ _ h.il.symm, List.set_comm _ _ h.ik.symm, List.set_comm _ _ h.ij.symm, List.set_set]
theorem S4_setj (h : IX s i j k l) (x : Nat) : (S4 s i j k l a b c d).set j x = S4 s i j k l a x c d := by
  unfold S4
  rw [List.set_comm _ _ h.jl.symm, List.set_comm _ _ h.jk.symm, List.set_set]
theorem S4_setk (h : IX s i j k l) (x : Nat) : (S4 s i j k l a b c d).set k x = S4 s i j k l a b x d := by
  unfold S4
  rw [List.set_comm _ _ h.kl.symm, List.set_set]
theorem S4_setl (x : Nat) : (S4 s i j k l a b c d).set l x = S4 s i j k l a b c x := by
  unfold S4
  rw [List.set_set]
theorem S4_self (ha : s[i]? = some a) (hb : s[j]? = some b) (hc : s[k]? = some c) (hd : s[l]? = some d) : S4 s i j k l a b c d = s := by
  have e : ∀ (n x : Nat), s[n]? = some x → s.set n x = s := fun n x h => by
    obtain ⟨h1, h2⟩ := List.getElem?_eq_some_iff.1 h
    rw [← h2, List.set_getElem_self]
  unfold S4
  rw [e i a ha, e j b hb, e k c hc, e l d hd]
end
/-- a quarter round -/
def qr (a b c d : Nat) : Nat × Nat × Nat × Nat :=
  let a1 := (a + b) % 4294967296
  let d1 := rotr (d ^^^ a1) 16
  let c1 := (c + d1) % 4294967296
  let b1 := rotr (b ^^^ c1) 20
  let a2 := (a1 + b1) % 4294967296
  let d2 := rotr (d1 ^^^ a2) 24
  let c2 := (c1 + d2) % 4294967296
  let b2 := rotr (b1 ^^^ c2) 25
  (a2, b2, c2, d2)
def quart (s : List Nat) (i j k l : Nat) : List Nat :=
  let r := qr (s.getD i 0) (s.getD j 0) (s.getD k 0) (s.getD l 0)
  S4 s i j k l r.1 r.2.1 r.2.2.1 r.2.2.2
theorem xor_lt32 (a b : Nat) (ha : a < 4294967296) (hb : b < 4294967296) : a ^^^ b < 4294967296 := Nat.xor_lt_two_pow (n := 32) ha hb
theorem qr_lt (a b c d : Nat) (ha : a < 4294967296) (hb : b < 4294967296) (hc : c < 4294967296) (hd : d < 4294967296) :
    (qr a b c d).1 < 4294967296 ∧ (qr a b c d).2.1 < 4294967296 ∧ (qr a b c d).2.2.1 < 4294967296 ∧ (qr a b c d).2.2.2 < 4294967296 := by
  unfold qr
  refine ⟨Nat.mod_lt _ (by decide), ?_, Nat.mod_lt _ (by decide), ?_⟩
  · exact rotr_lt _ _ (xor_lt32 _ _ (rotr_lt _ _ (xor_lt32 _ _ hb (Nat.mod_lt _ (by decide)))) (Nat.mod_lt _ (by decide)))
  · exact rotr_lt _ _ (xor_lt32 _ _ (rotr_lt _ _ (xor_lt32 _ _ hd (Nat.mod_lt _ (by decide)))) (Nat.mod_lt _ (by decide)))
/-- the state while the quarter runs -/
structure QA (w0 w : World) (g : Nat) (t : TypeId) (s : List Nat) (i j k l a b c d : Nat) : Prop where
  ar : AR w g t (S4 s i j k l a b c d)
  gr : w0.grownBy w (some g)
end Go.Proofs.Ytlncnjcbgfeaoaa
