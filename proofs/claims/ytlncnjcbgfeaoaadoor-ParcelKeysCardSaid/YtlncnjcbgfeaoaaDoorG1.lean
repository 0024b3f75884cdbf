/- Words: turns, four bytes as a word, the digest of nothing. -/
import Derived.Test.YtlncnjcbgfeaoaaDoorR2
import Derived.Test.YtlncnjcbgfeaoaaDoorP7
set_option maxRecDepth 100000
set_option linter.unusedVariables false
namespace Go.Proofs.YtlncnjcbgfeaoaaDoor
open Go.RowKit
theorem ret_u32 {a b : Int} (h : a = b) : Ending.returned (.int .u32 a) = .returned (.int .u32 b) := by rw [h]
theorem rot_7 (w : World) (x : Nat) (hx : x < 4294967296) : Calls Tryd.prog 100 #[.int .u32 (x : Int), .int .i64 (-7)] w fun e w' => e = .returned (.int .u32 ((rotr x 7 : Nat) : Int)) ∧ w = w' := by
  have hb : bits .and .u64 (IntKind.u64.wrap (-7)) 31 = 25 := by decide
  have hv : bits .or .u32 ((x : Int) * 33554432 % 4294967296) ((x : Int) / 128) = ((rotr x 7 : Nat) : Int) := by
    have h := u32_or_nat (x * 33554432 % 4294967296) (x / 128) (by omega) (by omega)
    rw [show ((x * 33554432 % 4294967296 : Nat) : Int) = (x : Int) * 33554432 % 4294967296 by omega, show ((x / 128 : Nat) : Int) = (x : Int) / 128 by omega] at h
    rw [h]
    unfold rotr
    rw [Nat.or_comm, Nat.shiftRight_eq_div_pow, Nat.shiftLeft_eq]
  have HV := Lib.hid hv
  clear hv
  go_enter Tryd.func100, Tryd.ntmps100
  go_wp2
  go_ret
  exact ⟨ret_u32 HV.out, rfl⟩
theorem rot_18 (w : World) (x : Nat) (hx : x < 4294967296) : Calls Tryd.prog 100 #[.int .u32 (x : Int), .int .i64 (-18)] w fun e w' => e = .returned (.int .u32 ((rotr x 18 : Nat) : Int)) ∧ w = w' := by
  have hb : bits .and .u64 (IntKind.u64.wrap (-18)) 31 = 14 := by decide
  have hv : bits .or .u32 ((x : Int) * 16384 % 4294967296) ((x : Int) / 262144) = ((rotr x 18 : Nat) : Int) := by
    have h := u32_or_nat (x * 16384 % 4294967296) (x / 262144) (by omega) (by omega)
    rw [show ((x * 16384 % 4294967296 : Nat) : Int) = (x : Int) * 16384 % 4294967296 by omega, show ((x / 262144 : Nat) : Int) = (x : Int) / 262144 by omega] at h
    rw [h]
    unfold rotr
    rw [Nat.or_comm, Nat.shiftRight_eq_div_pow, Nat.shiftLeft_eq]
  have HV := Lib.hid hv
  clear hv
  go_enter Tryd.func100, Tryd.ntmps100
  go_wp2
  go_ret
  exact ⟨ret_u32 HV.out, rfl⟩
theorem rot_17 (w : World) (x : Nat) (hx : x < 4294967296) : Calls Tryd.prog 100 #[.int .u32 (x : Int), .int .i64 (-17)] w fun e w' => e = .returned (.int .u32 ((rotr x 17 : Nat) : Int)) ∧ w = w' := by
  have hb : bits .and .u64 (IntKind.u64.wrap (-17)) 31 = 15 := by decide
  have hv : bits .or .u32 ((x : Int) * 32768 % 4294967296) ((x : Int) / 131072) = ((rotr x 17 : Nat) : Int) := by
    have h := u32_or_nat (x * 32768 % 4294967296) (x / 131072) (by omega) (by omega)
    rw [show ((x * 32768 % 4294967296 : Nat) : Int) = (x : Int) * 32768 % 4294967296 by omega, show ((x / 131072 : Nat) : Int) = (x : Int) / 131072 by omega] at h
    rw [h]
    unfold rotr
    rw [Nat.or_comm, Nat.shiftRight_eq_div_pow, Nat.shiftLeft_eq]
  have HV := Lib.hid hv
  clear hv
  go_enter Tryd.func100, Tryd.ntmps100
  go_wp2
  go_ret
  exact ⟨ret_u32 HV.out, rfl⟩
theorem rot_19 (w : World) (x : Nat) (hx : x < 4294967296) : Calls Tryd.prog 100 #[.int .u32 (x : Int), .int .i64 (-19)] w fun e w' => e = .returned (.int .u32 ((rotr x 19 : Nat) : Int)) ∧ w = w' := by
  have hb : bits .and .u64 (IntKind.u64.wrap (-19)) 31 = 13 := by decide
  have hv : bits .or .u32 ((x : Int) * 8192 % 4294967296) ((x : Int) / 524288) = ((rotr x 19 : Nat) : Int) := by
    have h := u32_or_nat (x * 8192 % 4294967296) (x / 524288) (by omega) (by omega)
    rw [show ((x * 8192 % 4294967296 : Nat) : Int) = (x : Int) * 8192 % 4294967296 by omega, show ((x / 524288 : Nat) : Int) = (x : Int) / 524288 by omega] at h
    rw [h]
    unfold rotr
    rw [Nat.or_comm, Nat.shiftRight_eq_div_pow, Nat.shiftLeft_eq]
  have HV := Lib.hid hv
  clear hv
  go_enter Tryd.func100, Tryd.ntmps100
  go_wp2
  go_ret
  exact ⟨ret_u32 HV.out, rfl⟩
theorem rot_6 (w : World) (x : Nat) (hx : x < 4294967296) : Calls Tryd.prog 100 #[.int .u32 (x : Int), .int .i64 (-6)] w fun e w' => e = .returned (.int .u32 ((rotr x 6 : Nat) : Int)) ∧ w = w' := by
  have hb : bits .and .u64 (IntKind.u64.wrap (-6)) 31 = 26 := by decide
  have hv : bits .or .u32 ((x : Int) * 67108864 % 4294967296) ((x : Int) / 64) = ((rotr x 6 : Nat) : Int) := by
    have h := u32_or_nat (x * 67108864 % 4294967296) (x / 64) (by omega) (by omega)
    rw [show ((x * 67108864 % 4294967296 : Nat) : Int) = (x : Int) * 67108864 % 4294967296 by omega, show ((x / 64 : Nat) : Int) = (x : Int) / 64 by omega] at h
    rw [h]
    unfold rotr
    rw [Nat.or_comm, Nat.shiftRight_eq_div_pow, Nat.shiftLeft_eq]
  have HV := Lib.hid hv
  clear hv
  go_enter Tryd.func100, Tryd.ntmps100
  go_wp2
  go_ret
  exact ⟨ret_u32 HV.out, rfl⟩
theorem rot_11 (w : World) (x : Nat) (hx : x < 4294967296) : Calls Tryd.prog 100 #[.int .u32 (x : Int), .int .i64 (-11)] w fun e w' => e = .returned (.int .u32 ((rotr x 11 : Nat) : Int)) ∧ w = w' := by
  have hb : bits .and .u64 (IntKind.u64.wrap (-11)) 31 = 21 := by decide
  have hv : bits .or .u32 ((x : Int) * 2097152 % 4294967296) ((x : Int) / 2048) = ((rotr x 11 : Nat) : Int) := by
    have h := u32_or_nat (x * 2097152 % 4294967296) (x / 2048) (by omega) (by omega)
    rw [show ((x * 2097152 % 4294967296 : Nat) : Int) = (x : Int) * 2097152 % 4294967296 by omega, show ((x / 2048 : Nat) : Int) = (x : Int) / 2048 by omega] at h
    rw [h]
    unfold rotr
    rw [Nat.or_comm, Nat.shiftRight_eq_div_pow, Nat.shiftLeft_eq]
  have HV := Lib.hid hv
  clear hv
  go_enter Tryd.func100, Tryd.ntmps100
  go_wp2
  go_ret
  exact ⟨ret_u32 HV.out, rfl⟩
theorem rot_25 (w : World) (x : Nat) (hx : x < 4294967296) : Calls Tryd.prog 100 #[.int .u32 (x : Int), .int .i64 (-25)] w fun e w' => e = .returned (.int .u32 ((rotr x 25 : Nat) : Int)) ∧ w = w' := by
  have hb : bits .and .u64 (IntKind.u64.wrap (-25)) 31 = 7 := by decide
  have hv : bits .or .u32 ((x : Int) * 128 % 4294967296) ((x : Int) / 33554432) = ((rotr x 25 : Nat) : Int) := by
    have h := u32_or_nat (x * 128 % 4294967296) (x / 33554432) (by omega) (by omega)
    rw [show ((x * 128 % 4294967296 : Nat) : Int) = (x : Int) * 128 % 4294967296 by omega, show ((x / 33554432 : Nat) : Int) = (x : Int) / 33554432 by omega] at h
    rw [h]
    unfold rotr
    rw [Nat.or_comm, Nat.shiftRight_eq_div_pow, Nat.shiftLeft_eq]
  have HV := Lib.hid hv
  clear hv
  go_enter Tryd.func100, Tryd.ntmps100
  go_wp2
  go_ret
  exact ⟨ret_u32 HV.out, rfl⟩
theorem rot_2 (w : World) (x : Nat) (hx : x < 4294967296) : Calls Tryd.prog 100 #[.int .u32 (x : Int), .int .i64 (-2)] w fun e w' => e = .returned (.int .u32 ((rotr x 2 : Nat) : Int)) ∧ w = w' := by
  have hb : bits .and .u64 (IntKind.u64.wrap (-2)) 31 = 30 := by decide
  have hv : bits .or .u32 ((x : Int) * 1073741824 % 4294967296) ((x : Int) / 4) = ((rotr x 2 : Nat) : Int) := by
    have h := u32_or_nat (x * 1073741824 % 4294967296) (x / 4) (by omega) (by omega)
    rw [show ((x * 1073741824 % 4294967296 : Nat) : Int) = (x : Int) * 1073741824 % 4294967296 by omega, show ((x / 4 : Nat) : Int) = (x : Int) / 4 by omega] at h
    rw [h]
    unfold rotr
    rw [Nat.or_comm, Nat.shiftRight_eq_div_pow, Nat.shiftLeft_eq]
  have HV := Lib.hid hv
  clear hv
  go_enter Tryd.func100, Tryd.ntmps100
  go_wp2
  go_ret
  exact ⟨ret_u32 HV.out, rfl⟩
theorem rot_13 (w : World) (x : Nat) (hx : x < 4294967296) : Calls Tryd.prog 100 #[.int .u32 (x : Int), .int .i64 (-13)] w fun e w' => e = .returned (.int .u32 ((rotr x 13 : Nat) : Int)) ∧ w = w' := by
  have hb : bits .and .u64 (IntKind.u64.wrap (-13)) 31 = 19 := by decide
  have hv : bits .or .u32 ((x : Int) * 524288 % 4294967296) ((x : Int) / 8192) = ((rotr x 13 : Nat) : Int) := by
    have h := u32_or_nat (x * 524288 % 4294967296) (x / 8192) (by omega) (by omega)
    rw [show ((x * 524288 % 4294967296 : Nat) : Int) = (x : Int) * 524288 % 4294967296 by omega, show ((x / 8192 : Nat) : Int) = (x : Int) / 8192 by omega] at h
    rw [h]
    unfold rotr
    rw [Nat.or_comm, Nat.shiftRight_eq_div_pow, Nat.shiftLeft_eq]
  have HV := Lib.hid hv
  clear hv
  go_enter Tryd.func100, Tryd.ntmps100
  go_wp2
  go_ret
  exact ⟨ret_u32 HV.out, rfl⟩
theorem rot_22 (w : World) (x : Nat) (hx : x < 4294967296) : Calls Tryd.prog 100 #[.int .u32 (x : Int), .int .i64 (-22)] w fun e w' => e = .returned (.int .u32 ((rotr x 22 : Nat) : Int)) ∧ w = w' := by
  have hb : bits .and .u64 (IntKind.u64.wrap (-22)) 31 = 10 := by decide
  have hv : bits .or .u32 ((x : Int) * 1024 % 4294967296) ((x : Int) / 4194304) = ((rotr x 22 : Nat) : Int) := by
    have h := u32_or_nat (x * 1024 % 4294967296) (x / 4194304) (by omega) (by omega)
    rw [show ((x * 1024 % 4294967296 : Nat) : Int) = (x : Int) * 1024 % 4294967296 by omega, show ((x / 4194304 : Nat) : Int) = (x : Int) / 4194304 by omega] at h
    rw [h]
    unfold rotr
    rw [Nat.or_comm, Nat.shiftRight_eq_div_pow, Nat.shiftLeft_eq]
  have HV := Lib.hid hv
  clear hv
  go_enter Tryd.func100, Tryd.ntmps100
  go_wp2
  go_ret
  exact ⟨ret_u32 HV.out, rfl⟩
theorem rotr_lt (x r : Nat) (hx : x < 4294967296) : rotr x r < 4294967296 := by
  unfold rotr
  refine Nat.or_lt_two_pow (n := 32) ?_ (Nat.mod_lt _ (by decide))
  exact Nat.lt_of_le_of_lt (by rw [Nat.shiftRight_eq_div_pow]; exact Nat.div_le_self _ _) hx
end Go.Proofs.YtlncnjcbgfeaoaaDoor
