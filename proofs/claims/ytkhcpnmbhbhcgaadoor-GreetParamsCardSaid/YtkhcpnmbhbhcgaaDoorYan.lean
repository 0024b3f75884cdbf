/- ref02's small functions: turn, square, cube; math/bits.Mul64. -/
import Derived.Test.YtkhcpnmbhbhcgaaDoorYae
import Derived.Shelf.Bits.Mul64
set_option maxRecDepth 100000
set_option linter.unusedVariables false
namespace Go.Proofs.YtkhcpnmbhbhcgaaDoor
open Go.RowKit
theorem turn_7 (w : World) (x : Nat) (hx : x < 4294967296) : Calls Tryd.prog 51 #[.int .u32 (x : Int), .int .u64 7] w fun e w' => e = .returned (.int .u32 ((rotr x 7 : Nat) : Int)) ∧ w' = w := by
  have hv : bits .or .u32 ((x : Int) / 128) ((x : Int) * 33554432 % 4294967296) = ((rotr x 7 : Nat) : Int) := by
    have h := u32_or_nat (x / 128) (x * 33554432 % 4294967296) (by omega) (by omega)
    rw [show ((x * 33554432 % 4294967296 : Nat) : Int) = (x : Int) * 33554432 % 4294967296 by omega, show ((x / 128 : Nat) : Int) = (x : Int) / 128 by omega] at h
    rw [h]
    unfold rotr
    rw [Nat.shiftRight_eq_div_pow, Nat.shiftLeft_eq]
  have HV := Lib.hid hv
  clear hv
  go_enter Tryd.func51, Tryd.ntmps51
  go_wp2
  go_ret
  exact ⟨ret_u32 HV.out, rfl⟩
theorem turn_18 (w : World) (x : Nat) (hx : x < 4294967296) : Calls Tryd.prog 51 #[.int .u32 (x : Int), .int .u64 18] w fun e w' => e = .returned (.int .u32 ((rotr x 18 : Nat) : Int)) ∧ w' = w := by
  have hv : bits .or .u32 ((x : Int) / 262144) ((x : Int) * 16384 % 4294967296) = ((rotr x 18 : Nat) : Int) := by
    have h := u32_or_nat (x / 262144) (x * 16384 % 4294967296) (by omega) (by omega)
    rw [show ((x * 16384 % 4294967296 : Nat) : Int) = (x : Int) * 16384 % 4294967296 by omega, show ((x / 262144 : Nat) : Int) = (x : Int) / 262144 by omega] at h
    rw [h]
    unfold rotr
    rw [Nat.shiftRight_eq_div_pow, Nat.shiftLeft_eq]
  have HV := Lib.hid hv
  clear hv
  go_enter Tryd.func51, Tryd.ntmps51
  go_wp2
  go_ret
  exact ⟨ret_u32 HV.out, rfl⟩
theorem turn_17 (w : World) (x : Nat) (hx : x < 4294967296) : Calls Tryd.prog 51 #[.int .u32 (x : Int), .int .u64 17] w fun e w' => e = .returned (.int .u32 ((rotr x 17 : Nat) : Int)) ∧ w' = w := by
  have hv : bits .or .u32 ((x : Int) / 131072) ((x : Int) * 32768 % 4294967296) = ((rotr x 17 : Nat) : Int) := by
    have h := u32_or_nat (x / 131072) (x * 32768 % 4294967296) (by omega) (by omega)
    rw [show ((x * 32768 % 4294967296 : Nat) : Int) = (x : Int) * 32768 % 4294967296 by omega, show ((x / 131072 : Nat) : Int) = (x : Int) / 131072 by omega] at h
    rw [h]
    unfold rotr
    rw [Nat.shiftRight_eq_div_pow, Nat.shiftLeft_eq]
  have HV := Lib.hid hv
  clear hv
  go_enter Tryd.func51, Tryd.ntmps51
  go_wp2
  go_ret
  exact ⟨ret_u32 HV.out, rfl⟩
theorem turn_19 (w : World) (x : Nat) (hx : x < 4294967296) : Calls Tryd.prog 51 #[.int .u32 (x : Int), .int .u64 19] w fun e w' => e = .returned (.int .u32 ((rotr x 19 : Nat) : Int)) ∧ w' = w := by
  have hv : bits .or .u32 ((x : Int) / 524288) ((x : Int) * 8192 % 4294967296) = ((rotr x 19 : Nat) : Int) := by
    have h := u32_or_nat (x / 524288) (x * 8192 % 4294967296) (by omega) (by omega)
    rw [show ((x * 8192 % 4294967296 : Nat) : Int) = (x : Int) * 8192 % 4294967296 by omega, show ((x / 524288 : Nat) : Int) = (x : Int) / 524288 by omega] at h
    rw [h]
    unfold rotr
    rw [Nat.shiftRight_eq_div_pow, Nat.shiftLeft_eq]
  have HV := Lib.hid hv
  clear hv
  go_enter Tryd.func51, Tryd.ntmps51
  go_wp2
  go_ret
  exact ⟨ret_u32 HV.out, rfl⟩
theorem turn_6 (w : World) (x : Nat) (hx : x < 4294967296) : Calls Tryd.prog 51 #[.int .u32 (x : Int), .int .u64 6] w fun e w' => e = .returned (.int .u32 ((rotr x 6 : Nat) : Int)) ∧ w' = w := by
  have hv : bits .or .u32 ((x : Int) / 64) ((x : Int) * 67108864 % 4294967296) = ((rotr x 6 : Nat) : Int) := by
    have h := u32_or_nat (x / 64) (x * 67108864 % 4294967296) (by omega) (by omega)
    rw [show ((x * 67108864 % 4294967296 : Nat) : Int) = (x : Int) * 67108864 % 4294967296 by omega, show ((x / 64 : Nat) : Int) = (x : Int) / 64 by omega] at h
    rw [h]
    unfold rotr
    rw [Nat.shiftRight_eq_div_pow, Nat.shiftLeft_eq]
  have HV := Lib.hid hv
  clear hv
  go_enter Tryd.func51, Tryd.ntmps51
  go_wp2
  go_ret
  exact ⟨ret_u32 HV.out, rfl⟩
theorem turn_11 (w : World) (x : Nat) (hx : x < 4294967296) : Calls Tryd.prog 51 #[.int .u32 (x : Int), .int .u64 11] w fun e w' => e = .returned (.int .u32 ((rotr x 11 : Nat) : Int)) ∧ w' = w := by
  have hv : bits .or .u32 ((x : Int) / 2048) ((x : Int) * 2097152 % 4294967296) = ((rotr x 11 : Nat) : Int) := by
    have h := u32_or_nat (x / 2048) (x * 2097152 % 4294967296) (by omega) (by omega)
    rw [show ((x * 2097152 % 4294967296 : Nat) : Int) = (x : Int) * 2097152 % 4294967296 by omega, show ((x / 2048 : Nat) : Int) = (x : Int) / 2048 by omega] at h
    rw [h]
    unfold rotr
    rw [Nat.shiftRight_eq_div_pow, Nat.shiftLeft_eq]
  have HV := Lib.hid hv
  clear hv
  go_enter Tryd.func51, Tryd.ntmps51
  go_wp2
  go_ret
  exact ⟨ret_u32 HV.out, rfl⟩
theorem turn_25 (w : World) (x : Nat) (hx : x < 4294967296) : Calls Tryd.prog 51 #[.int .u32 (x : Int), .int .u64 25] w fun e w' => e = .returned (.int .u32 ((rotr x 25 : Nat) : Int)) ∧ w' = w := by
  have hv : bits .or .u32 ((x : Int) / 33554432) ((x : Int) * 128 % 4294967296) = ((rotr x 25 : Nat) : Int) := by
    have h := u32_or_nat (x / 33554432) (x * 128 % 4294967296) (by omega) (by omega)
    rw [show ((x * 128 % 4294967296 : Nat) : Int) = (x : Int) * 128 % 4294967296 by omega, show ((x / 33554432 : Nat) : Int) = (x : Int) / 33554432 by omega] at h
    rw [h]
    unfold rotr
    rw [Nat.shiftRight_eq_div_pow, Nat.shiftLeft_eq]
  have HV := Lib.hid hv
  clear hv
  go_enter Tryd.func51, Tryd.ntmps51
  go_wp2
  go_ret
  exact ⟨ret_u32 HV.out, rfl⟩
theorem turn_2 (w : World) (x : Nat) (hx : x < 4294967296) : Calls Tryd.prog 51 #[.int .u32 (x : Int), .int .u64 2] w fun e w' => e = .returned (.int .u32 ((rotr x 2 : Nat) : Int)) ∧ w' = w := by
  have hv : bits .or .u32 ((x : Int) / 4) ((x : Int) * 1073741824 % 4294967296) = ((rotr x 2 : Nat) : Int) := by
    have h := u32_or_nat (x / 4) (x * 1073741824 % 4294967296) (by omega) (by omega)
    rw [show ((x * 1073741824 % 4294967296 : Nat) : Int) = (x : Int) * 1073741824 % 4294967296 by omega, show ((x / 4 : Nat) : Int) = (x : Int) / 4 by omega] at h
    rw [h]
    unfold rotr
    rw [Nat.shiftRight_eq_div_pow, Nat.shiftLeft_eq]
  have HV := Lib.hid hv
  clear hv
  go_enter Tryd.func51, Tryd.ntmps51
  go_wp2
  go_ret
  exact ⟨ret_u32 HV.out, rfl⟩
theorem turn_13 (w : World) (x : Nat) (hx : x < 4294967296) : Calls Tryd.prog 51 #[.int .u32 (x : Int), .int .u64 13] w fun e w' => e = .returned (.int .u32 ((rotr x 13 : Nat) : Int)) ∧ w' = w := by
  have hv : bits .or .u32 ((x : Int) / 8192) ((x : Int) * 524288 % 4294967296) = ((rotr x 13 : Nat) : Int) := by
    have h := u32_or_nat (x / 8192) (x * 524288 % 4294967296) (by omega) (by omega)
    rw [show ((x * 524288 % 4294967296 : Nat) : Int) = (x : Int) * 524288 % 4294967296 by omega, show ((x / 8192 : Nat) : Int) = (x : Int) / 8192 by omega] at h
    rw [h]
    unfold rotr
    rw [Nat.shiftRight_eq_div_pow, Nat.shiftLeft_eq]
  have HV := Lib.hid hv
  clear hv
  go_enter Tryd.func51, Tryd.ntmps51
  go_wp2
  go_ret
  exact ⟨ret_u32 HV.out, rfl⟩
theorem turn_22 (w : World) (x : Nat) (hx : x < 4294967296) : Calls Tryd.prog 51 #[.int .u32 (x : Int), .int .u64 22] w fun e w' => e = .returned (.int .u32 ((rotr x 22 : Nat) : Int)) ∧ w' = w := by
  have hv : bits .or .u32 ((x : Int) / 4194304) ((x : Int) * 1024 % 4294967296) = ((rotr x 22 : Nat) : Int) := by
    have h := u32_or_nat (x / 4194304) (x * 1024 % 4294967296) (by omega) (by omega)
    rw [show ((x * 1024 % 4294967296 : Nat) : Int) = (x : Int) * 1024 % 4294967296 by omega, show ((x / 4194304 : Nat) : Int) = (x : Int) / 4194304 by omega] at h
    rw [h]
    unfold rotr
    rw [Nat.shiftRight_eq_div_pow, Nat.shiftLeft_eq]
  have HV := Lib.hid hv
  clear hv
  go_enter Tryd.func51, Tryd.ntmps51
  go_wp2
  go_ret
  exact ⟨ret_u32 HV.out, rfl⟩
theorem mul64_any (x y : Nat) (hx : x < 18446744073709551616) (hy : y < 18446744073709551616) (w : World) :
    Calls Tryd.prog 65 #[.int .u64 x, .int .u64 y] w fun e w' => e = .returned (.tuple #[.int .u64 ((x * y / 18446744073709551616 : Nat) : Int), .int .u64 ((x * y % 18446744073709551616 : Nat) : Int)]) ∧ w' = w := by
  obtain ⟨bd, bt, bw, hhi⟩ := Lib.mul64_hi x y hx hy
  have ba := Lib.half_mul_le (a := x / 4294967296) (b := y / 4294967296) (by omega) (by omega)
  have bb := Lib.half_mul_le (a := x / 4294967296) (b := y % 4294967296) (by omega) (by omega)
  have bc := Lib.half_mul_le (a := x % 4294967296) (b := y / 4294967296) (by omega) (by omega)
  have ba' : x / 4294967296 * (y / 4294967296) < 18446744073709551616 := by omega
  have bb' : x / 4294967296 * (y % 4294967296) < 18446744073709551616 := by omega
  have bc' : x % 4294967296 * (y / 4294967296) < 18446744073709551616 := by omega
  have bh1 : x / 4294967296 * (y / 4294967296) + (x / 4294967296 * (y % 4294967296) + x % 4294967296 * (y % 4294967296) / 4294967296) / 4294967296 < 18446744073709551616 := by omega
  have bh : x / 4294967296 * (y / 4294967296) + (x / 4294967296 * (y % 4294967296) + x % 4294967296 * (y % 4294967296) / 4294967296) / 4294967296 + ((x / 4294967296 * (y % 4294967296) + x % 4294967296 * (y % 4294967296) / 4294967296) % 4294967296 + x % 4294967296 * (y / 4294967296)) / 4294967296 < 18446744073709551616 := by omega
  go_enter Tryd.func65, Tryd.ntmps65
  go_wp2
  simp only [Mul64.maskN x hx, Mul64.maskN y hy, Mul64.divN, Mul64.mulN, Mul64.addN, Mul64.wrapN _ bd, Mul64.wrapN _ bb', Mul64.wrapN _ bt, Mul64.maskN _ bt, Mul64.wrapN _ bc', Mul64.wrapN _ bw, Mul64.wrapN _ ba', Mul64.wrapN _ bh1, Mul64.wrapN _ bh, Mul64.wrapM (x * y)]
  rw [hhi]
  go_ret2
  exact ⟨rfl, rfl⟩
theorem seek_step (ok : Nat → Bool) (n low high : Nat) : seek ok (n + 1) low high = if ok ((low + high) / 2) then seek ok n ((low + high) / 2) high else seek ok n low ((low + high) / 2) := rfl
set_option maxHeartbeats 1000000 in
theorem square_any (p : Nat) (hp : p < 18446744073709551616) (w : World) : Calls Tryd.prog 50 #[.int .u64 (p : Int)] w fun e w' => e = .returned (.int .u32 ((squareS p : Nat) : Int)) ∧ w' = w := by
  obtain ⟨ok, hok⟩ : ∃ ok : Nat → Bool, (fun r => decide (r * r / 18446744073709551616 < p)) = ok := ⟨_, rfl⟩
  obtain ⟨R, hR⟩ : ∃ R, seek ok 38 0 274877906944 = R := ⟨_, rfl⟩
  have HS := Lib.hid (show squareS p = R % 4294967296 by rw [← hR, ← hok]; rfl)
  have HOK := Lib.hid (show ∀ r, ok r = decide (r * r / 18446744073709551616 < p) by intro r; rw [← hok])
  have HR := Lib.hid hR
  clear hok hR
  go_enter Tryd.func50, Tryd.ntmps50
  go_wp2
  go_loopw [3, 4] (fun s3 s4 wr => ∃ n low d : Nat, d = 2 ^ n ∧ n ≤ 38 ∧ low + d ≤ 274877906944 ∧ s3 = .int .u64 (low : Int) ∧ s4 = .int .u64 ((low + d : Nat) : Int) ∧ seek ok n low (low + d) = R ∧ wr = w) (fun s3 s4 _ => (intOf s4 - intOf s3).toNat)
  case atStart => exact ⟨38, 0, 274877906944, by decide, by omega, by omega, rfl, rfl, HR.out, rfl⟩
  case round =>
    obtain ⟨n, low, d, hd, hn, hld, rfl, rfl, hs, rfl⟩ := hrel
    cases n with
    | zero =>
      obtain rfl : d = 1 := hd
      have hlR : R = low := hs.symm
      have HlR := Lib.hid hlR
      clear hs hlR
      go_wp2
      go_ret
      refine ⟨ret_u32 ?_, rfl⟩
      rw [HS.out, HlR.out]; omega
    | succ n =>
      obtain ⟨e, he⟩ : ∃ e, 2 ^ n = e := ⟨_, rfl⟩
      have hde : d = 2 * e := by rw [hd, Nat.pow_succ, he]; omega
      have hep : 0 < e := by rw [← he]; exact Nat.two_pow_pos n
      rw [seek_step, show (low + (low + d)) / 2 = low + e by omega] at hs
      have HO := HOK.out (low + e)
      have He := Lib.hid he.symm
      have Hs := Lib.hid hs
      clear hd he hs
      subst hde
      have hr : low + e < 18446744073709551616 := by omega
      have hmid : (((low : Int) + ((low : Int) + 2 * (e : Int))) / 2) = ((low + e : Nat) : Int) := by omega
      have Hmid := Lib.hid hmid
      have hm2 : low + e + e = low + 2 * e := by omega
      have Hm2 := Lib.hid hm2
      clear hmid hm2
      by_cases hc : (low + e) * (low + e) / 18446744073709551616 < p
      · rw [decide_eq_true hc] at HO
        have Ho := Lib.hid HO
        clear HO
        obtain ⟨h, hh⟩ : ∃ h, (low + e) * (low + e) / 18446744073709551616 = h := ⟨_, rfl⟩
        rw [hh] at hc
        have Hh := Lib.hid hh
        clear hh
        go_upto_region 4 with (fail)
        rw [Hmid.out]
        go_wp2_with (go_at_call 65; refine (mul64_any (low + e) (low + e) hr hr _).mono ?_; rintro e' w' ⟨rfl, rfl⟩; rw [Hh.out])
        go_roundw
        case rel => exact ⟨n, low + e, e, He.out, by omega, by omega, by go_num, by rw [Hm2.out]; go_num, by have h1 := Hs.out; rw [Ho.out, if_pos rfl, ← Hm2.out] at h1; exact h1, trivial⟩
        case measure => simp [intOf]; omega
      · rw [decide_eq_false hc] at HO
        have Ho := Lib.hid HO
        clear HO
        obtain ⟨h, hh⟩ : ∃ h, (low + e) * (low + e) / 18446744073709551616 = h := ⟨_, rfl⟩
        rw [hh] at hc
        have Hh := Lib.hid hh
        clear hh
        go_upto_region 4 with (fail)
        rw [Hmid.out]
        go_wp2_with (go_at_call 65; refine (mul64_any (low + e) (low + e) hr hr _).mono ?_; rintro e' w' ⟨rfl, rfl⟩; rw [Hh.out])
        go_roundw
        case rel => exact ⟨n, low, e, He.out, by omega, by omega, rfl, by go_num, by have h1 := Hs.out; rw [Ho.out, if_neg (by decide)] at h1; exact h1, trivial⟩
        case measure => simp [intOf]; omega
set_option maxHeartbeats 2000000 in
theorem cube_any (p : Nat) (hp : p < 1048576) (w : World) : Calls Tryd.prog 49 #[.int .u64 (p : Int)] w fun e w' => e = .returned (.int .u32 ((cubeS p : Nat) : Int)) ∧ w' = w := by
  obtain ⟨ok, hok⟩ : ∃ ok : Nat → Bool, (fun r => decide (r * r / 18446744073709551616 * r + (r * r % 18446744073709551616) * r / 18446744073709551616 < p * 4294967296)) = ok := ⟨_, rfl⟩
  obtain ⟨R, hR⟩ : ∃ R, seek ok 36 0 68719476736 = R := ⟨_, rfl⟩
  have HS := Lib.hid (show cubeS p = R % 4294967296 by rw [← hR, ← hok]; rfl)
  have HOK := Lib.hid (show ∀ r, ok r = decide (r * r / 18446744073709551616 * r + (r * r % 18446744073709551616) * r / 18446744073709551616 < p * 4294967296) by intro r; rw [← hok])
  have HR := Lib.hid hR
  clear hok hR
  go_enter Tryd.func49, Tryd.ntmps49
  go_wp2
  go_loopw [3, 4] (fun s3 s4 wr => ∃ n low d : Nat, d = 2 ^ n ∧ n ≤ 36 ∧ low + d ≤ 68719476736 ∧ s3 = .int .u64 (low : Int) ∧ s4 = .int .u64 ((low + d : Nat) : Int) ∧ seek ok n low (low + d) = R ∧ wr = w) (fun s3 s4 _ => (intOf s4 - intOf s3).toNat)
  case atStart => exact ⟨36, 0, 68719476736, by decide, by omega, by omega, rfl, rfl, HR.out, rfl⟩
  case round =>
    obtain ⟨n, low, d, hd, hn, hld, rfl, rfl, hs, rfl⟩ := hrel
    cases n with
    | zero =>
      obtain rfl : d = 1 := hd
      have hlR : R = low := hs.symm
      have HlR := Lib.hid hlR
      clear hs hlR
      go_wp2
      go_ret
      refine ⟨ret_u32 ?_, rfl⟩
      rw [HS.out, HlR.out]; omega
    | succ n =>
      obtain ⟨e, he⟩ : ∃ e, 2 ^ n = e := ⟨_, rfl⟩
      have hde : d = 2 * e := by rw [hd, Nat.pow_succ, he]; omega
      have hep : 0 < e := by rw [← he]; exact Nat.two_pow_pos n
      rw [seek_step, show (low + (low + d)) / 2 = low + e by omega] at hs
      have HO := HOK.out (low + e)
      have He := Lib.hid he.symm
      have Hs := Lib.hid hs
      clear hd he hs
      subst hde
      have hr36 : low + e < 68719476736 := by omega
      have hr : low + e < 18446744073709551616 := by omega
      have hmid : (((low : Int) + ((low : Int) + 2 * (e : Int))) / 2) = ((low + e : Nat) : Int) := by omega
      have Hmid := Lib.hid hmid
      have hm2 : low + e + e = low + 2 * e := by omega
      have Hm2 := Lib.hid hm2
      clear hmid hm2
      obtain ⟨h, hh⟩ : ∃ h, (low + e) * (low + e) / 18446744073709551616 = h := ⟨_, rfl⟩
      obtain ⟨l, hl⟩ : ∃ l, (low + e) * (low + e) % 18446744073709551616 = l := ⟨_, rfl⟩
      have hll : l < 18446744073709551616 := by rw [← hl]; exact Nat.mod_lt _ (by decide)
      have hh8 : h ≤ 255 := by
        have h1 : (low + e) * (low + e) ≤ 68719476735 * 68719476735 := Nat.mul_le_mul (by omega) (by omega)
        omega
      rw [hh, hl] at HO
      obtain ⟨k, hk⟩ : ∃ k, l * (low + e) / 18446744073709551616 = k := ⟨_, rfl⟩
      have hk36 : k < 68719476736 := by
        have h1 : l * (low + e) ≤ 18446744073709551615 * 68719476735 := Nat.mul_le_mul (by omega) (by omega)
        omega
      obtain ⟨q, hq⟩ : ∃ q, h * (low + e) = q := ⟨_, rfl⟩
      have hq44 : q ≤ 17523466567680 := by
        have h1 : h * (low + e) ≤ 255 * 68719476735 := Nat.mul_le_mul (by omega) (by omega)
        omega
      rw [hk, hq] at HO
      have Hh := Lib.hid hh
      have Hl := Lib.hid hl
      have Hk := Lib.hid hk
      have hqi : (h : Int) * ((low + e : Nat) : Int) = (q : Int) := by rw [← hq]; exact (Int.natCast_mul h (low + e)).symm
      clear hh hl hk hq
      obtain ⟨r, hre⟩ : ∃ r, low + e = r := ⟨_, rfl⟩
      rw [hre] at hqi hr hr36
      have Hre := Lib.hid hre
      clear hre
      by_cases hc : q + k < p * 4294967296
      · rw [decide_eq_true hc] at HO
        have Ho := Lib.hid HO
        clear HO
        go_upto_region 4 with (fail)
        rw [Hmid.out, Hre.out]
        go_upto_region 5 with (go_at_call 65; refine (mul64_any r r hr hr _).mono ?_; rintro e' w' ⟨rfl, rfl⟩; rw [← Hre.out, Hh.out, Hl.out, Hre.out])
        go_upto_region 6 with (go_at_call 65; refine (mul64_any l r hll hr _).mono ?_; rintro e' w' ⟨rfl, rfl⟩; rw [← Hre.out, Hk.out, Hre.out])
        go_wp2
        go_roundw
        case rel => have hre := Hre.out; exact ⟨n, low + e, e, He.out, by omega, by omega, by rw [hre], by rw [Hm2.out]; go_num, by have h1 := Hs.out; rw [Ho.out, if_pos rfl, ← Hm2.out] at h1; exact h1, trivial⟩
        case measure => have hre := Hre.out; simp [intOf]; omega
      · rw [decide_eq_false hc] at HO
        have Ho := Lib.hid HO
        clear HO
        go_upto_region 4 with (fail)
        rw [Hmid.out, Hre.out]
        go_upto_region 5 with (go_at_call 65; refine (mul64_any r r hr hr _).mono ?_; rintro e' w' ⟨rfl, rfl⟩; rw [← Hre.out, Hh.out, Hl.out, Hre.out])
        go_upto_region 6 with (go_at_call 65; refine (mul64_any l r hll hr _).mono ?_; rintro e' w' ⟨rfl, rfl⟩; rw [← Hre.out, Hk.out, Hre.out])
        go_wp2
        go_roundw
        case rel => have hre := Hre.out; exact ⟨n, low, e, He.out, by omega, by omega, rfl, by rw [hre], by have h1 := Hs.out; rw [Ho.out, if_neg (by decide)] at h1; exact h1, trivial⟩
        case measure => have hre := Hre.out; simp [intOf]; omega
end Go.Proofs.YtkhcpnmbhbhcgaaDoor
