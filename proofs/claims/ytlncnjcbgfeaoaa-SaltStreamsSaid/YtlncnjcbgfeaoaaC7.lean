/- (*salt.limbs).carry. -/
import Derived.Test.YtlncnjcbgfeaoaaC6
set_option maxRecDepth 100000
set_option linter.unusedVariables false
namespace Go.Proofs.Ytlncnjcbgfeaoaa
open Go.RowKit
theorem u64_low26 (a : Nat) (ha : a < 18446744073709551616) : bits .and .u64 (a : Int) 67108863 = ((a % 67108864 : Nat) : Int) := by
  have h := u64_and_nat a 67108863 ha (by decide)
  rw [show (67108863 : Nat) = 2 ^ 26 - 1 by rfl, Nat.and_two_pow_sub_one_eq_mod] at h
  exact h
set_option maxHeartbeats 4000000 in
theorem carry_any (w : World) {g : Nat} {t : TypeId} {h0 : List Nat} (hA : AL w g t h0) (hM : LM h0 0) :
    Calls Try.prog 24 #[.pointer (some ⟨g, 0, none⟩)] w fun e w' => e = .returned (.tuple #[]) ∧ AL w' g t (cars h0 2) ∧ w.grownBy w' (some g) := by
  have HA0 := Lib.hid hA
  have HM := Lib.hid hM
  clear hA hM
  go_enter Try.func24, Try.ntmps24
  go_wp2
  go_loopw [4] (fun s4 wr => ∃ r : Nat, r ≤ 2 ∧ s4 = .int .i64 (r : Int) ∧ AL wr g t (cars h0 r) ∧ w.grownBy wr (some g)) (fun s4 _ => 2 - (intOf s4).toNat)
  case atStart => exact ⟨0, by omega, rfl, HA0.out, World.grownBy.refl w _⟩
  case round =>
    obtain ⟨r, hr, rfl, hX, hg⟩ := hrel
    clear HA0
    by_cases hlt : r < 2
    · have hm := HM.out.cars r (by omega)
      obtain ⟨X, hXe⟩ : ∃ X, cars h0 r = X := ⟨_, rfl⟩
      rw [hXe] at hX hm
      have HNX : EN (cars h0 (r + 1)) (cpass X 5) := ⟨by rw [← hXe]; rfl⟩
      have HMX := Lib.hid hm
      have HX := Lib.hid hX
      have HG := Lib.hid hg
      clear hXe hm hX hg
      go_wp2
      rw [show decide ((r : Int) < 2) = true from decide_eq_true (by omega)]
      go_loopw [6] (fun s6 wr => ∃ i : Nat, i ≤ 5 ∧ s6 = .int .i64 (i : Int) ∧ AL wr g t (cpass X i) ∧ w.grownBy wr (some g)) (fun s6 _ => 5 - (intOf s6).toNat)
      case atStart => exact ⟨0, by omega, rfl, HX.out, HG.out⟩
      case round =>
        obtain ⟨i, hi, rfl, hQ, hgq⟩ := hrel
        by_cases hlt5 : i < 5
        · have hmi := HMX.out.pass i hi (by omega)
          obtain ⟨Y, hY⟩ : ∃ Y, cpass X i = Y := ⟨_, rfl⟩
          have hstep : EN (cpass X (i + 1)) (cstep Y i) := ⟨by rw [← hY]; rfl⟩
          rw [hY] at hQ hmi
          obtain ⟨a, ea, la⟩ := hmi.get i hlt5
          have hlow := u64_low26 a (by omega)
          have q0 := hQ.cell i a ea
          have f0 := hQ.fr i
          have hq1 := hQ.set_ i (a % 67108864)
          have hgq1 := grown_set hgq i (.int .u64 ((a % 67108864 : Nat) : Int))
          have hval : ((a % 67108864 : Nat) : Int) = (a : Int) % 67108864 := by omega
          rw [hval] at hq1 hgq1
          have HQ1 := Lib.hid hq1.drew
          have HG1 := Lib.hid (grown_drew hgq1)
          have hL5 := hmi.len
          have Hea := Lib.hid ea
          clear hval hY hQ hgq hq1 hgq1
          rcases Nat.lt_or_ge i 4 with hi4 | hi4
          · obtain ⟨b, eb, lb⟩ := hmi.get (i + 1) (by omega)
            have hne : ((i : Int) == 4) = false := by simp; omega
            have hlo := cstep_lo hi4 hL5 ea eb
            have Hlo := Lib.hid hlo
            have eb' : (Y.set i (a % 67108864))[i + 1]? = some b := by rw [List.getElem?_set_ne (by omega)]; exact eb
            have q1 := HQ1.out.cell (i + 1) b eb'
            have f1 := HQ1.out.fr (i + 1)
            clear hlo eb eb' ea hmi
            go_upto_region 6 with (fail)
            go_region
            clear q0 f0 hlow
            generalize World.drew _ = W8 at *
            have hv2 : (((b + a / 67108864 : Nat)) : Int) = (b : Int) + (a : Int) / 67108864 := by omega
            have hq2 := HQ1.out.set_ (i + 1) (b + a / 67108864)
            have hg2 := grown_set HG1.out (i + 1) (.int .u64 ((b + a / 67108864 : Nat) : Int))
            rw [← Hlo.out, ← hstep.h, hv2] at hq2
            rw [hv2] at hg2
            have HQ2 := Lib.hid hq2.drew
            have HG2 := Lib.hid (grown_drew hg2)
            clear hq2 hg2 hv2 HQ1 HG1
            go_upto_region 9 with (fail)
            go_region
            clear q1 f1 hne
            generalize World.drew _ = W9 at *
            go_wp2
            go_roundw
            case rel => exact ⟨i + 1, by omega, by go_num, HQ2.out, HG2.out⟩
            case measure => simp [intOf]; omega
          · obtain rfl : i = 4 := by omega
            obtain ⟨b, eb, lb⟩ := hmi.get 0 (by omega)
            have hlo := cstep_hi hL5 ea eb
            have Hlo := Lib.hid hlo
            have eb' : (Y.set 4 (a % 67108864))[0]? = some b := by rw [List.getElem?_set_ne (by omega)]; exact eb
            have q1 := HQ1.out.cell 0 b eb'
            have f1 := HQ1.out.fr 0
            clear hlo eb eb' ea hmi
            rw [show ((4 : Nat) : Int) = 4 from rfl]
            go_upto_region 6 with (fail)
            go_region
            clear q0 f0 hlow
            generalize World.drew _ = W8 at *
            have hv2 : (((b + 5 * (a / 67108864) : Nat)) : Int) = (b : Int) + 5 * ((a : Int) / 67108864) := by omega
            have hq2 := HQ1.out.set_ 0 (b + 5 * (a / 67108864))
            have hg2 := grown_set HG1.out 0 (.int .u64 ((b + 5 * (a / 67108864) : Nat) : Int))
            rw [← Hlo.out, ← hstep.h, hv2] at hq2
            rw [hv2] at hg2
            have HQ2 := Lib.hid hq2.drew
            have HG2 := Lib.hid (grown_drew hg2)
            clear hq2 hg2 hv2 HQ1 HG1
            go_upto_region 8 with (fail)
            go_region
            clear q1 f1
            generalize World.drew _ = W9 at *
            go_wp2
            go_roundw
            case rel => exact ⟨4 + 1, by omega, by go_num, HQ2.out, HG2.out⟩
            case measure => simp [intOf]
        · obtain rfl : i = 5 := by omega
          rw [show ((5 : Nat) : Int) = 5 from rfl]
          rw [← HNX.h] at hQ
          have hT := hQ
          obtain ⟨T, hTe⟩ : ∃ T, cars h0 (r + 1) = T := ⟨_, rfl⟩
          have HTe : EN (cars h0 (r + 1)) T := ⟨hTe⟩
          rw [hTe] at hT
          have HT := Lib.hid hT
          have HGq := Lib.hid hgq
          clear hQ hT hTe hgq HX HG
          go_wp2
          go_roundw
          case rel => exact ⟨r + 1, by omega, by go_num, by rw [HTe.h]; exact HT.out, HGq.out⟩
          case measure => simp [intOf]; omega
    · obtain rfl : r = 2 := by omega
      have HX := Lib.hid hX
      have HG := Lib.hid hg
      clear hX hg
      go_wp2
      go_end0
      exact ⟨rfl, HX.out, HG.out⟩
end Go.Proofs.Ytlncnjcbgfeaoaa
