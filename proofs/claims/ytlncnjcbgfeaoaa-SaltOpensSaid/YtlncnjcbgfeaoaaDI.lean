/- the reference's fill. -/
import Derived.Test.YtlncnjcbgfeaoaaCB
import Derived.Test.YtlncnjcbgfeaoaaDU
set_option maxRecDepth 100000
set_option linter.unusedVariables false
namespace Go.Proofs.Ytlncnjcbgfeaoaa
open Go.RowKit
set_option maxHeartbeats 4000000 in
theorem rfill_any (w : World) (base : Nat) {a : Option Addr} {n c : Nat} {xs : List UInt8} (ho : OW w base 5 1 a n c (xs.map B)) (hbase : base ≤ w.heap.size) (hn : n ≤ 1099511627776) :
    Calls Try.prog 42 #[.slice a n c] w fun e w' => ∃ a' c', e = .returned (.slice a' (n + padN n) c') ∧ OW w' base 5 1 a' (n + padN n) c' ((xs ++ List.replicate (padN n) 0).map B) ∧ Below base w w' := by
  have HO0 := Lib.hid ho
  obtain ⟨N, hN⟩ : ∃ N, padN n = N := ⟨_, rfl⟩
  have hN16 : N < 16 := by unfold padN at hN; omega
  have hNm : (n + N) % 16 = 0 := by unfold padN at hN; omega
  have hlow : ∀ k, k < N → (n + k) % 16 ≠ 0 := by intro k hk; unfold padN at hN; omega
  have Hlow := Lib.hid hlow
  rw [hN]
  clear hN ho hlow
  go_enter Try.func42, Try.ntmps42
  go_wp2
  go_loopw [0] (fun s0 wr => ∃ (k : Nat) (a : Option Addr) (c : Nat), k ≤ N ∧ s0 = .slice a (n + k) c ∧ OW wr base 5 1 a (n + k) c ((xs ++ List.replicate k 0).map B) ∧ Below base w wr) (fun s0 _ => n + 16 - lenV s0)
  case atStart => exact ⟨0, a, c, by omega, rfl, by simpa using HO0.out, Below.refl _ _⟩
  case round =>
    obtain ⟨k, a', c', hk, rfl, ho, hb⟩ := hrel
    obtain ⟨m, hm⟩ : ∃ m, n + k = m := ⟨_, rfl⟩
    rw [hm] at ho ⊢
    obtain ⟨r, hr⟩ : ∃ r, m % 16 = r := ⟨_, rfl⟩
    have hrt : (m : Int).tmod 16 = (r : Int) := by rw [Int.tmod_eq_emod_of_nonneg (by omega)]; omega
    have hsz : base ≤ wr.heap.size := Nat.le_trans hbase hb.size
    have hlen := ho.rs.le
    by_cases hlt : k < N
    · have hr0 : r ≠ 0 := by have := Hlow.out k hlt; omega
      have hm2 : m ≤ 1099511627800 := by omega
      have HO := Lib.hid ho
      have HB := Lib.hid hb
      have Hm := Lib.hid hm
      clear ho hb hr hm HO0
      go_wp2_with (at_builtin; refine L_append tB (OW.alloc HO.out _) (RS_one _ _ _ rfl) _ _ rfl rfl rfl rfl (by omega) (by unfold maxLen; omega) (by simp; omega) ?_; intro a5 c5 w5 o5 g5)
      have B5 := Lib.hid ((HB.out.alloc hsz _).grown g5 (by simp; omega) (row_le (fun ad ha => (HO.out.base_le ha).1) (Nat.le_refl _)))
      have O5 := Lib.hid (show OW w5 base 5 1 a5 (n + (k + 1)) c5 ((xs ++ List.replicate (k + 1) 0).map B) by
        rw [show n + (k + 1) = m + 1 by have := Hm.out; omega, List.replicate_succ', ← List.append_assoc, List.map_append]; exact o5)
      clear o5 g5
      go_roundw
      case rel => exact ⟨k + 1, a5, c5, by omega, by rw [← Nat.add_assoc, Hm.out], O5.out, B5.out⟩
      case measure => have := Hm.out; simp [lenV]; omega
    · have hkN : k = N := by omega
      subst hkN
      have hr0 : r = 0 := by omega
      subst hr0
      rw [← hm] at ho ⊢
      have HO := Lib.hid ho
      have HB := Lib.hid hb
      clear ho hb hr HO0 Hlow
      go_wp2
      go_ret
      exact ⟨_, _, rfl, HO.out, HB.out⟩
end Go.Proofs.Ytlncnjcbgfeaoaa
