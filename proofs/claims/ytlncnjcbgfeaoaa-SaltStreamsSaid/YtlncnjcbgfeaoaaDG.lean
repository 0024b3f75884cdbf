/- the reference's Stream and Mask. -/
import Derived.Test.YtlncnjcbgfeaoaaDF
set_option maxRecDepth 100000
set_option linter.unusedVariables false
namespace Go.Proofs.Ytlncnjcbgfeaoaa
open Go.RowKit
set_option maxHeartbeats 4000000 in
theorem rstream_any (w : World) {a b : Option Addr} {n c m e : Nat} {key nonce d : List UInt8} (hk : BS w a n c key) (hn : BS w b m e nonce) (hkl : key.length = 32) (hnl : nonce.length = 12) (fr : Nat) (hfr : fr < 4294967296) (N : Nat) (hN : N ≤ 65536) (hD : SM key nonce fr N d) :
    Calls Try.prog 20 #[.slice a n c, .slice b m e, .int .u32 (fr : Int), .int .i64 (N : Int)] w fun x w' => ∃ a c, x = .returned (.tuple #[.slice a N c, .int .i64 0]) ∧ OW w' w.heap.size 5 1 a N c (d.map B) ∧ Below w.heap.size w w' := by
  have HK := Lib.hid hk
  have HNn := Lib.hid hn
  clear hk hn
  go_enter Try.func20, Try.ntmps20
  go_wp2
  go_loopw [2, 10] (fun s2 s10 wr => ∃ (k : Nat) (a : Option Addr) (c : Nat), 64 * k < N + 64 ∧ s2 = .int .u32 (((fr + k) % 4294967296 : Nat) : Int) ∧ s10 = .slice a (64 * k) c ∧ OW wr w.heap.size 5 1 a (64 * k) c ((strS key nonce fr k).map B) ∧ Below w.heap.size w wr) (fun _ s10 _ => 70000 - lenV s10)
  case atStart => exact ⟨0, none, 0, by omega, by rw [Nat.add_zero, Nat.mod_eq_of_lt hfr], rfl, OW_nil _ _ _ _, Below.refl _ _⟩
  case round =>
    obtain ⟨k, a', c', hk, rfl, rfl, ho, hB⟩ := hrel
    by_cases hlt : 64 * k < N
    · have hsz := hB.size
      obtain ⟨bk, hbk⟩ := ST_ex key nonce ((fr + k) % 4294967296)
      obtain ⟨q, hq⟩ : ∃ q, (fr + k) % 4294967296 = q := ⟨_, rfl⟩
      rw [hq] at hbk ⊢
      have hq32 : q < 4294967296 := by omega
      have hstep : EB (strS key nonce fr (k + 1)) (strS key nonce fr k ++ bk) := ⟨by rw [strS, hq]; show _ ++ outC _ _ 16 = _; rw [hbk.h]⟩
      have hnq : ((q : Int) + 1) % 4294967296 = (((fr + (k + 1)) % 4294967296 : Nat) : Int) := by omega
      have Hblk := Lib.hid (rblock_any wr (RS.below HK.out hB (Nat.le_refl _)) (RS.below HNn.out hB (Nat.le_refl _)) hkl hnl q hq32 hbk)
      have Ho := Lib.hid ho
      have HB := Lib.hid hB
      obtain ⟨V, hV⟩ : ∃ V, strS key nonce fr k = V := ⟨_, rfl⟩
      rw [hV] at Ho hstep
      have Hnq := Lib.hid hnq
      clear hq hbk ho hB hV hnq
      go_wp2_with (first
        | (go_at_call 36; refine Hblk.out.mono ?_; rintro x w2 ⟨a2, c2, rfl, o2, B2⟩)
        | (at_builtin; refine L_append tB (Ho.out.below B2 (Nat.le_refl _)) o2.rs _ _ rfl rfl rfl rfl (by omega) (by unfold maxLen; omega) (by have := B2.size; omega) ?_; intro a4 c4 w4 o4 g4))
      have hb2 := HB.out.trans (B2.mono hsz)
      have hb4 := Lib.hid (hb2.grown g4 hb2.size (row_le (fun ad ha => (Ho.out.base_le ha).1) (Nat.le_refl _)))
      have O4 := Lib.hid (show OW w4 w.heap.size 5 1 a4 (64 * (k + 1)) c4 ((strS key nonce fr (k + 1)).map B) by rw [hstep.h, List.map_append]; exact o4)
      clear o4 g4 o2 B2 hb2
      go_roundw
      case rel => exact ⟨k + 1, a4, c4, by omega, by rw [← Hnq.out], rfl, O4.out, hb4.out⟩
      case measure => simp [lenV]; omega
    · have hkN : (N + 63) / 64 = k := by omega
      have hres := hD.h
      rw [hkN] at hres
      have hh := ho.head N (by omega)
      rw [Nat.mul_one, ← List.map_take, hres] at hh
      have HO := Lib.hid ho
      have HH := Lib.hid hh
      have HB := Lib.hid hB
      clear ho hB hres hkN hh
      go_wp2_with (refine L_slice_h tB HO.out.rs N _ _ rfl rfl _ _ rfl rfl rfl (by omega) ?_; intro hb6)
      go_ret2
      exact ⟨_, _, rfl, HH.out, HB.out⟩
theorem rstream_neg (w : World) (v1 v2 v3 : Value) (N : Int) (hN : N < 0) :
    Calls Try.prog 20 #[v1, v2, v3, .int .i64 N] w fun e w' => e = .returned (.tuple #[.slice none 0 0, .int .i64 1]) ∧ Below w.heap.size w w' := by
  go_enter Try.func20, Try.ntmps20
  go_wp2
  go_ret2
  exact ⟨rfl, Below.refl _ _⟩
theorem rstream_big (w : World) (v1 v2 v3 : Value) (N : Int) (hN : 65536 < N) :
    Calls Try.prog 20 #[v1, v2, v3, .int .i64 N] w fun e w' => e = .returned (.tuple #[.slice none 0 0, .int .i64 3]) ∧ Below w.heap.size w w' := by
  go_enter Try.func20, Try.ntmps20
  go_wp2
  go_ret2
  exact ⟨rfl, Below.refl _ _⟩
end Go.Proofs.Ytlncnjcbgfeaoaa
