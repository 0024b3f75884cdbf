/- ref02.Expand; and what both Expands refuse. -/
import Derived.Test.YtlncnjcbgfeaoaaDoorS5
import Derived.Test.YtlncnjcbgfeaoaaDoorG9
set_option maxRecDepth 100000
set_option linter.unusedVariables false
namespace Go.Proofs.YtlncnjcbgfeaoaaDoor
open Go.RowKit Go.Joins
set_option maxHeartbeats 4000000 in
theorem refExpand_new (w : World) {a0 a1 : Option Addr} {n0 c0 n1 c1 : Nat} {key info : List UInt8} (hk : BS w a0 n0 c0 key) (hi : BS w a1 n1 c1 info) (h0 : n0 ≤ 549755813888) (h1 : n1 ≤ 549755813888) (N : Nat) (hN : N ≤ 8160) :
    Calls Tryd.prog 50 #[.slice a0 n0 c0, .slice a1 n1 c1, .int .i64 (N : Int)] w fun e w' => ∃ a c, e = .returned (.tuple #[.slice a N c, .int .i64 0]) ∧ BS w' a N c (expS key info N) ∧ Below w.heap.size w w' ∧ ∀ ad, a = some ad → w.heap.size ≤ ad.block := by
  have Hk := Lib.hid hk
  have Hi := Lib.hid hi
  have hil := Lib.hid (BS.len hi)
  clear hk hi
  have hE0 : ER w w key info 0 none 0 none 0 0 := ⟨OW_nil _ _ _ _, RS_nil w 1, Below.refl _ _⟩
  go_enter Tryd.func50, Tryd.ntmps50
  go_wp2
  go_loopw [8, 9, 10] (fun s8 s9 s10 wr => ∃ (i : Nat) (a : Option Addr) (c : Nat) (b : Option Addr) (m k : Nat), 32 * i < N + 32 ∧ s10 = .int .u8 (((i + 1) % 256 : Nat) : Int) ∧ s8 = .slice a (32 * i) c ∧ s9 = .slice b m k ∧ ER w wr key info i a c b m k) (fun s8 _ _ _ => 8192 - lenS s8)
  case atStart => exact ⟨0, _, _, _, _, _, by omega, rfl, rfl, rfl, hE0⟩
  case round =>
    obtain ⟨i, a, c, b, m, k, hi, rfl, rfl, rfl, hE⟩ := hrel
    clear hE0
    by_cases hlt : 32 * i < N
    · have hi254 : i ≤ 254 := by omega
      have hi1 : (((i + 1) % 256 : Nat) : Int) = (i : Int) + 1 := by omega
      rw [hi1]
      have hE' := Lib.hid hE
      have hw := hE.bel
      have hsz := hw.size
      have hll := lastS_le key info i
      have hml := BS.len hE.last
      have hlr := hE.last
      have hir := RS.below Hi.out hw (Nat.le_refl _)
      have hmac : macS key (lastS key info i ++ info ++ [UInt8.ofNat (i + 1)]) = lastS key info (i + 1) := rfl
      have Hmac := Lib.hid hmac
      have hb1 : Value.int .u8 ((i : Int) + 1) = B (UInt8.ofNat (i + 1)) := by simp [B]; omega
      have Hb1 := Lib.hid hb1
      have Hw := Lib.hid hw
      clear hE hmac hb1 hi1 hw
      go_upto_region 10 with (first
        | (go_at_call 18; refine (copy_any _ hlr (by omega)).mono ?_; rintro e w2 ⟨a2, c2, rfl, o2, B2⟩; have hi2 := RS.below hir B2 (Nat.le_refl _); have hs2 := B2.size)
        | (at_builtin; refine L_append tB o2 hi2 _ _ rfl rfl rfl rfl (by omega) (by unfold maxLen; omega) (by omega) ?_; intro a3 c3 w3 o3 g3; have hs3 := g3.size)
        | (at_builtin; refine L_append tB (o3.alloc _) (RS_one _ _ _ rfl) _ _ rfl rfl rfl rfl (by omega) (by unfold maxLen; omega) (by simp; omega) ?_; intro a4 c4 w4 o4 g4; have ho4 : BS w4 a4 (m + n1 + 1) c4 (lastS key info i ++ info ++ [UInt8.ofNat (i + 1)]) := (by have := o4.rs; rw [Hb1.out, show [B (UInt8.ofNat (i + 1))] = [UInt8.ofNat (i + 1)].map B from rfl, ← List.map_append, ← List.map_append] at this; exact this); have B4 : Below wr.heap.size wr w4 := ((B2.grown g3 hs2 (row_ge (fun ad ha => (o2.base_le ha).1) (Nat.le_refl _))).alloc (by omega) _).grown g4 (by simp; omega) (row_ge (fun ad ha => (o3.base_le ha).1) (Nat.le_refl _)); have hk4 := RS.below Hk.out (btrans Hw.out B4) (Nat.le_refl _); have hs4 := B4.size)
        | (go_at_call 29; refine (refMac_any _ hk4 ho4 (by omega) (by omega)).mono ?_; rintro e w5 ⟨a5, c5, rfl, o5, B5⟩; rw [Hmac.out] at o5; have B5w := btrans B4 B5; have own5 := hE'.out.own.below B5w (Nat.le_refl _); have hs5 := B5w.size))
      have hbw5 := btrans Hw.out B5w
      clear o2 o3 o4 g3 g4 B2 hi2 ho4 hk4
      go_upto_region 8 with (at_builtin; refine L_append tB own5 o5.rs _ _ rfl rfl rfl rfl (by omega) (by unfold maxLen; omega) (by omega) ?_; intro a7 c7 w7 o7 g7)
      have hl7 : BS w7 a5 32 c5 (lastS key info (i + 1)) := RS.grown o5.rs g7 (by
        intro ad had he
        obtain ⟨ad2, h1, h2⟩ := Option.map_eq_some_iff.1 he.symm
        have h3 := (hE'.out.own.base_le h1).2
        have h4 := (o5.base_le had).1
        omega)
      have hE7 : ER w w7 key info (i + 1) a7 c7 a5 32 c5 := by
        refine ⟨?_, hl7, hbw5.grown g7 hbw5.size (row_ge (fun ad ha => (hE'.out.own.base_le ha).1) (Nat.le_refl _))⟩
        show OW w7 w.heap.size 5 1 a7 (32 * i + 32) c7 ((outS key info i ++ lastS key info (i + 1)).map B)
        rw [List.map_append]; exact o7
      have HE7 := Lib.hid hE7
      clear o7 g7 hl7 o5 own5 hE7 B5 B5w B4 hbw5
      go_wp2
      go_roundw
      case rel => exact ⟨i + 1, a7, c7, a5, 32, c5, by omega, by congr 1, rfl, rfl, HE7.out⟩
      case measure => simp [lenS]; omega
    · have hiN : (N + 31) / 32 = i := by omega
      have hbs : BS wr a (32 * i) c (outS key info i) := hE.own.rs
      have hle : N ≤ 32 * i := by omega
      have HE := Lib.hid hE
      have hres : (outS key info i).take N = expS key info N := by unfold expS; rw [hiN]
      have Hres := Lib.hid hres
      obtain ⟨ht, hts⟩ := runB_h hbs N hle
      have Ht := Lib.hid ht
      clear hE hbs hres ht hiN
      go_wp2
      go_ret2
      exact ⟨a, c, rfl, by rw [← Hres.out]; exact Ht.out, HE.out.bel, fun ad ha => (HE.out.own.base_le ha).1⟩
theorem refExpand_any (w : World) {a0 a1 : Option Addr} {n0 c0 n1 c1 : Nat} {key info : List UInt8} (hk : BS w a0 n0 c0 key) (hi : BS w a1 n1 c1 info) (h0 : n0 ≤ 549755813888) (h1 : n1 ≤ 549755813888) (N : Nat) (hN : N ≤ 8160) :
    Calls Tryd.prog 50 #[.slice a0 n0 c0, .slice a1 n1 c1, .int .i64 (N : Int)] w fun e w' => ∃ a c, e = .returned (.tuple #[.slice a N c, .int .i64 0]) ∧ BS w' a N c (expS key info N) ∧ Below w.heap.size w w' :=
  (refExpand_new w hk hi h0 h1 N hN).mono fun e w' ⟨a, c, h1, h2, h3, _⟩ => ⟨a, c, h1, h2, h3⟩
theorem refExpand_neg (w : World) (v0 v1 : Value) (N : Int) (hN : N < 0) :
    Calls Tryd.prog 50 #[v0, v1, .int .i64 N] w fun e w' => e = .returned (.tuple #[.slice none 0 0, .int .i64 1]) ∧ w' = w := by
  go_enter Tryd.func50, Tryd.ntmps50
  go_wp2
  go_ret2
  exact ⟨rfl, rfl⟩
theorem refExpand_big (w : World) (v0 v1 : Value) (N : Int) (hN : 8160 < N) :
    Calls Tryd.prog 50 #[v0, v1, .int .i64 N] w fun e w' => e = .returned (.tuple #[.slice none 0 0, .int .i64 3]) ∧ w' = w := by
  go_enter Tryd.func50, Tryd.ntmps50
  go_wp2
  go_ret2
  exact ⟨rfl, rfl⟩
theorem expand_neg (w : World) (v0 v1 : Value) (N : Int) (hN : N < 0) :
    Calls Tryd.prog 51 #[v0, v1, .int .i64 N] w fun e w' => e = .returned (.tuple #[.slice none 0 0, .int .i64 1]) ∧ w' = w := by
  go_enter Tryd.func51, Tryd.ntmps51
  go_wp2
  go_ret2
  exact ⟨rfl, rfl⟩
theorem expand_big (w : World) (v0 v1 : Value) (N : Int) (hN : 8160 < N) :
    Calls Tryd.prog 51 #[v0, v1, .int .i64 N] w fun e w' => e = .returned (.tuple #[.slice none 0 0, .int .i64 3]) ∧ w' = w := by
  go_enter Tryd.func51, Tryd.ntmps51
  go_wp2
  go_ret2
  exact ⟨rfl, rfl⟩
end Go.Proofs.YtlncnjcbgfeaoaaDoor
