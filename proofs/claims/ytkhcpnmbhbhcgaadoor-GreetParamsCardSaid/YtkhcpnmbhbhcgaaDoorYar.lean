/- ref02.Sum: SHA-256 by the document. -/
import Derived.Test.YtkhcpnmbhbhcgaaDoorYao
import Derived.Test.YtkhcpnmbhbhcgaaDoorYaq
import Derived.StillTailTactics
import Derived.Deep.RegionHeld3
set_option maxRecDepth 100000
set_option linter.unusedVariables false
namespace Go.Proofs.YtkhcpnmbhbhcgaaDoor
open Go.RowKit
theorem runB_lb {W0 : World} {a : Option Addr} {n c : Nat} {xs : List UInt8} (hx : BS W0 a n c xs) (i : Nat) (hi : i ≤ n) :
    ∃ a', BS W0 a' (n - i) (c - i) (xs.drop i) ∧ (∀ ad, a' = some ad → ∃ ad0, a = some ad0 ∧ ad0.block = ad.block) ∧ ∀ W, (Instr.slice 22 (.slice a n c) (some (.int .i64 (i : Int))) none none).run Tryd.prog W = .ok (.slice a' (n - i) (c - i)) W := by
  have hle := RS.le hx
  have h := RS.cut hx i n c hi (Nat.le_refl _) hle (Nat.le_refl _)
  refine ⟨if c = i then a else a.map (·.add (i * 1)), ?_, ?_, fun W => ?_⟩
  · have e : ((xs.map B).drop (i * 1)).take ((n - i) * 1) = (xs.drop i).map B := by
      have hl := BS.len hx
      rw [List.take_of_length_le (by simp; omega), Nat.mul_one, List.map_drop]
    rw [e] at h
    exact h
  · intro ad h1
    split at h1
    · exact ⟨ad, h1, rfl⟩
    · obtain ⟨x, hx1, hx2⟩ := Option.map_eq_some_iff.1 h1
      exact ⟨x, hx1, by rw [← hx2]; unfold Addr.add; split <;> rfl⟩
  · have hz : (Go.sizeOf (Tryd.prog.elem 22)).run Tryd.prog W = .ok 1 W := tB.sizeOf
    rw [run_slice_l W 22 _ _ _ tB.und' .i64 _ (by omega) (by omega), hz]
    simp only [Result.andThen, Int.toNat_natCast]
    unfold sliced
    by_cases h0 : c = i
    · simp [h0]
    · cases a <;> simp [h0]
theorem word4 (x : Nat) (h : x < 4294967296) : #[Value.int .u8 ((x : Int) / 16777216), .int .u8 (((x : Int) / 65536) % 256), .int .u8 (((x : Int) / 256) % 256), .int .u8 ((x : Int) % 256)].toList = (wordB x).map B := by
  simp [wordB, B]
  omega
set_option maxHeartbeats 8000000 in
theorem refSum_any (w : World) {a : Option Addr} {n c : Nat} (p : List UInt8) (hx : BS w a n c p) (hn : n ≤ 1099511627776) :
    Calls Tryd.prog 28 #[.slice a n c] w fun e w' => ∃ a' c', e = .returned (.slice a' 32 c') ∧ OW w' w.heap.size 5 1 a' 32 c' ((shaS p).map B) ∧ Below w.heap.size w w' := by
  have HX := Lib.hid hx
  have hpl := BS.len hx
  clear hx
  go_enter Tryd.func28, Tryd.ntmps28
  go_upto_region 3 with (go_at_call 48; refine (primes_any 64 (by omega) _).mono ?_; rintro e w1 ⟨a1, c1, rfl, o1, B1⟩)
  have hr1 := o1.rs
  have hsz1 := B1.size
  clear o1
  go_loopw [3, 34] (fun s3 s34 wr => ∃ (j : Nat) (a : Option Addr) (c : Nat), j ≤ 64 ∧ s34 = .int .i64 (j : Int) ∧ s3 = .slice a j c ∧ OW wr w1.heap.size 105 1 a j c ((kS.take j).map U) ∧ Below w1.heap.size w1 wr) (fun _ s34 _ => 64 - (intOf s34).toNat)
  case atStart => exact ⟨0, none, 0, by omega, rfl, rfl, OW_nil _ _ _ _, Below.refl _ _⟩
  case round =>
    obtain ⟨j, a2, c2, hj, rfl, rfl, o2, B2⟩ := hrel
    by_cases hlt : j < 64
    · as_aux_lemma =>
      obtain ⟨q, hq⟩ : ∃ q, ((prAcc 312).take 64)[j]? = some q := ⟨_, List.getElem?_eq_getElem (by rw [List.length_take, prAcc_312]; omega)⟩
      have hq312 := prAcc_lt q (List.mem_of_mem_take (List.mem_of_getElem? hq))
      have hrr := RS.below hr1 B2 (Nat.le_refl _)
      have hc : (((prAcc 312).take 64).map UL)[j]? = some (.int .u64 (q : Int)) := by rw [List.getElem?_map, hq]; rfl
      have hk : (kS.take j).map U ++ [.int .u32 ((cubeS q : Nat) : Int)] = (kS.take (j + 1)).map U := by
        rw [List.take_add_one, kS_eq, List.getElem?_map, hq]; simp [U]
      have Hk := Lib.hid hk
      have Ho := Lib.hid o2
      have hsz2 := B2.size
      have HB := Lib.hid B2
      clear hq hk o2 B2 hr1
      go_wp2_with (first
        | (refine L_index tL hrr _ _ rfl rfl _ _ rfl rfl (by omega) (by omega) _ (by simpa using hc) ?_; intro qq hqq)
        | (go_at_call 49; refine (cube_any q (by omega) _).mono ?_; rintro e w' ⟨rfl, rfl⟩)
        | (at_builtin; refine L_append tU (Ho.out.alloc _) (RS_one _ _ _ rfl) _ _ rfl rfl rfl rfl (by omega) (by unfold maxLen; omega) (by simp; omega) ?_; intro a3 c3 w3 o3 g3; have B3 := (HB.out.alloc hsz2 _).grown g3 (by simp; omega) (row_ge (fun ad ha => (Ho.out.base_le ha).1) (Nat.le_refl _)); rw [Hk.out] at o3))
      go_roundw
      case rel => exact ⟨j + 1, a3, c3, by omega, by go_num, rfl, o3, B3⟩
      case measure => simp [intOf]; omega
    · obtain rfl : j = 64 := by omega
      rw [show ((64 : Nat) : Int) = 64 from rfl]
      rw [List.take_of_length_le (by rw [kS_len]; omega)] at o2
      have B2w := btrans2 B1 B2
      have Ok := Lib.hid o2
      obtain ⟨W2, rfl⟩ : ∃ W2, W2 = wr := ⟨wr, rfl⟩
      have HB2 := Lib.hid B2w
      clear o2 B2 hr1 B2w B1
      go_upto_region 9 with (go_at_call 48; refine (primes_any 8 (by omega) _).mono ?_; rintro e w3 ⟨a3, c3, rfl, o3, B3⟩)
      have hr3 := o3.rs
      have hB3w := btrans2 HB2.out B3
      have HB3 := Lib.hid hB3w
      have hsz3 := B3.size
      have Hk3 := Lib.hid (RS.below Ok.out.rs B3 (Nat.le_refl _))
      clear o3 B3 hB3w
      go_loopw [6, 46] (fun s6 s46 wr => ∃ (j : Nat) (a : Option Addr) (c : Nat), j ≤ 8 ∧ s46 = .int .i64 (j : Int) ∧ s6 = .slice a j c ∧ OW wr w3.heap.size 105 1 a j c ((hS.take j).map U) ∧ Below w3.heap.size w3 wr) (fun _ s46 _ => 8 - (intOf s46).toNat)
      case atStart => exact ⟨0, none, 0, by omega, rfl, rfl, OW_nil _ _ _ _, Below.refl _ _⟩
      case round =>
        obtain ⟨j, a4, c4, hj, rfl, rfl, o4, B4⟩ := hrel
        by_cases hlt : j < 8
        · as_aux_lemma =>
          obtain ⟨q, hq⟩ : ∃ q, ((prAcc 312).take 8)[j]? = some q := ⟨_, List.getElem?_eq_getElem (by rw [List.length_take, prAcc_312]; omega)⟩
          have hq312 := prAcc_lt q (List.mem_of_mem_take (List.mem_of_getElem? hq))
          have hrr := RS.below hr3 B4 (Nat.le_refl _)
          have hc : (((prAcc 312).take 8).map UL)[j]? = some (.int .u64 (q : Int)) := by rw [List.getElem?_map, hq]; rfl
          have hk : (hS.take j).map U ++ [.int .u32 ((squareS q : Nat) : Int)] = (hS.take (j + 1)).map U := by
            rw [List.take_add_one, hS_eq2, List.getElem?_map, hq]; simp [U]
          have Hk := Lib.hid hk
          have Ho := Lib.hid o4
          have hsz4 := B4.size
          have HB := Lib.hid B4
          clear hq hk o4 B4 hr3
          go_wp2_with (first
            | (refine L_index tL hrr _ _ rfl rfl _ _ rfl rfl (by omega) (by omega) _ (by simpa using hc) ?_; intro qq hqq)
            | (go_at_call 50; refine (square_any q (by omega) _).mono ?_; rintro e w' ⟨rfl, rfl⟩)
            | (at_builtin; refine L_append tU (Ho.out.alloc _) (RS_one _ _ _ rfl) _ _ rfl rfl rfl rfl (by omega) (by unfold maxLen; omega) (by simp; omega) ?_; intro a5 c5 w5 o5 g5; have B5 := (HB.out.alloc hsz4 _).grown g5 (by simp; omega) (row_ge (fun ad ha => (Ho.out.base_le ha).1) (Nat.le_refl _)); rw [Hk.out] at o5))
          go_roundw
          case rel => exact ⟨j + 1, a5, c5, by omega, by go_num, rfl, o5, B5⟩
          case measure => simp [intOf]; omega
        · obtain rfl : j = 8 := by omega
          rw [show ((8 : Nat) : Int) = 8 from rfl]
          rw [List.take_of_length_le (by rw [hS_len]; omega)] at o4
          obtain ⟨W4, rfl⟩ : ∃ W4, W4 = wr := ⟨wr, rfl⟩
          have hB4 := btrans2 HB3.out B4
          have hk4 := RS.below Hk3.out B4 (Nat.le_refl _)
          have hsz4 := B4.size
          rcases o4.shape with ⟨_, h0, _⟩ | ⟨gs, cur, rfl, hgs1, hgs2, -⟩
          · omega
          have hx4 := RS.below HX.out hB4 (Nat.le_refl _)
          have Ho4 := Lib.hid o4
          have HB4 := Lib.hid hB4
          have Hk4 := Lib.hid hk4
          obtain ⟨L, hL⟩ : ∃ L, n = L := ⟨_, rfl⟩
          subst hL
          clear o4 B4 hB4 hk4 hr3
          go_upto_region 15 with (first
            | (go_at_call 20; refine (copy_any _ hx4 (by omega)).mono ?_; rintro e w6 ⟨a6, c6, rfl, o6, B6⟩; have hs6 := B6.size)
            | (at_builtin; refine L_append tB (o6.alloc _) (RS_one _ _ _ rfl) _ _ rfl rfl rfl rfl (by omega) (by unfold maxLen; omega) (by simp; omega) ?_; intro a7 c7 w7 o7 g7))
          have B7 : Below W4.heap.size W4 w7 := (B6.alloc hs6 _).grown g7 (by simp; omega) (row_ge (fun ad ha => (o6.base_le ha).1) (Nat.le_refl _))
          have o7' : OW w7 W4.heap.size 5 1 a7 (n + 1) c7 ((p ++ [128] ++ List.replicate 0 0).map B) := (show (p ++ [128] ++ List.replicate 0 0).map B = p.map B ++ [.int .u8 128] by simp [B]) ▸ o7
          clear o7 g7 o6 B6 hs6 hx4
          go_loopw [10] (fun s10 wr => ∃ (z : Nat) (a : Option Addr) (c : Nat), z ≤ zerosN n ∧ s10 = .slice a (n + 1 + z) c ∧ OW wr W4.heap.size 5 1 a (n + 1 + z) c ((p ++ [128] ++ List.replicate z 0).map B) ∧ Below W4.heap.size W4 wr) (fun s10 _ => n + 65 - lenS s10)
          case atStart => exact ⟨0, a7, c7, by omega, rfl, o7', B7⟩
          case round =>
            obtain ⟨z, a8, c8, hz, rfl, o8, B8⟩ := hrel
            have hz64 : z ≤ 63 := by unfold zerosN at hz; omega
            by_cases hlt : (n + 1 + z) % 64 = 56
            · obtain rfl : z = zerosN n := by unfold zerosN at hz ⊢; omega
              have heq : (((n : Int) + 1 + ((zerosN n : Nat) : Int)) % 64) = 56 := by omega
              obtain ⟨Z, hZ⟩ : ∃ Z, zerosN n = Z := ⟨_, rfl⟩
              have HZ := Lib.hid hZ
              rw [hZ] at o8 heq hz64 ⊢
              obtain ⟨m0, hm0⟩ : ∃ m0, p ++ [128] ++ List.replicate Z 0 = m0 := ⟨_, rfl⟩
              have Hm0 := Lib.hid hm0
              rw [hm0] at o8
              obtain ⟨M, hM⟩ : ∃ M, n + 1 + Z = M := ⟨_, rfl⟩
              have HM := Lib.hid hM
              have hM2 : ((n : Int) + 1 + (Z : Int)) = (M : Int) := by omega
              have hMb : M ≤ 1099511627776 + 64 := by omega
              rw [hM] at o8 ⊢
              rw [hM2] at heq
              have Ho8 := Lib.hid o8
              have HB8 := Lib.hid B8
              clear hZ hm0 hM hM2 o8 B8 o7' B7 hlt
              go_wp2
              clear heq
              go_loopw [10, 71] (fun s10 s71 wr => ∃ (j : Nat) (a : Option Addr) (c : Nat), j ≤ 8 ∧ s71 = .int .i64 (j : Int) ∧ s10 = .slice a (M + j) c ∧ OW wr W4.heap.size 5 1 a (M + j) c ((m0 ++ (be8 (n * 8)).take j).map B) ∧ Below W4.heap.size W4 wr) (fun _ s71 _ => 8 - (intOf s71).toNat)
              case atStart => exact ⟨0, a8, c8, by omega, rfl, rfl, by simpa using Ho8.out, HB8.out⟩
              case round =>
                obtain ⟨j, a9, c9, hj, rfl, rfl, o9, B9⟩ := hrel
                by_cases hlt : j < 8
                · have hsz9 := B9.size
                  have Ho := Lib.hid o9
                  have HB := Lib.hid B9
                  clear o9 B9
                  have hj8 : j = 0 ∨ j = 1 ∨ j = 2 ∨ j = 3 ∨ j = 4 ∨ j = 5 ∨ j = 6 ∨ j = 7 := by omega
                  rcases hj8 with rfl | rfl | rfl | rfl | rfl | rfl | rfl | rfl
                  · as_aux_lemma =>
                    rw [show ((0 : Nat) : Int) = 0 from rfl]
                    go_wp2_with (at_builtin; refine L_append tB (Ho.out.alloc _) (RS_one _ _ _ rfl) _ _ rfl rfl rfl rfl (by omega) (by unfold maxLen; omega) (by simp; omega) ?_; intro a10 c10 w10 o10 g10; have B10 := (HB.out.alloc hsz9 _).grown g10 (by simp; omega) (row_ge (fun ad ha => (Ho.out.base_le ha).1) (Nat.le_refl _)); rw [map_snoc _ _ _ (bx (n * 8 / 72057594037927936) _ (by omega)), List.append_assoc] at o10)
                    go_roundw
                    case rel => exact ⟨0 + 1, a10, c10, by omega, rfl, rfl, o10, B10⟩
                    case measure => simp [intOf]
                  · as_aux_lemma =>
                    rw [show ((1 : Nat) : Int) = 1 from rfl]
                    go_wp2_with (at_builtin; refine L_append tB (Ho.out.alloc _) (RS_one _ _ _ rfl) _ _ rfl rfl rfl rfl (by omega) (by unfold maxLen; omega) (by simp; omega) ?_; intro a10 c10 w10 o10 g10; have B10 := (HB.out.alloc hsz9 _).grown g10 (by simp; omega) (row_ge (fun ad ha => (Ho.out.base_le ha).1) (Nat.le_refl _)); rw [map_snoc _ _ _ (bx (n * 8 / 281474976710656) _ (by omega)), List.append_assoc] at o10)
                    go_roundw
                    case rel => exact ⟨1 + 1, a10, c10, by omega, rfl, rfl, o10, B10⟩
                    case measure => simp [intOf]
                  · as_aux_lemma =>
                    rw [show ((2 : Nat) : Int) = 2 from rfl]
                    go_wp2_with (at_builtin; refine L_append tB (Ho.out.alloc _) (RS_one _ _ _ rfl) _ _ rfl rfl rfl rfl (by omega) (by unfold maxLen; omega) (by simp; omega) ?_; intro a10 c10 w10 o10 g10; have B10 := (HB.out.alloc hsz9 _).grown g10 (by simp; omega) (row_ge (fun ad ha => (Ho.out.base_le ha).1) (Nat.le_refl _)); rw [map_snoc _ _ _ (bx (n * 8 / 1099511627776) _ (by omega)), List.append_assoc] at o10)
                    go_roundw
                    case rel => exact ⟨2 + 1, a10, c10, by omega, rfl, rfl, o10, B10⟩
                    case measure => simp [intOf]
                  · as_aux_lemma =>
                    rw [show ((3 : Nat) : Int) = 3 from rfl]
                    go_wp2_with (at_builtin; refine L_append tB (Ho.out.alloc _) (RS_one _ _ _ rfl) _ _ rfl rfl rfl rfl (by omega) (by unfold maxLen; omega) (by simp; omega) ?_; intro a10 c10 w10 o10 g10; have B10 := (HB.out.alloc hsz9 _).grown g10 (by simp; omega) (row_ge (fun ad ha => (Ho.out.base_le ha).1) (Nat.le_refl _)); rw [map_snoc _ _ _ (bx (n * 8 / 4294967296) _ (by omega)), List.append_assoc] at o10)
                    go_roundw
                    case rel => exact ⟨3 + 1, a10, c10, by omega, rfl, rfl, o10, B10⟩
                    case measure => simp [intOf]
                  · as_aux_lemma =>
                    rw [show ((4 : Nat) : Int) = 4 from rfl]
                    go_wp2_with (at_builtin; refine L_append tB (Ho.out.alloc _) (RS_one _ _ _ rfl) _ _ rfl rfl rfl rfl (by omega) (by unfold maxLen; omega) (by simp; omega) ?_; intro a10 c10 w10 o10 g10; have B10 := (HB.out.alloc hsz9 _).grown g10 (by simp; omega) (row_ge (fun ad ha => (Ho.out.base_le ha).1) (Nat.le_refl _)); rw [map_snoc _ _ _ (bx (n * 8 / 16777216) _ (by omega)), List.append_assoc] at o10)
                    go_roundw
                    case rel => exact ⟨4 + 1, a10, c10, by omega, rfl, rfl, o10, B10⟩
                    case measure => simp [intOf]
                  · as_aux_lemma =>
                    rw [show ((5 : Nat) : Int) = 5 from rfl]
                    go_wp2_with (at_builtin; refine L_append tB (Ho.out.alloc _) (RS_one _ _ _ rfl) _ _ rfl rfl rfl rfl (by omega) (by unfold maxLen; omega) (by simp; omega) ?_; intro a10 c10 w10 o10 g10; have B10 := (HB.out.alloc hsz9 _).grown g10 (by simp; omega) (row_ge (fun ad ha => (Ho.out.base_le ha).1) (Nat.le_refl _)); rw [map_snoc _ _ _ (bx (n * 8 / 65536) _ (by omega)), List.append_assoc] at o10)
                    go_roundw
                    case rel => exact ⟨5 + 1, a10, c10, by omega, rfl, rfl, o10, B10⟩
                    case measure => simp [intOf]
                  · as_aux_lemma =>
                    rw [show ((6 : Nat) : Int) = 6 from rfl]
                    go_wp2_with (at_builtin; refine L_append tB (Ho.out.alloc _) (RS_one _ _ _ rfl) _ _ rfl rfl rfl rfl (by omega) (by unfold maxLen; omega) (by simp; omega) ?_; intro a10 c10 w10 o10 g10; have B10 := (HB.out.alloc hsz9 _).grown g10 (by simp; omega) (row_ge (fun ad ha => (Ho.out.base_le ha).1) (Nat.le_refl _)); rw [map_snoc _ _ _ (bx (n * 8 / 256) _ (by omega)), List.append_assoc] at o10)
                    go_roundw
                    case rel => exact ⟨6 + 1, a10, c10, by omega, rfl, rfl, o10, B10⟩
                    case measure => simp [intOf]
                  · as_aux_lemma =>
                    rw [show ((7 : Nat) : Int) = 7 from rfl]
                    go_wp2_with (at_builtin; refine L_append tB (Ho.out.alloc _) (RS_one _ _ _ rfl) _ _ rfl rfl rfl rfl (by omega) (by unfold maxLen; omega) (by simp; omega) ?_; intro a10 c10 w10 o10 g10; have B10 := (HB.out.alloc hsz9 _).grown g10 (by simp; omega) (row_ge (fun ad ha => (Ho.out.base_le ha).1) (Nat.le_refl _)); rw [map_snoc _ _ _ (bx (n * 8) _ (by omega)), List.append_assoc] at o10)
                    go_roundw
                    case rel => exact ⟨7 + 1, a10, c10, by omega, rfl, rfl, o10, B10⟩
                    case measure => simp [intOf]
                · obtain rfl : j = 8 := by omega
                  rw [show ((8 : Nat) : Int) = 8 from rfl]
                  have o9' : OW wr W4.heap.size 5 1 a9 (M + 8) c9 ((m0 ++ be8 (n * 8)).map B) := o9
                  clear o9
                  obtain ⟨W5, rfl⟩ : ∃ W5, W5 = wr := ⟨wr, rfl⟩
                  have hpad : m0 ++ be8 (n * 8) = padS p := by rw [← Hm0.out, ← HZ.out, ← hpl]; rfl
                  rw [hpad] at o9'
                  have hml : (padS p).length = M + 8 := by rw [padS_len, hpl, HZ.out, HM.out]
                  have hk0 : 64 * ((padS p).length / 64) = M + 8 := by
                    have := pad_blocks n
                    rw [HZ.out, HM.out] at this
                    rw [hml]; exact this
                  obtain ⟨m, hm⟩ : ∃ m, padS p = m := ⟨_, rfl⟩
                  rw [hm] at o9' hml hk0
                  obtain ⟨k0, hkk⟩ : ∃ k0, m.length / 64 = k0 := ⟨_, rfl⟩
                  have Hs := Lib.hid (show shaS p = (blocksS k0 hS m).flatMap wordB by rw [← hkk, ← hm]; rfl)
                  rw [hkk] at hk0
                  rw [← hk0] at o9' hml ⊢
                  have hbm : BS W5 a9 (64 * k0) c9 m := o9'.rs
                  have hne9 : ∀ ad, a9 = some ad → ad.block ≠ gs := fun ad ha => by have := (o9'.base_le ha).1; omega
                  have hst := Ho4.out.below B9 (Nat.le_refl _)
                  have hkr := RS.below Hk4.out B9 (Nat.le_refl _)
                  rcases Ok.out.shape with ⟨_, h0, _⟩ | ⟨gk, curk, rfl, hgk1, hgk2, -⟩
                  · omega
                  have hkgs : gk ≠ gs := by omega
                  have hM0 : MQr W5 W5 gs c4 w3.heap.size m k0 0 a9 (64 * k0) c9 := ⟨by omega, by omega, by simpa using hbm, hne9, hst, World.grownBy.refl W5 _⟩
                  have HB5 := Lib.hid (btrans2 HB4.out B9)
                  have hsz5 := B9.size
                  have Hkr := Lib.hid hkr
                  have hk40 : 64 * k0 ≤ 1099511627776 + 80 := by omega
                  clear hkk hm hpad hml hk0 o9' hbm hne9 hst hkr B9 Ho8 HB8 Hm0 HM HZ
                  clear hlt hj
                  go_wp2
                  go_loopw [10] (fun s10 wr => ∃ (t : Nat) (a : Option Addr) (n c : Nat), s10 = .slice a n c ∧ MQr W5 wr gs c4 w3.heap.size m k0 t a n c) (fun s10 _ => lenS s10)
                  case atStart => exact ⟨0, _, _, _, rfl, hM0⟩
                  case round =>
                    obtain ⟨t, a11, n11, c11, rfl, hMQ⟩ := hrel
                    clear hM0
                    by_cases hlt : t < k0
                    · obtain ⟨P, hP⟩ : ∃ P, (m.drop (64 * t)).take 64 = P := ⟨_, rfl⟩
                      have h64 : 64 ≤ n11 := by have := hMQ.hn; omega
                      obtain ⟨gm, om, rfl, hmc⟩ := hMQ.bs.at_ (by omega)
                      have hmgs := hMQ.ne _ rfl
                      have hnl := BS.len hMQ.bs
                      have hcl := RS.le hMQ.bs
                      have hcmx := RS.max hMQ.bs
                      unfold maxLen at hcmx
                      have hmax : n11 ≤ 1099511627776 + 80 := by have := hMQ.hn; omega
                      have HMQ := Lib.hid hMQ
                      have HP := Lib.hid hP
                      have hPc : ∀ j x, P[j]? = some x → wr.cell? ⟨gm, om + j, none⟩ = some (.int .u8 (x.toNat : Int)) := by
                        intro j x hj
                        rw [← hP, List.getElem?_take] at hj
                        split at hj
                        · have h1 := hmc j x hj
                          have h2 := World.block_lt_of_cell? _ _ h1
                          rw [World.cell?_of_block (w := W5) (hMQ.gr.block gm h2 (by simp; omega))]
                          exact h1
                        · cases hj
                      have HPc := Lib.hid hPc
                      have hPl : P.length = 64 := by rw [← hP, List.length_take]; omega
                      have HPl := Lib.hid hPl
                      have hszr := hMQ.gr.size
                      clear hMQ hP hmc hPc hnl
                      clear hPl
                      obtain ⟨W6, rfl⟩ : ∃ W6, W6 = wr := ⟨wr, rfl⟩
                      go_wp2
                      go_loopw [12, 90] (fun s12 s90 wr => ∃ (i : Nat) (a : Option Addr) (c : Nat), i ≤ 64 ∧ s90 = .int .i64 (i : Int) ∧ s12 = .slice a i c ∧ OW wr W6.heap.size 105 1 a i c ((wsAt P i).map U) ∧ Below W6.heap.size W6 wr) (fun _ s90 _ => 64 - (intOf s90).toNat)
                      case atStart => exact ⟨0, none, 0, by omega, rfl, rfl, OW_nil _ _ _ _, Below.refl _ _⟩
                      case round =>
                        obtain ⟨i, a12, c12, hi, rfl, rfl, o12, B12⟩ := hrel
                        have hsz12 := B12.size
                        by_cases hlt6 : i < 64
                        · by_cases h16 : i < 16
                          · as_aux_lemma =>
                            obtain ⟨x0, x1, x2, x3, r, hd⟩ := drop4 P i (by rw [HPl.out]; omega)
                            have hx : ∀ k x, [x0, x1, x2, x3][k]? = some x → wr.cell? ⟨gm, om + (4 * i + k), none⟩ = some (.int .u8 (x.toNat : Int)) := by
                              intro k x hk
                              have h1 : P[4 * i + k]? = some x := by
                                have hk4 : k < 4 := by have := (List.getElem?_eq_some_iff.1 hk).1; simpa using this
                                rw [← List.getElem?_drop, hd]
                                match k, hk with
                                | 0, hk => exact hk
                                | 1, hk => exact hk
                                | 2, hk => exact hk
                                | 3, hk => exact hk
                              have h2 := HPc.out _ _ h1
                              have h3 := World.block_lt_of_cell? _ _ h2
                              rw [World.cell?_of_block (w := W6) (B12.block gm h3)]
                              exact h2
                            obtain ⟨m4, hm4⟩ : ∃ m4, 4 * i = m4 := ⟨_, rfl⟩
                            have h4 : 4 * (i : Int) = (m4 : Int) := by omega
                            have hm60 : m4 ≤ 60 := by omega
                            rw [hm4] at hx
                            have q0 := hx 0 x0 rfl
                            have q1 := hx 1 x1 rfl
                            have q2 := hx 2 x2 rfl
                            have q3 := hx 3 x3 rfl
                            rw [Nat.add_zero] at q0
                            have t0 := x0.toNat_lt
                            have t1 := x1.toNat_lt
                            have t2 := x2.toNat_lt
                            have t3 := x3.toNat_lt
                            have hws := wsAt_lo P i h16
                            have Hws := Lib.hid hws
                            have Hd := Lib.hid hd
                            have Ho := Lib.hid o12
                            have HB := Lib.hid B12
                            have hgm6 : gm < W6.heap.size := by
                              have h1 : P[4 * i]? = some x0 := by
                                have := List.getElem?_drop (xs := P) (i := 4 * i) (j := 0)
                                rw [hd, Nat.add_zero] at this; exact this.symm
                              exact World.block_lt_of_cell? _ _ (HPc.out _ _ h1)
                            clear hx hm4 hws hd o12 B12
                            go_upto_region 29 with (fail)
                            have z0 : (0 : Int) ≤ (m4 : Int) := by omega
                            have z1 : (m4 : Int) < (n11 : Int) := by omega
                            have z2 : (m4 : Int) + 1 < (n11 : Int) := by omega
                            have z3 : (m4 : Int) + 2 < (n11 : Int) := by omega
                            have z4 : (m4 : Int) + 3 < (n11 : Int) := by omega
                            have y1 : (0 : Int) ≤ (m4 : Int) + 1 := by omega
                            have y2 : (0 : Int) ≤ (m4 : Int) + 2 := by omega
                            have y3 : (0 : Int) ≤ (m4 : Int) + 3 := by omega
                            have u1 : ((m4 : Int) + 1).toNat = m4 + 1 := by omega
                            have u2 : ((m4 : Int) + 2).toNat = m4 + 2 := by omega
                            have u3 : ((m4 : Int) + 3).toNat = m4 + 3 := by omega
                            have r0 : IntKind.i64.wrap (m4 : Int) = (m4 : Int) := IntWalk.i64_in _ (by omega)
                            have r1 : IntKind.i64.wrap ((m4 : Int) + 1) = (m4 : Int) + 1 := IntWalk.i64_in _ (by omega)
                            have r2 : IntKind.i64.wrap ((m4 : Int) + 2) = (m4 : Int) + 2 := IntWalk.i64_in _ (by omega)
                            have r3 : IntKind.i64.wrap ((m4 : Int) + 3) = (m4 : Int) + 3 := IntWalk.i64_in _ (by omega)
                            go_region_held3 (fun w' => w'.cell? ⟨gm, om + m4, none⟩ = some (.int .u8 (x0.toNat : Int)) ∧ w'.cell? ⟨gm, om + (m4 + 1), none⟩ = some (.int .u8 (x1.toNat : Int)) ∧ w'.cell? ⟨gm, om + (m4 + 2), none⟩ = some (.int .u8 (x2.toNat : Int)) ∧ w'.cell? ⟨gm, om + (m4 + 3), none⟩ = some (.int .u8 (x3.toNat : Int)))
                              (first | go_keep | exact ⟨(B13.cell (p := ⟨gm, om + m4, none⟩) hgm6).trans q0, (B13.cell (p := ⟨gm, om + (m4 + 1), none⟩) hgm6).trans q1, (B13.cell (p := ⟨gm, om + (m4 + 2), none⟩) hgm6).trans q2, (B13.cell (p := ⟨gm, om + (m4 + 3), none⟩) hgm6).trans q3⟩)
                              (first
                              | (refine S_append tU (OW.alloc Ho.out _) (RS_one _ _ _ rfl) _ _ rfl (by rfl) (by rfl) (by rfl) (by omega) (by unfold maxLen; omega) (by simp; omega) ?_; intro a13 c13 w13 o13 g13; have B13 : Below W6.heap.size wr w13 := ((Below.refl _ wr).alloc hsz12 _).grown g13 (by simp; omega) (row_ge (fun ad ha => (Ho.out.base_le ha).1) (Nat.le_refl _)))
                              | (refine S_append tU (OW.drew (OW.alloc Ho.out _)) (RS.drew (RS_one _ _ _ rfl)) _ _ rfl (by rfl) (by rfl) (by rfl) (by omega) (by unfold maxLen; omega) (by simp; omega) ?_; intro a13 c13 w13 o13 g13; have B13 : Below W6.heap.size wr w13 := ((Below.refl _ wr).alloc hsz12 _).drew.grown g13 (by simp; omega) (row_ge (fun ad ha => (Ho.out.base_le ha).1) (Nat.le_refl _))))
                            have hval : IntKind.u32.wrap (IntKind.u32.wrap (IntKind.u32.wrap (IntKind.u32.wrap (IntKind.u32.wrap (x0.toNat : Int) * 16777216) + IntKind.u32.wrap (IntKind.u32.wrap (x1.toNat : Int) * 65536)) + IntKind.u32.wrap (IntKind.u32.wrap (x2.toNat : Int) * 256)) + IntKind.u32.wrap (x3.toNat : Int)) = ((be4 [x0, x1, x2, x3] : Nat) : Int) := by
                              simp only [IntKind.wrap_u32']; simp [be4]; omega
                            have hw14 : (wsAt P i).map U ++ [.int .u32 ((be4 [x0, x1, x2, x3] : Nat) : Int)] = (wsAt P (i + 1)).map U := by
                              rw [Hws.out, Hd.out, List.map_append]; rfl
                            rw [hval, hw14] at o13
                            have O13 := Lib.hid o13
                            have BB := Lib.hid (HB.out.trans B13)
                            clear o13 g13 B13 hval hw14 q0 q1 q2 q3 r0 r1 r2 r3 u1 u2 u3 y1 y2 y3 z0 z1 z2 z3 z4 h4
                            go_wp2
                            go_roundw
                            case rel => exact ⟨i + 1, a13, c13, by omega, by go_num, rfl, O13.out, BB.out⟩
                            case measure => simp [intOf]; omega
                          · as_aux_lemma =>
                            rcases o12.shape with ⟨_, h0, _⟩ | ⟨ga, cura, rfl, hga1, hga2, -⟩
                            · omega
                            have c15 := o12.cell_ (i - 15) _ (wsAt_get P i (i - 15) (by omega)).1
                            have c2' := o12.cell_ (i - 2) _ (wsAt_get P i (i - 2) (by omega)).1
                            have c16 := o12.cell_ (i - 16) _ (wsAt_get P i (i - 16) (by omega)).1
                            have c7' := o12.cell_ (i - 7) _ (wsAt_get P i (i - 7) (by omega)).1
                            have l15 := (wsAt_get P i (i - 15) (by omega)).2
                            have l2 := (wsAt_get P i (i - 2) (by omega)).2
                            have l16 := (wsAt_get P i (i - 16) (by omega)).2
                            have l7 := (wsAt_get P i (i - 7) (by omega)).2
                            have v16 := (wsAt_get P i (i - 16) (by omega)).1
                            have v7 := (wsAt_get P i (i - 7) (by omega)).1
                            have hws := wsAt_more P i (by omega)
                            generalize (wsAt P i).getD (i - 16) 0 = x16 at *
                            generalize (wsAt P i).getD (i - 15) 0 = x15 at *
                            generalize (wsAt P i).getD (i - 7) 0 = x7 at *
                            generalize (wsAt P i).getD (i - 2) 0 = x2 at *
                            have Hws := Lib.hid hws
                            have Ho := Lib.hid o12
                            have HB := Lib.hid B12
                            have i15 : ((i : Int) - 15) = ((i - 15 : Nat) : Int) := by omega
                            have i16 : ((i : Int) - 16) = ((i - 16 : Nat) : Int) := by omega
                            have i7 : ((i : Int) - 7) = ((i - 7 : Nat) : Int) := by omega
                            have i2 : ((i : Int) - 2) = ((i - 2 : Nat) : Int) := by omega
                            have hcap := Ho.out.rs.le
                            clear hws o12 B12
                            go_upto_region 30 with (fail)
                            go_quiet (fail)
                            have oW9 : OW (wr.drewN nq) W6.heap.size 105 1 (some ⟨ga, 0, none⟩) i c12 ((wsAt P i).map U) := Ho.out
                            have bW9 : Below W6.heap.size W6 (wr.drewN nq) := ⟨HB.out.os, HB.out.tape, HB.out.output, HB.out.size, HB.out.block⟩
                            have c16 : (wr.drewN nq).cell? ⟨ga, i - 16, none⟩ = some (.int .u32 (x16 : Int)) := c16
                            have c7 : (wr.drewN nq).cell? ⟨ga, i - 7, none⟩ = some (.int .u32 (x7 : Int)) := c7'
                            have hszW9 : W6.heap.size ≤ (wr.drewN nq).heap.size := hsz12
                            clear c15 c2' c7' i15 i2
                            generalize wr.drewN nq = W9 at *
                            obtain ⟨j16, hj16⟩ : ∃ j16, i - 16 = j16 := ⟨_, rfl⟩
                            obtain ⟨j7, hj7⟩ : ∃ j7, i - 7 = j7 := ⟨_, rfl⟩
                            rw [hj16] at c16 i16 v16
                            rw [hj7] at c7 i7 v7
                            have V16 := Lib.hid v16
                            have V7 := Lib.hid v7
                            clear v16 v7
                            have z1 : (0 : Int) ≤ (j16 : Int) := by omega
                            have z2 : (j16 : Int) < (i : Int) := by omega
                            have z3 : (0 : Int) ≤ (j7 : Int) := by omega
                            have z4 : (j7 : Int) < (i : Int) := by omega
                            have r1 : IntKind.i64.wrap (j16 : Int) = (j16 : Int) := IntWalk.i64_in _ (by omega)
                            have r2 : IntKind.i64.wrap (j7 : Int) = (j7 : Int) := IntWalk.i64_in _ (by omega)
                            have OW9 := Lib.hid oW9
                            have BW9 := Lib.hid bW9
                            have hga9 := OW9.out.base_le rfl
                            clear hj16 hj7 oW9 bW9
                            go_upto_region 31 with (fail)
                            go_region_held3 (fun w' => w'.cell? ⟨ga, j16, none⟩ = some (.int .u32 (x16 : Int)) ∧ w'.cell? ⟨ga, j7, none⟩ = some (.int .u32 (x7 : Int)))
                              (first | go_keep | exact ⟨k13 j16 _ V16.out, k13 j7 _ V7.out⟩)
                              (first
                              | (go_at_call 51; (with_reducible refine (turn_7 _ x15 l15).mono ?_); rintro e w' ⟨rfl, rfl⟩)
                              | (go_at_call 51; (with_reducible refine (turn_18 _ x15 l15).mono ?_); rintro e w' ⟨rfl, rfl⟩)
                              | (go_at_call 51; (with_reducible refine (turn_17 _ x2 l2).mono ?_); rintro e w' ⟨rfl, rfl⟩)
                              | (go_at_call 51; (with_reducible refine (turn_19 _ x2 l2).mono ?_); rintro e w' ⟨rfl, rfl⟩)
                              | (refine S_append1 tU (OW.alloc OW9.out _) (RS_one _ _ _ rfl) _ _ rfl (by rfl) (by rfl) (by rfl) (by omega) (by unfold maxLen; omega) (by simp; omega) ?_; intro a13 c13 w13 o13 g13 k13; have B13 : Below W6.heap.size W9 w13 := ((Below.refl _ W9).alloc hszW9 _).grown g13 (by simp; omega) (by intro q hq; cases hq; omega))
                              | (refine S_append1 tU (OW.drew (OW.alloc OW9.out _)) (RS.drew (RS_one _ _ _ rfl)) _ _ rfl (by rfl) (by rfl) (by rfl) (by omega) (by unfold maxLen; omega) (by simp; omega) ?_; intro a13 c13 w13 o13 g13 k13; have B13 : Below W6.heap.size W9 w13 := ((Below.refl _ W9).alloc hszW9 _).drew.grown g13 (by simp; omega) (by intro q hq; cases hq; omega)))
                            rw [sg0_int x15 l15, sg1_int x2 l2] at o13
                            have hval : IntKind.u32.wrap (IntKind.u32.wrap (IntKind.u32.wrap ((x16 : Int) + ((sg0 x15 : Nat) : Int)) + (x7 : Int)) + ((sg1 x2 : Nat) : Int)) = (((x16 + sg0 x15 + x7 + sg1 x2) % 4294967296 : Nat) : Int) := by
                              simp only [IntKind.wrap_u32']; omega
                            have hw14 : (wsAt P i).map U ++ [.int .u32 (((x16 + sg0 x15 + x7 + sg1 x2) % 4294967296 : Nat) : Int)] = (wsAt P (i + 1)).map U := by
                              rw [Hws.out, List.map_append]; rfl
                            rw [hval, hw14] at o13
                            have O13 := Lib.hid o13
                            have BB := Lib.hid (BW9.out.trans B13)
                            clear o13 g13 B13 k13 hval hw14 c16 c7 i16 i7 r1 r2 z1 z2 z3 z4
                            go_wp2
                            go_roundw
                            case rel => exact ⟨i + 1, a13, c13, by omega, by go_num, rfl, O13.out, BB.out⟩
                            case measure => simp [intOf]; omega
                        · obtain rfl : i = 64 := by omega
                          rw [show ((64 : Nat) : Int) = 64 from rfl]
                          rw [wsAt_64] at o12
                          rcases o12.shape with ⟨_, h0, _⟩ | ⟨ga, cura, rfl, hga1, hga2, -⟩
                          · omega
                          obtain ⟨W10, rfl⟩ : ∃ W10, W10 = wr := ⟨wr, rfl⟩
                          obtain ⟨ss, hss⟩ : ∃ ss, blocksS t hS m = ss := ⟨_, rfl⟩
                          have hst := HMQ.out.st.below B12 (Nat.le_refl _)
                          rw [hss] at hst
                          have hok := foldB_ok m (List.range t)
                          rw [foldB_range, hss] at hok
                          obtain ⟨v0, v1, v2, v3, v4, v5, v6, v7, hv⟩ := eight hok.1
                          have Hst := Lib.hid hst
                          rw [hv] at hst
                          have y0 := hst.cell_ 0 _ rfl
                          have y1 := hst.cell_ 1 _ rfl
                          have y2 := hst.cell_ 2 _ rfl
                          have y3 := hst.cell_ 3 _ rfl
                          have y4 := hst.cell_ 4 _ rfl
                          have y5 := hst.cell_ 5 _ rfl
                          have y6 := hst.cell_ 6 _ rfl
                          have y7 := hst.cell_ 7 _ rfl
                          have hV0 : VQ P ss 0 [v0, v1, v2, v3, v4, v5, v6, v7] := ⟨by rw [RV_zero]; exact hv, by rw [← hv]; exact hok.2⟩
                          have hcap8 := hst.rs.le
                          have Hss := Lib.hid hss
                          have Hw12 := Lib.hid o12
                          have HB12 := Lib.hid B12
                          have Hokl := Lib.hid hok.1
                          have HV0 := Lib.hid hV0
                          clear hst hok hss o12 B12 hv hV0
                          simp only [U] at y0 y1 y2 y3 y4 y5 y6 y7
                          go_upto_region 33 with (fail)
                          go_quiet (fail)
                          have st11 : OW (W10.drewN nq) w3.heap.size 105 1 (some ⟨gs, 0, none⟩) 8 c4 (ss.map U) := Hst.out
                          have ow11 : OW (W10.drewN nq) W6.heap.size 105 1 (some ⟨ga, 0, none⟩) 64 c12 ((schedS P).map U) := Hw12.out
                          have bl11 : Below W6.heap.size W6 (W10.drewN nq) := ⟨HB12.out.os, HB12.out.tape, HB12.out.output, HB12.out.size, HB12.out.block⟩
                          clear y0 y1 y2 y3 y4 y5 y6 y7
                          generalize W10.drewN nq = W11 at *
                          have kc11 : ∀ (j x : Nat), kS[j]? = some x → W11.cell? ⟨gk, j, none⟩ = some (.int .u32 (x : Int)) := by
                            intro j x hx
                            have h1 : W5.cell? ⟨gk, j, none⟩ = some (.int .u32 (x : Int)) := by
                              have := (Hkr.out.2.2.2.2.2 ⟨gk, 0, none⟩ rfl).2 j (U x) (by rw [List.getElem?_map, hx]; rfl)
                              simpa [U] using this
                            have h2 := World.block_lt_of_cell? _ _ h1
                            have h3 : W6.cell? ⟨gk, j, none⟩ = some (.int .u32 (x : Int)) := by
                              rw [World.cell?_of_block (w := W5) (HMQ.out.gr.block gk h2 (by simp; omega))]; exact h1
                            rw [World.cell?_of_block (w := W6) (bl11.block gk (World.block_lt_of_cell? _ _ h3))]; exact h3
                          have St11 := Lib.hid st11
                          have Ow11 := Lib.hid ow11
                          have Bl11 := Lib.hid bl11
                          have Kc11 := Lib.hid kc11
                          have hkcap := Hkr.out.le
                          clear st11 ow11 bl11 kc11
                          go_wp2
                          go_loopw [16, 17, 18, 19, 20, 21, 22, 23, 198] (fun s16 s17 s18 s19 s20 s21 s22 s23 s198 wr => LR P ss W11 s16 s17 s18 s19 s20 s21 s22 s23 s198 wr) (fun _ _ _ _ _ _ _ _ s198 _ => 64 - (intOf s198).toNat)
                          case atStart => exact ⟨⟨0, 0, v0, v1, v2, v3, v4, v5, v6, v7, by omega, rfl, rfl, rfl, rfl, rfl, rfl, rfl, rfl, rfl, HV0.out, rfl⟩⟩
                          case round =>
                            clear HV0
                            obtain ⟨j, q, v0, v1, v2, v3, v4, v5, v6, v7, hj, rfl, rfl, rfl, rfl, rfl, rfl, rfl, rfl, rfl, hVQ, hwr⟩ := hrel.ex
                            clear hrel
                            by_cases hlt7 : j < 64
                            · as_aux_lemma =>
                              obtain ⟨kj, hkj⟩ : ∃ x, kS[j]? = some x := ⟨_, List.getElem?_eq_getElem (by rw [kS_len]; omega)⟩
                              obtain ⟨wj, hwj⟩ : ∃ x, (schedS P)[j]? = some x := ⟨_, List.getElem?_eq_getElem (by rw [schedS_len]; omega)⟩
                              have yk : wr.cell? ⟨gk, j, none⟩ = some (.int .u32 (kj : Int)) := by rw [hwr]; exact Kc11.out j kj hkj
                              have yw : wr.cell? ⟨ga, j, none⟩ = some (.int .u32 (wj : Int)) := by rw [hwr]; exact Ow11.out.cell_ j (U wj) (by rw [List.getElem?_map, hwj]; rfl)
                              have b0 := hVQ.lt v0 (by simp)
                              have b1 := hVQ.lt v1 (by simp)
                              have b2 := hVQ.lt v2 (by simp)
                              have b3 := hVQ.lt v3 (by simp)
                              have b4 := hVQ.lt v4 (by simp)
                              have b5 := hVQ.lt v5 (by simp)
                              have b6 := hVQ.lt v6 (by simp)
                              have b7 := hVQ.lt v7 (by simp)
                              have HKW : KW P j kj wj := ⟨hkj, hwj⟩
                              have Hwr := Lib.hid hwr
                              clear hkj hwj hwr
                              try clear Ok
                              try clear Hkr
                              try clear Kc11
                              try clear HMQ
                              try clear Hss
                              try clear Hs
                              try clear Ho4
                              try clear Hk4
                              try clear Hk3
                              try clear Hk
                              try clear Ow11
                              try clear Hw12
                              try clear St11
                              try clear Hst
                              try clear HP
                              try clear HPc
                              try clear HPl
                              try clear Hokl
                              try clear HX
                              try clear HB2
                              try clear HB3
                              try clear HB4
                              try clear HB5
                              try clear HB12
                              try clear Bl11
                              try clear hpl
                              go_upto_region 37 with (fail)
                              go_quiet (first
                                | (go_at_call 51; with_reducible exact Calls.quiet_of_same (turn_6 _ v4 b4))
                                | (go_at_call 51; with_reducible exact Calls.quiet_of_same (turn_11 _ v4 b4))
                                | (go_at_call 51; with_reducible exact Calls.quiet_of_same (turn_25 _ v4 b4)))
                              rw [Sg1_int v4 b4, ch_int3 v4 v5 v6 b4 b5 b6]
                              obtain ⟨X, hX⟩ : ∃ X, (v7 + Sg1 v4 + chS v4 v5 v6 + kj + wj) % 4294967296 = X := ⟨_, rfl⟩
                              have hXi : ((((v7 : Int) + ((Sg1 v4 : Nat) : Int) + ((chS v4 v5 v6 : Nat) : Int) + (kj : Int)) % 4294967296 + (wj : Int)) % 4294967296) = (X : Int) := by omega
                              rw [hXi]
                              have HX := Lib.hid hX
                              have hwr2 : wr.drewN nq = W11.drewN (q + nq) := by rw [Hwr.out, World.drewN_drewN]
                              have Hwr2 := Lib.hid hwr2
                              clear hX hXi yk yw hwr2
                              generalize wr.drewN nq = W12 at *
                              go_upto_region 39 with (first
                                | (go_at_call 51; (with_reducible refine (turn_2 _ v0 b0).mono ?_); rintro e w' ⟨rfl, rfl⟩)
                                | (go_at_call 51; (with_reducible refine (turn_13 _ v0 b0).mono ?_); rintro e w' ⟨rfl, rfl⟩)
                                | (go_at_call 51; (with_reducible refine (turn_22 _ v0 b0).mono ?_); rintro e w' ⟨rfl, rfl⟩))
                              rw [Sg0_int v0 b0, maj_int3 v0 v1 v2 b0 b1 b2]
                              obtain ⟨Y, hY⟩ : ∃ Y, (Sg0 v0 + majS v0 v1 v2) % 4294967296 = Y := ⟨_, rfl⟩
                              have hYi : ((((Sg0 v0 : Nat) : Int) + ((majS v0 v1 v2 : Nat) : Int)) % 4294967296) = (Y : Int) := by omega
                              rw [hYi]
                              have HN := hVQ.next HKW HX.out hY
                              clear hY hYi
                              go_wp2
                              go_roundw
                              case rel => exact ⟨⟨j + 1, q + nq, _, _, _, _, _, _, _, _, by omega, by go_num, by rw [Int.natCast_emod, Int.natCast_add]; rfl, rfl, rfl, rfl, by rw [Int.natCast_emod, Int.natCast_add]; rfl, rfl, rfl, rfl, HN, Hwr2.out⟩⟩
                              case measure => simp [intOf]; omega
                            · obtain rfl : j = 64 := by omega
                              rw [show ((64 : Nat) : Int) = 64 from rfl]
                              have hBQ := hVQ.all Hokl.out
                              have hstr : OW wr w3.heap.size 105 1 (some ⟨gs, 0, none⟩) 8 c4 (ss.map U) := by rw [hwr]; exact St11.out
                              have hblr : Below W6.heap.size W6 wr := by rw [hwr]; exact ⟨Bl11.out.os, Bl11.out.tape, Bl11.out.output, Bl11.out.size, Bl11.out.block⟩
                              have Hstr := Lib.hid hstr
                              have Hblr := Lib.hid hblr
                              have hszr8 := hblr.size
                              clear hVQ hwr hstr hblr
                              go_upto_region 42 with (fail)
                              have rs8 := RS_new wr 105 #[.int .u32 (v0 : Int), .int .u32 (v1 : Int), .int .u32 (v2 : Int), .int .u32 (v3 : Int), .int .u32 (v4 : Int), .int .u32 (v5 : Int), .int .u32 (v6 : Int), .int .u32 (v7 : Int)] 8 rfl (by omega) (by simp [Value.oneCell'])
                              have st8 := Hstr.out.alloc (.cells #[.int .u32 (v0 : Int), .int .u32 (v1 : Int), .int .u32 (v2 : Int), .int .u32 (v3 : Int), .int .u32 (v4 : Int), .int .u32 (v5 : Int), .int .u32 (v6 : Int), .int .u32 (v7 : Int)] 105)
                              have bl8 := Hblr.out.alloc hszr8 (.cells #[.int .u32 (v0 : Int), .int .u32 (v1 : Int), .int .u32 (v2 : Int), .int .u32 (v3 : Int), .int .u32 (v4 : Int), .int .u32 (v5 : Int), .int .u32 (v6 : Int), .int .u32 (v7 : Int)] 105)
                              obtain ⟨g8, hg8⟩ : ∃ g8, wr.heap.size = g8 := ⟨_, rfl⟩
                              have hgs8 : gs < g8 := by have := (Hstr.out.base_le rfl).2; omega
                              rw [hg8] at rs8 ⊢
                              generalize wr.alloc _ = W13 at *
                              have Rs8 := Lib.hid rs8
                              have Bl8 := Lib.hid bl8
                              have hcell8 : ∀ (j y : Nat), [v0, v1, v2, v3, v4, v5, v6, v7][j]? = some y → W13.cell? ⟨g8, j, none⟩ = some (.int .u32 (y : Int)) := by
                                intro j y hy
                                have := (Rs8.out.2.2.2.2.2 ⟨g8, 0, none⟩ rfl).2 j (U y) (by
                                  show ([v0, v1, v2, v3, v4, v5, v6, v7].map U)[j]? = _
                                  rw [List.getElem?_map, hy]; rfl)
                                simpa [U] using this
                              have Hcell8 := Lib.hid hcell8
                              have hm0 : OW W13 w3.heap.size 105 1 (some ⟨gs, 0, none⟩) 8 c4 ((mixW ss [v0, v1, v2, v3, v4, v5, v6, v7] 0).map U) := by rw [mixW_zero]; exact st8
                              clear rs8 st8 bl8 hcell8 hg8
                              go_loopw [273] (fun s273 wr => ∃ j : Nat, j ≤ 8 ∧ s273 = .int .i64 (j : Int) ∧ OW wr w3.heap.size 105 1 (some ⟨gs, 0, none⟩) 8 c4 ((mixW ss [v0, v1, v2, v3, v4, v5, v6, v7] j).map U) ∧ W13.grownBy wr (some gs)) (fun s273 _ => 8 - (intOf s273).toNat)
                              case atStart => exact ⟨0, by omega, rfl, hm0, World.grownBy.refl W13 _⟩
                              case round =>
                                obtain ⟨j, hj, rfl, o13, g13⟩ := hrel
                                clear hm0
                                by_cases hlt8 : j < 8
                                · as_aux_lemma =>
                                  obtain ⟨x, hx⟩ : ∃ x, ss[j]? = some x := ⟨_, List.getElem?_eq_getElem (by rw [Hokl.out]; exact hlt8)⟩
                                  obtain ⟨y, hy⟩ : ∃ y, [v0, v1, v2, v3, v4, v5, v6, v7][j]? = some y := ⟨_, List.getElem?_eq_getElem (by simpa using hlt8)⟩
                                  have q1 : wr.cell? ⟨gs, j, none⟩ = some (.int .u32 (x : Int)) := o13.cell_ j (U x) (by rw [List.getElem?_map, mixW_get _ _ _ (by rw [Hokl.out]; rfl) (by rw [Hokl.out]; omega), hx]; rfl)
                                  have q2 := o13.fr j
                                  have q3 : wr.cell? ⟨g8, j, none⟩ = some (.int .u32 (y : Int)) := by
                                    have h1 := Hcell8.out j y hy
                                    rw [World.cell?_of_block (w := W13) (g13.block g8 (World.block_lt_of_cell? _ _ h1) (by simp; omega))]; exact h1
                                  have o14 := o13.set j (U ((x + y) % 4294967296)) hlt8 rfl
                                  rw [← List.map_set, mixW_set ss _ j x y (by rw [Hokl.out]; rfl) hx hy, show U ((x + y) % 4294967296) = .int .u32 (((x : Int) + (y : Int)) % 4294967296) by unfold U; congr 1] at o14
                                  have g14 := grown_set g13 j (.int .u32 (((x : Int) + (y : Int)) % 4294967296))
                                  have O14 := Lib.hid o14
                                  have G14 := Lib.hid g14
                                  clear o13 g13 o14 g14 hx hy
                                  go_wp2
                                  go_roundw
                                  case rel => exact ⟨j + 1, by omega, by go_num, O14.out, G14.out⟩
                                  case measure => simp [intOf]; omega
                                · as_aux_lemma =>
                                  obtain rfl : j = 8 := by omega
                                  rw [show ((8 : Nat) : Int) = 8 from rfl]
                                  have hnew : OW wr w3.heap.size 105 1 (some ⟨gs, 0, none⟩) 8 c4 ((blocksS (t + 1) hS m).map U) := by
                                    rw [blocksS_snoc, Hss.out, HP.out, hBQ.h]; exact o13
                                  have hgr : W5.grownBy wr (some gs) := grown_trans (grown_below HMQ.out.gr Bl8.out) g13
                                  obtain ⟨a14, hb14, hne14, hsl⟩ := runB_lb HMQ.out.bs 64 h64
                                  have hsl' : ∀ W, (Instr.slice 22 (.slice (some ⟨gm, om, none⟩) n11 c11) (some (.int .i64 64)) none none).run Tryd.prog W = .ok (.slice a14 (n11 - 64) (c11 - 64)) W := hsl
                                  have hM1 : MQr W5 wr gs c4 w3.heap.size m k0 (t + 1) a14 (n11 - 64) (c11 - 64) := ⟨by omega, by have := HMQ.out.hn; omega, by rw [List.drop_drop] at hb14; exact hb14, fun ad ha => by obtain ⟨ad0, h1, h2⟩ := hne14 ad ha; rw [← h2]; exact HMQ.out.ne ad0 h1, hnew, hgr⟩
                                  have HM1 := Lib.hid hM1
                                  clear hM1 hnew hgr hb14 hne14 hsl hBQ o13 g13 HMQ Hss HP
                                  go_wp2
                                  go_roundw
                                  case rel => exact ⟨t + 1, _, _, _, rfl, HM1.out⟩
                                  case measure => simp [lenS]; omega
                    · as_aux_lemma =>
                      obtain rfl : t = k0 := by have := hMQ.le; omega
                      have hn0 : n11 = 0 := by have := hMQ.hn; omega
                      subst hn0
                      obtain ⟨ss, hss⟩ : ∃ ss, blocksS t hS m = ss := ⟨_, rfl⟩
                      have hst := hMQ.st
                      rw [hss] at hst
                      have hok := foldB_ok m (List.range t)
                      rw [foldB_range, hss] at hok
                      have hs2 := Hs.out
                      rw [hss] at hs2
                      have hgr := hMQ.gr
                      obtain ⟨W6, rfl⟩ : ∃ W6, W6 = wr := ⟨wr, rfl⟩
                      have hsz6 := hgr.size
                      have hb6 : Below w.heap.size w W6 := HB5.out.grown hgr (by have := HB5.out.size; omega) (by intro q hq; cases hq; have := HB3.out.size; omega)
                      have hssl := hok.1
                      have hslt := hok.2
                      have Hst := Lib.hid hst
                      have HB6 := Lib.hid hb6
                      have Hs2 := Lib.hid hs2
                      have hcap8 := hst.rs.le
                      have hgs6 := hst.base_le rfl
                      clear hMQ hst hb6 hs2 hss hok hgr Hs HB5 Hkr Ho4 Hk4 HX HB2 HB3 HB4 Ok Hk3 hlt
                      go_wp2
                      go_loopw [29, 288] (fun s29 s288 wr => ∃ (j : Nat) (a : Option Addr) (c : Nat), j ≤ 8 ∧ s288 = .int .i64 (j : Int) ∧ s29 = .slice a (4 * j) c ∧ OW wr W6.heap.size 5 1 a (4 * j) c (((ss.take j).flatMap wordB).map B) ∧ Below W6.heap.size W6 wr) (fun _ s288 _ => 8 - (intOf s288).toNat)
                      case atStart => exact ⟨0, none, 0, by omega, rfl, rfl, OW_nil _ _ _ _, Below.refl _ _⟩
                      case round =>
                        obtain ⟨j, a12, c12, hj, rfl, rfl, o12, B12⟩ := hrel
                        by_cases hlt : j < 8
                        · as_aux_lemma =>
                          obtain ⟨x, hx⟩ : ∃ x, ss[j]? = some x := ⟨_, List.getElem?_eq_getElem (by omega)⟩
                          have hx32 := hslt x (List.mem_of_getElem? hx)
                          have hc : wr.cell? ⟨gs, j, none⟩ = some (.int .u32 (x : Int)) := (B12.cell (p := ⟨gs, j, none⟩) hgs6.2).trans (Hst.out.cell_ j (U x) (by rw [List.getElem?_map, hx]; rfl))
                          have hk : ((ss.take j).flatMap wordB).map B ++ (wordB x).map B = ((ss.take (j + 1)).flatMap wordB).map B := by
                            rw [List.take_add_one, hx]; simp
                          have Hk := Lib.hid hk
                          have Hx := Lib.hid hx
                          have Ho := Lib.hid o12
                          have hsz12 := B12.size
                          have HB := Lib.hid B12
                          clear hx hk o12 B12
                          go_wp2_with (at_builtin; refine L_append tB (Ho.out.alloc _) (RS_new _ _ _ 4 rfl (by omega) (by simp [Value.oneCell'])) _ _ rfl rfl rfl rfl (by omega) (by unfold maxLen; omega) (by simp; omega) ?_; intro a13 c13 w13 o13 g13; have B13 := (HB.out.alloc hsz12 _).grown g13 (by simp; omega) (row_ge (fun ad ha => (Ho.out.base_le ha).1) (Nat.le_refl _)))
                          rw [word4 x hx32, Hk.out] at o13
                          go_roundw
                          case rel => exact ⟨j + 1, a13, c13, by omega, by go_num, rfl, o13, B13⟩
                          case measure => simp [intOf]; omega
                        · obtain rfl : j = 8 := by omega
                          rw [List.take_of_length_le (by omega), ← Hs2.out] at o12
                          have Ho := Lib.hid (o12.mono (base' := w.heap.size) (by have := HB6.out.size; omega))
                          have HBw := Lib.hid (btrans2 HB6.out B12)
                          clear o12 B12
                          go_wp2
                          go_ret
                          exact ⟨a12, c12, rfl, Ho.out, HBw.out⟩
            · as_aux_lemma =>
              have hzl : z + 1 ≤ zerosN n := by unfold zerosN at hz ⊢; omega
              have hne : ¬ ((((n : Int) + 1 + (z : Int)) % 64) = 56) := by omega
              have hsz8 := B8.size
              have Ho := Lib.hid o8
              have HB := Lib.hid B8
              clear o8 B8 hlt o7' B7
              go_wp2_with (at_builtin; refine L_append tB (Ho.out.alloc _) (RS_one _ _ _ rfl) _ _ rfl rfl rfl rfl (by omega) (by unfold maxLen; omega) (by simp; omega) ?_; intro a9 c9 w9 o9 g9; have B9 := (HB.out.alloc hsz8 _).grown g9 (by simp; omega) (row_ge (fun ad ha => (Ho.out.base_le ha).1) (Nat.le_refl _)))
              refine ⟨⟨z + 1, a9, c9, hzl, rfl, ?_, B9⟩, by simp [lenS]; omega⟩
              rw [← pad_snoc]; exact o9
end Go.Proofs.YtkhcpnmbhbhcgaaDoor
