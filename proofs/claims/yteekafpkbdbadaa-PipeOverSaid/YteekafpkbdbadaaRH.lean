/- law12.PipeOver: its walk. -/
import Derived.Test.YteekafpkbdbadaaRG
import Derived.Test.YteekafpkbdbadaaA1
set_option maxRecDepth 100000
set_option linter.unusedVariables false
namespace Go.Proofs.Yteekafpkbdbadaa.Pi
open Go.RowKit
set_option maxHeartbeats 8000000 in
theorem pipeOver_nat (W : World) (m r : Nat) (hm : m < 256) (hr : r < 256) :
    Calls Try.prog 6 #[.int .u8 (m : Int), .int .u8 (r : Int)] W fun e w' => e = .returned (.bool true) ∧ Below W.heap.size W w' := by
  obtain ⟨a, ha⟩ : ∃ a, m % 5 = a := ⟨_, rfl⟩
  obtain ⟨n, hn⟩ : ∃ n, 1 + a = n := ⟨_, rfl⟩
  obtain ⟨b, hb⟩ : ∃ b, r % 20 = b := ⟨_, rfl⟩
  obtain ⟨E, hE⟩ : ∃ E, n + b = E := ⟨_, rfl⟩
  have e1 : (m : Int) % 5 = (a : Int) := by omega
  have e2 : (r : Int) % 20 = (b : Int) := by omega
  have g1 : (1 : Int) + (a : Int) = (n : Int) := by omega
  have g2 : (n : Int) + (b : Int) = (E : Int) := by omega
  have f1 : IntKind.u64.wrap (a : Int) = (a : Int) := IntWalk.u64_in _ (by omega)
  have f2 : IntKind.u64.wrap (b : Int) = (b : Int) := IntWalk.u64_in _ (by omega)
  have f3 : IntKind.u64.wrap (n : Int) = (n : Int) := IntWalk.u64_in _ (by omega)
  have f4 : IntKind.u64.wrap (E : Int) = (E : Int) := IntWalk.u64_in _ (by omega)
  have f5 : IntKind.i64.wrap (n : Int) = (n : Int) := IntWalk.i64_in _ (by omega)
  have HBD := Lib.hid (show 0 < n ∧ n ≤ 5 ∧ b < 20 ∧ n + b = E by omega)
  clear ha hn hb hE hm hr
  have hcv := fun (W : World) (C : Array Value) (n c : Nat) => Lib.run_convert_bytes_const (P := Try.prog) W 34 5 C n c Try.underlying34 Try.underlying5
  have HNW := Lib.hid (fun (x : World) => (new_any x true 100 1048576 0 n : Calls Try.prog 8 #[.bool true, .agg #[.int .u64 100, .int .u64 1048576, .int .u64 0, .int .u64 (n : Int)]] x _))
  go_enter Try.func6, Try.ntmps6
  go_upto_region 5 with (first
    | (go_at_call 7; refine (awake12 W).mono ?_; rintro x w1 ⟨rfl, B1⟩)
    | (go_at_call 8; refine (HNW.out w1).mono ?_; rintro x w2 ⟨g, role, Y, rfl, z2, y2, b2, r2⟩))
  have M2 := (⟨B1.trans (b2.mono B1.size), fun k hk => Nat.le_trans B1.size (r2 k hk)⟩ : MB W w2 role)
  have HL2 := Lib.hid (⟨role, _, Y, z2, PV.start n HBD.out.2.1, Nat.le_of_eq y2, M2⟩ : LV W w2 g n 0 0)
  clear B1 z2 y2 b2 r2 M2
  go_upto_region 6 with (fail)
  try rw [e2]
  try simp only [f2]
  go_loopw [28] (fun s28 wr => ∃ i : Nat, i ≤ E ∧ s28 = .int .u64 (i : Int) ∧ LV W wr g n i i) (fun s28 _ => E - (intOf s28).toNat)
  case atStart => exact ⟨0, Nat.zero_le _, rfl, HL2.out⟩
  case round =>
    obtain ⟨i, hi, rfl, hl⟩ := hrel
    have HL := Lib.hid hl
    have HI := Lib.hid hi
    clear hl hi
    by_cases hlt : i < E
    · have t1 : decide ((i : Int) < (E : Int)) = true := decide_eq_true (by omega)
      have t2 : decide (i < E) = true := decide_eq_true hlt
      have HLT := Lib.hid hlt
      obtain ⟨I1, hI1⟩ : ∃ q, i + 1 = q := ⟨_, rfl⟩
      obtain ⟨F, hF⟩ : ∃ q, 4 * i = q := ⟨_, rfl⟩
      obtain ⟨D, hD⟩ : ∃ q, F + 2 = q := ⟨_, rfl⟩
      have n1 : (i : Int) + 1 = (I1 : Int) := by omega
      have n2 : IntKind.u64.wrap (I1 : Int) = (I1 : Int) := IntWalk.u64_in _ (by have := HBD.out; omega)
      have d1 : (4 : Int) * (i : Int) = (F : Int) := by omega
      have d2 : IntKind.u64.wrap (F : Int) = (F : Int) := IntWalk.u64_in _ (by have := HBD.out; omega)
      have d3 : (F : Int) + 2 = (D : Int) := by omega
      have d4 : IntKind.u64.wrap (D : Int) = (D : Int) := IntWalk.u64_in _ (by have := HBD.out; omega)
      have HI1 := Lib.hid hI1
      have HD := Lib.hid (show 4 * i + 2 = D by omega)
      clear hI1 hF hD
      by_cases hin : n ≤ i
      · have t3 : decide ((n : Int) ≤ (i : Int)) = true := decide_eq_true (by omega)
        have t4 : decide (n ≤ i) = true := decide_eq_true hin
        obtain ⟨o, ho⟩ : ∃ q, i - n = q := ⟨_, rfl⟩
        obtain ⟨G, hG⟩ : ∃ q, 4 * o = q := ⟨_, rfl⟩
        obtain ⟨O, hO⟩ : ∃ q, G + 2 = q := ⟨_, rfl⟩
        have o1 : (i : Int) - (n : Int) = (o : Int) := by omega
        have o2 : IntKind.u64.wrap (o : Int) = (o : Int) := IntWalk.u64_in _ (by have := HBD.out; omega)
        have o3 : (4 : Int) * (o : Int) = (G : Int) := by omega
        have o4 : IntKind.u64.wrap (G : Int) = (G : Int) := IntWalk.u64_in _ (by have := HBD.out; omega)
        have o5 : (G : Int) + 2 = (O : Int) := by omega
        have o6 : IntKind.u64.wrap (O : Int) = (O : Int) := IntWalk.u64_in _ (by have := HBD.out; omega)
        have HLI := Lib.hid (HL.out.lim hin (by have := HBD.out; omega) HD.out)
        have HRE := Lib.hid (fun (x : World) (l : LV W x g n i i) => l.read HBD.out.1 hin (by have := HBD.out; omega) (O := O) (by omega))
        unfold ptr at HLI HRE
        clear ho hG hO hin hlt
        go_upto_region 16 with (first
          | (go_at_call 11; refine HLI.out.mono ?_; rintro x w4 ⟨rfl, l4⟩; have HL4 := Lib.hid l4; clear l4)
          | (go_at_call 17; refine (HRE.out w4 HL4.out).mono ?_; rintro x w5 ⟨⟨a5, c5, rfl⟩, L5⟩))
        have HL5 := Lib.hid L5
        clear L5
        have HHE := Lib.hid (fun (x : World) (bA : Below w5.heap.size w5 x) (hb : BS x (some ⟨w5.heap.size, 0, none⟩) 1 1 [120]) => HL5.out.hear bA HBD.out.1 (by have := HBD.out; have := HLT.out; omega) HD.out hb (Nat.le_refl _))
        unfold ptr at HHE
        go_wp2_with (first
          | (go_at_call 11; refine (HHE.out _ (below_alloc w5 _) (BS_lit w5 [120] _ _ rfl 1 rfl (by decide) rfl)).mono ?_; rintro x w7 ⟨rfl, l7⟩; have HST := Lib.hid (l7.streams (by have := HBD.out; have := HLT.out; omega)); unfold ptr at HST; clear l7)
          | (go_at_call 16; refine HST.out.mono ?_; rintro x w8 ⟨⟨cc, rfl, hcc⟩, l8⟩; have HCC := Lib.hid hcc; have HL8 := Lib.hid l8; have z1 : decide ((n : Int) < (cc : Int)) = false := decide_eq_false (by omega); have z2 : decide (n < cc) = false := decide_eq_false (by omega); clear hcc l8))
        go_roundw
        case rel => exact ⟨I1, by have := HI1.out; have := HLT.out; omega, rfl, by rw [← HI1.out]; exact HL8.out⟩
        case measure =>
          have := HI1.out
          have := HLT.out
          unfold intOf
          simp only [Int.toNat_natCast]
          omega
      · have t3 : decide ((n : Int) ≤ (i : Int)) = false := decide_eq_false (by omega)
        have t4 : decide (n ≤ i) = false := decide_eq_false hin
        have L5 := HL.out.more (by omega)
        obtain ⟨w5, hw5⟩ : ∃ q, wr = q := ⟨_, rfl⟩
        subst hw5
        clear hin hlt
        go_upto_region 16 with (fail)
        have HL5 := Lib.hid L5
        clear L5
        have HHE := Lib.hid (fun (x : World) (bA : Below wr.heap.size wr x) (hb : BS x (some ⟨wr.heap.size, 0, none⟩) 1 1 [120]) => HL5.out.hear bA HBD.out.1 (by have := HBD.out; have := HLT.out; omega) HD.out hb (Nat.le_refl _))
        unfold ptr at HHE
        go_wp2_with (first
          | (go_at_call 11; refine (HHE.out _ (below_alloc wr _) (BS_lit wr [120] _ _ rfl 1 rfl (by decide) rfl)).mono ?_; rintro x w7 ⟨rfl, l7⟩; have HST := Lib.hid (l7.streams (by have := HBD.out; have := HLT.out; omega)); unfold ptr at HST; clear l7)
          | (go_at_call 16; refine HST.out.mono ?_; rintro x w8 ⟨⟨cc, rfl, hcc⟩, l8⟩; have HCC := Lib.hid hcc; have HL8 := Lib.hid l8; have z1 : decide ((n : Int) < (cc : Int)) = false := decide_eq_false (by omega); have z2 : decide (n < cc) = false := decide_eq_false (by omega); clear hcc l8))
        go_roundw
        case rel => exact ⟨I1, by have := HI1.out; have := HLT.out; omega, rfl, by rw [← HI1.out]; exact HL8.out⟩
        case measure =>
          have := HI1.out
          have := HLT.out
          unfold intOf
          simp only [Int.toNat_natCast]
          omega
    · have t1 : decide ((i : Int) < (E : Int)) = false := decide_eq_false (by omega)
      have t2 : decide (i < E) = false := decide_eq_false hlt
      clear hlt
      go_wp2_with fail
      go_ret
      exact ⟨rfl, HL.out.b⟩
end Go.Proofs.Yteekafpkbdbadaa.Pi
