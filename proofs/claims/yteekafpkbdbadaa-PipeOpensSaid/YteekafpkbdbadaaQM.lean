/- law12.PipeOpens: its walk. -/
import Derived.Test.YteekafpkbdbadaaQL
set_option maxRecDepth 100000
set_option linter.unusedVariables false
namespace Go.Proofs.Yteekafpkbdbadaa.Pi
open Go.RowKit
set_option maxHeartbeats 8000000 in
theorem pipeOpens_false (W : World) (bi un mo : Nat) (hb : bi < 256) (hu : un < 256) (hm : mo < 256) :
    Calls Try.prog 3 #[.bool false, .int .u8 (bi : Int), .int .u8 (un : Int), .int .u8 (mo : Int)] W fun e w' => e = .returned (.bool true) ∧ Below W.heap.size W w' := by
  obtain ⟨nb, hnb⟩ : ∃ n, bi % 20 = n := ⟨_, rfl⟩
  obtain ⟨nu, hnu⟩ : ∃ n, un % 20 = n := ⟨_, rfl⟩
  obtain ⟨m, hmm⟩ : ∃ n, mo % 30 = n := ⟨_, rfl⟩
  have e1 : (bi : Int) % 20 = (nb : Int) := by omega
  have e2 : (un : Int) % 20 = (nu : Int) := by omega
  have e3 : (mo : Int) % 30 = (m : Int) := by omega
  have f1 : IntKind.u64.wrap (nb : Int) = (nb : Int) := IntWalk.u64_in _ (by omega)
  have f2 : IntKind.u64.wrap (nu : Int) = (nu : Int) := IntWalk.u64_in _ (by omega)
  have f3 : IntKind.u64.wrap (m : Int) = (m : Int) := IntWalk.u64_in _ (by omega)
  have HBD := Lib.hid (show nb < 20 ∧ nu < 20 ∧ m < 30 by omega)
  clear hnb hnu hmm hb hu hm
  obtain ⟨P, hP⟩ : ∃ p, max nb m = p := ⟨_, rfl⟩
  obtain ⟨P1, hP1⟩ : ∃ p, P + 1 = p := ⟨_, rfl⟩
  have p1 : (P : Int) + 1 = (P1 : Int) := by omega
  have p2 : IntKind.u64.wrap (P1 : Int) = (P1 : Int) := IntWalk.u64_in _ (by have := HBD.out; omega)
  have HPa := Lib.hid (And.intro hP hP1)
  obtain ⟨Q, hQ⟩ : ∃ p, max nu m = p := ⟨_, rfl⟩
  obtain ⟨Q1, hQ1⟩ : ∃ p, Q + 1 = p := ⟨_, rfl⟩
  have p3 : (Q : Int) + 1 = (Q1 : Int) := by omega
  have p4 : IntKind.u64.wrap (Q1 : Int) = (Q1 : Int) := IntWalk.u64_in _ (by have := HBD.out; omega)
  have HPb := Lib.hid (And.intro hQ hQ1)
  clear hP hP1 hQ hQ1
  have HNW := Lib.hid (fun (x : World) => (new_any x false 0 0 0 0 : Calls Try.prog 8 #[.bool false, .agg #[.int .u64 0, .int .u64 0, .int .u64 0, .int .u64 0]] x _))
  go_enter Try.func3, Try.ntmps3
  go_upto_region 4 with (first
    | (go_at_call 7; refine (awake12 W).mono ?_; rintro x w1 ⟨rfl, B1⟩)
    | (go_at_call 8; refine (HNW.out w1).mono ?_; rintro x w2 ⟨g, role, Y, rfl, z2, y2, b2, r2⟩))
  have M2 := Lib.hid (⟨B1.trans (b2.mono B1.size), fun k hk => Nat.le_trans B1.size (r2 k hk)⟩ : MB W w2 role)
  have Z2 := Lib.hid z2
  have Y2 := Lib.hid y2
  clear B1 z2 y2 b2 r2
  have HPE := Lib.hid (fun (x : World) (z : TZ x role g (newS false 0 0 0 0) Y) => (peer_any z Y2.out 0 0 nb nu (by have := HBD.out; omega) (by have := HBD.out; omega) : Calls Try.prog 9 #[ptr g, .agg #[.int .u64 0, .int .u64 0, .int .u64 (nb : Int), .int .u64 (nu : Int)]] x _))
  go_upto_region 8 with (go_at_call 9; refine (HPE.out w2 Z2.out).mono ?_; rintro x w3 ⟨rfl, z3, t3⟩)
  have P3 := Lib.hid (PO.start (Y := Y) false nb nu HBD.out.1 HBD.out.2.1 Y2.out)
  have M3 := Lib.hid (M2.out.stq t3)
  have HRB := Lib.hid (rs_bools (w := w3) (e := 4) false true)
  have bA := below_alloc w3 (.cells #[.bool false, .bool true] 4)
  have Z3 := Lib.hid (z3.bel bA)
  have MA := Lib.hid (M3.out.bel bA)
  have HRR := Lib.hid (show role w3.heap.size = 0 from z3.top _ (Nat.le_refl _))
  obtain ⟨kb, hkb⟩ : ∃ q, w3.heap.size = q := ⟨_, rfl⟩
  obtain ⟨w4, hw4⟩ : ∃ q, w3.alloc (.cells #[.bool false, .bool true] 4) = q := ⟨_, rfl⟩
  rw [hw4] at HRB Z3 MA
  rw [hkb] at HRB HRR
  have HKB := Lib.hid (show kb < w4.heap.size by rw [← hw4, ← hkb]; simp)
  have HLa := Lib.hid (⟨role, _, Y, Z3.out, P3.out, MA.out, HRB.out, HRR.out, HKB.out⟩ : LI W w4 g kb false (fun _ => 0) (fun u => if u then nu else nb))
  clear z3 t3 bA
  go_upto_region 9 with (fail)
  clear hw4 hkb
  refine wp_loop_rounds 3 ?_
  rw [rounds_succ]
  go_upto_region 16 with (first
    | (refine L_index tBo HRB.out _ _ rfl rfl _ _ rfl rfl (by omega) (by omega) _ rfl ?_; intro q hq)
    | (refine L_max2 rfl nb m P HPa.out.1 rfl rfl (by rfl) ?_))
  clear hq
  go_loopw [57] (fun s57 wr => ∃ i : Nat, i ≤ P + 1 ∧ s57 = .int .u64 (i : Int) ∧ LI W wr g kb false (rk (fun _ => 0) false i P) (rm (fun u => if u then nu else nb) false i nb P)) (fun s57 _ => P + 1 - (intOf s57).toNat)
  case atStart => exact ⟨0, Nat.zero_le _, rfl, HLa.out.cast (fun v => by cases v <;> simp only [rk, kset_ff, kset_ft] <;> omega) (fun v => by cases v <;> simp only [rm, kset_ff, kset_ft, if_true, Bool.false_eq_true, if_false] <;> (have := HBD.out; (try split) <;> omega))⟩
  case round =>
    obtain ⟨i, hi, rfl, hli⟩ := hrel
    have HLI := Lib.hid hli
    have HI := Lib.hid hi
    clear hli hi
    by_cases hlt : i < P + 1
    · obtain ⟨I1, hI1⟩ : ∃ q, i + 1 = q := ⟨_, rfl⟩
      have n1 : (i : Int) + 1 = (I1 : Int) := by omega
      have n2 : IntKind.u64.wrap (I1 : Int) = (I1 : Int) := IntWalk.u64_in _ (by have := HBD.out; have := HPa.out; have := HPa.out; omega)
      have hil : i < 31 := by have := HBD.out; have := HPa.out; have := HPa.out; omega
      have t1 : decide ((i : Int) < (P1 : Int)) = true := decide_eq_true (by have := HPa.out; omega)
      have t2 : decide (i < P1) = true := decide_eq_true (by have := HPa.out; omega)
      obtain ⟨D, hD⟩ : ∃ D, i * 4 = D := ⟨_, rfl⟩
      have d1 : (4 : Int) * (i : Int) = (D : Int) := by omega
      have d2 : IntKind.u64.wrap (D : Int) = (D : Int) := IntWalk.u64_in _ (by omega)
      have HDD := Lib.hid (show i * 4 + lst false false = D by unfold lst; simp; omega)
      by_cases hin : nb = i
      · subst hin
        have HI1 := Lib.hid (show nb < P + 1 ∧ nb + 1 = I1 from ⟨hlt, hI1⟩)
        have HO5 := Lib.hid (LI.open_no HLI.out false (by simp only [rk, rm, kset_ff]; have := HBD.out; have := HPa.out; have := HPa.out; (try split) <;> omega))
        have HH := Lib.hid (fun (x : World) (hx : LI W x g kb false (rk (fun _ => 0) false nb P) (rm (fun u => if u then nu else nb) false nb nb P)) => hx.hear_18 m HBD.out.2.2)
        by_cases hP : nb < P
        · have HO7 := Lib.hid (fun (x : World) (hx : LI W x g kb false (rk (fun _ => 0) false nb P) (kset (rm (fun u => if u then nu else nb) false nb nb P) false (max ((rm (fun u => if u then nu else nb) false nb nb P) false) m))) => hx.open_ok false (i := nb) (by simp only [rk, kset_ff]; try omega) HDD.out (by simp only [rm, kset_ff]; have := HBD.out; have := HPa.out; have := HPa.out; (try split) <;> omega) (by simp only [rk, kset_ff, kset_ft]; have := HBD.out; have := HPa.out; have := HPa.out; (try split) <;> omega) (by simp only [rm, kset_ff]; have := HBD.out; have := HPa.out; have := HPa.out; (try split) <;> omega))
          have l1 : decide ((nb : Int) < (P : Int)) = true := decide_eq_true (by omega)
          have l2 : decide (nb < P) = true := decide_eq_true (by omega)
          have z1 : ((nb : Int) == (P : Int)) = false := by rw [beq_eq_false_iff_ne]; omega
          have z2 : ¬ (nb = P) := by omega
          have z3 : ¬ ((nb : Int) = (P : Int)) := by omega
          have z4 : (nb == P) = false := by rw [beq_eq_false_iff_ne]; omega
          clear hlt hI1 hP hil
          go_wp2_with (first
            | (go_at_call 10; refine HO5.out.mono ?_; rintro x5 w5 ⟨rfl, hl5⟩; have HL5 := Lib.hid hl5; clear hl5)
            | (go_at_call 11; refine (HH.out w5 HL5.out).mono ?_; rintro x6 w6 ⟨rfl, hl6⟩; have HL6 := Lib.hid hl6; clear hl6)
            | (go_at_call 10; refine (HO7.out w6 HL6.out).mono ?_; rintro x7 w7 ⟨rfl, hl7⟩))
          go_roundw
          case rel => exact ⟨I1, (by have := HI1.out; have := HPa.out; omega), rfl, hl7.cast (fun v => by cases v <;> simp only [rk, kset_ff, kset_ft] <;> (have := HBD.out; have := HPa.out; have := HPa.out; have := HI1.out; omega)) (fun v => by cases v <;> simp only [rm, kset_ff, kset_ft, if_true] <;> (have := HBD.out; have := HPa.out; have := HPa.out; have := HI1.out; (try split) <;> (try split) <;> omega))⟩
          case measure =>
            have := HI1.out
            have := HPa.out
            unfold intOf
            simp only [Int.toNat_natCast]
            omega
        · have HO7 := Lib.hid (fun (x : World) (hx : LI W x g kb false (rk (fun _ => 0) false nb P) (kset (rm (fun u => if u then nu else nb) false nb nb P) false (max ((rm (fun u => if u then nu else nb) false nb nb P) false) m))) => hx.open_no false (by simp only [rk, rm, kset_ff]; have := HBD.out; have := HPa.out; have := HPa.out; (try split) <;> omega))
          have hpe : nb = P := by omega
          have HPE2 := Lib.hid hpe
          have l1 : decide ((nb : Int) < (P : Int)) = false := decide_eq_false (by omega)
          have l2 : decide (nb < P) = false := decide_eq_false (by omega)
          have z1 : ((nb : Int) == (P : Int)) = true := by rw [hpe]; simp
          have z3 : (nb : Int) = (P : Int) := by omega
          clear hlt hI1 hP hil hpe z3
          go_wp2_with (first
            | (go_at_call 10; refine HO5.out.mono ?_; rintro x5 w5 ⟨rfl, hl5⟩; have HL5 := Lib.hid hl5; clear hl5)
            | (go_at_call 11; refine (HH.out w5 HL5.out).mono ?_; rintro x6 w6 ⟨rfl, hl6⟩; have HL6 := Lib.hid hl6; clear hl6)
            | (go_at_call 10; refine (HO7.out w6 HL6.out).mono ?_; rintro x7 w7 ⟨rfl, hl7⟩))
          go_roundw
          case rel => exact ⟨I1, (by have := HI1.out; have := HPE2.out; have := HPa.out; omega), rfl, hl7.cast (fun v => by cases v <;> simp only [rk, kset_ff, kset_ft] <;> (have := HBD.out; have := HPa.out; have := HPa.out; have := HI1.out; have := HPE2.out; omega)) (fun v => by cases v <;> simp only [rm, kset_ff, kset_ft, if_true] <;> (have := HBD.out; have := HPa.out; have := HPa.out; have := HI1.out; have := HPE2.out; (try split) <;> (try split) <;> omega))⟩
          case measure =>
            have := HI1.out
            have := HPa.out
            unfold intOf
            simp only [Int.toNat_natCast]
            omega
      · have HI1 := Lib.hid (show i < P + 1 ∧ i + 1 = I1 ∧ ¬ nb = i from ⟨hlt, hI1, hin⟩)
        by_cases hP : i < P
        · have HO5 := Lib.hid (LI.open_ok HLI.out false (i := i) (by simp only [rk, kset_ff]; try omega) HDD.out (by simp only [rm, kset_ff]; have := HBD.out; have := HPa.out; have := HPa.out; (try split) <;> omega) (by simp only [rk, kset_ff, kset_ft]; have := HBD.out; have := HPa.out; have := HPa.out; (try split) <;> omega) (by simp only [rm, kset_ff]; have := HBD.out; have := HPa.out; have := HPa.out; (try split) <;> omega))
          have l1 : decide ((i : Int) < (P : Int)) = true := decide_eq_true (by omega)
          have l2 : decide (i < P) = true := decide_eq_true (by omega)
          have z1 : ((i : Int) == (P : Int)) = false := by rw [beq_eq_false_iff_ne]; omega
          have z2 : ¬ (i = P) := by omega
          have z3 : ¬ ((i : Int) = (P : Int)) := by omega
          have z4 : (i == P) = false := by rw [beq_eq_false_iff_ne]; omega
          have y1 : ((i : Int) == (nb : Int)) = false := by rw [beq_eq_false_iff_ne]; omega
          have y2 : ¬ (i = nb) := by omega
          have y3 : ¬ ((i : Int) = (nb : Int)) := by omega
          have y4 : (i == nb) = false := by rw [beq_eq_false_iff_ne]; omega
          clear hlt hI1 hP hil hin
          go_wp2_with (go_at_call 10; refine HO5.out.mono ?_; rintro x5 w5 ⟨rfl, hl5⟩)
          go_roundw
          case rel => exact ⟨I1, (by have := HI1.out; have := HPa.out; omega), rfl, hl5.cast (fun v => by cases v <;> simp only [rk, kset_ff, kset_ft] <;> (have := HBD.out; have := HPa.out; have := HPa.out; have := HI1.out; omega)) (fun v => by cases v <;> simp only [rm, kset_ff, kset_ft, if_true] <;> (have := HBD.out; have := HPa.out; have := HPa.out; have := HI1.out; (try split) <;> (try split) <;> omega))⟩
          case measure =>
            have := HI1.out
            have := HPa.out
            unfold intOf
            simp only [Int.toNat_natCast]
            omega
        · have HO5 := Lib.hid (LI.open_no HLI.out false (by simp only [rk, rm, kset_ff]; have := HBD.out; have := HPa.out; have := HPa.out; (try split) <;> omega))
          have HPE2 := Lib.hid (show P = i by omega)
          have l1 : decide ((i : Int) < (P : Int)) = false := decide_eq_false (by omega)
          have l2 : decide (i < P) = false := decide_eq_false (by omega)
          have z1 : ((i : Int) == (P : Int)) = true := by rw [HPE2.out]; simp
          have y1 : ((i : Int) == (nb : Int)) = false := by rw [beq_eq_false_iff_ne]; omega
          have y2 : ¬ (i = nb) := by omega
          have y3 : ¬ ((i : Int) = (nb : Int)) := by omega
          have y4 : (i == nb) = false := by rw [beq_eq_false_iff_ne]; omega
          clear hlt hI1 hP hil hin
          go_wp2_with (go_at_call 10; refine HO5.out.mono ?_; rintro x5 w5 ⟨rfl, hl5⟩)
          go_roundw
          case rel => exact ⟨I1, (by have := HI1.out; have := HPE2.out; have := HPa.out; omega), rfl, hl5.cast (fun v => by cases v <;> simp only [rk, kset_ff, kset_ft] <;> (have := HBD.out; have := HPa.out; have := HPa.out; have := HI1.out; have := HPE2.out; omega)) (fun v => by cases v <;> simp only [rm, kset_ff, kset_ft, if_true] <;> (have := HBD.out; have := HPa.out; have := HPa.out; have := HI1.out; have := HPE2.out; (try split) <;> (try split) <;> omega))⟩
          case measure =>
            have := HI1.out
            have := HPa.out
            unfold intOf
            simp only [Int.toNat_natCast]
            omega
    · have HIE := Lib.hid (show i = P1 by have := HPa.out; have := HI.out; omega)
      have t1 : decide ((i : Int) < (P1 : Int)) = false := decide_eq_false (by have := HIE.out; omega)
      have t2 : decide (i < P1) = false := decide_eq_false (by have := HIE.out; omega)
      clear hlt
      go_wp2_with fail
      rw [rounds_succ]
      have HLb := Lib.hid (show LI W wr g kb false (rk (fun _ => 0) false P1 P) (rm (fun u => if u then nu else nb) false P1 nb P) by have hq := HLI.out; rw [HIE.out] at hq; exact hq)
      have HRB2 := Lib.hid (show RS wr 1 (some ⟨kb, 0, none⟩) 2 2 [.bool false, .bool true] by obtain ⟨r9, T9, Y9, z9, p9, m9, h9, _⟩ := HLI.out.ex; exact h9)
      clear t1 t2
      go_upto_region 16 with (first
        | (refine L_index tBo HRB2.out _ _ rfl rfl _ _ rfl rfl (by omega) (by omega) _ rfl ?_; intro q2 hq2)
        | (refine L_max2 rfl nu m Q HPb.out.1 rfl rfl (by rfl) ?_))
      clear hq2
      clear HLI HI HIE
      go_loopw [57] (fun s57 wr => ∃ i : Nat, i ≤ Q + 1 ∧ s57 = .int .u64 (i : Int) ∧ LI W wr g kb false (rk (rk (fun _ => 0) false P1 P) true i Q) (rm (rm (fun u => if u then nu else nb) false P1 nb P) true i nu Q)) (fun s57 _ => Q + 1 - (intOf s57).toNat)
      case atStart => exact ⟨0, Nat.zero_le _, rfl, HLb.out.cast (fun v => by cases v <;> simp only [rk, kset_ff, kset_ft, kset_tf, kset_tt] <;> omega) (fun v => by cases v <;> simp only [rm, kset_ff, kset_ft, kset_tf, kset_tt, if_true] <;> (have := HBD.out; (try split) <;> omega))⟩
      case round =>
        obtain ⟨i, hi, rfl, hli⟩ := hrel
        have HLI := Lib.hid hli
        have HI := Lib.hid hi
        clear hli hi
        by_cases hlt : i < Q + 1
        · obtain ⟨I1, hI1⟩ : ∃ q, i + 1 = q := ⟨_, rfl⟩
          have n1 : (i : Int) + 1 = (I1 : Int) := by omega
          have n2 : IntKind.u64.wrap (I1 : Int) = (I1 : Int) := IntWalk.u64_in _ (by have := HBD.out; have := HPa.out; have := HPb.out; omega)
          have hil : i < 31 := by have := HBD.out; have := HPa.out; have := HPb.out; omega
          have t1 : decide ((i : Int) < (Q1 : Int)) = true := decide_eq_true (by have := HPb.out; omega)
          have t2 : decide (i < Q1) = true := decide_eq_true (by have := HPb.out; omega)
          obtain ⟨F, hF⟩ : ∃ D, i * 4 = D := ⟨_, rfl⟩
          have d1 : (4 : Int) * (i : Int) = (F : Int) := by omega
          have d2 : IntKind.u64.wrap (F : Int) = (F : Int) := IntWalk.u64_in _ (by omega)
          obtain ⟨D, hD⟩ : ∃ D, F + 2 = D := ⟨_, rfl⟩
          have d3 : (F : Int) + 2 = (D : Int) := by omega
          have d4 : IntKind.u64.wrap (D : Int) = (D : Int) := IntWalk.u64_in _ (by omega)
          have HDD := Lib.hid (show i * 4 + lst false true = D by unfold lst; simp; omega)
          by_cases hin : nu = i
          · subst hin
            have HI1 := Lib.hid (show nu < Q + 1 ∧ nu + 1 = I1 from ⟨hlt, hI1⟩)
            have HO5 := Lib.hid (LI.open_no HLI.out true (by simp only [rk, rm, kset_tt]; have := HBD.out; have := HPa.out; have := HPb.out; (try split) <;> omega))
            have HH := Lib.hid (fun (x : World) (hx : LI W x g kb false (rk (rk (fun _ => 0) false P1 P) true nu Q) (rm (rm (fun u => if u then nu else nb) false P1 nb P) true nu nu Q)) => hx.hear_19 m HBD.out.2.2)
            by_cases hP : nu < Q
            · have HO7 := Lib.hid (fun (x : World) (hx : LI W x g kb false (rk (rk (fun _ => 0) false P1 P) true nu Q) (kset (rm (rm (fun u => if u then nu else nb) false P1 nb P) true nu nu Q) true (max ((rm (rm (fun u => if u then nu else nb) false P1 nb P) true nu nu Q) true) m))) => hx.open_ok true (i := nu) (by simp only [rk, kset_tt]; try omega) HDD.out (by simp only [rm, kset_tt]; have := HBD.out; have := HPa.out; have := HPb.out; (try split) <;> omega) (by simp only [rk, kset_ff, kset_tf, kset_tt]; have := HBD.out; have := HPa.out; have := HPb.out; (try split) <;> omega) (by simp only [rm, kset_tt]; have := HBD.out; have := HPa.out; have := HPb.out; (try split) <;> omega))
              have l1 : decide ((nu : Int) < (Q : Int)) = true := decide_eq_true (by omega)
              have l2 : decide (nu < Q) = true := decide_eq_true (by omega)
              have z1 : ((nu : Int) == (Q : Int)) = false := by rw [beq_eq_false_iff_ne]; omega
              have z2 : ¬ (nu = Q) := by omega
              have z3 : ¬ ((nu : Int) = (Q : Int)) := by omega
              have z4 : (nu == Q) = false := by rw [beq_eq_false_iff_ne]; omega
              clear hlt hI1 hP hil
              go_wp2_with (first
                | (go_at_call 10; refine HO5.out.mono ?_; rintro x5 w5 ⟨rfl, hl5⟩; have HL5 := Lib.hid hl5; clear hl5)
                | (go_at_call 11; refine (HH.out w5 HL5.out).mono ?_; rintro x6 w6 ⟨rfl, hl6⟩; have HL6 := Lib.hid hl6; clear hl6)
                | (go_at_call 10; refine (HO7.out w6 HL6.out).mono ?_; rintro x7 w7 ⟨rfl, hl7⟩))
              go_roundw
              case rel => exact ⟨I1, (by have := HI1.out; have := HPb.out; omega), rfl, hl7.cast (fun v => by cases v <;> simp only [rk, kset_ff, kset_tf, kset_tt] <;> (have := HBD.out; have := HPa.out; have := HPb.out; have := HI1.out; omega)) (fun v => by cases v <;> simp only [rm, kset_ff, kset_tf, kset_tt] <;> (have := HBD.out; have := HPa.out; have := HPb.out; have := HI1.out; (try split) <;> (try split) <;> omega))⟩
              case measure =>
                have := HI1.out
                have := HPb.out
                unfold intOf
                simp only [Int.toNat_natCast]
                omega
            · have HO7 := Lib.hid (fun (x : World) (hx : LI W x g kb false (rk (rk (fun _ => 0) false P1 P) true nu Q) (kset (rm (rm (fun u => if u then nu else nb) false P1 nb P) true nu nu Q) true (max ((rm (rm (fun u => if u then nu else nb) false P1 nb P) true nu nu Q) true) m))) => hx.open_no true (by simp only [rk, rm, kset_tt]; have := HBD.out; have := HPa.out; have := HPb.out; (try split) <;> omega))
              have hpe : nu = Q := by omega
              have HPE2 := Lib.hid hpe
              have l1 : decide ((nu : Int) < (Q : Int)) = false := decide_eq_false (by omega)
              have l2 : decide (nu < Q) = false := decide_eq_false (by omega)
              have z1 : ((nu : Int) == (Q : Int)) = true := by rw [hpe]; simp
              have z3 : (nu : Int) = (Q : Int) := by omega
              clear hlt hI1 hP hil hpe z3
              go_wp2_with (first
                | (go_at_call 10; refine HO5.out.mono ?_; rintro x5 w5 ⟨rfl, hl5⟩; have HL5 := Lib.hid hl5; clear hl5)
                | (go_at_call 11; refine (HH.out w5 HL5.out).mono ?_; rintro x6 w6 ⟨rfl, hl6⟩; have HL6 := Lib.hid hl6; clear hl6)
                | (go_at_call 10; refine (HO7.out w6 HL6.out).mono ?_; rintro x7 w7 ⟨rfl, hl7⟩))
              go_roundw
              case rel => exact ⟨I1, (by have := HI1.out; have := HPE2.out; have := HPb.out; omega), rfl, hl7.cast (fun v => by cases v <;> simp only [rk, kset_ff, kset_tf, kset_tt] <;> (have := HBD.out; have := HPa.out; have := HPb.out; have := HI1.out; have := HPE2.out; omega)) (fun v => by cases v <;> simp only [rm, kset_ff, kset_tf, kset_tt] <;> (have := HBD.out; have := HPa.out; have := HPb.out; have := HI1.out; have := HPE2.out; (try split) <;> (try split) <;> omega))⟩
              case measure =>
                have := HI1.out
                have := HPb.out
                unfold intOf
                simp only [Int.toNat_natCast]
                omega
          · have HI1 := Lib.hid (show i < Q + 1 ∧ i + 1 = I1 ∧ ¬ nu = i from ⟨hlt, hI1, hin⟩)
            by_cases hP : i < Q
            · have HO5 := Lib.hid (LI.open_ok HLI.out true (i := i) (by simp only [rk, kset_tt]; try omega) HDD.out (by simp only [rm, kset_tt]; have := HBD.out; have := HPa.out; have := HPb.out; (try split) <;> omega) (by simp only [rk, kset_ff, kset_tf, kset_tt]; have := HBD.out; have := HPa.out; have := HPb.out; (try split) <;> omega) (by simp only [rm, kset_tt]; have := HBD.out; have := HPa.out; have := HPb.out; (try split) <;> omega))
              have l1 : decide ((i : Int) < (Q : Int)) = true := decide_eq_true (by omega)
              have l2 : decide (i < Q) = true := decide_eq_true (by omega)
              have z1 : ((i : Int) == (Q : Int)) = false := by rw [beq_eq_false_iff_ne]; omega
              have z2 : ¬ (i = Q) := by omega
              have z3 : ¬ ((i : Int) = (Q : Int)) := by omega
              have z4 : (i == Q) = false := by rw [beq_eq_false_iff_ne]; omega
              have y1 : ((i : Int) == (nu : Int)) = false := by rw [beq_eq_false_iff_ne]; omega
              have y2 : ¬ (i = nu) := by omega
              have y3 : ¬ ((i : Int) = (nu : Int)) := by omega
              have y4 : (i == nu) = false := by rw [beq_eq_false_iff_ne]; omega
              clear hlt hI1 hP hil hin
              go_wp2_with (go_at_call 10; refine HO5.out.mono ?_; rintro x5 w5 ⟨rfl, hl5⟩)
              go_roundw
              case rel => exact ⟨I1, (by have := HI1.out; have := HPb.out; omega), rfl, hl5.cast (fun v => by cases v <;> simp only [rk, kset_ff, kset_tf, kset_tt] <;> (have := HBD.out; have := HPa.out; have := HPb.out; have := HI1.out; omega)) (fun v => by cases v <;> simp only [rm, kset_ff, kset_tf, kset_tt] <;> (have := HBD.out; have := HPa.out; have := HPb.out; have := HI1.out; (try split) <;> (try split) <;> omega))⟩
              case measure =>
                have := HI1.out
                have := HPb.out
                unfold intOf
                simp only [Int.toNat_natCast]
                omega
            · have HO5 := Lib.hid (LI.open_no HLI.out true (by simp only [rk, rm, kset_tt]; have := HBD.out; have := HPa.out; have := HPb.out; (try split) <;> omega))
              have HPE2 := Lib.hid (show Q = i by omega)
              have l1 : decide ((i : Int) < (Q : Int)) = false := decide_eq_false (by omega)
              have l2 : decide (i < Q) = false := decide_eq_false (by omega)
              have z1 : ((i : Int) == (Q : Int)) = true := by rw [HPE2.out]; simp
              have y1 : ((i : Int) == (nu : Int)) = false := by rw [beq_eq_false_iff_ne]; omega
              have y2 : ¬ (i = nu) := by omega
              have y3 : ¬ ((i : Int) = (nu : Int)) := by omega
              have y4 : (i == nu) = false := by rw [beq_eq_false_iff_ne]; omega
              clear hlt hI1 hP hil hin
              go_wp2_with (go_at_call 10; refine HO5.out.mono ?_; rintro x5 w5 ⟨rfl, hl5⟩)
              go_roundw
              case rel => exact ⟨I1, (by have := HI1.out; have := HPE2.out; have := HPb.out; omega), rfl, hl5.cast (fun v => by cases v <;> simp only [rk, kset_ff, kset_tf, kset_tt] <;> (have := HBD.out; have := HPa.out; have := HPb.out; have := HI1.out; have := HPE2.out; omega)) (fun v => by cases v <;> simp only [rm, kset_ff, kset_tf, kset_tt] <;> (have := HBD.out; have := HPa.out; have := HPb.out; have := HI1.out; have := HPE2.out; (try split) <;> (try split) <;> omega))⟩
              case measure =>
                have := HI1.out
                have := HPb.out
                unfold intOf
                simp only [Int.toNat_natCast]
                omega
        · have HIE := Lib.hid (show i = Q1 by have := HPb.out; have := HI.out; omega)
          have t1 : decide ((i : Int) < (Q1 : Int)) = false := decide_eq_false (by have := HIE.out; omega)
          have t2 : decide (i < Q1) = false := decide_eq_false (by have := HIE.out; omega)
          clear hlt
          go_wp2_with fail
          rw [rounds_succ]
          go_wp2_with fail
          go_ret
          obtain ⟨r9, T9, Y9, z9, p9, m9, _⟩ := HLI.out.ex
          exact ⟨rfl, m9.b⟩
end Go.Proofs.Yteekafpkbdbadaa.Pi
