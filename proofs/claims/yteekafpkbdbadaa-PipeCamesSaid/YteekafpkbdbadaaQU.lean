/- law12.PipeCames: its walk. -/
import Derived.Test.YteekafpkbdbadaaQT
import Derived.Test.YteekafpkbdbadaaQI
set_option maxRecDepth 100000
set_option linter.unusedVariables false
namespace Go.Proofs.Yteekafpkbdbadaa.Pi
open Go.RowKit Go.Maps
set_option maxHeartbeats 8000000 in
theorem pipeCames_walk (W : World) {a : Option Addr} {n c : Nat} {xs : List UInt8} (hx : BS W a n c xs) :
    Calls Try.prog 4 #[.slice a n c] W fun e w' => e = .returned (.bool true) ∧ Below W.heap.size W w' := by
  have hl := BS.len hx
  have HX := Lib.hid hx
  have HLN := Lib.hid hl
  clear hx hl
  have hmm : ∀ (t : TypeId) (x : World), (Instr.makeMap t none).run Try.prog x = .ok (.map (some x.heap.size)) (x.alloc (.map #[] 0)) := fun _ _ => rfl
  have HNW := Lib.hid (fun (x : World) => (new_any x true 100 1000 20 20 : Calls Try.prog 8 #[.bool true, .agg #[.int .u64 100, .int .u64 1000, .int .u64 20, .int .u64 20]] x _))
  go_enter Try.func4, Try.ntmps4
  go_upto_region 4 with (first
    | (go_at_call 7; refine (awake12 W).mono ?_; rintro x w1 ⟨rfl, B1⟩)
    | (go_at_call 8; refine (HNW.out w1).mono ?_; rintro x w2 ⟨g, role, Y, rfl, z2, y2, b2, r2⟩))
  have M2 := (⟨B1.trans (b2.mono B1.size), fun k hk => Nat.le_trans B1.size (r2 k hk)⟩ : MB W w2 role)
  have bA := below_alloc w2 (.map #[] 0)
  have HL0 := Lib.hid (⟨role, _, Y, 0, [], z2.bel bA, CI.start y2, M2.bel bA, SB.made w2, z2.top _ (Nat.le_refl _), M2.b.size, rfl, fun x => by simp⟩ : LC W (w2.alloc (.map #[] 0)) g w2.heap.size (fun _ => 0) (fun _ => 0))
  obtain ⟨mb, hmb⟩ : ∃ q, w2.heap.size = q := ⟨_, rfl⟩
  obtain ⟨w3, hw3⟩ : ∃ q, w2.alloc (.map #[] 0) = q := ⟨_, rfl⟩
  rw [hw3, hmb] at HL0
  clear B1 z2 y2 b2 r2 M2 bA
  go_upto_region 6 with (fail)
  clear hw3 hmb hmm
  go_loopw [19] (fun s19 wr => ∃ (i : Nat) (k : Bool → Nat), i ≤ n ∧ s19 = .int .i64 (i : Int) ∧ LC W wr g mb k k) (fun s19 _ => n - (intOf s19).toNat)
  case atStart => exact ⟨0, _, Nat.zero_le _, rfl, HL0.out⟩
  case round =>
    obtain ⟨i, k, hi, rfl, hlc⟩ := hrel
    have HLC := Lib.hid hlc
    have HI := Lib.hid hi
    clear hlc hi
    have hend : Below W.heap.size W wr := by obtain ⟨r9, T9, Y9, n9, i9, z9, c9, m9, _⟩ := HLC.out.ex; exact m9.b
    have HEND := Lib.hid hend
    have HXR := Lib.hid (RS.below HX.out hend (Nat.le_refl _))
    clear hend
    by_cases hlt : i < n
    · have t1 : decide ((i : Int) < (n : Int)) = true := decide_eq_true (by omega)
      have t2 : decide (i < n) = true := decide_eq_true hlt
      by_cases h30 : i < 30
      · have t3 : decide ((30 : Int) ≤ (i : Int)) = false := decide_eq_false (by omega)
        have t4 : decide (30 ≤ i) = false := decide_eq_false (by omega)
        have hil : i < xs.length := by rw [HLN.out]; exact hlt
        obtain ⟨v, hv⟩ : ∃ v, (xs[i]).toNat = v := ⟨_, rfl⟩
        have hv256 : v < 256 := by rw [← hv]; exact (xs[i]).toNat_lt
        have HGV := Lib.hid (show (xs.map B)[i]? = some (.int .u8 (v : Int)) by rw [List.getElem?_map, List.getElem?_eq_getElem hil, Option.map_some]; unfold B; rw [hv])
        obtain ⟨b, hb⟩ : ∃ b, v % 20 = b := ⟨_, rfl⟩
        obtain ⟨cc, hcc⟩ : ∃ b, v / 128 = b := ⟨_, rfl⟩
        obtain ⟨F, hF⟩ : ∃ b', b * 4 = b' := ⟨_, rfl⟩
        obtain ⟨G, hG⟩ : ∃ b', cc * 2 = b' := ⟨_, rfl⟩
        obtain ⟨D, hD⟩ : ∃ b', F + G = b' := ⟨_, rfl⟩
        have a1 : (v : Int) % 20 = (b : Int) := by omega
        have a2 : (v : Int) / 128 = (cc : Int) := by omega
        have a3 : (b : Int) * 4 = (F : Int) := by omega
        have a4 : (cc : Int) * 2 = (G : Int) := by omega
        have a5 : (F : Int) + (G : Int) = (D : Int) := by omega
        have b1 : IntKind.u64.wrap (b : Int) = (b : Int) := IntWalk.u64_in _ (by omega)
        have b2 : IntKind.u64.wrap (cc : Int) = (cc : Int) := IntWalk.u64_in _ (by omega)
        have b3 : IntKind.u64.wrap (F : Int) = (F : Int) := IntWalk.u64_in _ (by omega)
        have b4 : IntKind.u64.wrap (G : Int) = (G : Int) := IntWalk.u64_in _ (by omega)
        have b5 : IntKind.u64.wrap (D : Int) = (D : Int) := IntWalk.u64_in _ (by omega)
        obtain ⟨u, hu⟩ : ∃ u : Bool, lst false u = G := by
          by_cases h0 : cc = 0
          · exact ⟨false, by unfold lst; simp; omega⟩
          · exact ⟨true, by unfold lst; simp; omega⟩
        have HLE := Lib.hid (show b < 20 ∧ D < 100 ∧ G < 4 ∧ b * 4 + lst false u = D ∧ lst false u = G by omega)
        obtain ⟨d, hd⟩ : ∃ d, max (k u) (b + 1) - k u = d := ⟨_, rfl⟩
        have HDD := Lib.hid (show k u + d = max (k u) (b + 1) by omega)
        have HII := Lib.hid (And.intro hlt h30)
        clear hv hv256 hb hcc hF hG hD hu hd hil hlt h30
        have HH := Lib.hid (HLC.out.hear u HLE.out.1 HDD.out HLE.out.2.2.2.1)
        go_upto_region 14 with (first
          | (refine L_index tB HXR.out _ _ rfl rfl _ _ rfl rfl (by have := HII.out; omega) (by have := HII.out; omega) _ HGV.out ?_; intro q hq)
          | (go_at_call 11; refine HH.out.mono ?_; rintro x w5 ⟨rfl, hcm⟩; have HCM := Lib.hid hcm; clear hcm)
          | (go_at_call 12; refine HCM.out.mono ?_; rintro x w6 ⟨⟨a6, c6, rfl, rs6, ne6⟩, lc6⟩))
        have HNE := Lib.hid ne6
        have HRS6 := Lib.hid rs6
        have HL6 := Lib.hid lc6
        clear rs6 ne6 lc6
        clear hq
        obtain ⟨k', hk'⟩ : ∃ k' : Bool → Nat, kset k u (k u + d) = k' := ⟨_, rfl⟩
        rw [hk'] at HL6
        have HK' := Lib.hid hk'
        clear hk'
        go_loopw [43, 8] (fun s43 s8 w7 => ∃ (q la : Nat), q ≤ d ∧ s43 = .int .i64 (q : Int) ∧ s8 = .int .u64 (la : Int) ∧ (0 < q → la < (k u + q) * 4 + lst false u) ∧ LC W w7 g mb k' (kset k u (k u + q)) ∧ RS w7 1 a6 d c6 (US (newL k u d))) (fun s43 _ _ => d - (intOf s43).toNat)
        case atStart => exact ⟨0, 0, Nat.zero_le _, rfl, rfl, (fun hh => absurd hh (by decide)), HL6.out.cast (fun _ => rfl) (fun v => by unfold kset; split <;> simp_all), HRS6.out⟩
        case round =>
          obtain ⟨q, la, hq, rfl, rfl, hla, hl7, hrs⟩ := hrel
          have HLA := Lib.hid hla
          have HL7 := Lib.hid hl7
          have HRS := Lib.hid hrs
          have HQD := Lib.hid hq
          clear hla hl7 hrs hq
          by_cases hqd : q < d
          · have t5 : decide ((q : Int) < (d : Int)) = true := decide_eq_true (by omega)
            have t6 : decide (q < d) = true := decide_eq_true hqd
            obtain ⟨Q1, hQ1⟩ : ∃ Q1, q + 1 = Q1 := ⟨_, rfl⟩
            have n5 : (q : Int) + 1 = (Q1 : Int) := by omega
            have n6 : IntKind.i64.wrap (Q1 : Int) = (Q1 : Int) := IntWalk.i64_in _ (by have := HLE.out; have := HDD.out; omega)
            have HQ1 := Lib.hid hQ1
            have HQ := Lib.hid hqd
            obtain ⟨E, hE⟩ : ∃ E, (k u + q) * 4 + lst false u = E := ⟨_, rfl⟩
            have HE := Lib.hid hE
            have HKB := Lib.hid (show (kset k u (k u + q)) false + (kset k u (k u + q)) true < 1000 by
              obtain ⟨r9, T9, Y9, n9, i9, z9, c9, m9, _⟩ := HLC.out.ex
              have e1 := c9.k20 false
              have e2 := c9.k20 true
              have e3 := HLE.out
              have e4 := HDD.out
              unfold kset
              cases u <;> simp <;> omega)
            have HGE := Lib.hid (show (US (newL k u d))[q]? = some (.int .u64 (E : Int)) by
              unfold US newL
              rw [List.map_map, List.getElem?_map, List.getElem?_range hqd, ← hE]
              rfl)
            have x1 : (E : Int) % 4 = (G : Int) := by have := HLE.out; omega
            have x2 : (D : Int) % 4 = (G : Int) := by have := HLE.out; omega
            have x3 : decide ((D : Int) < (E : Int)) = false := decide_eq_false (by have := HLE.out; have := HDD.out; omega)
            have x4 : decide (D < E) = false := decide_eq_false (by have := HLE.out; have := HDD.out; omega)
            obtain ⟨r, hrun, hr⟩ := HL7.out.look E (by have := HLE.out; have := HDD.out; omega)
            have hrf : r = false := by
              cases r
              · rfl
              · obtain ⟨v, j, h1, h2⟩ := hr.1 rfl
                unfold kset at h1
                by_cases hv : v = u
                · subst hv
                  rw [if_pos rfl] at h1
                  omega
                · rw [← hE] at h2
                  exact absurd h2.symm (lst_ne hv _ _)
            subst hrf
            clear hr hE hQ1 hqd
            by_cases h0 : q = 0
            · have z1 : decide ((0 : Int) < (q : Int)) = false := decide_eq_false (by omega)
              have z2 : ¬ (0 < q) := by omega
              have z3 : ¬ ((0 : Int) < (q : Int)) := by omega
              clear h0
              go_wp2_with (first
                | (refine L_index t64 HRS.out _ _ rfl rfl _ _ rfl rfl (by have := HQ.out; omega) (by have := HQ.out; omega) _ HGE.out ?_; intro q3 hq3)
                | (refine LC.put HL7.out u (q := k u + q) (by unfold kset; rw [if_pos rfl]) HE.out HKB.out rfl _ _ _ rfl rfl rfl rfl ?_; intro w8 lc8 g8))
              have HL8 := Lib.hid lc8
              have HR8 := Lib.hid (HRS.out.keepb (w' := w8) (fun ad had hl => g8.block ad.block hl (fun he => by injection he with he; exact HNE.out ad had he)))
              clear lc8 g8
              go_roundw
              case rel => exact ⟨Q1, E, (by have := HQ.out; have := HQ1.out; omega), rfl, rfl, (fun _ => by have := HE.out; have := HQ1.out; omega), HL8.out.cast (fun _ => rfl) (fun v => by unfold kset; split <;> (have := HQ1.out; omega)), HR8.out⟩
              case measure =>
                have := HQ.out
                have := HQ1.out
                unfold intOf
                simp only [Int.toNat_natCast]
                omega
            · have z1 : decide ((0 : Int) < (q : Int)) = true := decide_eq_true (by omega)
              have z2 : 0 < q := by omega
              have z3 : (0 : Int) < (q : Int) := by omega
              have z4 : decide ((E : Int) ≤ (la : Int)) = false := decide_eq_false (by have := HLA.out (by omega); have := HE.out; omega)
              have z5 : decide (E ≤ la) = false := decide_eq_false (by have := HLA.out (by omega); have := HE.out; omega)
              clear h0
              go_wp2_with (first
                | (refine L_index t64 HRS.out _ _ rfl rfl _ _ rfl rfl (by have := HQ.out; omega) (by have := HQ.out; omega) _ HGE.out ?_; intro q3 hq3)
                | (refine LC.put HL7.out u (q := k u + q) (by unfold kset; rw [if_pos rfl]) HE.out HKB.out rfl _ _ _ rfl rfl rfl rfl ?_; intro w8 lc8 g8))
              have HL8 := Lib.hid lc8
              have HR8 := Lib.hid (HRS.out.keepb (w' := w8) (fun ad had hl => g8.block ad.block hl (fun he => by injection he with he; exact HNE.out ad had he)))
              clear lc8 g8
              go_roundw
              case rel => exact ⟨Q1, E, (by have := HQ.out; have := HQ1.out; omega), rfl, rfl, (fun _ => by have := HE.out; have := HQ1.out; omega), HL8.out.cast (fun _ => rfl) (fun v => by unfold kset; split <;> (have := HQ1.out; omega)), HR8.out⟩
              case measure =>
                have := HQ.out
                have := HQ1.out
                unfold intOf
                simp only [Int.toNat_natCast]
                omega
          · have HQE := Lib.hid (show q = d by have := HQD.out; omega)
            have t5 : decide ((q : Int) < (d : Int)) = false := decide_eq_false (by omega)
            have t6 : decide (q < d) = false := decide_eq_false hqd
            clear hqd
            have x2 : (D : Int) % 4 = (G : Int) := by have := HLE.out; omega
            have HL9 := Lib.hid (HL7.out.cast (kk' := k') (fun _ => rfl) (fun v => by rw [← HK'.out, HQE.out]))
            go_wp2_with fail
            go_loopw [11] (fun s11 w8 => ∃ (j N : Nat), j ≤ b + 1 ∧ s11 = .int .u64 (N : Int) ∧ j * 4 + lst false u = N ∧ LC W w8 g mb k' k') (fun s11 _ => D + 8 - (intOf s11).toNat)
            case atStart => exact ⟨0, G, by omega, by rw [x2], by have := HLE.out; omega, HL9.out⟩
            case round =>
              obtain ⟨j, N, hj, rfl, hN, hl8⟩ := hrel
              have HJ := Lib.hid hj
              have HN := Lib.hid hN
              have HL8 := Lib.hid hl8
              clear hj hN hl8
              by_cases hle : j ≤ b
              · have y1 : decide ((N : Int) ≤ (D : Int)) = true := decide_eq_true (by have := HLE.out; have := HN.out; omega)
                have y2 : decide (N ≤ D) = true := decide_eq_true (by have := HLE.out; have := HN.out; omega)
                obtain ⟨N1, hN1⟩ : ∃ N1, N + 4 = N1 := ⟨_, rfl⟩
                have y3 : (N : Int) + 4 = (N1 : Int) := by omega
                have y4 : IntKind.u64.wrap (N1 : Int) = (N1 : Int) := IntWalk.u64_in _ (by have := HLE.out; have := HN.out; omega)
                have HN1 := Lib.hid hN1
                have HJB := Lib.hid hle
                obtain ⟨r, hrun, hr⟩ := HL8.out.look N (by have := HLE.out; have := HN.out; omega)
                have hrt : r = true := hr.2 ⟨u, j, by rw [← HK'.out]; unfold kset; rw [if_pos rfl]; have := HDD.out; omega, HN.out.symm⟩
                subst hrt
                clear hr hN1 hle
                go_wp2_with fail
                go_roundw
                case rel => exact ⟨j + 1, N1, by have := HJB.out; omega, rfl, by have := HN.out; have := HN1.out; omega, HL8.out⟩
                case measure =>
                  have := HN.out
                  have := HN1.out
                  have := HJB.out
                  have := HLE.out
                  unfold intOf
                  simp only [Int.toNat_natCast]
                  omega
              · have y1 : decide ((N : Int) ≤ (D : Int)) = false := decide_eq_false (by have := HLE.out; have := HN.out; omega)
                have y2 : decide (N ≤ D) = false := decide_eq_false (by have := HLE.out; have := HN.out; omega)
                clear hle
                obtain ⟨I1, hI1⟩ : ∃ I1, i + 1 = I1 := ⟨_, rfl⟩
                have n7 : (i : Int) + 1 = (I1 : Int) := by omega
                have n8 : IntKind.i64.wrap (I1 : Int) = (I1 : Int) := IntWalk.i64_in _ (by have := HII.out; omega)
                have HI1 := Lib.hid hI1
                clear hI1
                go_wp2_with fail
                go_roundw
                case rel => exact ⟨I1, k', by have := HI1.out; have := HII.out; omega, rfl, HL8.out⟩
                case measure =>
                  have := HI1.out
                  have := HII.out
                  unfold intOf
                  simp only [Int.toNat_natCast]
                  omega
      · have t3 : decide ((30 : Int) ≤ (i : Int)) = true := decide_eq_true (by omega)
        have t4 : decide (30 ≤ i) = true := decide_eq_true (by omega)
        have hil : i < xs.length := by rw [HLN.out]; exact hlt
        have HGV := Lib.hid (show (xs.map B)[i]? = some (.int .u8 (((xs[i]).toNat : Nat) : Int)) by rw [List.getElem?_map, List.getElem?_eq_getElem hil, Option.map_some]; rfl)
        go_wp2_with (refine L_index tB HXR.out _ _ rfl rfl _ _ rfl rfl (by omega) (by omega) _ HGV.out ?_; intro q hq)
        go_ret
        exact ⟨rfl, HEND.out⟩
    · have t1 : decide ((i : Int) < (n : Int)) = false := decide_eq_false (by omega)
      have t2 : decide (i < n) = false := decide_eq_false hlt
      go_wp2_with fail
      go_ret
      exact ⟨rfl, HEND.out⟩
end Go.Proofs.Yteekafpkbdbadaa.Pi
