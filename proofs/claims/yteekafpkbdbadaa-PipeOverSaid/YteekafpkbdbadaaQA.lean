/- pipe: know, the loop. -/
import Derived.Test.YteekafpkbdbadaaOX
set_option maxRecDepth 100000
set_option linter.unusedVariables false
namespace Go.Proofs.Yteekafpkbdbadaa.Pi
open Go.RowKit
section
variable {w w' : World} {role : Nat → Nat} {g : Nat} {T : TaS} {Y : TaY}
/-- the layout behind so many streams more: what stays -/
structure YK (Y Y' : TaY) (j : Nat) : Prop where
  so : Y'.so = Y.so
  ms : Y'.ms = Y.ms
  ml : Y'.ml = Y.ml
  n : Y'.n = Y.n + j
  ca : Y'.ca.n = Y.ca.n + j
  ti : Y'.ti = Y.ti
def kmes (q so : Nat) (wr : World) : Nat := match wr.cell? ⟨so, 0, none⟩ with | some (.int _ k) => q + 1 - k.toNat | _ => 0
theorem kmes_eq {q so k : Nat} {wr : World} (h : wr.cell? ⟨so, 0, none⟩ = some (.int .u64 (k : Int))) : kmes q so wr = q + 1 - k := by unfold kmes; rw [h]; rfl
set_option maxHeartbeats 8000000 in
theorem know_any (h : TZ w role g T Y) {id : Nat} (hid : id < 4611686018427387904) (ho : (od id == T.srv) = false) {s u : Bool} (hs : od id = s) (hu : wy id = u) (hv : ∀ i, (T.so s u).known ≤ i → T.l (i * 4 + id % 4) = none) {d : Nat} (hd : (T.so s u).known + d = max (T.so s u).known (id / 4 + 1)) (hk : (T.so s u).known < 1152921504606846976) (hn : Y.n + d < 1000000) (hc : Y.ca.n + d < 1000000) :
    Calls Try.prog 27 #[ptr g, .int .u64 (id : Int)] w fun e w' => e = .returned (.tuple #[]) ∧ ∃ role' Y', TZ w' role' g (knowK T s u (id % 4) d) Y' ∧ Stq (fun r => r ≠ 0) w w' role role' ∧ YK Y Y' d := by
  have H := Lib.hid h
  have hof := fun (x : World) => of_any x id (by omega)
  rw [hs, hu] at hof
  have HOF := Lib.hid hof
  obtain ⟨sv, hsv⟩ : ∃ b, T.srv = b := ⟨_, rfl⟩
  rw [hs, hsv] at ho
  have HSV := Lib.hid hsv
  have HV := Lib.hid hv
  obtain ⟨k0, hk0⟩ : ∃ n, (T.so s u).known = n := ⟨_, rfl⟩
  rw [hk0] at hd hk
  have HK0 := Lib.hid hk0
  obtain ⟨q, hq⟩ : ∃ q, id / 4 = q := ⟨_, rfl⟩
  have hqi : (id : Int) / 4 = (q : Int) := by omega
  rw [hq] at hd
  obtain ⟨r, hr⟩ : ∃ r, id % 4 = r := ⟨_, rfl⟩
  have ha3 := and_3 id (by omega)
  rw [hr] at ha3 hv HV ⊢
  have HR := Lib.hid (show r < 4 ∧ q < 1152921504606846976 by omega)
  have HD := Lib.hid hd
  have HN := Lib.hid hn
  have HCN := Lib.hid hc
  obtain ⟨so, hso⟩ : ∃ b, Y.so s u = b := ⟨_, rfl⟩
  have HSO := Lib.hid hso
  have HHK := Lib.hid hk
  clear h hid hs hu hv hd hk hn hc hof hsv hk0 hq hr hso
  unfold ptr
  go_enter Try.func27, Try.ntmps27
  go_upto_region 1 with (first
    | (go_at_call 40; refine (HOF.out w).mono ?_; rintro x w2 ⟨rfl, B2⟩
       have HZ2 := Lib.hid (H.out.bel B2)
       have HB2 := Lib.hid B2
       clear B2
       obtain ⟨kk, hkk⟩ : ∃ q, w2.heap.size = q := ⟨_, rfl⟩
       have hrk := CR.new w2 66 [.bool false, .bool false]
       rw [hkk] at hrk
       have HRK := Lib.hid hrk
       have HKK := Lib.hid hkk
       clear hrk)
    | (refine L_storeRow (old := [.bool false, .bool false]) (new := [.bool s, .bool u]) rfl 66 _ _ rfl rfl rfl HRK.out iKey rfl rfl (by simp [Value.oneCell']) ?_; intro w3 hz3 hg3; have HZK := Lib.hid hz3; have HG3 := Lib.hid hg3; clear hz3 hg3))
  have B3 : Below w2.heap.size w2 w3 := (below_alloc w2 (.cells [.bool false, .bool false].toArray 66)).grown HG3.out (by simp) (fun j hj => by cases hj; rw [HKK.out]; exact Nat.le_refl _)
  have HB3 := Lib.hid (HB2.out.trans (B3.mono HB2.out.size))
  have HZ3 := Lib.hid (HZ2.out.bel B3)
  have HKW := Lib.hid (show w.heap.size ≤ kk by rw [← HKK.out]; exact HB2.out.size)
  clear B3 hkk
  have m10 : w3.cell? ⟨g, 10, none⟩ = some (.map (some Y.ms)) := HZ3.out.row.cr.at_ 10
  have l0 : ∀ m, (Instr.lookup 57 (.map (some Y.ms)) (.agg #[.bool s, .bool u]) false).run Try.prog (w3.drewN m) = .ok (.pointer (some ⟨so, 0, none⟩)) (w3.drewN m) := fun m => by have hq := (HZ3.out.bel (bel_drewN _ w3 m)).sm.1.choose_spec.look s u; rw [HSO.out] at hq; exact hq
  refine wp_region_quiet_lit (by kernel_rfl) (by kernel_rfl) ?_
  repeat (quiet_step (fail))
  refine wpQuiet_step (fun K hK => ?_)
  refine Q_loadG (by rfl) 66 _ rfl _ _ rfl [.bool s, .bool u] _ (fun x hx => by obtain ⟨m, rfl⟩ := hx; exact (HZK.out.bel (bel_drewN _ w3 m)).rng) Try.underlying66 rfl iKey ?_
  refine hK _ ?_
  clear hK K
  try simp only [Act.put, List.setIfInBounds_toArray, List.set_cons_zero, List.set_cons_succ]
  repeat (quiet_step (fail))
  refine wpQuiet_nil ?_
  intro _ hw'
  obtain ⟨nq, hw2⟩ := hw'
  subst hw2
  clear m10 l0
  have bV := bel_drewN w3.heap.size w3 nq
  obtain ⟨U, hU⟩ : ∃ q, w3.drewN nq = q := ⟨_, rfl⟩
  rw [hU] at bV ⊢
  have HZU := Lib.hid (HZ3.out.bel bV)
  have HKU := Lib.hid (HZK.out.bel bV)
  have HSU := Lib.hid (Stq.bel (R := fun r => r ≠ 0) (HB3.out.trans (bV.mono HB3.out.size)) H.out.top)
  clear bV hU
  go_wp2_with fail
  go_loopw [6] (fun _ wr => ∃ (j : Nat) (role' : Nat → Nat) (Y' : TaY), j ≤ d ∧ TZ wr role' g (knowK T s u r j) Y' ∧ Stq (fun r => r ≠ 0) w wr role role' ∧ YK Y Y' j ∧ CR wr kk 66 [.bool s, .bool u] ∧ role' kk = 0)
    (fun _ wr => kmes q so wr)
  case atStart => exact ⟨0, role, Y, Nat.zero_le _, HZU.out, HSU.out, ⟨rfl, rfl, rfl, rfl, rfl, rfl⟩, HKU.out, H.out.top kk HKW.out⟩
  case round =>
    obtain ⟨j, role', Y', hj, hz, hst, hyk, hck, hrk⟩ := hrel
    have HJ := Lib.hid hj
    have HZ := Lib.hid hz
    have HST := Lib.hid hst
    have HYK := Lib.hid hyk
    have HCK := Lib.hid hck
    have HRK2 := Lib.hid hrk
    clear hj hz hst hyk hck hrk
    have hkn : ((knowK T s u r j).so s u).known = k0 + j := by rw [knowK_so]; show (T.so s u).known + j = _; rw [HK0.out]
    have HKN := Lib.hid hkn
    have hsrv : (knowK T s u r j).srv = sv := by rw [knowK_srv]; exact HSV.out
    have c0 : wr.cell? ⟨kk, 0, none⟩ = some (.bool s) := HCK.out.at_ 0
    have g0 : wr.cell? ⟨g, 0, none⟩ = some (.bool sv) := by have hq := HZ.out.row.cr.at_ 0; rw [← hsrv]; exact hq
    obtain ⟨K, hK⟩ : ∃ K, k0 + j = K := ⟨_, rfl⟩
    have s0 : wr.cell? ⟨so, 0, none⟩ = some (.int .u64 (K : Int)) := by have hq := (HZ.out.so s u).cr.at_ 0; rw [HYK.out.so, HSO.out, HKN.out, hK] at hq; exact hq
    have HK := Lib.hid hK
    have HS0 := Lib.hid s0
    clear hkn hK
    by_cases hlt : K ≤ q
    · have t1 : decide ((K : Int) ≤ (q : Int)) = true := decide_eq_true (by omega)
      have t2 : decide (K ≤ q) = true := decide_eq_true hlt
      go_wp2_with fail
      go_quiet (fail)
      clear c0 g0 s0
      have bV := bel_drewN wr.heap.size wr nq
      obtain ⟨V, hVV⟩ : ∃ q, wr.drewN nq = q := ⟨_, rfl⟩
      rw [hVV] at bV ⊢
      have HZV := Lib.hid (HZ.out.bel bV)
      have HCV := Lib.hid (HCK.out.bel bV)
      have HSV2 := Lib.hid (HST.out.trans (Stq.bel bV HZ.out.top))
      clear bV hVV
      have s0 : V.cell? ⟨so, 0, none⟩ = some (.int .u64 (K : Int)) := by have hq := (HZV.out.so s u).cr.at_ 0; rw [HYK.out.so, HSO.out, HKN.out, HK.out] at hq; exact hq
      have hr4 := HR.out.1
      have hq60 := HR.out.2
      obtain ⟨X, hX⟩ : ∃ X, K * 4 = X := ⟨_, rfl⟩
      obtain ⟨N, hN⟩ : ∃ N, X + r = N := ⟨_, rfl⟩
      have hor := or_lt K r (by omega) hr4
      rw [hX, hN] at hor
      have hxi : (K : Int) * 4 = (X : Int) := by omega
      have hxw : IntKind.u64.wrap (X : Int) = (X : Int) := IntWalk.u64_in _ (by omega)
      have hNl : N < 18446744073709551616 := by omega
      have hNe : ((knowK T s u r j).so s u).known * 4 + r = N := by rw [HKN.out, HK.out, hX, hN]
      have hnone : (knowK T s u r j).l N = none := by rw [← hNe]; exact knowK_none j HV.out
      have hYn : Y'.n < maxLen := by rw [HYK.out.n]; have := HN.out; have := HJ.out; unfold maxLen; omega
      have HMK := Lib.hid (make_any HZV.out hNl hnone hYn)
      have HNe := Lib.hid hNe
      have HK1 := Lib.hid (show IntKind.u64.wrap ((K : Int) + 1) = ((K + 1 : Nat) : Int) by rw [IntWalk.u64_in _ (by omega)]; omega)
      unfold ptr at HMK
      clear hX hN hNl hNe hnone hYn hr4 hq60
      go_upto_region 5 with (go_at_call 22; refine HMK.out.mono ?_; rintro x w5 ⟨role2, sb, rfl, z5, t5⟩)
      have HS5 := Lib.hid (HSV2.out.trans t5)
      have HT5 := Lib.hid t5
      have b6 := below_alloc w5 (.cells #[.int .u64 (N : Int)] 25)
      have hr6 := RS_new w5 25 #[.int .u64 (N : Int)] 1 rfl (by omega) (by simp [Value.oneCell'])
      have g14 : w5.cell? ⟨g, 14, none⟩ = some (.slice Y'.ca.a Y'.ca.n Y'.ca.c) := z5.row.cr.at_ 14
      have HZ5 := Lib.hid z5
      obtain ⟨k6, hk6⟩ : ∃ q, w5.heap.size = q := ⟨_, rfl⟩
      obtain ⟨w6, hw6⟩ : ∃ q, w5.alloc (.cells #[.int .u64 (N : Int)] 25) = q := ⟨_, rfl⟩
      rw [hw6] at b6 hr6
      rw [hk6] at hr6
      have HZ6 := Lib.hid (z5.bel b6)
      have HR6 := Lib.hid hr6
      have HS6 := Lib.hid (HS5.out.trans (Stq.bel b6 z5.top))
      have HC6 := Lib.hid ((HCV.out.keep (w' := w5) (t5.blk kk HCV.out.lt (by rw [HRK2.out]; exact fun hh => hh rfl))).bel b6)
      have HRK3 := Lib.hid ((t5.old kk HCV.out.lt).trans HRK2.out)
      have HOX := Lib.hid (OXZ.ox HZ6.out.ca)
      have hcn : Y'.ca.n + 1 ≤ 1000001 := by rw [HYK.out.ca]; have := HCN.out; have := HJ.out; omega
      clear b6 hr6 s0 hor hxi hxw t5 z5
      go_upto_region 6 with (first
        | (refine L_append_X t64 HOX.out HR6.out _ _ (by rfl) rfl rfl rfl (by show (Y'.ca.n + 1) * 8 ≤ _; omega) (by show Y'.ca.n + 1 ≤ _; unfold maxLen; omega) HZ6.out.top ?_; intro a7 c7 w7 role3 ox7 st7; have HO7 := Lib.hid ox7; have HP7 := Lib.hid st7; have HR7 := Lib.hid (HZ6.out.row.stq (stp_stq st7).kq (by omega)); clear ox7 st7)
        | (refine L_store1 rfl 41 _ _ rfl (i := 14) HR7.out.cr rfl rfl (by kernel_rfl) (Nat.le_of_ble_eq_true rfl) rfl ?_; intro w8 hc8 hg8; have HC8 := Lib.hid hc8; have HG8 := Lib.hid hg8; clear hc8 hg8))
      have HA8 := Lib.hid (HZ6.out.app HP7.out HO7.out HG8.out HC8.out)
      have hso8 := (HA8.out.1.so s u).cr
      have hso9 : CR w8 so 70 [u64 K, u64 ((knowK T s u r j).so s u).may, .int .i64 (((knowK T s u r j).so s u).news : Int)] := by
        have hq : CR w8 (Y'.so s u) 70 [u64 ((knowK T s u r j).so s u).known, u64 ((knowK T s u r j).so s u).may, .int .i64 (((knowK T s u r j).so s u).news : Int)] := hso8
        rw [HYK.out.so, HSO.out, HKN.out, HK.out] at hq
        exact hq
      have HSO8 := Lib.hid hso9
      have s0 : w8.cell? ⟨so, 0, none⟩ = some (.int .u64 (K : Int)) := HSO8.out.at_ 0
      obtain ⟨K1, hK1⟩ : ∃ K1, K + 1 = K1 := ⟨_, rfl⟩
      have hk1 : (K : Int) + 1 = (K1 : Int) := by omega
      have hk2 : IntKind.u64.wrap (K1 : Int) = (K1 : Int) := by rw [← hk1]; have := HK1.out; rw [this]; omega
      have HK11 := Lib.hid hK1
      clear hso8 hso9 hK1 g14 hw6 hk6
      go_wp2_with (refine L_store1 rfl 25 _ _ rfl (i := 0) HSO8.out rfl rfl (by kernel_rfl) (Nat.le_of_ble_eq_true rfl) rfl ?_; intro w9 hc9 hg9; have HC9 := Lib.hid hc9; have HG9 := Lib.hid hg9; clear hc9 hg9)
      have hadr : Y'.so s u = so := by rw [HYK.out.so]; exact HSO.out
      have z9 := HA8.out.1.setSo s u (s := { (knowK T s u r j).so s u with known := K1 }) (w' := w9) (by show w8.grownBy w9 (some (Y'.so s u)); rw [hadr]; exact HG9.out) (by show CR w9 (Y'.so s u) _ _; rw [hadr]; exact HC9.out)
      have e9 : Pi.setSo { makeS (knowK T s u r j) N with came := (knowK T s u r j).came ++ [N] } s u { (knowK T s u r j).so s u with known := K1 } = knowK T s u r (j + 1) := by
        show _ = stepK (knowK T s u r j) s u r
        unfold stepK
        rw [HNe.out, HKN.out, HK.out, HK11.out]
      have HZ9 := Lib.hid (show TZ w9 role3 g (knowK T s u r (j + 1)) _ by rw [← e9]; exact z9.1)
      have HS9 := Lib.hid ((HS6.out.trans HA8.out.2).trans z9.2)
      have hk3 : role3 kk = 0 := (HA8.out.2.old kk HC6.out.lt).trans HRK3.out
      have HC9K := Lib.hid ((HC6.out.keep (w' := w8) (HA8.out.2.blk kk HC6.out.lt (by rw [HRK3.out]; exact fun hh => hh rfl))).keep (w' := w9) (z9.2.blk kk (Nat.lt_of_lt_of_le HC6.out.lt HA8.out.2.size) (by rw [hk3]; exact fun hh => hh rfl)))
      have HK3 := Lib.hid hk3
      have HJ1 := Lib.hid (show j + 1 ≤ d by have a := HD.out; have b := HK.out; have c := HJ.out; omega)
      have HYK9 := Lib.hid (show YK Y { Y' with n := Y'.n + 1, sb := fun i => if i = N then sb else Y'.sb i, ca := ⟨a7, Y'.ca.n + 1, c7⟩ } (j + 1) from ⟨HYK.out.so, HYK.out.ms, HYK.out.ml, by show Y'.n + 1 = _; rw [HYK.out.n]; omega, by show Y'.ca.n + 1 = _; rw [HYK.out.ca]; omega, HYK.out.ti⟩)
      clear hadr z9 e9 hk3 s0 hk1 hk2
      go_roundw
      case rel => exact ⟨j + 1, HJ1.out, role3, _, HZ9.out, HS9.out, HYK9.out, HC9K.out, HK3.out⟩
      case measure =>
        have e1 : w9.cell? ⟨so, 0, none⟩ = some (.int .u64 (K1 : Int)) := HC9.out.at_ 0
        rw [kmes_eq e1, kmes_eq HS0.out]
        have := HK11.out
        omega
    · have t1 : decide ((K : Int) ≤ (q : Int)) = false := decide_eq_false (by omega)
      have t2 : decide (K ≤ q) = false := decide_eq_false hlt
      have hjd : j = d := by have a := HD.out; have b := HJ.out; have c := HK.out; omega
      go_wp2_with fail
      go_quiet (fail)
      go_wp2_with fail
      go_end0
      subst hjd
      exact ⟨rfl, role', Y', HZ.out.bel (bel_drewN _ _ _), HST.out.trans (Stq.bel (bel_drewN _ _ _) HZ.out.top), HYK.out⟩
end
end Go.Proofs.Yteekafpkbdbadaa.Pi
