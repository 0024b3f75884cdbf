/- pipe: count, where more came than ever. -/
import Derived.Test.YteekafpkbdbadaaQC
set_option maxRecDepth 100000
set_option linter.unusedVariables false
namespace Go.Proofs.Yteekafpkbdbadaa.Pi
open Go.RowKit
def countS (T : TaS) (id : Nat) (i : InS) (high : Nat) : TaS := Pi.setIn { T with ti := { T.ti with c := max T.ti.c (T.ti.c + high - i.qu.high) } } id { i with ti := { i.ti with c := max i.ti.c high } }
section
variable {w w' : World} {role : Nat → Nat} {g : Nat} {T : TaS} {Y : TaY}
theorem count_gt (h : TZ w role g T Y) {id ib high : Nat} {s : StS} {i : InS} (hs : T.l id = some s) (hi : s.inn = some i) (hib : w.cell? ⟨Y.sb id, 6, none⟩ = some (ptr ib)) (hz : InZ w role (rid id) ib i)
    (hlt : i.qu.high < high) (h1 : high ≤ i.ti.l) (h2 : T.ti.c + high - i.qu.high ≤ T.ti.l) (h3 : T.ti.c + high < 18446744073709551616) :
    Calls Try.prog 45 #[ptr g, ptr ib, .int .u64 (high : Int)] w fun e w' => e = .returned (.tuple #[]) ∧ TZ w' role g (countS T id i high) Y ∧ Stq (fun r => r ≠ 0) w w' role role ∧ w'.cell? ⟨Y.sb id, 6, none⟩ = some (ptr ib) ∧ InZ w' role (rid id) ib { i with ti := { i.ti with c := max i.ti.c high } } := by
  obtain ⟨ti, qb, hp⟩ := hz.ip
  have H := Lib.hid h
  have HP := Lib.hid hp
  have HS := Lib.hid (And.intro hs hi)
  have HIB := Lib.hid hib
  have i0 : w.cell? ⟨ib, 0, none⟩ = some (.pointer (some ⟨ti, 0, none⟩)) := hp.ic.cr.at_ 0
  have i1 : w.cell? ⟨ib, 1, none⟩ = some (.pointer (some ⟨qb, 0, none⟩)) := hp.ic.cr.at_ 1
  have g12 : w.cell? ⟨g, 12, none⟩ = some (.pointer (some ⟨Y.ti, 0, none⟩)) := h.row.cr.at_ 12
  have hqh : Calls Try.prog 62 #[ptr qb] w fun e w' => e = .returned (.int .u64 (i.qu.high : Int)) ∧ w = w' := by
    obtain ⟨x, vs, q1, _⟩ := hp.qz.ex
    exact qhigh_any q1.cr
  obtain ⟨qh, hqq⟩ : ∃ n, i.qu.high = n := ⟨_, rfl⟩
  obtain ⟨tc, htc⟩ : ∃ n, T.ti.c = n := ⟨_, rfl⟩
  rw [hqq] at hlt h2 hqh
  rw [htc] at h2 h3
  have q1 : decide ((qh : Int) < (high : Int)) = true := decide_eq_true (by omega)
  have q2 : decide (qh < high) = true := decide_eq_true hlt
  obtain ⟨S1, hS1⟩ : ∃ n, tc + high = n := ⟨_, rfl⟩
  obtain ⟨N, hN⟩ : ∃ n, S1 - qh = n := ⟨_, rfl⟩
  rw [hS1, hN] at h2
  have s1 : (tc : Int) + (high : Int) = (S1 : Int) := by omega
  have s2 : IntKind.u64.wrap (S1 : Int) = (S1 : Int) := IntWalk.u64_in _ (by omega)
  have s3 : (S1 : Int) - (qh : Int) = (N : Int) := by omega
  have s4 : IntKind.u64.wrap (N : Int) = (N : Int) := IntWalk.u64_in _ (by omega)
  have HQH := Lib.hid hqh
  have HT := Lib.hid (ttold_any h.ti.1)
  rw [htc] at HT
  have HNN := Lib.hid (⟨h2, h1, by rw [htc, hqq, ← hN, ← hS1], htc⟩ : N ≤ T.ti.l ∧ high ≤ i.ti.l ∧ T.ti.c + high - i.qu.high = N ∧ T.ti.c = tc)
  unfold ptr at HQH HT ⊢
  unfold u64 at HT
  clear h hs hi hib hz hp hlt h1 h2 h3 hqh hqq htc hS1 hN
  go_enter Try.func45, Try.ntmps45
  go_upto_region 3 with (first
    | (go_at_call 62; refine HQH.out.mono ?_; rintro x w2 ⟨rfl, rfl⟩)
    | (go_at_call 61; refine HT.out.mono ?_; rintro x w2 ⟨rfl, B2⟩))
  have H2 := Lib.hid (H.out.bel B2)
  have HP2 := Lib.hid (HP.out.bel B2 H.out.top)
  have HB2 := Lib.hid B2
  have HI2 := Lib.hid (show w2.cell? ⟨Y.sb id, 6, none⟩ = some (ptr ib) by obtain ⟨ib', e1, e2⟩ := H.out.inz HS.out.1 HS.out.2; have := (H.out.st id s HS.out.1).ex; obtain ⟨ob, ib2, a, _⟩ := this; have hc := a.cr; rw [(hc.bel B2).at_, ← hc.at_]; exact HIB.out)
  clear g12 i0 i1 B2 q1 q2
  have g12 : w2.cell? ⟨g, 12, none⟩ = some (.pointer (some ⟨Y.ti, 0, none⟩)) := H2.out.row.cr.at_ 12
  have HC := Lib.hid (tcame_any H2.out.ti.1 N HNN.out.1)
  unfold ptr at HC
  go_upto_region 4 with (go_at_call 64; refine HC.out.mono ?_; rintro x w3 ⟨⟨r3, rfl⟩, t3, g3⟩)
  obtain ⟨z3, st3⟩ := H2.out.setTi { T.ti with c := max T.ti.c N } g3 t3
  have s9 : Stq (fun r => r = 9) w2 w3 role role := Stq.grown g3 H2.out.ti.2 H2.out.top
  have HP3 := Lib.hid (HP2.out.stq s9.kq (fun j _ _ => by unfold rid; omega))
  have HZ3 := Lib.hid z3
  have HS3 := Lib.hid ((Stq.bel (R := fun r => r ≠ 0) HB2.out H.out.top).trans st3)
  have HI3 := Lib.hid (show w3.cell? ⟨Y.sb id, 6, none⟩ = some (ptr ib) by obtain ⟨ob, ib2, a, _⟩ := (H2.out.st id s HS.out.1).ex; have hc := a.cr; have hc3 := (a.stq s9.kq (by unfold rid; omega)).cr; rw [hc3.at_, ← hc.at_]; exact HI2.out)
  clear g12 z3 st3 s9 t3 g3
  have i0 : w3.cell? ⟨ib, 0, none⟩ = some (.pointer (some ⟨ti, 0, none⟩)) := HP3.out.ic.cr.at_ 0
  have HC2 := Lib.hid (tcame_any HP3.out.tz high HNN.out.2.1)
  unfold ptr at HC2
  go_wp2_with (go_at_call 64; refine HC2.out.mono ?_; rintro x w4 ⟨⟨r4, rfl⟩, t4, g4⟩)
  go_end0
  obtain ⟨ip4, st4⟩ := HP3.out.setTi { i.ti with c := max i.ti.c high } g4 t4 HZ3.out.top
  have z4 := HZ3.out.setIn HS.out.1 HS.out.2 { i with ti := { i.ti with c := max i.ti.c high } } (st4.mono (fun r hr => by omega)) (fun ib' e1 e2 => by
    rw [HI3.out] at e1
    unfold ptr at e1
    simp at e1
    subst e1
    exact ip4.inz)
  refine ⟨rfl, ?_, HS3.out.trans z4.2, ?_, ip4.inz⟩
  rotate_left
  · obtain ⟨ob, ib2, a, _⟩ := (HZ3.out.st id s HS.out.1).ex
    have hc := a.cr
    have hc3 := (a.stq st4.kq (by omega)).cr
    rw [hc3.at_, ← hc.at_]; exact HI3.out
  unfold countS
  rw [HNN.out.2.2.1]
  exact z4.1
end
end Go.Proofs.Yteekafpkbdbadaa.Pi
