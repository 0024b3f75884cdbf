/- pipe: count and Put where nothing more came; Came. -/
import Derived.Test.YteekafpkbdbadaaQE
import Derived.Test.YteekafpkbdbadaaQD
set_option maxRecDepth 100000
set_option linter.unusedVariables false
namespace Go.Proofs.Yteekafpkbdbadaa.Pi
open Go.RowKit
theorem setIn_self {T : TaS} {id : Nat} {s : StS} {i : InS} (hs : T.l id = some s) (hi : s.inn = some i) : Pi.setIn T id i = T := by
  have : (fun j => if j = id then (T.l id).map (fun s => { s with inn := some i }) else T.l j) = T.l := by
    funext j
    by_cases hj : j = id
    · subst hj
      rw [if_pos rfl, hs, Option.map_some, ← hi]
    · rw [if_neg hj]
  unfold Pi.setIn
  rw [this]
section
variable {w w' : World} {role : Nat → Nat} {g : Nat} {T : TaS} {Y : TaY}
theorem count_0 (h : TZ w role g T Y) {id ib : Nat} {s : StS} {i : InS} (hs : T.l id = some s) (hi : s.inn = some i) (hib : w.cell? ⟨Y.sb id, 6, none⟩ = some (ptr ib)) (hz : InZ w role (rid id) ib i) :
    Calls Try.prog 45 #[ptr g, ptr ib, .int .u64 0] w fun e w' => e = .returned (.tuple #[]) ∧ TZ w' role g T Y ∧ Stq (fun r => r ≠ 0) w w' role role ∧ w'.cell? ⟨Y.sb id, 6, none⟩ = some (ptr ib) ∧ InZ w' role (rid id) ib i := by
  obtain ⟨ti, qb, hp⟩ := hz.ip
  have H := Lib.hid h
  have HP := Lib.hid hp
  have HS := Lib.hid (And.intro hs hi)
  have HIB := Lib.hid hib
  have i0 : w.cell? ⟨ib, 0, none⟩ = some (.pointer (some ⟨ti, 0, none⟩)) := hp.ic.cr.at_ 0
  have i1 : w.cell? ⟨ib, 1, none⟩ = some (.pointer (some ⟨qb, 0, none⟩)) := hp.ic.cr.at_ 1
  have hqh : Calls Try.prog 62 #[ptr qb] w fun e w' => e = .returned (.int .u64 (i.qu.high : Int)) ∧ w = w' := by
    obtain ⟨x, vs, q1, _⟩ := hp.qz.ex
    exact qhigh_any q1.cr
  obtain ⟨qh, hqq⟩ : ∃ n, i.qu.high = n := ⟨_, rfl⟩
  rw [hqq] at hqh
  have q1 : decide ((qh : Int) < 0) = false := decide_eq_false (by omega)
  have q2 : ¬ (qh : Int) < 0 := by omega
  have HQH := Lib.hid hqh
  have HC2 := Lib.hid (tcame_any hp.tz 0 (Nat.zero_le _))
  unfold ptr at HQH HC2 ⊢
  clear h hs hi hib hz hp hqh hqq
  go_enter Try.func45, Try.ntmps45
  go_wp2_with (first
    | (go_at_call 62; refine HQH.out.mono ?_; rintro x w2 ⟨rfl, rfl⟩)
    | (go_at_call 64; refine HC2.out.mono ?_; rintro x w4 ⟨⟨r4, rfl⟩, t4, g4⟩))
  go_end0
  obtain ⟨ip4, st4⟩ := HP.out.setTi { i.ti with c := max i.ti.c 0 } g4 t4 H.out.top
  have z4 := H.out.setIn HS.out.1 HS.out.2 { i with ti := { i.ti with c := max i.ti.c 0 } } (st4.mono (fun r hr => by omega)) (fun ib' e1 e2 => by
    rw [HIB.out] at e1
    unfold ptr at e1
    simp at e1
    subst e1
    exact ip4.inz)
  have ei : ({ i with ti := { i.ti with c := max i.ti.c 0 } } : InS) = i := by rw [Nat.max_zero]
  rw [ei] at z4 ip4
  rw [setIn_self HS.out.1 HS.out.2] at z4
  refine ⟨rfl, z4.1, z4.2, ?_, ip4.inz⟩
  obtain ⟨ob, ib2, a, _⟩ := (H.out.st id s HS.out.1).ex
  have hc := a.cr
  have hc3 := (a.stq st4.kq (by omega)).cr
  rw [hc3.at_, ← hc.at_]; exact HIB.out
/-- Came hands the new ones out -/
theorem TZ.setCa (h : TZ w role g T Y) (hg : w.grownBy w' (some g)) (hc : CR w' g 64 [.bool T.srv, u64 T.ow.w, u64 T.ow.c, u64 T.ow.b, u64 T.ow.u, u64 T.pe.w, u64 T.pe.c, u64 T.pe.b, u64 T.pe.u, .map (some Y.ml), .map (some Y.ms), ptr Y.pu, ptr Y.ti, .int .i64 (T.news : Int), .slice none 0 0]) : TZ w' role g { T with came := [] } { Y with ca := SA0 } ∧ Stq (fun r => r = 1) w w' role role := by
  have hr := h.row.rb
  have st : Stq (fun r => r = 1) w w' role role := Stq.grown hg hr h.top
  have k := st.kq
  exact ⟨⟨⟨hc, hr⟩, h.lm.1.stq h.lm.2 k (by omega), ⟨⟨h.sm.1.choose, (h.sm.1.choose_spec.stq h.sm.2 k (by omega)).1⟩, h.sm.2⟩, fun x y => (h.so x y).stq k (by have := rso_bd x y; omega), cr_stq h.pu.1 h.pu.2 k (by omega), cr_stq h.ti.1 h.ti.2 k (by omega), OXZ.nil _ _ _ _ _, fun id x hx => (h.st id x hx).stq k (fun j _ => by unfold rid; omega), h.ids, st.top⟩, st⟩
theorem came_any (h : TZ w role g T Y) :
    Calls Try.prog 12 #[ptr g] w fun e w' => e = .returned Y.ca.v ∧ TZ w' role g { T with came := [] } { Y with ca := SA0 } ∧ Stq (fun r => r ≠ 0) w w' role role ∧ OXZ w' role 10 25 1 Y.ca (US T.came) := by
  have H := Lib.hid h
  have g14 : w.cell? ⟨g, 14, none⟩ = some (.slice Y.ca.a Y.ca.n Y.ca.c) := h.row.cr.at_ 14
  clear h
  unfold ptr SA.v
  go_enter Try.func12, Try.ntmps12
  go_wp2_with (refine L_store1 rfl 41 _ _ rfl (i := 14) H.out.row.cr rfl rfl (by kernel_rfl) (Nat.le_of_ble_eq_true rfl) rfl ?_; intro w2 hc2 hg2)
  go_ret
  have hs := H.out.setCa hg2 hc2
  exact ⟨rfl, hs.1, hs.2.mono (fun r hr => by omega), H.out.ca.stq hs.2.kq (by omega)⟩
end
end Go.Proofs.Yteekafpkbdbadaa.Pi
