/- pipe: tell, for a stream whose end is known. -/
import Derived.Test.YteekafpkbdbadaaQY
set_option maxRecDepth 100000
set_option linter.unusedVariables false
namespace Go.Proofs.Yteekafpkbdbadaa.Pi
open Go.RowKit
section
variable {w w' : World} {role : Nat → Nat} {g : Nat} {T : TaS} {Y : TaY}
theorem TZ.setNews (h : TZ w role g T Y) (v : Nat) (hg : w.grownBy w' (some g)) (hc : CR w' g 64 [.bool T.srv, u64 T.ow.w, u64 T.ow.c, u64 T.ow.b, u64 T.ow.u, u64 T.pe.w, u64 T.pe.c, u64 T.pe.b, u64 T.pe.u, .map (some Y.ml), .map (some Y.ms), ptr Y.pu, ptr Y.ti, .int .i64 (v : Int), Y.ca.v]) : TZ w' role g { T with news := v } Y ∧ Stq (fun r => r = 1) w w' role role := by
  have hr := h.row.rb
  have st : Stq (fun r => r = 1) w w' role role := Stq.grown hg hr h.top
  have k := st.kq
  exact ⟨⟨⟨hc, hr⟩, h.lm.1.stq h.lm.2 k (by omega), ⟨⟨h.sm.1.choose, (h.sm.1.choose_spec.stq h.sm.2 k (by omega)).1⟩, h.sm.2⟩, fun x y => (h.so x y).stq k (by have := rso_bd x y; omega), cr_stq h.pu.1 h.pu.2 k (by omega), cr_stq h.ti.1 h.ti.2 k (by omega), h.ca.stq k (by omega), fun id x hx => (h.st id x hx).stq k (fun j _ => by unfold rid; omega), h.ids, st.top⟩, st⟩
/-- a till's bounds -/
structure TB (t : TiS) : Prop where
  a : t.t ≤ t.l
  b : t.l ≤ 4611686018427387903
  c : t.wi ≤ 4611686018427387903
def newsL (t : TiS) : TiS := { t with l := (newsT t.wi t.l t.t).getD t.l }
def tellS (T : TaS) (id : Nat) (i : InS) : TaS := Pi.setIn { T with ti := newsL T.ti, news := if (newsT T.ti.wi T.ti.l T.ti.t).isSome then 1 else T.news } id { i with ti := newsL i.ti }
theorem setIn_l {T : TaS} {id : Nat} {x : StS} {i : InS} (hs : T.l id = some x) : (Pi.setIn T id i).l id = some { x with inn := some i } := by
  unfold Pi.setIn
  simp only [if_true, hs, Option.map_some]
/-- a stream's pointer to its part to receive stays where its block does -/
theorem TZ.keep6 {R : Nat → Prop} {id : Nat} {x : StS} {v : Value} (h : TZ w role g T Y) (hs : T.l id = some x) (st : Kq R w w' role role) (hn : ¬ R (rid id)) (hib : w.cell? ⟨Y.sb id, 6, none⟩ = some v) : w'.cell? ⟨Y.sb id, 6, none⟩ = some v := by
  obtain ⟨ob, ib2, a, _⟩ := (h.st id x hs).ex
  have hc := a.cr
  have hc3 := (a.stq st hn).cr
  rw [hc3.at_, ← hc.at_]
  exact hib
set_option maxHeartbeats 4000000 in
theorem tell_end (h : TZ w role g T Y) {id ib : Nat} {s : StS} {i : InS} (hid : id < 18446744073709551616) (hs : T.l id = some s) (hi : s.inn = some i) (hib : w.cell? ⟨Y.sb id, 6, none⟩ = some (ptr ib)) (hz : InZ w role (rid id) ib i) (hk : i.qu.known = true) (b1 : TB T.ti) (b2 : TB i.ti) :
    Calls Try.prog 38 #[ptr g, .int .u64 (id : Int)] w fun e w' => e = .returned (.tuple #[]) ∧ TZ w' role g (tellS T id i) Y ∧ Stq (fun r => r ≠ 0) w w' role role ∧ w'.cell? ⟨Y.sb id, 6, none⟩ = some (ptr ib) := by
  obtain ⟨ti, qb, hp⟩ := hz.ip
  obtain ⟨sb, hsb⟩ : ∃ b, Y.sb id = b := ⟨_, rfl⟩
  rw [hsb] at hib
  have H := Lib.hid h
  have HP := Lib.hid hp
  have HS := Lib.hid (⟨hs, hi, hid, hk⟩ : T.l id = some s ∧ s.inn = some i ∧ id < 18446744073709551616 ∧ i.qu.known = true)
  have HIB := Lib.hid hib
  have HSB := Lib.hid hsb
  have HB2 := Lib.hid b2
  have g12 : w.cell? ⟨g, 12, none⟩ = some (.pointer (some ⟨Y.ti, 0, none⟩)) := h.row.cr.at_ 12
  have HNW := Lib.hid (tnews_any h.ti.1 b1.a b1.b b1.c)
  obtain ⟨o1, ho1⟩ : ∃ b, (newsT T.ti.wi T.ti.l T.ti.t).isSome = b := ⟨_, rfl⟩
  rw [ho1] at HNW
  have HO1 := Lib.hid ho1
  obtain ⟨o2, ho2⟩ : ∃ b, (newsT i.ti.wi i.ti.l i.ti.t).isSome = b := ⟨_, rfl⟩
  have HO2 := Lib.hid ho2
  unfold ptr at HNW ⊢
  clear h hs hi hid hk hib hz hp hsb b1 b2 ho1 ho2
  go_enter Try.func38, Try.ntmps38
  go_upto_region 1 with (go_at_call 51; refine HNW.out.mono ?_; rintro x w2 ⟨rfl, t2, g2⟩)
  have Z2 := Lib.hid (H.out.setTi (newsL T.ti) g2 t2)
  have s9 : Stq (fun r => r = 9) w w2 role role := Stq.grown g2 H.out.ti.2 H.out.top
  have HP2 := Lib.hid (HP.out.stq s9.kq (fun j _ _ => by unfold rid; omega))
  have HI2 := Lib.hid (show w2.cell? ⟨sb, 6, none⟩ = some (ptr ib) by obtain ⟨ob, ib2, a, _⟩ := (H.out.st id s HS.out.1).ex; have hc := a.cr; have hc3 := (a.stq s9.kq (by unfold rid; omega)).cr; rw [HSB.out] at hc hc3; rw [hc3.at_, ← hc.at_]; exact HIB.out)
  clear g12 s9 t2 g2
  have fin : ∀ (w3 : World), TZ w3 role g { T with ti := newsL T.ti, news := if o1 then 1 else T.news } Y → Stq (fun r => r = 1) w2 w3 role role → Hid (TZ w3 role g { T with ti := newsL T.ti, news := if o1 then 1 else T.news } Y ∧ IP w3 role (rid id) ib ti qb i ∧ w3.cell? ⟨sb, 6, none⟩ = some (ptr ib) ∧ Stq (fun r => r ≠ 0) w w3 role role) := fun w3 z st => Lib.hid ⟨z, HP2.out.stq st.kq (fun j _ _ => by unfold rid; omega), by obtain ⟨ob, ib2, a, _⟩ := (Z2.out.1.st id s HS.out.1).ex; have hc := a.cr; have hc3 := (a.stq st.kq (by unfold rid; omega)).cr; rw [HSB.out] at hc hc3; rw [hc3.at_, ← hc.at_]; exact HI2.out, Z2.out.2.trans (st.mono (fun r hr => by omega))⟩
  cases o1
  · have HF3 := fin w2 Z2.out.1 (Stq.bel (Below.refl _ _) Z2.out.1.top)
    have g9 : w2.cell? ⟨g, 9, none⟩ = some (.map (some Y.ml)) := HF3.out.1.row.cr.at_ 9
    have l0 : (Instr.lookup 56 (.map (some Y.ml)) (.int .u64 (id : Int)) false).run Try.prog w2 = .ok (.pointer (some ⟨sb, 0, none⟩)) w2 := by have hq := HF3.out.1.lm.1.look id HS.out.2.2.1; simp only [HS.out.1, HSB.out, Option.map_some] at hq; exact hq
    have s6 : w2.cell? ⟨sb, 6, none⟩ = some (.pointer (some ⟨ib, 0, none⟩)) := HF3.out.2.2.1
    have i0 : w2.cell? ⟨ib, 0, none⟩ = some (.pointer (some ⟨ti, 0, none⟩)) := HF3.out.2.1.ic.cr.at_ 0
    have HN2 := Lib.hid (tnews_any HF3.out.2.1.tz HB2.out.a HB2.out.b HB2.out.c)
    rw [HO2.out] at HN2
    unfold ptr at HN2
    clear fin
    go_upto_region 5 with (go_at_call 51; refine HN2.out.mono ?_; rintro x w4 ⟨rfl, t4, g4⟩)
    obtain ⟨ip4, st4⟩ := HF3.out.2.1.setTi (newsL i.ti) g4 t4 HF3.out.1.top
    have HI4 := Lib.hid ip4
    have HC4 := Lib.hid (HF3.out.1.keep6 HS.out.1 st4.kq (by omega) (by rw [HSB.out]; exact HF3.out.2.2.1))
    have Z4 := Lib.hid (HF3.out.1.setIn HS.out.1 HS.out.2.1 { i with ti := newsL i.ti } (st4.mono (fun r hr => by omega)) (fun ib' e1 e2 => by
      rw [HSB.out, HF3.out.2.2.1] at e1
      unfold ptr at e1
      simp at e1
      subst e1
      exact ip4.inz))
    have HOE := Lib.hid (open_end HI4.out HS.out.2.2.2)
    unfold ptr at HOE
    clear g9 l0 s6 i0 t4 g4 ip4 st4
    cases o2
    · go_wp2_with fail
      go_end0
      refine ⟨rfl, ?_, HF3.out.2.2.2.trans Z4.out.2, HC4.out⟩
      unfold tellS
      rw [HO1.out]
      exact Z4.out.1
    · go_wp2_with (go_at_call 52; refine HOE.out.mono ?_; rintro x w5 ⟨rfl, B5⟩)
      go_end0
      refine ⟨rfl, ?_, (HF3.out.2.2.2.trans Z4.out.2).trans (Stq.bel B5 Z4.out.1.top), ?_⟩
      rotate_left
      · exact Z4.out.1.keep6 (setIn_l HS.out.1) (Stq.bel (R := fun _ => False) B5 Z4.out.1.top).kq (fun h => h) HC4.out
      unfold tellS
      rw [HO1.out]
      exact Z4.out.1.bel B5
  · go_upto_region 3 with (refine L_store1 rfl _ _ _ rfl (i := 13) (v := .int .i64 1) Z2.out.1.row.cr rfl rfl (by kernel_rfl) (Nat.le_of_ble_eq_true rfl) rfl ?_; intro w3 hc3 hg3)
    have z3 := Z2.out.1.setNews 1 hg3 hc3
    have HF3 := fin w3 z3.1 z3.2
    clear hc3 hg3 z3
    have g9 : w3.cell? ⟨g, 9, none⟩ = some (.map (some Y.ml)) := HF3.out.1.row.cr.at_ 9
    have l0 : (Instr.lookup 56 (.map (some Y.ml)) (.int .u64 (id : Int)) false).run Try.prog w3 = .ok (.pointer (some ⟨sb, 0, none⟩)) w3 := by have hq := HF3.out.1.lm.1.look id HS.out.2.2.1; simp only [HS.out.1, HSB.out, Option.map_some] at hq; exact hq
    have s6 : w3.cell? ⟨sb, 6, none⟩ = some (.pointer (some ⟨ib, 0, none⟩)) := HF3.out.2.2.1
    have i0 : w3.cell? ⟨ib, 0, none⟩ = some (.pointer (some ⟨ti, 0, none⟩)) := HF3.out.2.1.ic.cr.at_ 0
    have HN2 := Lib.hid (tnews_any HF3.out.2.1.tz HB2.out.a HB2.out.b HB2.out.c)
    rw [HO2.out] at HN2
    unfold ptr at HN2
    clear fin
    go_upto_region 5 with (go_at_call 51; refine HN2.out.mono ?_; rintro x w4 ⟨rfl, t4, g4⟩)
    obtain ⟨ip4, st4⟩ := HF3.out.2.1.setTi (newsL i.ti) g4 t4 HF3.out.1.top
    have HI4 := Lib.hid ip4
    have HC4 := Lib.hid (HF3.out.1.keep6 HS.out.1 st4.kq (by omega) (by rw [HSB.out]; exact HF3.out.2.2.1))
    have Z4 := Lib.hid (HF3.out.1.setIn HS.out.1 HS.out.2.1 { i with ti := newsL i.ti } (st4.mono (fun r hr => by omega)) (fun ib' e1 e2 => by
      rw [HSB.out, HF3.out.2.2.1] at e1
      unfold ptr at e1
      simp at e1
      subst e1
      exact ip4.inz))
    have HOE := Lib.hid (open_end HI4.out HS.out.2.2.2)
    unfold ptr at HOE
    clear g9 l0 s6 i0 t4 g4 ip4 st4
    cases o2
    · go_wp2_with fail
      go_end0
      refine ⟨rfl, ?_, HF3.out.2.2.2.trans Z4.out.2, HC4.out⟩
      unfold tellS
      rw [HO1.out]
      exact Z4.out.1
    · go_wp2_with (go_at_call 52; refine HOE.out.mono ?_; rintro x w5 ⟨rfl, B5⟩)
      go_end0
      refine ⟨rfl, ?_, (HF3.out.2.2.2.trans Z4.out.2).trans (Stq.bel B5 Z4.out.1.top), ?_⟩
      rotate_left
      · exact Z4.out.1.keep6 (setIn_l HS.out.1) (Stq.bel (R := fun _ => False) B5 Z4.out.1.top).kq (fun h => h) HC4.out
      unfold tellS
      rw [HO1.out]
      exact Z4.out.1.bel B5
end
end Go.Proofs.Yteekafpkbdbadaa.Pi
