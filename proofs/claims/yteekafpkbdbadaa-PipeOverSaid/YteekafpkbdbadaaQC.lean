/- pipe: a stream's part to receive turns; count. -/
import Derived.Test.YteekafpkbdbadaaOW
import Derived.Test.YteekafpkbdbadaaQA
set_option maxRecDepth 100000
set_option linter.unusedVariables false
namespace Go.Proofs.Yteekafpkbdbadaa.Pi
open Go.RowKit
def setIn (T : TaS) (id : Nat) (i : InS) : TaS := { T with l := fun j => if j = id then (T.l id).map (fun s => { s with inn := some i }) else T.l j }
section
variable {w w' : World} {role role' : Nat → Nat} {g : Nat} {T : TaS} {Y : TaY}
theorem LM.cast {b n : Nat} {m m' : Nat → Option Nat} (h : LM w b n m) (he : ∀ a, m a = m' a) : LM w b n m' := by
  have : m = m' := funext he
  rw [← this]; exact h
/-- the part to receive of a stream -/
theorem TZ.inz (h : TZ w role g T Y) {id : Nat} {s : StS} {i : InS} (hs : T.l id = some s) (hi : s.inn = some i) : ∃ ib, w.cell? ⟨Y.sb id, 6, none⟩ = some (ptr ib) ∧ InZ w role (rid id) ib i := by
  obtain ⟨ob, ib, h1, h2, h3, h4, h5⟩ := (h.st id s hs).ex
  cases ib with
  | none => rw [hi] at h3; exact absurd (h3.2 rfl) (by simp)
  | some b => exact ⟨b, h1.cr.at_ 6, h5 i b hi rfl⟩
theorem TZ.setIn (h : TZ w role g T Y) {id : Nat} {s : StS} {i : InS} (hs : T.l id = some s) (hi : s.inn = some i) (i' : InS) (st : Stq (fun r => rid id + 8 ≤ r ∧ r < rid id + 16) w w' role role')
    (hin : ∀ ib, w.cell? ⟨Y.sb id, 6, none⟩ = some (ptr ib) → InZ w role (rid id) ib i → InZ w' role' (rid id) ib i') : TZ w' role' g (Pi.setIn T id i') Y ∧ Stq (fun r => r ≠ 0) w w' role role' := by
  have k := st.kq
  refine ⟨⟨h.row.stq k (by unfold rid; omega), ?_, ⟨⟨h.sm.1.choose, (h.sm.1.choose_spec.stq h.sm.2 k (by unfold rid; omega)).1⟩, (h.sm.1.choose_spec.stq h.sm.2 k (by unfold rid; omega)).2⟩, fun x y => (h.so x y).stq k (by have := rso_bd x y; unfold rid; omega), cr_stq h.pu.1 h.pu.2 k (by unfold rid; omega), cr_stq h.ti.1 h.ti.2 k (by unfold rid; omega), h.ca.stq k (by unfold rid; omega), fun j x hx => ?_, ?_, st.top⟩, st.mono (fun r hr => by omega)⟩
  · have := h.lm.1.stq h.lm.2 k (by unfold rid; omega)
    refine ⟨this.1.cast (fun a => ?_), this.2⟩
    unfold Pi.setIn
    simp only []
    by_cases ha : a = id
    · subst ha; rw [if_pos rfl, hs]; rfl
    · rw [if_neg ha]
  · by_cases hj : j = id
    · subst hj
      unfold Pi.setIn at hx
      simp only [if_true, hs, Option.map_some] at hx
      injection hx with hx
      subst hx
      obtain ⟨ob, ib, a, h1, h2, h3, h4⟩ := (h.st j s hs).ex
      refine ⟨ob, ib, a.stq k (by omega), h1, ?_, fun o b' e1 e2 => (h3 o b' e1 e2).stq k (fun x _ hx => by omega), fun i2 b' e1 e2 => ?_⟩
      · rw [hi] at h2
        exact ⟨fun hh => by (cases hh), fun hh => absurd (h2.2 hh) (by simp)⟩
      · injection e1 with e1
        subst e1 e2
        exact hin b' (a.cr.at_ 6) (h4 i b' hi rfl)
    · unfold Pi.setIn at hx
      simp only [hj, if_false] at hx
      exact (h.st j x hx).stq k (fun y hy => by unfold rid; omega)
  · refine ⟨h.ids.1, fun a => ?_, h.ids.2.2⟩
    show a ∈ T.ids ↔ _
    rw [h.ids.2.1 a]
    unfold Pi.setIn
    simp only []
    by_cases ha : a = id
    · subst ha; rw [if_pos rfl, hs]; simp
    · rw [if_neg ha]
theorem TZ.setTi (h : TZ w role g T Y) (t : TiS) (hg : w.grownBy w' (some Y.ti)) (hc : TiZ w' Y.ti t.wi t.l t.c t.t) : TZ w' role g { T with ti := t } Y ∧ Stq (fun r => r ≠ 0) w w' role role := by
  have st : Stq (fun r => r = 9) w w' role role := Stq.grown hg h.ti.2 h.top
  have k := st.kq
  refine ⟨⟨h.row.stq k (by omega), h.lm.1.stq h.lm.2 k (by omega), ⟨⟨h.sm.1.choose, (h.sm.1.choose_spec.stq h.sm.2 k (by omega)).1⟩, h.sm.2⟩, fun x y => (h.so x y).stq k (by have := rso_bd x y; omega), cr_stq h.pu.1 h.pu.2 k (by omega), ⟨hc, h.ti.2⟩, h.ca.stq k (by omega), fun id x hx => (h.st id x hx).stq k (fun j _ => by unfold rid; omega), h.ids, st.top⟩, st.mono (fun r hr => by omega)⟩
/-- where a part to receive keeps its till and its quilt -/
structure IP (w : World) (role : Nat → Nat) (r ib ti qb : Nat) (i : InS) : Prop where
  ic : CX w role (r + 8) ib 89 [ptr ti, ptr qb, .bool i.reset, u64 i.code, .bool i.told, .bool i.done, .int .i64 (i.stop : Int), u64 i.why, .int .i64 (i.news : Int)]
  tz : TiZ w ti i.ti.wi i.ti.l i.ti.c i.ti.t
  tr : role ti = r + 9
  qz : QuZ w role r qb i.qu
theorem InZ.ip {r ib : Nat} {i : InS} (h : InZ w role r ib i) : ∃ ti qb, IP w role r ib ti qb i := by
  obtain ⟨ti, qb, a, ⟨b, c⟩, d⟩ := h.ex
  exact ⟨ti, qb, a, b, c, d⟩
theorem IP.inz {r ib ti qb : Nat} {i : InS} (h : IP w role r ib ti qb i) : InZ w role r ib i := ⟨ti, qb, h.ic, ⟨h.tz, h.tr⟩, h.qz⟩
theorem IP.stq {R : Nat → Prop} {r ib ti qb : Nat} {i : InS} (h : IP w role r ib ti qb i) (s : Kq R w w' role role') (hn : ∀ j, 7 < j → j < 16 → ¬ R (r + j)) : IP w' role' r ib ti qb i :=
  ⟨h.ic.stq s (hn 8 (by omega) (by omega)), (cr_stq h.tz h.tr s (hn 9 (by omega) (by omega))).1, (cr_stq h.tz h.tr s (hn 9 (by omega) (by omega))).2, h.qz.stq s (fun j h1 h2 => hn j (by omega) h2)⟩
theorem IP.bel {r ib ti qb : Nat} {i : InS} (h : IP w role r ib ti qb i) (hb : Below w.heap.size w w') (top : ∀ k, w.heap.size ≤ k → role k = 0) : IP w' role r ib ti qb i := h.stq (R := fun _ => False) (Stq.bel hb top).kq (fun _ _ _ h => h)
/-- only the till turns -/
theorem IP.setTi {r ib ti qb : Nat} {i : InS} (h : IP w role r ib ti qb i) (t : TiS) (hg : w.grownBy w' (some ti)) (hc : TiZ w' ti t.wi t.l t.c t.t) (top : ∀ k, w.heap.size ≤ k → role k = 0) : IP w' role r ib ti qb { i with ti := t } ∧ Stq (fun x => x = r + 9) w w' role role := by
  have st : Stq (fun x => x = r + 9) w w' role role := Stq.grown hg h.tr top
  exact ⟨⟨h.ic.stq st.kq (by omega), hc, h.tr, h.qz.stq st.kq (fun j _ _ => by omega)⟩, st⟩
/-- the same pointer leads to the same part -/
theorem IP.same {r ib ti qb ti2 qb2 : Nat} {i i2 : InS} (h : IP w role r ib ti qb i) (h2 : IP w role r ib ti2 qb2 i2) : ti = ti2 ∧ qb = qb2 := by
  have e := (CR.type h.ic.cr h2.ic.cr).2
  unfold ptr at e
  simp at e
  exact ⟨e.1, e.2.1⟩
end
end Go.Proofs.Yteekafpkbdbadaa.Pi
