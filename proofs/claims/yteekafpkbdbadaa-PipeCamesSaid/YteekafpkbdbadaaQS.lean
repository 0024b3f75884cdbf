/- law12.PipeCames: plain. -/
import Derived.Test.YteekafpkbdbadaaQR
import Derived.Test.YteekafpkbdbadaaQJ
set_option maxRecDepth 100000
set_option linter.unusedVariables false
namespace Go.Proofs.Yteekafpkbdbadaa.Pi
open Go.RowKit
theorem knowK_came {T : TaS} {s u : Bool} {r : Nat} (j : Nat) : (knowK T s u r j).came = T.came ++ (List.range j).map (fun i => ((T.so s u).known + i) * 4 + r) := by
  induction j with
  | zero => simp [knowK]
  | succ j ih =>
    show (knowK T s u r j).came ++ [((knowK T s u r j).so s u).known * 4 + r] = _
    rw [ih, knowK_so, List.range_succ, List.map_append, List.append_assoc]
    rfl
theorem knowK_so2 {T : TaS} {s u : Bool} {r : Nat} (j : Nat) {a b : Bool} (h : ¬ (a = s ∧ b = u)) : (knowK T s u r j).so a b = T.so a b := by
  induction j with
  | zero => rfl
  | succ j ih =>
    show (if a = s ∧ b = u then _ else (knowK T s u r j).so a b) = _
    rw [if_neg h, ih]
/-- what PipeCames knows of its table -/
structure CI (T : TaS) (Y : TaY) (k : Bool → Nat) : Prop where
  srv : T.srv = true
  kn : ∀ u, (T.so false u).known = k u
  my : ∀ u, (T.so false u).may = 20
  k20 : ∀ u, k u ≤ 20
  va : ∀ u j, k u ≤ j → T.l (j * 4 + lst false u) = none
  fr : ∀ u j, j < k u → ∃ s i, T.l (j * 4 + lst false u) = some s ∧ s.inn = some i ∧ i.qu = ⟨[], 0, 0, 0, false⟩
  cl : T.ti.c ≤ T.ti.l
  ll : T.ti.l < 18446744073709551616
  ce : T.came = []
  yn : Y.n = k false + k true
theorem CI.start {Y : TaY} (hy : Y.n = 0) : CI (newS true 100 1000 20 20) Y (fun _ => 0) :=
  ⟨rfl, fun u => by cases u <;> rfl, fun u => by cases u <;> rfl, fun _ => by omega, fun u j _ => rfl, fun u j h => by omega, by decide, by decide, rfl, hy⟩
theorem id_od (b : Nat) (u : Bool) : od (b * 4 + lst false u) = false := by unfold od lst; cases u <;> simp <;> omega
theorem id_wy (b : Nat) (u : Bool) : wy (b * 4 + lst false u) = u := by unfold wy lst; cases u <;> simp <;> omega
theorem id_r (b : Nat) (u : Bool) : (b * 4 + lst false u) % 4 = lst false u := by unfold lst; cases u <;> simp <;> omega
theorem id_q (b : Nat) (u : Bool) : (b * 4 + lst false u) / 4 = b := by unfold lst; cases u <;> simp <;> omega
theorem lst_ne {u v : Bool} (h : v ≠ u) (a b : Nat) : a * 4 + lst false v ≠ b * 4 + lst false u := by unfold lst; cases u <;> cases v <;> simp at h <;> simp <;> omega
theorem CI.nes {T : TaS} {Y : TaY} {k : Bool → Nat} (h : CI T Y k) (hca : Y.ca.n = 0) (u : Bool) {b d : Nat} (hb : b < 20) (hd : k u + d = max (k u) (b + 1)) : NES T Y (b * 4 + lst false u) d := by
  have h1 := h.k20 false
  have h2 := h.k20 true
  have hku := h.k20 u
  have hl : lst false u < 4 := by unfold lst; cases u <;> decide
  refine ⟨by omega, by rw [id_od, h.srv]; rfl, ?_, ?_, ?_, ?_, ?_, ?_, h.cl, h.ll⟩
  · rw [id_od, id_wy, id_q, h.kn]; exact hd
  · rw [id_od, id_wy, h.kn]; omega
  · intro i hi
    rw [id_od, id_wy, h.kn] at hi
    rw [id_r]
    exact h.va u i hi
  · rw [h.yn]; omega
  · rw [hca]; omega
  · intro hlt
    rw [id_od, id_wy, id_q, h.kn] at hlt
    exact h.fr u b hlt
theorem CI.know {T : TaS} {Y Y' : TaY} {k : Bool → Nat} (h : CI T Y k) (u : Bool) {b d : Nat} (hb : b < 20) (hd : k u + d = max (k u) (b + 1)) (hy : Y'.n = Y.n + d) :
    CI { knowK T false u (lst false u) d with came := [] } Y' (kset k u (k u + d)) := by
  have hk := h.kn u
  have hku := h.k20 u
  refine ⟨(knowK_srv d).trans h.srv, fun v => ?_, fun v => ?_, fun v => ?_, fun v j hj => ?_, fun v j hj => ?_, ?_, ?_, rfl, ?_⟩
  · show ((knowK T false u (lst false u) d).so false v).known = _
    unfold kset
    by_cases hv : v = u
    · subst hv
      rw [if_pos rfl, knowK_so]
      show (T.so false v).known + d = _
      rw [hk]
    · rw [if_neg hv, knowK_so2 d (fun hh => hv hh.2)]
      exact h.kn v
  · show ((knowK T false u (lst false u) d).so false v).may = _
    by_cases hv : v = u
    · subst hv
      rw [knowK_so]
      exact h.my v
    · rw [knowK_so2 d (fun hh => hv hh.2)]
      exact h.my v
  · unfold kset
    split
    · omega
    · exact h.k20 v
  · show (knowK T false u (lst false u) d).l (j * 4 + lst false v) = none
    unfold kset at hj
    rw [knowK_l, hk]
    by_cases hv : v = u
    · subst hv
      rw [if_pos rfl] at hj
      rw [if_neg (by rintro ⟨i, a, e⟩; omega)]
      exact h.va v j (by omega)
    · rw [if_neg hv] at hj
      rw [if_neg (by rintro ⟨i, a, e⟩; exact lst_ne hv _ _ e)]
      exact h.va v j hj
  · show ∃ s i, (knowK T false u (lst false u) d).l (j * 4 + lst false v) = some s ∧ _
    unfold kset at hj
    rw [knowK_l, hk]
    by_cases hv : v = u
    · subst hv
      rw [if_pos rfl] at hj
      by_cases hjk : j < k v
      · rw [if_neg (by rintro ⟨i, a, e⟩; omega)]
        exact h.fr v j hjk
      · rw [if_pos ⟨j - k v, by omega, by omega⟩]
        refine ⟨_, in0 T.ow.w, rfl, ?_, rfl⟩
        unfold stN
        rw [id_od, h.srv]
        rfl
    · rw [if_neg hv] at hj
      rw [if_neg (by rintro ⟨i, a, e⟩; exact lst_ne hv _ _ e)]
      exact h.fr v j hj
  · show (knowK T false u (lst false u) d).ti.c ≤ (knowK T false u (lst false u) d).ti.l
    rw [knowK_ti]; exact h.cl
  · show (knowK T false u (lst false u) d).ti.l < _
    rw [knowK_ti]; exact h.ll
  · rw [hy, h.yn]
    unfold kset
    cases u <;> simp <;> omega
/-- the new ones, as Came tells them -/
def newL (k : Bool → Nat) (u : Bool) (d : Nat) : List Nat := (List.range d).map (fun i => (k u + i) * 4 + lst false u)
theorem hear_ci {w : World} {role : Nat → Nat} {g : Nat} {T : TaS} {Y : TaY} {k : Bool → Nat} (h : TZ w role g T Y) (hc : CI T Y k) (u : Bool) {b d : Nat} (hb : b < 20) (hd : k u + d = max (k u) (b + 1)) :
    Calls Try.prog 11 #[ptr g, .agg (frc 8 ((b * 4 + lst false u : Nat) : Int) 0 0 0 false SA0 SA0 SA0).toArray] w fun e w' => e = .returned (.int .u64 0) ∧ ∃ role' T' Y', TZ w' role' g T' Y' ∧ T'.came = newL k u d ∧ CI { T' with came := [] } Y' (kset k u (k u + d)) ∧ Stq (fun r => r ≠ 0) w w' role role' := by
  have hca : Y.ca.n = 0 := by rw [h.can, hc.ce]; rfl
  have hn := hc.nes hca u hb hd
  have hm : (b * 4 + lst false u) / 4 < (T.so (od (b * 4 + lst false u)) u).may := by rw [id_q, id_od, hc.my]; exact hb
  have hcm : (knowK T false u (lst false u) d).came = newL k u d := by rw [knowK_came, hc.ce, hc.kn]; rfl
  have fin : ∀ (e : Ending) (w' : World), (e = .returned (.int .u64 0) ∧ ∃ role' Y', TZ w' role' g (knowK T (od (b * 4 + lst false u)) (wy (b * 4 + lst false u)) ((b * 4 + lst false u) % 4) d) Y' ∧ Stq (fun r => r ≠ 0) w w' role role' ∧ YK Y Y' d) → (e = .returned (.int .u64 0) ∧ ∃ role' T' Y', TZ w' role' g T' Y' ∧ T'.came = newL k u d ∧ CI { T' with came := [] } Y' (kset k u (k u + d)) ∧ Stq (fun r => r ≠ 0) w w' role role') := by
    rintro e w' ⟨rfl, role', Y', z, s, y⟩
    rw [id_od, id_wy, id_r] at z
    exact ⟨rfl, role', _, Y', z, hcm, hc.know u hb hd y.n, s⟩
  cases u
  · exact (hear_e_false h hn (id_wy b false) hm).mono fin
  · exact (hear_e_true h hn (id_wy b true) hm).mono fin
end Go.Proofs.Yteekafpkbdbadaa.Pi
