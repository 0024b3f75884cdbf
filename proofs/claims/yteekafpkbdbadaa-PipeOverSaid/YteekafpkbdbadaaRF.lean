/- PipeOver: what the table is on the way, in plain Lean. -/
import Derived.Test.YteekafpkbdbadaaRD
import Derived.Test.YteekafpkbdbadaaRE
import Derived.Test.YteekafpkbdbadaaQI
set_option maxRecDepth 100000
set_option linter.unusedVariables false
namespace Go.Proofs.Yteekafpkbdbadaa.Pi
open Go.RowKit
/-- k streams came, i rounds of the law are over -/
structure PV (T : TaS) (n k i : Nat) : Prop where
  sv : T.srv = true
  ow : T.ow.w = 100
  kn : (T.so false true).known = k
  my : (T.so false true).may = max n i
  wi : T.ti.wi = 1048576
  tl : T.ti.l = 1048576
  tt : T.ti.t ≤ T.ti.c
  tc : T.ti.c ≤ k
  no : ∀ id, T.l id ≠ none → ∃ j, j < k ∧ id = 4 * j + 2
  st : ∀ j, j < k → ∃ s ii, T.l (4 * j + 2) = some s ∧ s.out = none ∧ s.inn = some ii ∧ ii.reset = false ∧ (j + n < i → ii.done = true) ∧ (i ≤ j + n → s.past = false ∧ ii.done = false ∧ ii.qu = ⟨[(0, [120])], 0, 1, 1, true⟩ ∧ ii.ti = ⟨100, 100, 1, 0⟩)
  ce : T.came.length = k
theorem od2 (k : Nat) : od (4 * k + 2) = false := by unfold od; simp; omega
theorem wy2 (k : Nat) : wy (4 * k + 2) = true := by unfold wy; simp; omega
section
variable {T : TaS} {n k i : Nat}
theorem PV.start (n : Nat) (hn : n ≤ 5) : PV (newS true 100 1048576 0 n) n 0 0 :=
  ⟨rfl, rfl, rfl, by show min n 1152921504606846976 = max n 0; omega, rfl, rfl, Nat.le_refl 0, Nat.le_refl 0, fun id h => absurd rfl h, fun j h => absurd h (by omega), rfl⟩
theorem PV.absent (h : PV T n k i) (j : Nat) (hj : k ≤ j) : T.l (4 * j + 2) = none := by
  cases hh : T.l (4 * j + 2) with
  | none => rfl
  | some s => obtain ⟨q, h1, h2⟩ := h.no _ (by rw [hh]; simp); omega
/-- the next stream may come -/
theorem PV.nws (h : PV T n k i) {w : World} {role : Nat → Nat} {g : Nat} {Y : TaY} (z : TZ w role g T Y) (hk : k < 30) (hy : Y.n ≤ k) : NWS T Y (4 * k + 2) 1 := by
  refine ⟨by omega, by rw [od2, h.sv]; rfl, by rw [od2, wy2, h.kn]; omega, fun j hj => ?_, by omega, by rw [z.can, h.ce]; omega, by decide, by decide, by rw [h.ow]; decide, by rw [h.tl]; have := h.tc; omega, by rw [h.tl]; have := h.tc; omega, by rw [h.tl]; decide⟩
  rw [show j * 4 + (4 * k + 2) % 4 = 4 * j + 2 by omega]
  exact h.absent j (by omega)
theorem bytesN_l (T : TaS) (id j : Nat) (n : Nat) (p : List UInt8) : (bytesN T id n p).l j = if j = id then ((knowK T (od id) (wy id) (id % 4) 1).l id).map (fun s => { s with inn := some (inB T.ow.w n p) }) else (knowK T (od id) (wy id) (id % 4) 1).l j := by
  unfold bytesN countS Pi.setIn
  simp only []
  by_cases hj : j = id
  · subst hj
    simp only [if_true]
    cases (knowK T (od j) (wy j) (j % 4) 1).l j <;> rfl
  · rw [if_neg hj, if_neg hj, if_neg hj]
theorem PV.next (h : PV T n k i) (hn : 0 < n) (hik : i ≤ k + n) : PV (bytesN T (4 * k + 2) 1 [120]) n (k + 1) i := by
  have e1 := od2 k
  have e2 := wy2 k
  have e3 : (4 * k + 2) % 4 = 2 := by omega
  have hl : ∀ j, (bytesN T (4 * k + 2) 1 [120]).l j = if j = 4 * k + 2 then some { (stN T (4 * k + 2)) with inn := some (inB 100 1 [120]) } else T.l j := fun j => by
    rw [bytesN_l, e1, e2, e3, h.ow]
    by_cases hj : j = 4 * k + 2
    · rw [if_pos hj, if_pos hj, knowK_l, if_pos ⟨0, by omega, by rw [h.kn]; omega⟩]
      rfl
    · rw [if_neg hj, if_neg hj, knowK_l, if_neg (fun hh => by obtain ⟨q, q1, q2⟩ := hh; rw [h.kn] at q2; omega)]
  have hso : (bytesN T (4 * k + 2) 1 [120]).so = (knowK T false true 2 1).so := by unfold bytesN countS Pi.setIn; rw [e1, e2, e3]
  have hti : (bytesN T (4 * k + 2) 1 [120]).ti = { T.ti with c := max T.ti.c (T.ti.c + 1 - 0) } := by
    unfold bytesN countS Pi.setIn
    simp only [knowK_ti]
    rfl
  refine ⟨?_, ?_, ?_, ?_, ?_, ?_, ?_, ?_, fun id hid => ?_, fun j hj => ?_, ?_⟩
  · show (knowK T _ _ _ 1).srv = true
    rw [knowK_srv]; exact h.sv
  · show (knowK T _ _ _ 1).ow.w = 100
    rw [knowK_ow]; exact h.ow
  · rw [hso, knowK_so]; show (T.so false true).known + 1 = _; rw [h.kn]
  · rw [hso, knowK_so]; exact h.my
  · rw [hti]; exact h.wi
  · rw [hti]; exact h.tl
  · rw [hti]; show T.ti.t ≤ max T.ti.c (T.ti.c + 1 - 0); have := h.tt; omega
  · rw [hti]; show max T.ti.c (T.ti.c + 1 - 0) ≤ k + 1; have := h.tc; omega
  · rw [hl] at hid
    by_cases hj : id = 4 * k + 2
    · exact ⟨k, by omega, hj⟩
    · rw [if_neg hj] at hid
      obtain ⟨q, q1, q2⟩ := h.no id hid
      exact ⟨q, by omega, q2⟩
  · rw [hl]
    by_cases hjk : j = k
    · subst hjk
      rw [if_pos rfl]
      refine ⟨_, _, rfl, ?_, rfl, rfl, fun hh => absurd hh (by omega), fun _ => ⟨rfl, rfl, rfl, rfl⟩⟩
      show (stN T (4 * j + 2)).out = none
      unfold stN
      simp only [e1, e2, h.sv]
      rfl
    · rw [if_neg (by omega)]
      exact h.st j (by omega)
  · show ((knowK T (od (4 * k + 2)) (wy (4 * k + 2)) ((4 * k + 2) % 4) 1).came).length = k + 1
    show (T.came ++ [_]).length = k + 1
    rw [List.length_append, h.ce]
    rfl
/-- news of a limit are not due yet -/
theorem newsL_same {t : TiS} (hw : t.wi = 1048576) (hl : t.l = 1048576) (ht : t.t ≤ 100) : newsL t = t ∧ newsT t.wi t.l t.t = none := by
  have e : newsT t.wi t.l t.t = none := by unfold newsT; rw [hw, hl, if_pos (by omega)]
  refine ⟨?_, e⟩
  unfold newsL
  rw [e]
  rfl
theorem tookT_le {t : TiS} {m : Nat} (h : t.t ≤ t.c) : (tookT t m).t ≤ t.c := by
  unfold tookT
  simp only []
  split <;> omega
/-- a stream is read to its end, and another one may come -/
theorem PV.read (h : PV T n k k) (hn : 0 < n) (hk : n ≤ k) (hk2 : k < 30) {s : StS} {ii : InS} (hs : T.l (4 * (k - n) + 2) = some s) (hi : s.inn = some ii) (ho : s.out = none) (hr : ii.reset = false) : PV (readS T (4 * (k - n) + 2) ii 1) n k (k + 1) := by
  obtain ⟨o, hoe⟩ : ∃ o, k - n = o := ⟨_, rfl⟩
  rw [hoe] at hs ⊢
  have e1 := od2 o
  have e2 := wy2 o
  have hl : ∀ j, (readS T (4 * o + 2) ii 1).l j = if j = 4 * o + 2 then some { s with inn := some { (inR ii 1) with ti := newsL (inR ii 1).ti, done := true }, past := true } else T.l j := fun j => by
    unfold readS
    show (Pi.setPast (readT T (4 * o + 2) ii 1) (4 * o + 2)).l j = _
    unfold Pi.setPast readT tellS Pi.setIn
    simp only []
    by_cases hj : j = 4 * o + 2
    · subst hj
      simp [hs]
    · simp [hj]
  have htt := tookT_le (m := 1) h.tt
  have hnl := newsL_same (t := tookT T.ti 1) h.wi h.tl (by have := h.tc; omega)
  have hti : (readS T (4 * o + 2) ii 1).ti = tookT T.ti 1 := by
    show newsL (tookT T.ti 1) = _
    exact hnl.1
  have hso : (readS T (4 * o + 2) ii 1).so false true = { T.so false true with may := min ((T.so false true).may + 1) 1152921504606846976, news := 1 } := by
    unfold readS
    rw [e1, e2]
    unfold Pi.setSo
    simp
  refine ⟨h.sv, h.ow, ?_, ?_, ?_, ?_, ?_, ?_, fun id hid => ?_, fun j hj => ?_, h.ce⟩
  · rw [hso]; exact h.kn
  · rw [hso]; show min ((T.so false true).may + 1) 1152921504606846976 = max n (k + 1); rw [h.my]; omega
  · rw [hti]; exact h.wi
  · rw [hti]; exact h.tl
  · rw [hti]; exact htt
  · rw [hti]; exact h.tc
  · rw [hl] at hid
    by_cases hj : id = 4 * o + 2
    · exact ⟨o, by omega, hj⟩
    · rw [if_neg hj] at hid
      exact h.no id hid
  · rw [hl]
    by_cases hjo : j = o
    · subst hjo
      rw [if_pos rfl]
      exact ⟨_, _, rfl, ho, rfl, hr, fun _ => rfl, fun hh => absurd hh (by omega)⟩
    · rw [if_neg (by omega)]
      obtain ⟨s2, i2, q1, q2, q3, q4, q5, q6⟩ := h.st j hj
      exact ⟨s2, i2, q1, q2, q3, q4, fun hh => q5 (by omega), fun hh => q6 (by omega)⟩
theorem PV.more (h : PV T n k k) (hk : k < n) : PV T n k (k + 1) := by
  refine ⟨h.sv, h.ow, h.kn, by rw [h.my]; omega, h.wi, h.tl, h.tt, h.tc, h.no, fun j hj => ?_, h.ce⟩
  obtain ⟨s2, i2, q1, q2, q3, q4, q5, q6⟩ := h.st j hj
  exact ⟨s2, i2, q1, q2, q3, q4, fun hh => absurd hh (by omega), fun hh => q6 (by omega)⟩
theorem PV.sr (h : PV T n k i) : ∀ id s, T.l id = some s → SR s := fun id s hs => by
  obtain ⟨j, hj, rfl⟩ := h.no id (by rw [hs]; simp)
  obtain ⟨s2, i2, q1, q2, q3, q4, _⟩ := h.st j hj
  rw [hs] at q1
  injection q1 with q1
  subst q1
  exact ⟨q2, i2, q3, q4⟩
theorem few_in : ∀ (n a : Nat) (l : List Nat), l.Nodup → (∀ x ∈ l, ∃ j, a ≤ j ∧ j < a + n ∧ x = 4 * j + 2) → l.length ≤ n := by
  intro n
  induction n with
  | zero =>
    intro a l _ h
    cases l with
    | nil => simp
    | cons x l => obtain ⟨j, _, _, _⟩ := h x (by simp); omega
  | succ n ih =>
    intro a l hd h
    have hd2 : (l.filter (fun x => x != 4 * (a + n) + 2)).Nodup := List.Pairwise.filter _ hd
    have := ih a _ hd2 (fun x hx => by
      rw [List.mem_filter] at hx
      obtain ⟨j, h1, h2, h3⟩ := h x hx.1
      have h4 : x ≠ 4 * (a + n) + 2 := by simpa using hx.2
      exact ⟨j, h1, by omega, h3⟩)
    have h2 : l.length ≤ (l.filter (fun x => x != 4 * (a + n) + 2)).length + 1 := by
      clear this hd2 ih h
      induction l with
      | nil => simp
      | cons y l ih2 =>
        rw [List.nodup_cons] at hd
        have := ih2 hd.2
        simp only [List.filter_cons]
        by_cases hy : y = 4 * (a + n) + 2
        · have hf : l.filter (fun x => x != 4 * (a + n) + 2) = l := List.filter_eq_self.2 (fun x hx => by simp; intro he; exact hd.1 (by rw [hy, ← he]; exact hx))
          rw [hf]
          split <;> simp
        · rw [if_pos (by simpa using hy)]; simp only [List.length_cons]; omega
    omega
theorem PV.live (h : PV T n k k) (hd : T.ids.Nodup) (hi : ∀ id, id ∈ T.ids ↔ T.l id ≠ none) : liveN T (fun _ => true) ≤ n := by
  unfold liveN
  refine few_in n (k - n) _ (List.Pairwise.filter _ hd) (fun x hx => ?_)
  rw [List.mem_filter] at hx
  obtain ⟨j, hj, rfl⟩ := h.no x ((hi x).1 hx.1)
  obtain ⟨s2, i2, q1, q2, q3, q4, q5, q6⟩ := h.st j hj
  have hv : liveB T (4 * j + 2) = true := by simpa using hx.2
  unfold liveB doneS at hv
  rw [q1] at hv
  simp only [q3] at hv
  have hd : i2.done = false := by simpa using hv
  have : ¬ (j + n < k) := fun hh => by rw [q5 hh] at hd; cases hd
  exact ⟨j, by omega, by omega, rfl⟩
end
end Go.Proofs.Yteekafpkbdbadaa.Pi
