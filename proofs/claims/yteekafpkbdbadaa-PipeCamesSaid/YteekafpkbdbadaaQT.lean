/- law12.PipeCames: the set of what was seen; the state of the walk. -/
import Derived.Test.YteekafpkbdbadaaQS
import Derived.Maps.OwnOps
import Derived.Maps.Views
set_option maxRecDepth 100000
set_option linter.unusedVariables false
namespace Go.Proofs.Yteekafpkbdbadaa.Pi
open Go.RowKit Go.Maps
theorem zeroBool (w : World) : (zeroValue 4).run Try.prog w = .ok (.bool false) w := by kernel_rfl
structure SB (w : World) (b n : Nat) (ids : List Nat) : Prop where
  own : ∃ D : DataW Unit, w.ownsMap Try.prog 25 (plainElem Try.prog 4) b n D ∧ IsMap D ∧ ∀ id : Nat, D.atKey (.int .u64 (id : Int)) (.lit (.bool false)) = .lit (.bool (decide (id ∈ ids)))
section
variable {w w' : World} {b n : Nat} {ids : List Nat}
theorem SB.made (w : World) : SB (w.alloc (.map #[] 0)) w.heap.size 0 [] := ⟨.map [], World.ownsMap_made _ _ _ _, ⟨[], rfl⟩, fun id => by simp [DataW.atKey]⟩
theorem SB.lt (h : SB w b n ids) : b < w.heap.size := by obtain ⟨D, h1, _⟩ := h.own; exact h1.lt
theorem SB.kept (h : SB w b n ids) {row : Option Nat} (hg : w.grownBy w' row) (hne : some b ≠ row) : SB w' b n ids := by
  obtain ⟨D, h1, h2, h3⟩ := h.own
  exact ⟨D, h1.kept hg hne, h2, h3⟩
theorem SB.bel (h : SB w b n ids) (hb : Below w.heap.size w w') : SB w' b n ids :=
  h.kept (row := none) ⟨hb.os, hb.tape, hb.output, hb.size, fun k hk _ => hb.block k hk⟩ (by simp)
theorem SB.look (h : SB w b n ids) (id : Nat) (hid : id < 18446744073709551616) : (Instr.lookup 39 (.map (some b)) (.int .u64 (id : Int)) false).run Try.prog w = .ok (.bool (decide (id ∈ ids))) w := by
  obtain ⟨D, h1, h2, h3⟩ := h.own
  obtain ⟨v, ps, hrun, hv⟩ := h1.lookup law64 Try.underlying39 (zeroBool w) (plainElem_bool Try.underlying4 false) (key64 id hid)
  rw [h3] at hv
  unfold plainElem at hv
  rw [Try.underlying4] at hv
  cases v <;> simp at hv
  rw [hrun, hv.1]
theorem SB.put (h : SB w b n ids) (id : Nat) {D : DataW Unit} (hm : IsMap D) (h3 : ∀ id : Nat, D.atKey (.int .u64 (id : Int)) (.lit (.bool false)) = .lit (.bool (decide (id ∈ ids)))) (w' : World) (n' : Nat)
    (h1 : w'.ownsMap Try.prog 25 (plainElem Try.prog 4) b n' (D.put (.int .u64 (id : Int)) (.lit (.bool true)))) : SB w' b n' (id :: ids) := by
  refine ⟨_, h1, ?_, fun j => ?_⟩
  · obtain ⟨es, rfl⟩ := hm
    exact ⟨_, rfl⟩
  · by_cases hj : j = id
    · subst hj
      rw [atKey_put_same (k := .int .u64 (j : Int)) hm True.intro]
      simp
    · rw [atKey_put_other (by intro he; injection he with _ he; exact hj (by omega)), h3]
      simp [hj]
theorem L_mapput {ops : Array Oper} {rest : List Oper} {o : Oper} {f : Act} {Q : Exit → Act → World → Prop} (hg : o.guard = none) (m x v : Operand) (hop : o.op = Op.mapUpdate 39 m x v)
    (h : SB w b n ids) (hn : n < maxLen) (id : Nat) (hid : id < 18446744073709551616) (hm : f.eval m = .map (some b)) (hx : f.eval x = .int .u64 (id : Int)) (hv : f.eval v = .bool true)
    (hK : ∀ w', SB w' b (n + 1) (id :: ids) → w.grownBy w' (some b) → wpList Try.prog ops Q rest (f.put o.dst undef) w') : wpList Try.prog ops Q (o :: rest) f w := by
  obtain ⟨D, h1, h2, h3⟩ := h.own
  exact wpList_mapUpdate_own w hg m x v 39 hop 25 4 law64 Try.underlying39 _ b n D hm h1 hn _ _ _ hx hv (key64 id hid) _ [] (plainElem_bool Try.underlying4 true) (fun w' q1 q2 => hK w' (h.put id h2 h3 w' _ q1) q2)
end

theorem SB.keepb2 {w w' : World} {b n : Nat} {ids : List Nat} (h : SB w b n ids) (hk : w'.heap[b]? = w.heap[b]?) (hs : w.heap.size ≤ w'.heap.size) (ho : w'.os = w.os) : SB w' b n ids := by
  obtain ⟨D, ⟨es, clock, h1, h2⟩, h3⟩ := h.own
  exact ⟨D, ⟨es, clock, by rw [hk]; exact h1, h2⟩, h3⟩
theorem CI.ca {T : TaS} {Y : TaY} {k : Bool → Nat} (h : CI T Y k) : CI T { Y with ca := SA0 } k := ⟨h.srv, h.kn, h.my, h.k20, h.va, h.fr, h.cl, h.ll, h.ce, h.yn⟩
theorem MB.grown {w w1 w2 : World} {role : Nat → Nat} {b : Nat} (h : MB w w1 role) (hg : w1.grownBy w2 (some b)) (hb : w.heap.size ≤ b) : MB w w2 role :=
  ⟨h.b.grown hg h.b.size (fun j hj => by cases hj; exact hb), h.r⟩
/-- PipeCames under way: k is known, of kk is it seen -/
structure LC (W wr : World) (g mb : Nat) (k kk : Bool → Nat) : Prop where
  ex : ∃ (role : Nat → Nat) (T : TaS) (Y : TaY) (n : Nat) (ids : List Nat), TZ wr role g T Y ∧ CI T Y k ∧ MB W wr role ∧ SB wr mb n ids ∧ role mb = 0 ∧ W.heap.size ≤ mb ∧ n = kk false + kk true ∧ (∀ x, x ∈ ids ↔ ∃ u j, j < kk u ∧ x = j * 4 + lst false u)
section
variable {W wr w' : World} {g mb : Nat} {k kk : Bool → Nat}
theorem LC.cast {k' kk' : Bool → Nat} (h : LC W wr g mb k kk) (h1 : ∀ u, k u = k' u) (h2 : ∀ u, kk u = kk' u) : LC W wr g mb k' kk' := by
  have e1 : k = k' := funext h1
  have e2 : kk = kk' := funext h2
  rw [← e1, ← e2]; exact h
theorem LC.look (h : LC W wr g mb k kk) (x : Nat) (hx : x < 18446744073709551616) : ∃ r : Bool, (Instr.lookup 39 (.map (some mb)) (.int .u64 (x : Int)) false).run Try.prog wr = .ok (.bool r) wr ∧ (r = true ↔ ∃ u j, j < kk u ∧ x = j * 4 + lst false u) := by
  obtain ⟨role, T, Y, n, ids, z, c, m, s, r0, hm, hn, hi⟩ := h.ex
  exact ⟨decide (x ∈ ids), s.look x hx, by rw [decide_eq_true_iff]; exact hi x⟩
/-- the table's next round: Hear, then Came -/
theorem LC.hear (h : LC W wr g mb k k) (u : Bool) {b d D : Nat} (hb : b < 20) (hd : k u + d = max (k u) (b + 1)) (hD : b * 4 + lst false u = D) :
    Calls Try.prog 11 #[ptr g, .agg #[.int .u64 8, .int .u64 (D : Int), .int .u64 0, .int .u64 0, .int .u64 0, .bool false, .slice none 0 0, .slice none 0 0, .slice none 0 0]] wr fun e w' => e = .returned (.int .u64 0) ∧ Calls Try.prog 12 #[ptr g] w' fun e2 w2 => (∃ a c, e2 = .returned (.slice a d c) ∧ RS w2 1 a d c (US (newL k u d)) ∧ (∀ ad, a = some ad → ad.block ≠ mb)) ∧ LC W w2 g mb (kset k u (k u + d)) k := by
  subst hD
  obtain ⟨role, T, Y, n, ids, z, c, m, s, r0, hm, hn, hi⟩ := h.ex
  refine (hear_ci z c u hb hd).mono ?_
  rintro e w' ⟨rfl, role', T', Y', z', hc', c', st⟩
  have hmb := s.lt
  have r1 : role' mb = 0 := (st.old mb hmb).trans r0
  have hY : Y'.ca.n = d := by rw [z'.can, hc']; unfold newL; simp
  refine ⟨rfl, (came_any z').mono ?_⟩
  rintro e2 w2 ⟨rfl, z2, st2, ox⟩
  have hsb : SB w2 mb n ids := by
    refine s.keepb2 ?_ ?_ ?_
    · rw [st2.blk mb (Nat.lt_of_lt_of_le hmb st.size) (by rw [r1]; exact fun hh => hh rfl)]
      exact st.blk mb hmb (by rw [r0]; exact fun hh => hh rfl)
    · exact Nat.le_trans st.size st2.size
    · exact st2.kq.os.trans st.kq.os
  rw [hc'] at ox
  have hrs := ox.rs
  rw [hY] at hrs
  refine ⟨⟨Y'.ca.a, Y'.ca.c, by unfold SA.v; rw [hY], hrs, fun ad had he => by have := ox.rb ad had; rw [he, r1] at this; cases this⟩, ⟨role', _, _, n, ids, z2, c'.ca, (m.stq st).stq st2, hsb, r1, hm, hn, hi⟩⟩
/-- one more is seen -/
theorem LC.put (h : LC W wr g mb k kk) (u : Bool) {q E : Nat} (hq : kk u = q) (hE : q * 4 + lst false u = E) (hb : kk false + kk true < 1000) {ops : Array Oper} {rest : List Oper} {o : Oper} {f : Act} {Q : Exit → Act → World → Prop} (hg : o.guard = none) (m x v : Operand) (hop : o.op = Op.mapUpdate 39 m x v)
    (hm : f.eval m = .map (some mb)) (hx : f.eval x = .int .u64 (E : Int)) (hv : f.eval v = .bool true)
    (hK : ∀ w', LC W w' g mb k (kset kk u (q + 1)) → wr.grownBy w' (some mb) → wpList Try.prog ops Q rest (f.put o.dst undef) w') : wpList Try.prog ops Q (o :: rest) f wr := by
  obtain ⟨role, T, Y, n, ids, z, c, mm, s, r0, hmb, hn, hi⟩ := h.ex
  refine L_mapput hg m x v hop s (by rw [hn]; unfold maxLen; omega) E (by have hq2 : q < 1000 := (by rw [← hq]; cases u <;> omega); rw [← hE]; unfold lst; split <;> split <;> omega) hm hx hv ?_
  intro w' s' g'
  have st := Stq.grown (R := fun r => r = 0) g' r0 z.top
  refine hK w' ⟨role, T, Y, n + 1, E :: ids, z.stq st (fun r h0 _ he => by omega) (fun id _ j _ he => by unfold rid at he; omega), c, mm.grown g' hmb, s', r0, hmb, ?_, fun x => ?_⟩ g'
  · rw [hn]
    unfold kset
    cases u <;> simp <;> omega
  · rw [List.mem_cons, hi x]
    unfold kset
    constructor
    · rintro (rfl | ⟨v, j, h1, h2⟩)
      · exact ⟨u, q, by rw [if_pos rfl]; omega, hE.symm⟩
      · refine ⟨v, j, ?_, h2⟩
        by_cases hv : v = u
        · subst hv; rw [if_pos rfl]; omega
        · rw [if_neg hv]; exact h1
    · rintro ⟨v, j, h1, h2⟩
      by_cases hv : v = u
      · subst hv
        rw [if_pos rfl] at h1
        by_cases hj : j = q
        · subst hj; exact .inl (h2.trans hE)
        · exact .inr ⟨v, j, by omega, h2⟩
      · rw [if_neg hv] at h1
        exact .inr ⟨v, j, h1, h2⟩
end
end Go.Proofs.Yteekafpkbdbadaa.Pi
