/- law12.PipeOver: the state of its walk. -/
import Derived.Test.YteekafpkbdbadaaRF
set_option maxRecDepth 100000
set_option linter.unusedVariables false
namespace Go.Proofs.Yteekafpkbdbadaa.Pi
open Go.RowKit
/-- PipeOver under way: k streams came, i rounds are over -/
structure LV (W wr : World) (g n k i : Nat) : Prop where
  ex : ∃ (role : Nat → Nat) (T : TaS) (Y : TaY), TZ wr role g T Y ∧ PV T n k i ∧ Y.n ≤ k ∧ MB W wr role
section
variable {W wr w' : World} {g n k i : Nat}
theorem LV.b (h : LV W wr g n k i) : Below W.heap.size W wr := by
  obtain ⟨role, T, Y, z, p, y, m⟩ := h.ex
  exact m.b
theorem LV.bel (h : LV W wr g n k i) (b : Below wr.heap.size wr w') : LV W w' g n k i := by
  obtain ⟨role, T, Y, z, p, y, m⟩ := h.ex
  exact ⟨role, T, Y, z.bel b, p, y, m.bel b⟩
theorem LV.lim (h : LV W wr g n k k) (hk : n ≤ k) (h2 : k < 30) {D : Nat} (hD : 4 * k + 2 = D) :
    Calls Try.prog 11 #[ptr g, .agg #[.int .u64 8, .int .u64 (D : Int), .int .u64 0, .int .u64 0, .int .u64 0, .bool true, .slice none 0 0, .slice none 0 0, .slice none 0 0]] wr fun e w' => e = .returned (.int .u64 4) ∧ LV W w' g n k k := by
  subst hD
  obtain ⟨role, T, Y, z, p, y, m⟩ := h.ex
  refine (hear_lim_true z (id := 4 * k + 2) (by omega) (by rw [od2, p.sv]; rfl) (wy2 k) (by rw [od2, p.my]; omega)).mono ?_
  rintro e w' ⟨rfl, b⟩
  exact ⟨rfl, role, T, Y, z.bel b, p, y, m.bel b⟩
theorem LV.read (h : LV W wr g n k k) (hn : 0 < n) (hk : n ≤ k) (h2 : k < 30) {O : Nat} (hO : 4 * (k - n) + 2 = O) :
    Calls Try.prog 17 #[ptr g, .int .u64 (O : Int), .int .i64 9] wr fun e w' => (∃ a c, e = .returned (.tuple #[.slice a 1 c, .bool true, .int .u64 0, .int .i64 0])) ∧ LV W w' g n k (k + 1) := by
  subst hO
  obtain ⟨role, T, Y, z, p, y, m⟩ := h.ex
  obtain ⟨s, ii, e1, e2, e3, e4, _, e6⟩ := p.st (k - n) (by omega)
  obtain ⟨f1, f2, f3, f4⟩ := e6 (by omega)
  have htt := tookT_le (m := 1) p.tt
  have c2 : ii.ti.t ≤ ii.ti.c ∧ ii.ti.c < 18446744073709551616 := by rw [f4]; decide
  have b2 : TB (tookT ii.ti 1) := by rw [f4]; exact ⟨by decide, by decide, by decide⟩
  have b1 : TB (tookT T.ti 1) := ⟨by show (tookT T.ti 1).t ≤ T.ti.l; rw [p.tl]; have := p.tc; omega, by show T.ti.l ≤ _; rw [p.tl]; decide, by show T.ti.wi ≤ _; rw [p.wi]; decide⟩
  refine (read_one z (m := 9) (n := 1) (p := [120]) (id := 4 * (k - n) + 2) (by omega) e1 e3 e2 f1 f2 e4 f3 rfl (by decide) (by decide) (by decide) (by decide) (by rw [od2, p.sv]; rfl) (by rw [od2, wy2, p.my]; omega) b1 b2 ⟨p.tt, by have := p.tc; omega⟩ c2).mono ?_
  rintro e w' ⟨he, z2, t2⟩
  exact ⟨he, role, _, Y, z2, p.read hn hk h2 e1 e3 e2 e4, y, m.stq t2⟩
theorem LV.more (h : LV W wr g n k k) (hk : k < n) : LV W wr g n k (k + 1) := by
  obtain ⟨role, T, Y, z, p, y, m⟩ := h.ex
  exact ⟨role, T, Y, z, p.more hk, y, m⟩
theorem LV.hear {w0 : World} (h : LV W w0 g n k (k + 1)) (b : Below w0.heap.size w0 wr) (hn : 0 < n) (h2 : k < 30) {D : Nat} (hD : 4 * k + 2 = D) {q : Nat} (hd : BS wr (some ⟨q, 0, none⟩) 1 1 [120]) (hq : w0.heap.size ≤ q) :
    Calls Try.prog 11 #[ptr g, .agg #[.int .u64 8, .int .u64 (D : Int), .int .u64 0, .int .u64 0, .int .u64 0, .bool true, .slice (some ⟨q, 0, none⟩) 1 1, .slice none 0 0, .slice none 0 0]] wr fun e w' => e = .returned (.int .u64 0) ∧ LV W w' g n (k + 1) (k + 1) := by
  subst hD
  obtain ⟨role, T, Y, z0, p, y, m0⟩ := h.ex
  have z := z0.bel b
  have m := m0.bel b
  refine (hear_new_true z (id := 4 * k + 2) (da := ⟨some ⟨q, 0, none⟩, 1, 1⟩) hd ⟨by omega, (show 0 + 1 ≤ _ by decide), (show 1 ≤ 1200 by decide)⟩ (fun ad had => by cases had; exact z0.top _ hq) (p.nws z h2 y) (wy2 k) (by rw [od2, p.my]; omega)).mono ?_
  rintro e w' ⟨rfl, role', Y', z', t', y'⟩
  exact ⟨rfl, role', _, Y', z', p.next hn (by omega), by have := y'.n; omega, m.stq t'⟩
theorem LV.streams (h : LV W wr g n k k) (h2 : k < 60) :
    Calls Try.prog 16 #[ptr g] wr fun e w' => (∃ c : Nat, e = .returned (.int .i64 (c : Int)) ∧ c ≤ n) ∧ LV W w' g n k k := by
  obtain ⟨role, T, Y, z, p, y, m⟩ := h.ex
  refine (streams_any z p.sr (by have := z.ids.2.2; omega)).mono ?_
  rintro e w' ⟨⟨c, rfl, hc⟩, b⟩
  exact ⟨⟨c, rfl, Nat.le_trans hc (p.live z.ids.1 z.ids.2.1)⟩, role, T, Y, z.bel b, p, y, m.bel b⟩
end
end Go.Proofs.Yteekafpkbdbadaa.Pi
