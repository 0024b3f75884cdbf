/- pipe: Peer's setters. -/
import Derived.Test.YteekafpkbdbadaaOH
import Derived.Test.YteekafpkbdbadaaOI
import Derived.Test.YteekafpkbdbadaaOJ
set_option maxRecDepth 100000
set_option linter.unusedVariables false
namespace Go.Proofs.Yteekafpkbdbadaa.Pi
open Go.RowKit Go.Maps
section
variable {w w' : World} {role : Nat → Nat} {g : Nat} {T : TaS} {Y : TaY}
theorem TZ.setPe (h : TZ w role g T Y) (l : LiS) (hg : w.grownBy w' (some g)) (hc : CR w' g 64 [.bool T.srv, u64 T.ow.w, u64 T.ow.c, u64 T.ow.b, u64 T.ow.u, u64 l.w, u64 l.c, u64 l.b, u64 l.u, .map (some Y.ml), .map (some Y.ms), ptr Y.pu, ptr Y.ti, .int .i64 (T.news : Int), Y.ca.v]) : TZ w' role g { T with pe := l } Y ∧ Stq (fun r => r ≠ 0) w w' role role := by
  have hr := h.row.rb
  have st : Stq (fun r => r = 1) w w' role role := Stq.grown hg hr h.top
  have k := st.kq
  refine ⟨⟨⟨hc, hr⟩, h.lm.1.stq h.lm.2 k (by omega), ⟨⟨h.sm.1.choose, (h.sm.1.choose_spec.stq h.sm.2 k (by omega)).1⟩, h.sm.2⟩, fun x y => (h.so x y).stq k (by have := rso_bd x y; omega), cr_stq h.pu.1 h.pu.2 k (by omega), cr_stq h.ti.1 h.ti.2 k (by omega), h.ca.stq k (by omega), fun id x hx => (h.st id x hx).stq k (fun j _ => by unfold rid; omega), h.ids, st.top⟩, st.mono (fun r hr => by omega)⟩
theorem TZ.setPu (h : TZ w role g T Y) (n m : Nat) (hg : w.grownBy w' (some Y.pu)) (hc : PuZ w' Y.pu n m) : TZ w' role g { T with pl := n, ps := m } Y ∧ Stq (fun r => r ≠ 0) w w' role role := by
  have st : Stq (fun r => r = 8) w w' role role := Stq.grown hg h.pu.2 h.top
  have k := st.kq
  refine ⟨⟨h.row.stq k (by omega), h.lm.1.stq h.lm.2 k (by omega), ⟨⟨h.sm.1.choose, (h.sm.1.choose_spec.stq h.sm.2 k (by omega)).1⟩, h.sm.2⟩, fun x y => (h.so x y).stq k (by have := rso_bd x y; omega), ⟨hc, h.pu.2⟩, cr_stq h.ti.1 h.ti.2 k (by omega), h.ca.stq k (by omega), fun id x hx => (h.st id x hx).stq k (fun j _ => by unfold rid; omega), h.ids, st.top⟩, st.mono (fun r hr => by omega)⟩
theorem CR.set4 {t : TypeId} {l : List Value} (h : CR w g t l) (i : Nat) (a b c d : Value) : CR (w.setCells g i [a, b, c, d]) g t ((((l.set i a).set (i + 1) b).set (i + 2) c).set (i + 3) d) ∧ w.grownBy (w.setCells g i [a, b, c, d]) (some g) :=
  ⟨(((h.set i a).set (i + 1) b).set (i + 2) c).set (i + 3) d, by
    have h1 := grown_set w g i a
    have h2 := h1.andThen (grown_set _ g (i + 1) b) (fun j hj => by cases hj; exact Or.inr rfl)
    have h3 := h2.andThen (grown_set _ g (i + 2) c) (fun j hj => by cases hj; exact Or.inr rfl)
    exact h3.andThen (grown_set _ g (i + 3) d) (fun j hj => by cases hj; exact Or.inr rfl)⟩
/-- the sorts behind the rounds of Peer that are over -/
def peerSo (T : TaS) (c d : Nat) (left : Bool → Bool → Bool) : TaS := { T with so := fun x y => if x = T.srv ∧ left x y = false then { T.so x y with may := max (T.so x y).may (min (if y then d else c) 1152921504606846976) } else T.so x y }
def peerM (sv : Bool) (c d : Nat) : Bool → Bool → Option Nat := fun x y => if x = sv then some (if y then d else c) else none
def peerS (T : TaS) (a b c d : Nat) : TaS := peerSo { T with pe := ⟨a, b, c, d⟩, pl := max T.pl (min b 4611686018427387903) } c d (fun _ _ => false)
theorem KR.left_eq {b r cnt : Nat} {m : Bool → Bool → Option Nat} {left : Bool → Bool → Bool} (h : KR w b r m left cnt) : w.rangeLeft b r = cnt := by
  obtain ⟨n, D, L, q, _⟩ := h.rg
  exact q.left_eq
/-- an empty map of streams, ranged over -/
structure LR0 (w : World) (b r : Nat) : Prop where
  rg : ∃ D : DataW Unit, ∃ L cnt, w.ranges Try.prog 25 ptrR b r 0 D L cnt
theorem L_lrange0 {m : Nat → Option Nat} {b : Nat} {ops : Array Oper} {rest : List Oper} {o : Oper} {f : Act} {Q : Exit → Act → World → Prop} (hg : o.guard = none) (x : Operand) (hop : o.op = Op.range 56 x) (h : LM w b 0 m) (hm : f.eval x = .map (some b))
    (hK : ∀ w', LR0 w' b w.heap.size → w.grownBy w' none → w'.heap.size = w.heap.size + 1 → wpList Try.prog ops Q rest (f.put o.dst (.pointer (some ⟨w.heap.size, 0, none⟩))) w') : wpList Try.prog ops Q (o :: rest) f w := by
  obtain ⟨D, h1, h2, h3⟩ := h.own
  exact wpList_range_own w hg x 56 hop 25 73 law64 Try.underlying56 _ b 0 D hm h1 fun w' r1 r2 r3 => hK w' ⟨D, _, _, r1⟩ r2 r3
theorem L_lnext0 {b r : Nat} {ops : Array Oper} {rest : List Oper} {o : Oper} {f : Act} {Q : Exit → Act → World → Prop} (hg : o.guard = none) (it : Operand) (hop : o.op = Op.next it false) (h : LR0 w b r) (hit : f.eval it = .pointer (some ⟨r, 0, none⟩))
    (hDone : wpList Try.prog ops Q rest (f.put o.dst (.tuple #[.bool false])) w) : wpList Try.prog ops Q (o :: rest) f w := by
  obtain ⟨D, L, cnt, q⟩ := h.rg
  refine wpList_plain hg fun K' hK' => ?_
  unfold Oper.wp
  rcases q.next law64 o.type with ⟨h0, hl, hrun⟩ | ⟨key, v, kl, y, w', cnt', hkey, hlk, hv, hat, hrun, hrg, hlt, hgr, hsz, hen⟩
  · simp [execOp, hop, hit, hrun, Result.andThen]
    exact hK' _ _ hDone
  · obtain ⟨es, clock, since, seen, c0, hb, F, hs, hD, hr, hold, hc, hl1, hl2, _⟩ := q
    obtain ⟨x, hx, _⟩ := hl2 kl hlk
    have he : es.toList = [] := List.eq_nil_of_length_eq_zero (by simpa using hs)
    rw [he] at hx
    cases hx
end
end Go.Proofs.Yteekafpkbdbadaa.Pi
