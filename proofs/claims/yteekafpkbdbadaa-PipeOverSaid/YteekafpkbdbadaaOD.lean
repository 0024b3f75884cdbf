/- pipe: a table in plain Lean, and as it lies: each of its blocks has a role. -/
import Derived.Test.YteekafpkbdbadaaOB
import Derived.Test.YteekafpkbdbadaaOC
set_option maxRecDepth 100000
set_option linter.unusedVariables false
namespace Go.Proofs.Yteekafpkbdbadaa.Pi
open Go.RowKit
/-- limits -/
structure LiS where
  w : Nat
  c : Nat
  b : Nat
  u : Nat
/-- a till, a quilt -/
structure TiS where
  wi : Nat
  l : Nat
  c : Nat
  t : Nat
structure QuS where
  l : List (Nat × List UInt8)
  read : Nat
  high : Nat
  last : Nat
  known : Bool
/-- a part to send -/
structure OuS where
  pl : Nat
  ps : Nat
  p : List UInt8
  base : Nat
  sent : Nat
  todo : List (Nat × Nat)
  acked : List (Nat × Nat)
  ended : Bool
  fin : Nat
  reset : Nat
  code : Nat
/-- a part to receive -/
structure InS where
  ti : TiS
  qu : QuS
  reset : Bool
  code : Nat
  told : Bool
  done : Bool
  stop : Nat
  why : Nat
  news : Nat
structure StS where
  r0 : Nat
  r1 : Nat
  r2 : Nat
  past : Bool
  out : Option OuS
  inn : Option InS
structure SoS where
  known : Nat
  may : Nat
  news : Nat
/-- a table -/
structure TaS where
  srv : Bool
  ow : LiS
  pe : LiS
  ids : List Nat
  l : Nat → Option StS
  so : Bool → Bool → SoS
  pl : Nat
  ps : Nat
  ti : TiS
  news : Nat
  came : List Nat
/-- where a table's own blocks lie -/
structure TaY where
  ml : Nat
  n : Nat
  ms : Nat
  so : Bool → Bool → Nat
  pu : Nat
  ti : Nat
  ca : SA
  sb : Nat → Nat
/-- the role r is given to the block b -/
def upd (role : Nat → Nat) (b r : Nat) : Nat → Nat := fun k => if k = b then r else role k
theorem upd_same (role : Nat → Nat) (b r : Nat) : upd role b r b = r := by simp [upd]
theorem upd_ne {role : Nat → Nat} {b r k : Nat} (h : k ≠ b) : upd role b r k = role k := by simp [upd, h]
/-- only blocks of the roles R turn -/
structure Kq (R : Nat → Prop) (w w' : World) (role role' : Nat → Nat) : Prop where
  os : w'.os = w.os
  tape : w'.tape = w.tape
  output : w'.output = w.output
  size : w.heap.size ≤ w'.heap.size
  blk : ∀ k, k < w.heap.size → ¬ R (role k) → w'.heap[k]? = w.heap[k]?
  old : ∀ k, k < w.heap.size → role' k = role k
/-- what a call does: only blocks of the roles R turn, what is new has one of these or none -/
structure Stq (R : Nat → Prop) (w w' : World) (role role' : Nat → Nat) : Prop where
  kq : Kq R w w' role role'
  new : ∀ k, w.heap.size ≤ k → role' k = 0 ∨ R (role' k)
  top : ∀ k, w'.heap.size ≤ k → role' k = 0
theorem Kq.bel {w w' : World} {role role' : Nat → Nat} (hb : Below w.heap.size w w') (h : ∀ k, k < w.heap.size → role' k = role k) : Kq (fun _ => False) w w' role role' :=
  ⟨hb.os, hb.tape, hb.output, hb.size, fun k hk _ => hb.block k hk, h⟩
theorem Stq.blk {R : Nat → Prop} {w w' : World} {role role' : Nat → Nat} (h : Stq R w w' role role') : ∀ k, k < w.heap.size → ¬ R (role k) → w'.heap[k]? = w.heap[k]? := h.kq.blk
theorem Stq.old {R : Nat → Prop} {w w' : World} {role role' : Nat → Nat} (h : Stq R w w' role role') : ∀ k, k < w.heap.size → role' k = role k := h.kq.old
theorem Stq.size {R : Nat → Prop} {w w' : World} {role role' : Nat → Nat} (h : Stq R w w' role role') : w.heap.size ≤ w'.heap.size := h.kq.size
theorem Stq.mono {R R' : Nat → Prop} {w w' : World} {role role' : Nat → Nat} (h : Stq R w w' role role') (hr : ∀ r, R r → R' r) : Stq R' w w' role role' :=
  ⟨⟨h.kq.os, h.kq.tape, h.kq.output, h.size, fun k hk hn => h.blk k hk (fun h1 => hn (hr _ h1)), h.old⟩, fun k hk => (h.new k hk).imp id (hr _), h.top⟩
theorem Stq.trans {R : Nat → Prop} {w w1 w2 : World} {role role1 role2 : Nat → Nat} (h : Stq R w w1 role role1) (k : Stq R w1 w2 role1 role2) : Stq R w w2 role role2 :=
  ⟨⟨k.kq.os.trans h.kq.os, k.kq.tape.trans h.kq.tape, k.kq.output.trans h.kq.output, Nat.le_trans h.size k.size, fun b hb hn => by
    rw [k.blk b (Nat.lt_of_lt_of_le hb h.size) (by rw [h.old b hb]; exact hn)]; exact h.blk b hb hn,
   fun b hb => (k.old b (Nat.lt_of_lt_of_le hb h.size)).trans (h.old b hb)⟩, fun b hb => by
    by_cases hl : b < w1.heap.size
    · rw [k.old b hl]; exact h.new b hb
    · exact k.new b (by omega), k.top⟩
theorem Stq.bel {R : Nat → Prop} {w w' : World} {role : Nat → Nat} (hb : Below w.heap.size w w') (top : ∀ k, w.heap.size ≤ k → role k = 0) : Stq R w w' role role :=
  ⟨⟨hb.os, hb.tape, hb.output, hb.size, fun k hk _ => hb.block k hk, fun _ _ => rfl⟩, fun k hk => .inl (top k hk), fun k hk => top k (Nat.le_trans hb.size hk)⟩
theorem Stq.grown {R : Nat → Prop} {w w' : World} {role : Nat → Nat} {b : Nat} (hg : w.grownBy w' (some b)) (hr : R (role b)) (top : ∀ k, w.heap.size ≤ k → role k = 0) : Stq R w w' role role :=
  ⟨⟨hg.os, hg.tape, hg.output, hg.size, fun k hk hn => hg.block k hk (fun he => by injection he with he; subst he; exact hn hr), fun _ _ => rfl⟩, fun k hk => .inl (top k hk), fun k hk => top k (Nat.le_trans hg.size hk)⟩
/-- a new block takes a role -/
theorem Stq.fresh {R : Nat → Prop} {w w' : World} {role : Nat → Nat} {b r : Nat} (hb : Below w.heap.size w w') (top : ∀ k, w.heap.size ≤ k → role k = 0) (h1 : w.heap.size ≤ b) (h2 : b < w'.heap.size) (hr : R r) : Stq R w w' role (upd role b r) :=
  ⟨⟨hb.os, hb.tape, hb.output, hb.size, fun k hk _ => hb.block k hk, fun k hk => upd_ne (by omega)⟩, fun k hk => by
    by_cases he : k = b
    · subst he; rw [upd_same]; exact .inr hr
    · rw [upd_ne he]; exact .inl (top k hk), fun k hk => by rw [upd_ne (by omega)]; exact top k (Nat.le_trans hb.size hk)⟩
/-- a row of cells of a role -/
structure CX (w : World) (role : Nat → Nat) (r b : Nat) (t : TypeId) (l : List Value) : Prop where
  cr : CR w b t l
  rb : role b = r
theorem CX.stq {R : Nat → Prop} {w w' : World} {role role' : Nat → Nat} {r b : Nat} {t : TypeId} {l : List Value} (h : CX w role r b t l) (s : Kq R w w' role role') (hn : ¬ R r) : CX w' role' r b t l :=
  ⟨h.cr.keep (s.blk b h.cr.lt (by rw [h.rb]; exact hn)), (s.old b h.cr.lt).trans h.rb⟩
/-- a row whose spare room is nobody else's, cells of z -/
structure OXZ (w : World) (role : Nat → Nat) (r : Nat) (e : TypeId) (z : Nat) (s : SA) (vs : List Value) : Prop where
  rs : RS w z s.a s.n s.c vs
  rb : ∀ ad, s.a = some ad → role ad.block = r
  own : ∀ ad, s.a = some ad → ad.spot = none ∧ ∃ cur, w.heap[ad.block]? = some (.cells cur e (0, 0)) ∧ ad.off + s.c * z ≤ cur.size
theorem OXZ.nil (w : World) (role : Nat → Nat) (r : Nat) (e : TypeId) (z : Nat) : OXZ w role r e z SA0 [] := ⟨RS_nil w z, (fun _ h => by cases h), (fun _ h => by cases h)⟩
theorem OXZ.lt {w : World} {role : Nat → Nat} {r z : Nat} {e : TypeId} {s : SA} {vs : List Value} (h : OXZ w role r e z s vs) {ad : Addr} (ha : s.a = some ad) : ad.block < w.heap.size := by
  obtain ⟨_, cur, hc, _⟩ := h.own ad ha
  exact (Array.getElem?_eq_some_iff.1 hc).1
theorem OXZ.stq {R : Nat → Prop} {w w' : World} {role role' : Nat → Nat} {r z : Nat} {e : TypeId} {s : SA} {vs : List Value} (h : OXZ w role r e z s vs) (st : Kq R w w' role role') (hn : ¬ R r) : OXZ w' role' r e z s vs :=
  ⟨h.rs.keepb fun ad ha hl => st.blk _ hl (by rw [h.rb ad ha]; exact hn), fun ad ha => (st.old _ (h.lt ha)).trans (h.rb ad ha), fun ad ha => by
    obtain ⟨h1, cur, h2, h3⟩ := h.own ad ha
    exact ⟨h1, cur, by rw [st.blk _ (h.lt ha) (by rw [h.rb ad ha]; exact hn)]; exact h2, h3⟩⟩
/-- ranges, patches in cells -/
def rgc : List (Nat × Nat) → List Value
  | [] => []
  | (a, b) :: r => u64 a :: u64 b :: rgc r
def US (l : List Nat) : List Value := l.map u64
/-- a set of ranges -/
structure SpZ (w : World) (role : Nat → Nat) (r b : Nat) (l : List (Nat × Nat)) : Prop where
  ex : ∃ s : SA, CX w role r b 118 [s.v] ∧ OXZ w role (r + 1) 120 2 s (rgc l)
/-- a part to send, of the stream whose roles begin at r -/
structure OuZ (w : World) (role : Nat → Nat) (r b : Nat) (o : OuS) : Prop where
  ex : ∃ (pu td ak : Nat) (s : SA), CX w role (r + 1) b 82 [ptr pu, s.v, u64 o.base, u64 o.sent, ptr td, ptr ak, .bool o.ended, .int .i64 (o.fin : Int), .int .i64 (o.reset : Int), u64 o.code] ∧ (PuZ w pu o.pl o.ps ∧ role pu = r + 2) ∧ OXZ w role (r + 3) 5 1 s (o.p.map B) ∧ SpZ w role (r + 4) td o.todo ∧ SpZ w role (r + 6) ak o.acked
/-- one patch's cells -/
inductive PaC (w : World) (role : Nat → Nat) (r : Nat) : List (Nat × List UInt8) → List Value → Prop
  | nil : PaC w role r [] []
  | cons {o : Nat} {p : List UInt8} {s : SA} {l : List (Nat × List UInt8)} {vs : List Value} (hb : BS w s.a s.n s.c p) (hr : ∀ ad, s.a = some ad → role ad.block = r ∧ ad.block < w.heap.size) (h : PaC w role r l vs) : PaC w role r ((o, p) :: l) (u64 o :: s.v :: vs)
structure QuZ (w : World) (role : Nat → Nat) (r b : Nat) (q : QuS) : Prop where
  ex : ∃ (s : SA) (vs : List Value), CX w role (r + 10) b 111 [s.v, u64 q.read, u64 q.high, u64 q.last, .bool q.known] ∧ OXZ w role (r + 11) 113 2 s vs ∧ PaC w role (r + 12) q.l vs ∧ (q.high = 0 → s = SA0)
structure InZ (w : World) (role : Nat → Nat) (r b : Nat) (i : InS) : Prop where
  ex : ∃ (ti qb : Nat), CX w role (r + 8) b 89 [ptr ti, ptr qb, .bool i.reset, u64 i.code, .bool i.told, .bool i.done, .int .i64 (i.stop : Int), u64 i.why, .int .i64 (i.news : Int)] ∧ (TiZ w ti i.ti.wi i.ti.l i.ti.c i.ti.t ∧ role ti = r + 9) ∧ QuZ w role r qb i.qu
def rid (id : Nat) : Nat := 16 + 16 * id
/-- a stream: its pointers are nil just where it has no such part -/
structure StZ (w : World) (role : Nat → Nat) (id b : Nat) (s : StS) : Prop where
  ex : ∃ (ob ib : Option Nat), CX w role (rid id) b 79 [u64 id, u64 s.r0, u64 s.r1, u64 s.r2, .bool s.past, pv ob, pv ib] ∧ (s.out = none ↔ ob = none) ∧ (s.inn = none ↔ ib = none) ∧
    (∀ o b', s.out = some o → ob = some b' → OuZ w role (rid id) b' o) ∧ (∀ i b', s.inn = some i → ib = some b' → InZ w role (rid id) b' i)
/-- a sort's role -/
def rso (a b : Bool) : Nat := 4 + (if a then 2 else 0) + (if b then 1 else 0)
structure TZ (w : World) (role : Nat → Nat) (g : Nat) (T : TaS) (Y : TaY) : Prop where
  row : CX w role 1 g 64 [.bool T.srv, u64 T.ow.w, u64 T.ow.c, u64 T.ow.b, u64 T.ow.u, u64 T.pe.w, u64 T.pe.c, u64 T.pe.b, u64 T.pe.u, .map (some Y.ml), .map (some Y.ms), ptr Y.pu, ptr Y.ti, .int .i64 (T.news : Int), Y.ca.v]
  lm : LM w Y.ml Y.n (fun id => (T.l id).map fun _ => Y.sb id) ∧ role Y.ml = 2
  sm : (∃ n, SM w Y.ms n (fun a b => some (Y.so a b))) ∧ role Y.ms = 3
  so : ∀ a b, CX w role (rso a b) (Y.so a b) 70 [u64 (T.so a b).known, u64 (T.so a b).may, .int .i64 ((T.so a b).news : Int)]
  pu : PuZ w Y.pu T.pl T.ps ∧ role Y.pu = 8
  ti : TiZ w Y.ti T.ti.wi T.ti.l T.ti.c T.ti.t ∧ role Y.ti = 9
  ca : OXZ w role 10 25 1 Y.ca (US T.came)
  st : ∀ id s, T.l id = some s → StZ w role id (Y.sb id) s
  ids : T.ids.Nodup ∧ (∀ id, id ∈ T.ids ↔ T.l id ≠ none) ∧ T.ids.length ≤ Y.n
  top : ∀ k, w.heap.size ≤ k → role k = 0
section
variable {R : Nat → Prop} {w w' : World} {role role' : Nat → Nat} {r b : Nat}
theorem cr_stq {t : TypeId} {l : List Value} (h : CR w b t l) (hb : role b = r) (s : Kq R w w' role role') (hn : ¬ R r) : CR w' b t l ∧ role' b = r :=
  ⟨h.keep (s.blk b h.lt (by rw [hb]; exact hn)), (s.old b h.lt).trans hb⟩
theorem SpZ.stq {l : List (Nat × Nat)} (h : SpZ w role r b l) (s : Kq R w w' role role') (h1 : ¬ R r) (h2 : ¬ R (r + 1)) : SpZ w' role' r b l := by
  obtain ⟨x, a, c⟩ := h.ex
  exact ⟨x, a.stq s h1, c.stq s h2⟩
theorem PaC.stq {l : List (Nat × List UInt8)} {vs : List Value} (h : PaC w role r l vs) (s : Kq R w w' role role') (h1 : ¬ R r) : PaC w' role' r l vs := by
  induction h with
  | nil => exact .nil
  | cons hb hr _ ih => exact .cons (RS.keepb hb fun ad ha hl => s.blk _ hl (by rw [(hr ad ha).1]; exact h1)) (fun ad ha => ⟨(s.old _ (hr ad ha).2).trans (hr ad ha).1, Nat.lt_of_lt_of_le (hr ad ha).2 s.size⟩) ih
/-- the roles of a stream -/
def inSt (id r : Nat) : Prop := rid id ≤ r ∧ r < rid id + 16
theorem OuZ.stq {o : OuS} (h : OuZ w role r b o) (s : Kq R w w' role role') (hn : ∀ j, 0 < j → j < 8 → ¬ R (r + j)) : OuZ w' role' r b o := by
  obtain ⟨pu, td, ak, x, a, ⟨p1, p2⟩, c, d, e⟩ := h.ex
  exact ⟨pu, td, ak, x, a.stq s (hn 1 (by omega) (by omega)), cr_stq p1 p2 s (hn 2 (by omega) (by omega)), c.stq s (hn 3 (by omega) (by omega)), d.stq s (hn 4 (by omega) (by omega)) (hn 5 (by omega) (by omega)), e.stq s (hn 6 (by omega) (by omega)) (hn 7 (by omega) (by omega))⟩
theorem QuZ.stq {q : QuS} (h : QuZ w role r b q) (s : Kq R w w' role role') (hn : ∀ j, 9 < j → j < 16 → ¬ R (r + j)) : QuZ w' role' r b q := by
  obtain ⟨x, vs, a, c, d, e⟩ := h.ex
  exact ⟨x, vs, a.stq s (hn 10 (by omega) (by omega)), c.stq s (hn 11 (by omega) (by omega)), d.stq s (hn 12 (by omega) (by omega)), e⟩
theorem InZ.stq {i : InS} (h : InZ w role r b i) (s : Kq R w w' role role') (hn : ∀ j, 7 < j → j < 16 → ¬ R (r + j)) : InZ w' role' r b i := by
  obtain ⟨ti, qb, a, ⟨p1, p2⟩, c⟩ := h.ex
  exact ⟨ti, qb, a.stq s (hn 8 (by omega) (by omega)), cr_stq p1 p2 s (hn 9 (by omega) (by omega)), c.stq s (fun j h1 h2 => hn j (by omega) h2)⟩
theorem StZ.stq {id : Nat} {x : StS} (h : StZ w role id b x) (s : Kq R w w' role role') (hn : ∀ j, j < 16 → ¬ R (rid id + j)) : StZ w' role' id b x := by
  obtain ⟨ob, ib, a, h1, h2, h3, h4⟩ := h.ex
  exact ⟨ob, ib, a.stq s (hn 0 (by omega)), h1, h2, fun o b' e1 e2 => (h3 o b' e1 e2).stq s (fun j _ h => hn j (by omega)), fun i b' e1 e2 => (h4 i b' e1 e2).stq s (fun j _ h => hn j h)⟩
theorem LM.stq {n : Nat} {m : Nat → Option Nat} (h : LM w b n m) (hb : role b = r) (s : Kq R w w' role role') (hn : ¬ R r) : LM w' b n m ∧ role' b = r :=
  ⟨h.keep (s.blk b h.lt (by rw [hb]; exact hn)) s.size s.os, (s.old b h.lt).trans hb⟩
theorem SM.stq {n : Nat} {m : Bool → Bool → Option Nat} (h : SM w b n m) (hb : role b = r) (s : Kq R w w' role role') (hn : ¬ R r) : SM w' b n m ∧ role' b = r := by
  have hl := h.lt
  obtain ⟨D, ⟨es, clock, h1, h2⟩, h3⟩ := h.own
  exact ⟨⟨D, ⟨es, clock, by rw [s.blk b hl (by rw [hb]; exact hn)]; exact h1, h2⟩, h3⟩, (s.old b hl).trans hb⟩
/-- a table stays where only blocks that are not its own turn -/
theorem TZ.stq {g : Nat} {T : TaS} {Y : TaY} (h : TZ w role g T Y) (s : Stq R w w' role role') (h15 : ∀ r, 0 < r → r < 16 → ¬ R r) (hn : ∀ id, T.l id ≠ none → ∀ j, j < 16 → ¬ R (rid id + j)) : TZ w' role' g T Y :=
  ⟨h.row.stq s.kq (h15 _ (by decide) (by decide)), h.lm.1.stq h.lm.2 s.kq (h15 _ (by decide) (by decide)), ⟨⟨h.sm.1.choose, (h.sm.1.choose_spec.stq h.sm.2 s.kq (h15 _ (by decide) (by decide))).1⟩, (h.sm.1.choose_spec.stq h.sm.2 s.kq (h15 _ (by decide) (by decide))).2⟩,
   fun a b => (h.so a b).stq s.kq (h15 _ (by unfold rso; omega) (by unfold rso; split <;> split <;> omega)), cr_stq h.pu.1 h.pu.2 s.kq (h15 _ (by decide) (by decide)), cr_stq h.ti.1 h.ti.2 s.kq (h15 _ (by decide) (by decide)), h.ca.stq s.kq (h15 _ (by decide) (by decide)), fun id x hx => (h.st id x hx).stq s.kq (fun j hj => hn id (by rw [hx]; simp) j hj), h.ids, s.top⟩
theorem TZ.bel {g : Nat} {T : TaS} {Y : TaY} (h : TZ w role g T Y) (hb : Below w.heap.size w w') : TZ w' role g T Y := h.stq (R := fun _ => False) (Stq.bel hb h.top) (fun _ _ _ h => h) (fun _ _ _ _ h => h)
end
end Go.Proofs.Yteekafpkbdbadaa.Pi
