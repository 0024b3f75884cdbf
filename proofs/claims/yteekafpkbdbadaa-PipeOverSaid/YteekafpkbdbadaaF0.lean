/- Rows that a struct of the program's own holds in its fields: slices at any place of their block, told apart by a role that each block has. -/
import Derived.Test.YteekafpkbdbadaaM2
import Derived.ArgAppend
import Derived.Deep.AppendSrc
import Derived.Deep.RegionLaw
set_option linter.unusedVariables false
namespace Go.Proofs.Yteekafpkbdbadaa
open Go.RowKit
/-- the block of a slice has the role r -/
def RB (role : Nat → Nat) (r : Nat) (a : Option Addr) : Prop := ∀ ad, a = some ad → role ad.block = r
theorem RB.nil (role : Nat → Nat) (r : Nat) : RB role r none := fun _ h => by cases h
/-- a slice whose spare room is nobody else's -/
structure OX (w : World) (role : Nat → Nat) (r : Nat) (e : TypeId) (a : Option Addr) (n c : Nat) (vs : List Value) : Prop where
  rs : RS w 1 a n c vs
  rb : RB role r a
  own : ∀ ad, a = some ad → ad.spot = none ∧ ∃ cur, w.heap[ad.block]? = some (.cells cur e (0, 0)) ∧ ad.off + c ≤ cur.size
theorem OX.nil (w : World) (role : Nat → Nat) (r : Nat) (e : TypeId) : OX w role r e none 0 0 [] := ⟨RS_nil w 1, RB.nil _ _, fun _ h => by cases h⟩
theorem OX.lt {w : World} {role : Nat → Nat} {r : Nat} {e : TypeId} {a : Option Addr} {n c : Nat} {vs : List Value} (h : OX w role r e a n c vs) {ad : Addr} (ha : a = some ad) : ad.block < w.heap.size := by
  obtain ⟨_, cur, hc, _⟩ := h.own ad ha
  exact (Array.getElem?_eq_some_iff.1 hc).1
/-- what one step does to rows of the role r: rows of other roles stay, what is new has no role or r -/
structure Stp (r : Nat) (w w' : World) (role role' : Nat → Nat) : Prop where
  os : w'.os = w.os
  tape : w'.tape = w.tape
  output : w'.output = w.output
  size : w.heap.size ≤ w'.heap.size
  blk : ∀ k, k < w.heap.size → role k ≠ r → w'.heap[k]? = w.heap[k]?
  old : ∀ k, k < w.heap.size → role' k = role k
  new : ∀ k, w.heap.size ≤ k → role' k = 0 ∨ role' k = r
  top : ∀ k, w'.heap.size ≤ k → role' k = 0
theorem RS.stp {w w' : World} {role role' : Nat → Nat} {r r' z n c : Nat} {a : Option Addr} {vs : List Value} (h : RS w z a n c vs) (hs : Stp r w w' role role') (hb : RB role r' a) (hne : r' ≠ r) : RS w' z a n c vs :=
  h.keepb fun ad ha hl => hs.blk _ hl (by rw [hb ad ha]; exact hne)
theorem RB.stp {w w' : World} {role role' : Nat → Nat} {r r' z n c : Nat} {a : Option Addr} {vs : List Value} (h : RB role r' a) (hs : Stp r w w' role role') (hl : ∀ ad, a = some ad → ad.block < w.heap.size) : RB role' r' a :=
  fun ad ha => (hs.old _ (hl ad ha)).trans (h ad ha)
theorem OX.stp {w w' : World} {role role' : Nat → Nat} {r r' : Nat} {e : TypeId} {a : Option Addr} {n c : Nat} {vs : List Value} (h : OX w role r' e a n c vs) (hs : Stp r w w' role role') (hne : r' ≠ r) : OX w' role' r' e a n c vs :=
  ⟨h.rs.stp hs h.rb hne, fun ad ha => (hs.old _ (h.lt ha)).trans (h.rb ad ha), fun ad ha => by
    obtain ⟨h1, cur, h2, h3⟩ := h.own ad ha
    exact ⟨h1, cur, by rw [hs.blk _ (h.lt ha) (by rw [h.rb ad ha]; exact hne)]; exact h2, h3⟩⟩
/-- a new row of the call's own takes the role r -/
def role1 (role : Nat → Nat) (w w' : World) (r : Nat) : Nat → Nat := fun k => if w.heap.size ≤ k ∧ k < w'.heap.size then r else role k
theorem heap_setCells (b : Nat) : ∀ (vs : List Value) (o : Nat) (w : World) (cur : Array Value) (e : TypeId) (fr : Nat × Nat), w.heap[b]? = some (.cells cur e fr) →
    ∃ cur', (w.setCells b o vs).heap[b]? = some (.cells cur' e fr) ∧ cur'.size = cur.size
  | [], o, w, cur, e, fr, h => ⟨cur, h, rfl⟩
  | v :: r, o, w, cur, e, fr, h => by
    rw [World.setCells]
    have h1 : (w.setCell ⟨b, o, none⟩ v).heap[b]? = some (.cells (cur.setIfInBounds o v) e fr) := by simp [World.setCell, Array.getElem?_modify, h]
    obtain ⟨cur', h2, h3⟩ := heap_setCells b r (o + 1) _ _ e fr h1
    exact ⟨cur', h2, by simpa using h3⟩
theorem grown_setCells (b : Nat) : ∀ (vs : List Value) (o : Nat) (w : World), w.grownBy (w.setCells b o vs) (some b)
  | [], o, w => World.grownBy.refl w _
  | v :: r, o, w => grown_trans (grownBy_setCell w ⟨b, o, none⟩ v) (grown_setCells b r (o + 1) _)
theorem size_setCells (b : Nat) : ∀ (vs : List Value) (o : Nat) (w : World), (w.setCells b o vs).heap.size = w.heap.size
  | [], o, w => rfl
  | v :: r, o, w => by rw [World.setCells, size_setCells b r]; simp [World.setCell]
section
variable {P : Program} {w : World} {t e : TypeId} {zero : Value} {bytes : Nat}
theorem stp_grown {r : Nat} {w w' : World} {role : Nat → Nat} {row : Option Nat} (hg : w.grownBy w' row) (hrow : ∀ k, row = some k → k < w.heap.size → role k = r) (htop : ∀ k, w.heap.size ≤ k → role k = 0) : Stp r w w' role (role1 role w w' r) := by
  refine ⟨hg.os, hg.tape, hg.output, hg.size, fun k hk hr => hg.block k hk (fun h => hr (hrow k h.symm hk)), fun k hk => ?_, fun k hk => ?_, fun k hk => ?_⟩
  · unfold role1; rw [if_neg (by omega)]
  · unfold role1; split
    · exact .inr rfl
    · exact .inl (htop k hk)
  · unfold role1
    have := hg.size
    rw [if_neg (by omega)]; exact htop k (by omega)
/-- append of a slice onto a row that a field holds -/
theorem run_append_X (ty : STy P t e zero 1 bytes) {role : Nat → Nat} {r : Nat} {a : Option Addr} {n c : Nat} {vs : List Value} (hs : OX w role r e a n c vs) {b : Option Addr} {m d : Nat} {us : List Value} (hx : RS w 1 b m d us)
    (hbytes : (n + m) * bytes ≤ 140737488355328) (h63 : n + m ≤ maxLen) (htop : ∀ k, w.heap.size ≤ k → role k = 0) (tt : TypeId) :
    ∃ a' c' w' role', (Builtin.append_ #[t, t] tt #[.slice a n c, .slice b m d]).run P w = .ok (.slice a' (n + m) c') w' ∧ OX w' role' r e a' (n + m) c' (vs ++ us) ∧ Stp r w w' role role' := by
  obtain ⟨i, hi, hz0, hz1, hz2⟩ := info_parts ty.info
  have hone : ∀ v ∈ vs ++ us, v.oneCell' = true := by
    intro v hv; rcases List.mem_append.1 hv with hv | hv
    · exact hs.rs.one v hv
    · exact hx.one v hv
  -- a new row
  have fresh : ∀ v' w', w'.ownsRow w.heap.size e 1 v' (n + m) (vs ++ us) → w.grownBy w' none → ∃ a' c', v' = .slice a' (n + m) c' ∧ OX w' (role1 role w w' r) r e a' (n + m) c' (vs ++ us) ∧ Stp r w w' role (role1 role w w' r) := by
    intro v' w' ho hg
    have hst := stp_grown (r := r) (role := role) hg (fun k h => by cases h) htop
    have hO : ∀ a' c', v' = .slice a' (n + m) c' → OW w' w.heap.size e 1 a' (n + m) c' (vs ++ us) := fun a' c' h => ⟨by rw [← h]; exact ho, hone⟩
    rcases ho.2 with ⟨rfl, h3⟩ | ⟨g, cap, cur, rfl, h1, h2, h4, h5, h6, h7⟩
    · refine ⟨none, 0, by rw [h3], ?_, hst⟩
      have := (hO none 0 (by rw [h3])).rs
      exact ⟨this, RB.nil _ _, fun _ h => by cases h⟩
    · refine ⟨some ⟨g, 0, none⟩, cap, rfl, ⟨(hO _ _ rfl).rs, fun ad ha => ?_, fun ad ha => ?_⟩, hst⟩
      · cases ha
        have hgl := (Array.getElem?_eq_some_iff.1 h2).1
        unfold role1; rw [if_pos ⟨h1, hgl⟩]
      · cases ha
        exact ⟨rfl, cur, h2, by simp [h6]⟩
  cases b with
  | none =>
    obtain ⟨rfl, rfl, rfl⟩ := hx.nil_inv
    refine ⟨a, c, w, role, ?_, by simpa using hs, ⟨rfl, rfl, rfl, Nat.le_refl _, fun _ _ _ => rfl, fun _ _ => rfl, fun k hk => .inl (htop k hk), htop⟩⟩
    cases a with
    | none =>
      obtain ⟨rfl, rfl, rfl⟩ := hs.rs.nil_inv
      exact run_append_owned_none (P := P) (w := w) w.heap.size t tt e i 1 ty.und hi (.slice none 0 0) 0 [] (World.ownsRow_nil w w.heap.size e 1)
    | some ad =>
      obtain ⟨hsp, cur, hcur, hoff⟩ := hs.own ad rfl
      obtain ⟨blk, off, spot⟩ := ad
      simp only at hsp
      subst hsp
      have hr := run_append_room_src (P := P) w t t tt e i ty.und hi blk off n c (.slice none 0 0) 0 [] (Src.ofNil w ty.und 0) (by have := hs.rs.le; omega) (fun j hj => by simp at hj) (fun j hj => by simp at hj)
      exact hr
  | some bd =>
    cases a with
    | none =>
      obtain ⟨rfl, rfl, rfl⟩ := hs.rs.nil_inv
      have hb0 : (0 + m) * bytes ≤ 140737488355328 := hbytes
      obtain ⟨v', w', h1, h2, h3, h4⟩ := run_append_own (P := P) w w.heap.size t tt e i zero 1 bytes ty.und hi hz0 hz1 hz2 ty.zs ty.zpos (.slice none 0 0) 0 [] (World.ownsRow_nil w w.heap.size e 1) bd m d us hx.len (hx.cells rfl) hx.one h63 hb0 (Nat.le_refl _)
      obtain ⟨a', c', rfl, h5, h6⟩ := fresh v' w' h2 h3
      exact ⟨a', c', w', _, h1, h5, h6⟩
    | some ad =>
      obtain ⟨hsp, cur, hcur, hoff⟩ := hs.own ad rfl
      obtain ⟨blk, off, spot⟩ := ad
      simp only at hsp hcur hoff
      subst hsp
      have hul : us.length = m := by have := hx.len; omega
      have hvl : vs.length = n := by have := hs.rs.len; omega
      by_cases hroom : n + m ≤ c
      · have hcell : ∀ j, j < us.length → (w.cell? ⟨blk, off + n * i.size + j, none⟩).isSome = true := by
          intro j hj
          rw [hz1]
          have : off + n + j < cur.size := by omega
          simp [World.cell?, hcur, this]
        have hfr : ∀ j, j < us.length → w.frozen? ⟨blk, off + n * i.size + j, none⟩ = false := by
          intro j hj
          simp [World.frozen?, hcur]
        have hr := run_append_room_cells (P := P) w t tt e i ty.und hi blk off n c bd m d us (by rw [hz1]; exact hx.len) (hx.cells rfl) hx.one hroom hcell hfr
        rw [hz1, Nat.mul_one] at hr hcell
        have hgr := grown_setCells blk us (off + n) w
        obtain ⟨cur', hcur', hsz'⟩ := heap_setCells blk us (off + n) w cur e (0, 0) hcur
        have hrb := hs.rb _ rfl
        simp only at hrb
        refine ⟨some ⟨blk, off, none⟩, c, _, role, hr, ⟨?_, fun ad ha => by cases ha; exact hrb, fun ad ha => by cases ha; exact ⟨rfl, cur', hcur', by rw [hsz']; exact hoff⟩⟩, ?_⟩
        · refine ⟨by rw [List.length_append, hvl, hul, Nat.mul_one], hroom, hs.rs.max, hone, (fun h => by cases h), fun ad ha => ⟨fun _ => (by cases ha; rfl), fun j v hv => ?_⟩⟩
          cases ha
          by_cases hj : j < n
          · rw [List.getElem?_append_left (by omega)] at hv
            rw [World.cell?_setCells_out blk us (off + n) w ⟨blk, off + j, none⟩ (fun _ _ => .inl (by simp only; omega))]
            exact (hs.rs.2.2.2.2.2 _ rfl).2 j v hv
          · rw [List.getElem?_append_right (by omega), hvl] at hv
            have hlt := (List.getElem?_eq_some_iff.1 hv).1
            have := World.cell?_setCells_in blk us (off + n) w hcell (j - n) hlt
            rw [show off + n + (j - n) = off + j by omega] at this
            rw [this, ← hv, List.getElem?_eq_getElem hlt]
        · refine ⟨hgr.os, hgr.tape, hgr.output, hgr.size, fun k hk hk2 => hgr.block k hk (fun h => hk2 (by injection h with h; rw [h]; exact hrb)), fun _ _ => rfl, fun k hk => .inl (htop k hk), fun k hk => htop k (by rw [size_setCells] at hk; exact hk)⟩
      · have hg2 : c < n + m := by omega
        obtain ⟨v', w', h1, h2, h3⟩ := run_append_arg_grows (P := P) w t tt e i zero 1 bytes ty.und hi hz0 hz1 hz2 ty.zs ty.zpos ⟨blk, off, none⟩ n c vs hs.rs.len (hs.rs.cells rfl) bd m d us hx.len (hx.cells rfl) hg2 h63 hbytes
        obtain ⟨a', c', rfl, h5, h6⟩ := fresh v' w' h2 h3
        exact ⟨a', c', w', _, h1, h5, h6⟩
theorem W_append_X {o : Oper} {f : Act} {K : Act → World → Prop} {Q : Exit → Act → World → Prop} (ty : STy P t e zero 1 bytes) {role : Nat → Nat} {r : Nat} {a : Option Addr} {n c : Nat} {vs : List Value} (hs : OX w role r e a n c vs) {b : Option Addr} {m d : Nat} {us : List Value} (hx : RS w 1 b m d us)
    (s x : Operand) (hop : o.op = .call { callee := .builtin .append, args := #[s, x], argTypes := #[t, t] }) (es : f.eval s = .slice a n c) (ex : f.eval x = .slice b m d)
    (hbytes : (n + m) * bytes ≤ 140737488355328) (h63 : n + m ≤ maxLen) (htop : ∀ k, w.heap.size ≤ k → role k = 0)
    (h : ∀ a' c' w' role', OX w' role' r e a' (n + m) c' (vs ++ us) → Stp r w w' role role' → K (f.put o.dst (.slice a' (n + m) c')) w') : o.wp P f w K Q := by
  obtain ⟨a', c', w', role', hrun, h1, h2⟩ := run_append_X ty hs hx hbytes h63 htop o.type
  unfold Oper.wp
  simp only [execOp, hop, resolve, invoke, builtin, Sem.run_bind, Sem.run_pure, Result.andThen_ok, List.map_toArray, List.map_cons, List.map_nil, es, ex, hrun]
  exact h _ _ _ _ h1 h2
theorem L_append_X {ops : Array Oper} {rest : List Oper} {o : Oper} {f : Act} {Q : Exit → Act → World → Prop} (ty : STy P t e zero 1 bytes) {role : Nat → Nat} {r : Nat} {a : Option Addr} {n c : Nat} {vs : List Value} (hs : OX w role r e a n c vs) {b : Option Addr} {m d : Nat} {us : List Value} (hx : RS w 1 b m d us)
    (s x : Operand) (hg : Region.wanted o (yielded ops f.tmps) = true) (hop : o.op = .call { callee := .builtin .append, args := #[s, x], argTypes := #[t, t] }) (es : f.eval s = .slice a n c) (ex : f.eval x = .slice b m d)
    (hbytes : (n + m) * bytes ≤ 140737488355328) (h63 : n + m ≤ maxLen) (htop : ∀ k, w.heap.size ≤ k → role k = 0)
    (h : ∀ a' c' w' role', OX w' role' r e a' (n + m) c' (vs ++ us) → Stp r w w' role role' → wpList P ops Q rest (f.put o.dst (.slice a' (n + m) c')) w') : wpList P ops Q (o :: rest) f w :=
  wpList_on hg fun K hK => W_append_X ty hs hx s x hop es ex hbytes h63 htop fun a' c' w' role' h1 h2 => hK _ _ (h a' c' w' role' h1 h2)
theorem S_append_X {ops : Array Oper} {o : Oper} {f : Act} {K : Act → World → Prop} {Q : Exit → Act → World → Prop} {E : Prop} (ty : STy P t e zero 1 bytes) {role : Nat → Nat} {r : Nat} {a : Option Addr} {n c : Nat} {vs : List Value} (hs : OX w role r e a n c vs) {b : Option Addr} {m d : Nat} {us : List Value} (hx : RS w 1 b m d us)
    (s x : Operand) (hg : Region.wanted o (yielded ops f.tmps) = true) (hop : o.op = .call { callee := .builtin .append, args := #[s, x], argTypes := #[t, t] }) (es : f.eval s = .slice a n c) (ex : f.eval x = .slice b m d)
    (hbytes : (n + m) * bytes ≤ 140737488355328) (h63 : n + m ≤ maxLen) (htop : ∀ k, w.heap.size ≤ k → role k = 0)
    (h : ∀ a' c' w' role', OX w' role' r e a' (n + m) c' (vs ++ us) → Stp r w w' role role' → K (f.put o.dst (.slice a' (n + m) c')) w') : if Region.wanted o (yielded ops f.tmps) = true then Oper.wp P o f w K Q else E := by
  rw [if_pos hg]
  exact W_append_X ty hs hx s x hop es ex hbytes h63 htop h
/-- what is cut off behind: the rest is still nobody else's -/
theorem OX.drop {role : Nat → Nat} {r : Nat} {a : Option Addr} {n c : Nat} {vs : List Value} (h : OX w role r e a n c vs) (i : Nat) (hi : i ≤ n) : OX w role r e (if c = i then a else a.map (·.add i)) (n - i) (c - i) (vs.drop i) := by
  have hl := h.rs.len
  have hle := h.rs.le
  have hc := h.rs.cut i n c hi (Nat.le_refl _) hle (Nat.le_refl _)
  rw [Nat.mul_one, Nat.mul_one, List.take_of_length_le (by rw [List.length_drop]; omega)] at hc
  refine ⟨hc, fun ad ha => ?_, fun ad ha => ?_⟩
  · split at ha
    · exact h.rb ad ha
    · obtain ⟨a0, h0, rfl⟩ := Option.map_eq_some_iff.1 ha
      rw [add_plain (h.own a0 h0).1]
      exact h.rb a0 h0
  · split at ha
    · next hci =>
      obtain ⟨h1, cur, h2, h3⟩ := h.own ad ha
      exact ⟨h1, cur, h2, by omega⟩
    · obtain ⟨a0, h0, rfl⟩ := Option.map_eq_some_iff.1 ha
      obtain ⟨h1, cur, h2, h3⟩ := h.own a0 h0
      rw [add_plain h1]
      exact ⟨rfl, cur, h2, by simp only; omega⟩
end
end Go.Proofs.Yteekafpkbdbadaa
