/- Slices as lists: what a slice value reads as in a world, what the call owns, and the walk's laws on them (over any program). -/
import Derived.WalkKit
import Derived.Laws.CopyOwn
import Derived.Laws.AppendOwnNone
import Derived.Lib.Hide
import Derived.WalkLawsBesides
import Derived.Lib.AppendStr
namespace Go.Proofs.Yteekafpkbdbadaa
open Go.RowKit

/-- The slice (a, n, c) reads as the cells vs (z cells an element) in w. -/
def RS (w : World) (z : Nat) (a : Option Addr) (n c : Nat) (vs : List Value) : Prop :=
  vs.length = n * z ∧ n ≤ c ∧ c ≤ maxLen ∧ (∀ v ∈ vs, v.oneCell' = true) ∧ (a = none → c = 0) ∧
    ∀ ad, a = some ad → (0 < c → ad.spot = none) ∧ ∀ (j : Nat) v, vs[j]? = some v → w.cell? ⟨ad.block, ad.off + j, none⟩ = some v
/-- The call's own slice. -/
def OW (w : World) (base : Nat) (e : TypeId) (z : Nat) (a : Option Addr) (n c : Nat) (vs : List Value) : Prop :=
  w.ownsRow base e z (.slice a n c) n vs ∧ (∀ v ∈ vs, v.oneCell' = true)

structure STy (P : Program) (t e : TypeId) (zero : Value) (z bytes : Nat) : Prop where
  und : P.underlying t = some (.slice e)
  info : (P.info? e).map (fun i => (i.zero, i.size, i.bytes)) = some (some zero, z, bytes)
  zs : zero.cells.size = z
  zpos : 0 < z

theorem STy.elem {P : Program} {t e : TypeId} {zero : Value} {z bytes : Nat} (h : STy P t e zero z bytes) : P.elem t = e := by
  unfold Program.elem; rw [h.und]
theorem STy.und' {P : Program} {t e : TypeId} {zero : Value} {z bytes : Nat} (h : STy P t e zero z bytes) : P.underlying t = some (.slice (P.elem t)) := by
  rw [h.elem]; exact h.und

theorem add_plain {ad : Addr} (h : ad.spot = none) (j : Nat) : ad.add j = ⟨ad.block, ad.off + j, none⟩ := by
  unfold Addr.add; split
  · next h0 => cases ad; simp_all
  · rfl

section rs
variable {w w' : World} {z : Nat} {a : Option Addr} {n c : Nat} {vs : List Value}
theorem RS.cells (h : RS w z a n c vs) {ad : Addr} (ha : a = some ad) : ∀ (j : Nat) v, vs[j]? = some v → w.cell? (ad.add j) = some v := by
  intro j v hv
  obtain ⟨h1, h2⟩ := h.2.2.2.2.2 ad ha
  have hj : j < vs.length := (List.getElem?_eq_some_iff.1 hv).1
  rw [h.1] at hj
  have hn : 0 < n := by rcases Nat.eq_zero_or_pos n with h0 | h0; (subst h0; simp at hj); exact h0
  rw [add_plain (h1 (Nat.lt_of_lt_of_le hn h.2.1))]; exact h2 j v hv
theorem RS.len (h : RS w z a n c vs) : vs.length = n * z := h.1
theorem RS.le (h : RS w z a n c vs) : n ≤ c := h.2.1
theorem RS.max (h : RS w z a n c vs) : c ≤ maxLen := h.2.2.1
theorem RS.one (h : RS w z a n c vs) : ∀ v ∈ vs, v.oneCell' = true := h.2.2.2.1
theorem RS.nil_inv (h : RS w z none n c vs) : n = 0 ∧ c = 0 ∧ vs = [] := by
  have h1 := h.2.2.2.2.1 rfl
  have h2 := h.2.1
  have h3 := h.1
  obtain rfl : n = 0 := by omega
  exact ⟨rfl, h1, List.eq_nil_of_length_eq_zero (by simpa using h3)⟩
theorem RS_nil (w : World) (z : Nat) : RS w z none 0 0 [] := ⟨by simp, by omega, by unfold maxLen; omega, by simp, fun _ => rfl, fun _ h => by cases h⟩
theorem RS.keepb (h : RS w z a n c vs) (hk : ∀ ad, a = some ad → ad.block < w.heap.size → w'.heap[ad.block]? = w.heap[ad.block]?) : RS w' z a n c vs := by
  refine ⟨h.1, h.2.1, h.2.2.1, h.2.2.2.1, h.2.2.2.2.1, fun ad ha => ⟨(h.2.2.2.2.2 ad ha).1, fun j v hv => ?_⟩⟩
  have hc := (h.2.2.2.2.2 ad ha).2 j v hv
  have hlt := World.block_lt_of_cell? w _ hc
  rw [World.cell?_of_block (w := w) (a := ⟨ad.block, ad.off + j, none⟩) (hk ad ha hlt)]
  exact hc
theorem RS.below {B : Nat} (h : RS w z a n c vs) (hb : Below B w w') (hB : w.heap.size ≤ B) : RS w' z a n c vs :=
  h.keepb fun ad _ hlt => hb.block _ (by omega)
theorem RS.belowAt {B : Nat} {ad : Addr} (h : RS w z (some ad) n c vs) (hb : Below B w w') (hB : ad.block < B) : RS w' z (some ad) n c vs :=
  h.keepb fun ad' h' _ => by cases h'; exact hb.block _ hB
theorem RS.alloc (h : RS w z a n c vs) (o : Obj) : RS (w.alloc o) z a n c vs :=
  h.below (B := w.heap.size) ((Below.refl _ _).alloc (Nat.le_refl _) o) (Nat.le_refl _)
theorem RS.drew (h : RS w z a n c vs) : RS w.drew z a n c vs := h
theorem RS.grown {row : Option Nat} (h : RS w z a n c vs) (hg : w.grownBy w' row) (hne : ∀ ad, a = some ad → some ad.block ≠ row) : RS w' z a n c vs :=
  h.keepb fun ad ha hlt => hg.block _ hlt (hne ad ha)
/-- a cut: from l to h (in elements), the capacity down to m -/
theorem RS.cut (h : RS w z a n c vs) (l k m : Nat) (h1 : l ≤ k) (h2 : k ≤ n) (h3 : k ≤ m) (h4 : m ≤ c) : RS w z (if m = l then a else a.map (·.add (l * z))) (k - l) (m - l) ((vs.drop (l * z)).take ((k - l) * z)) := by
  obtain ⟨g1, g2, g3, g4, g5, g6⟩ := h
  refine ⟨?_, by omega, by omega, fun v hv => g4 v (List.mem_of_mem_drop (List.mem_of_mem_take hv)), ?_, ?_⟩
  · rw [List.length_take, List.length_drop, g1, ← Nat.mul_sub_right_distrib]
    exact Nat.min_eq_left (Nat.mul_le_mul_right _ (by omega))
  · intro hn
    split at hn
    · omega
    · rw [Option.map_eq_none_iff] at hn
      have := g5 hn; omega
  · intro ad had
    split at had
    · next hm =>
      subst hm
      obtain ⟨e1, e2⟩ := g6 ad had
      refine ⟨fun h0 => by omega, fun j v hv => ?_⟩
      have hl : ((vs.drop (m * z)).take ((k - m) * z)).length = 0 := by
        rw [List.length_take]; have : (k - m) * z = 0 := by rw [show k - m = 0 by omega]; simp
        omega
      rw [List.eq_nil_of_length_eq_zero hl] at hv; cases hv
    · obtain ⟨ad0, ha0, rfl⟩ := Option.map_eq_some_iff.1 had
      obtain ⟨e1, e2⟩ := g6 ad0 ha0
      rw [add_plain (e1 (by omega))]
      refine ⟨fun _ => rfl, fun j v hv => ?_⟩
      rw [List.getElem?_take] at hv
      split at hv
      · rw [List.getElem?_drop] at hv
        have := e2 _ _ hv
        simpa [Nat.add_assoc] using this
      · cases hv
/-- a longer cut than the length: into the spare part -/
theorem RS.head (h : RS w z a n c vs) (k : Nat) (h2 : k ≤ n) : RS w z a k c (vs.take (k * z)) := by
  obtain ⟨g1, g2, g3, g4, g5, g6⟩ := h
  refine ⟨?_, by omega, g3, fun v hv => g4 v (List.mem_of_mem_take hv), g5, fun ad ha => ⟨(g6 ad ha).1, fun j v hv => (g6 ad ha).2 j v ?_⟩⟩
  · rw [List.length_take, g1]; exact Nat.min_eq_left (Nat.mul_le_mul_right _ h2)
  · rw [List.getElem?_take] at hv
    split at hv
    · exact hv
    · cases hv
theorem RS.block_lt (h : RS w z a n c vs) {ad : Addr} (ha : a = some ad) (hz : 0 < n) (hzz : 0 < z) : ad.block < w.heap.size := by
  obtain ⟨g1, g2, g3, g4, g5, g6⟩ := h
  have hl : 0 < vs.length := by rw [g1]; exact Nat.mul_pos hz hzz
  have := World.block_lt_of_cell? w _ ((g6 ad ha).2 0 vs[0] (by simp))
  exact this
end rs

section ow
variable {w w' : World} {base : Nat} {e : TypeId} {z : Nat} {a : Option Addr} {n c : Nat} {vs : List Value}
theorem OW.own (h : OW w base e z a n c vs) : w.ownsRow base e z (.slice a n c) n vs := h.1
theorem OW.len (h : OW w base e z a n c vs) : vs.length = n * z := h.1.1
theorem OW.shape (h : OW w base e z a n c vs) : (a = none ∧ n = 0 ∧ c = 0 ∧ vs = []) ∨
    ∃ g cur, a = some ⟨g, 0, none⟩ ∧ base ≤ g ∧ g < w.heap.size ∧ w.heap[g]? = some (.cells cur e (0, 0)) ∧ n ≤ c ∧ c ≤ maxLen ∧ cur.size = c * z ∧ cur.toList.take (n * z) = vs := by
  obtain ⟨⟨h1, h2⟩, h3⟩ := h
  rcases h2 with ⟨h2, h4⟩ | ⟨g, cap, cur, h2, h4, h5, h6, h7, h8, h9⟩
  · cases h2; exact .inl ⟨rfl, rfl, rfl, List.eq_nil_of_length_eq_zero (by simpa using h1)⟩
  · cases h2; exact .inr ⟨g, cur, rfl, h4, (Array.getElem?_eq_some_iff.1 h5).1, h5, h6, h7, h8, h9⟩
theorem OW.mk' (g : Nat) (cur : Array Value) (hb : base ≤ g) (hg : w.heap[g]? = some (.cells cur e (0, 0))) (h1 : n ≤ c) (h2 : c ≤ maxLen) (h3 : cur.size = c * z) (h4 : cur.toList.take (n * z) = vs) (h5 : ∀ v ∈ vs, v.oneCell' = true) : OW w base e z (some ⟨g, 0, none⟩) n c vs := by
  refine ⟨⟨?_, .inr ⟨g, c, cur, rfl, hb, hg, h1, h2, h3, h4⟩⟩, h5⟩
  rw [← h4, List.length_take, Array.length_toList, h3]
  exact Nat.min_eq_left (Nat.mul_le_mul_right _ h1)
theorem OW_nil (w : World) (base : Nat) (e : TypeId) (z : Nat) : OW w base e z none 0 0 [] := ⟨World.ownsRow_nil w base e z, by simp⟩
theorem OW.rs (h : OW w base e z a n c vs) : RS w z a n c vs := by
  rcases h.shape with ⟨rfl, rfl, rfl, rfl⟩ | ⟨g, cur, rfl, h1, h2, h3, h4, h5, h6, h7⟩
  · exact RS_nil w z
  · refine ⟨h.len, h4, h5, h.2, fun h => by (cases h), fun ad ha => ?_⟩
    cases ha
    refine ⟨fun _ => rfl, fun j v hv => ?_⟩
    rw [show (0 + j) = j by omega]
    have := World.ownsRow.cells h.1 (g := g) rfl j v hv
    rw [add_plain rfl, show (0 + j) = j by omega] at this
    exact this
theorem OW.base_le (h : OW w base e z a n c vs) {ad : Addr} (ha : a = some ad) : base ≤ ad.block ∧ ad.block < w.heap.size := by
  rcases h.shape with ⟨rfl, _⟩ | ⟨g, cur, rfl, h1, h2, _⟩
  · cases ha
  · cases ha; exact ⟨h1, h2⟩
theorem OW.keepb (h : OW w base e z a n c vs) (hk : ∀ ad, a = some ad → w'.heap[ad.block]? = w.heap[ad.block]?) : OW w' base e z a n c vs := by
  rcases h.shape with ⟨rfl, rfl, rfl, rfl⟩ | ⟨g, cur, rfl, h1, h2, h3, h4, h5, h6, h7⟩
  · exact OW_nil _ _ _ _
  · exact OW.mk' g cur h1 (by rw [hk _ rfl]; exact h3) h4 h5 h6 h7 h.2
theorem OW.below {B : Nat} (h : OW w base e z a n c vs) (hb : Below B w w') (hB : w.heap.size ≤ B) : OW w' base e z a n c vs :=
  h.keepb fun ad ha => hb.block _ (by have := (h.base_le ha).2; omega)
theorem OW.alloc (h : OW w base e z a n c vs) (o : Obj) : OW (w.alloc o) base e z a n c vs :=
  h.below (B := w.heap.size) ((Below.refl _ _).alloc (Nat.le_refl _) o) (Nat.le_refl _)
theorem OW.drew (h : OW w base e z a n c vs) : OW w.drew base e z a n c vs := h
theorem OW.grown {row : Option Nat} (h : OW w base e z a n c vs) (hg : w.grownBy w' row) (hne : ∀ ad, a = some ad → some ad.block ≠ row) : OW w' base e z a n c vs :=
  h.keepb fun ad ha => hg.block _ (h.base_le ha).2 (hne ad ha)
theorem OW.mono {base' : Nat} (h : OW w base e z a n c vs) (hb : base' ≤ base) : OW w base' e z a n c vs := by
  rcases h.shape with ⟨rfl, rfl, rfl, rfl⟩ | ⟨g, cur, rfl, h1, h2, h3, h4, h5, h6, h7⟩
  · exact OW_nil _ _ _ _
  · exact OW.mk' g cur (by omega) h3 h4 h5 h6 h7 h.2
/-- the head of an own slice is own -/
theorem OW.head (h : OW w base e z a n c vs) (k : Nat) (hk : k ≤ n) : OW w base e z a k c (vs.take (k * z)) := by
  rcases h.shape with ⟨rfl, rfl, rfl, rfl⟩ | ⟨g, cur, rfl, h1, h2, h3, h4, h5, h6, h7⟩
  · obtain rfl : k = 0 := by omega
    simpa using OW_nil w base e z
  · refine OW.mk' g cur h1 h3 (by omega) h5 h6 ?_ (fun v hv => h.2 v (List.mem_of_mem_take hv))
    rw [← h7, List.take_take, Nat.min_eq_left (Nat.mul_le_mul_right _ hk)]
end ow

/-- what a new row of literal cells is -/
theorem OW_made (w : World) (base : Nat) (e : TypeId) (z : Nat) (cur : Array Value) (n : Nat) (hb : base ≤ w.heap.size) (hs : cur.size = n * z) (hm : n ≤ maxLen) (h1 : ∀ v ∈ cur.toList, v.oneCell' = true) :
    OW (w.alloc (.cells cur e)) base e z (some ⟨w.heap.size, 0, none⟩) n n cur.toList :=
  OW.mk' w.heap.size cur hb (heap_alloc_new w _) (Nat.le_refl _) hm hs (List.take_of_length_le (by simp; omega)) h1

theorem RS_new (w : World) (e : TypeId) (cur : Array Value) (n : Nat) (hs : cur.size = n) (hm : n ≤ 140737488355328) (h1 : ∀ v ∈ cur.toList, v.oneCell' = true) :
    RS (w.alloc (.cells cur e)) 1 (some ⟨w.heap.size, 0, none⟩) n n cur.toList :=
  (OW_made w 0 e 1 cur n (Nat.zero_le _) (by omega) (by unfold maxLen; omega) h1).rs
theorem RS_one (w : World) (e : TypeId) (v : Value) (h1 : v.oneCell' = true) : RS (w.alloc (.cells #[v] e)) 1 (some ⟨w.heap.size, 0, none⟩) 1 1 [v] :=
  RS_new w e #[v] 1 rfl (by omega) (by simpa using h1)
section laws
variable {P : Program} {w : World} {ops : Array Oper} {rest : List Oper} {o o2 : Oper} {f : Act} {Q : Exit → Act → World → Prop}
variable {t e : TypeId} {zero : Value} {z bytes : Nat}

/-- an operation whose guard lets it -/
theorem wpList_on (hg : Region.wanted o (yielded ops f.tmps) = true) (h : ∀ K : Act → World → Prop, (∀ a w, wpList P ops Q rest a w → K a w) → o.wp P f w K Q) : wpList P ops Q (o :: rest) f w :=
  wpList_step fun K hK => by rw [if_pos hg]; exact h K hK
/-- append(s, x...), s the call's own, x any slice -/
theorem L_append (ty : STy P t e zero z bytes) {base : Nat} {a : Option Addr} {n c : Nat} {vs : List Value} (hs : OW w base e z a n c vs)
    {b : Option Addr} {m d : Nat} {us : List Value} (hx : RS w z b m d us) (s x : Operand) (hg : Region.wanted o (yielded ops f.tmps) = true)
    (hop : o.op = .call { callee := .builtin .append, args := #[s, x], argTypes := #[t, t] })
    (es : f.eval s = .slice a n c) (ex : f.eval x = .slice b m d) (hbytes : (n + m) * bytes ≤ 140737488355328) (h63 : n + m ≤ maxLen) (hbase : base ≤ w.heap.size)
    (h : ∀ a' c' w', OW w' base e z a' (n + m) c' (vs ++ us) → w.grownBy w' (a.map (·.block)) → wpList P ops Q rest (f.put o.dst (.slice a' (n + m) c')) w') : wpList P ops Q (o :: rest) f w := by
  obtain ⟨i, hi, hz0, hz1, hz2⟩ := info_parts ty.info
  have hrow : Value.ownBlock (.slice a n c) = a.map (·.block) := by cases a <;> rfl
  cases b with
  | none =>
    obtain ⟨rfl, rfl, rfl⟩ := hx.nil_inv
    refine wpList_on hg fun K hK => ?_
    have hrun := run_append_owned_none (P := P) (w := w) base t o.type e i z ty.und hi (.slice a n c) n vs hs.1
    unfold Oper.wp
    simp only [execOp, hop, resolve, invoke, builtin, Sem.run_bind, Sem.run_pure, Result.andThen_ok, List.map_toArray, List.map_cons, List.map_nil, es, ex, hrun]
    refine hK _ _ ?_
    have := h a c w (by simpa using hs) (World.grownBy.refl w _)
    simpa using this
  | some ad =>
    refine wpList_on hg fun K hK => wp_append_own w s x t hop base e i zero z bytes ty.und hi hz0 hz1 hz2 ty.zs ty.zpos (.slice a n c) n vs es hs.1 ad m d us ex hx.len (hx.cells rfl) hx.one h63 hbytes hbase fun v' w' h1 h2 _ => hK _ _ ?_
    have hone : ∀ v ∈ vs ++ us, v.oneCell' = true := by
      intro v hv; rcases List.mem_append.1 hv with hv | hv
      · exact hs.2 v hv
      · exact hx.one v hv
    rw [hrow] at h2
    rcases h1.2 with ⟨rfl, h3⟩ | ⟨g, cap, cur, rfl, _⟩
    · have := h none 0 w' ⟨by rw [h3] at h1 ⊢; exact h1, hone⟩ h2
      rw [h3] at this; exact this
    · exact h _ _ w' ⟨h1, hone⟩ h2

theorem STy.sizeOf (ty : STy P t e zero z bytes) : (sizeOf (P.elem t)).run P w = .ok z w := by
  obtain ⟨i', hi, hz0, hz1, hz2⟩ := info_parts ty.info
  simp [Go.sizeOf, typeInfo, ty.elem, hi, hz1]

/-- &s[i] of a slice: an address at which the i-th cell lies -/
theorem L_index (ty : STy P t e zero 1 bytes) {a : Option Addr} {n c : Nat} {vs : List Value} (hx : RS w 1 a n c vs) (x i : Operand) (hg : Region.wanted o (yielded ops f.tmps) = true)
    (hop : o.op = .indexAddr t x i) (k : IntKind) (I : Int) (ex : f.eval x = .slice a n c) (ei : f.eval i = .int k I) (h0 : 0 ≤ I) (h1 : I < n)
    (v : Value) (hv : vs[I.toNat]? = some v)
    (h : ∀ q, w.cell? q = some v → wpList P ops Q rest (f.put o.dst (.pointer (some q))) w) : wpList P ops Q (o :: rest) f w := by
  cases a with
  | none => obtain ⟨rfl, _⟩ := hx.nil_inv; omega
  | some ad =>
    refine wpList_on hg fun K hK => ?_
    have hc := hx.cells rfl _ _ hv
    have hrun : (Instr.indexAt t (.slice (some ad) n c) (.int k I)).run P w = .ok (.pointer (some (ad.add I.toNat))) w := by
      rw [run_indexAt_slice w t ad n c k I ty.und', if_pos ⟨h0, h1⟩, ty.sizeOf]
      simp [Result.andThen]
    unfold Oper.wp
    simp only [execOp, hop, ex, ei]
    simp [hrun, Result.andThen]
    exact hK _ _ (h _ hc)

theorem eval_opt_some {f : Act} {x : Operand} {v : Value} (h : f.eval x = v) : (some x).map f.eval = some v := by simp [h]

/-- what a cut makes -/
theorem L_slice_gen {a : Option Addr} {n c : Nat} {vs : List Value} (hx : RS w z a n c vs) (x : Operand) (lo hi mx : Option Operand) (hg : Region.wanted o (yielded ops f.tmps) = true)
    (hop : o.op = .slice t x lo hi mx) (ex : f.eval x = .slice a n c) (l k m : Nat)
    (hrun : (Instr.sliceAt t (.slice a n c) (lo.map f.eval) (hi.map f.eval) (mx.map f.eval)).run P w = .ok (sliced a l k m z) w)
    (h1 : l ≤ k) (h2 : k ≤ n) (h3 : k ≤ m) (h4 : m ≤ c)
    (h : ∀ a', (l = 0 → a' = a) → (∀ ad, a' = some ad → ∃ ad0, a = some ad0 ∧ ad.block = ad0.block) → RS w z a' (k - l) (m - l) ((vs.drop (l * z)).take ((k - l) * z)) → wpList P ops Q rest (f.put o.dst (.slice a' (k - l) (m - l))) w) : wpList P ops Q (o :: rest) f w := by
  refine wpList_on hg fun K hK => ?_
  unfold Oper.wp
  simp only [execOp, hop, ex]
  simp only [Sem.run_bind, hrun, Result.andThen]
  refine hK _ _ (h _ ?_ ?_ (hx.cut l k m h1 h2 h3 h4))
  · rintro rfl
    split
    · rfl
    · cases a <;> simp [Addr.add]
  · intro ad had
    split at had
    · exact ⟨ad, had, rfl⟩
    · obtain ⟨ad0, ha0, rfl⟩ := Option.map_eq_some_iff.1 had
      refine ⟨ad0, ha0, ?_⟩
      unfold Addr.add; split <;> rfl

/-- s[l:r] -/
theorem L_slice_lh (ty : STy P t e zero z bytes) {a : Option Addr} {n c : Nat} {vs : List Value} (hx : RS w z a n c vs) (i j : Nat) (x l r : Operand) (hg : Region.wanted o (yielded ops f.tmps) = true)
    (hop : o.op = .slice t x (some l) (some r) none) (k1 k2 : IntKind) (I J : Int) (ex : f.eval x = .slice a n c) (el : f.eval l = .int k1 I) (er : f.eval r = .int k2 J) (hI : I = i) (hJ : J = j) (h1 : i ≤ j) (h2 : j ≤ n)
    (h : ∀ a', (i = 0 → a' = a) → (∀ ad, a' = some ad → ∃ ad0, a = some ad0 ∧ ad.block = ad0.block) → RS w z a' (j - i) (c - i) ((vs.drop (i * z)).take ((j - i) * z)) → wpList P ops Q rest (f.put o.dst (.slice a' (j - i) (c - i))) w) : wpList P ops Q (o :: rest) f w := by
  have hle := hx.le
  subst hI hJ
  refine L_slice_gen hx x (some l) (some r) none hg hop ex i j c ?_ h1 h2 (by omega) (Nat.le_refl _) h
  simp only [Option.map_some, Option.map_none, el, er]
  rw [run_sliceAt_slice w t _ _ _ _ ty.und', run_slice_lh w t a n c ty.und' k1 k2 _ _ (by omega) (by omega) (by omega), ty.sizeOf]
  simp [Result.andThen]
/-- s[l:] -/
theorem L_slice_l (ty : STy P t e zero z bytes) {a : Option Addr} {n c : Nat} {vs : List Value} (hx : RS w z a n c vs) (i : Nat) (x l : Operand) (hg : Region.wanted o (yielded ops f.tmps) = true)
    (hop : o.op = .slice t x (some l) none none) (k1 : IntKind) (I : Int) (ex : f.eval x = .slice a n c) (el : f.eval l = .int k1 I) (hI : I = i) (h1 : i ≤ n)
    (h : ∀ a', (i = 0 → a' = a) → (∀ ad, a' = some ad → ∃ ad0, a = some ad0 ∧ ad.block = ad0.block) → RS w z a' (n - i) (c - i) (vs.drop (i * z)) → wpList P ops Q rest (f.put o.dst (.slice a' (n - i) (c - i))) w) : wpList P ops Q (o :: rest) f w := by
  have hle := hx.le
  subst hI
  have hd : (vs.drop (i * z)).take ((n - i) * z) = vs.drop (i * z) := by
    apply List.take_of_length_le
    rw [List.length_drop, hx.len, ← Nat.mul_sub_right_distrib]; exact Nat.le_refl _
  refine L_slice_gen hx x (some l) none none hg hop ex i n c ?_ h1 (Nat.le_refl _) (by omega) (Nat.le_refl _) (by rw [hd]; exact h)
  simp only [Option.map_some, Option.map_none, el]
  rw [run_sliceAt_slice w t _ _ _ _ ty.und', run_slice_l w t a n c ty.und' k1 _ (by omega) (by omega), ty.sizeOf]
  simp [Result.andThen]
/-- s[:r] -/
theorem L_slice_h (ty : STy P t e zero z bytes) {a : Option Addr} {n c : Nat} {vs : List Value} (hx : RS w z a n c vs) (j : Nat) (x r : Operand) (hg : Region.wanted o (yielded ops f.tmps) = true)
    (hop : o.op = .slice t x none (some r) none) (k2 : IntKind) (J : Int) (ex : f.eval x = .slice a n c) (er : f.eval r = .int k2 J) (hJ : J = j) (h2 : j ≤ n)
    (h : RS w z a j c (vs.take (j * z)) → wpList P ops Q rest (f.put o.dst (.slice a j c)) w) : wpList P ops Q (o :: rest) f w := by
  have hle := hx.le
  subst hJ
  refine L_slice_gen hx x none (some r) none hg hop ex 0 j c ?_ (Nat.zero_le _) h2 (by omega) (Nat.le_refl _) ?_
  · simp only [Option.map_some, Option.map_none, er]
    rw [run_sliceAt_slice w t _ _ _ _ ty.und', run_slice_h w t a n c ty.und' k2 _ (by omega) (by omega), ty.sizeOf]
    simp [Result.andThen]
  · intro a' ha' _ hr
    obtain rfl := ha' rfl
    simp only [Nat.sub_zero, Nat.zero_mul, List.drop_zero] at hr ⊢
    exact h hr
/-- append(s, t...), s the call's own, t a string -/
theorem L_append_str (ty : STy P t e (.int .u8 0) 1 1) {base : Nat} {a : Option Addr} {n c : Nat} {vs : List Value} (hs : OW w base e 1 a n c vs)
    (st : TypeId) (hst : P.underlying st = some .string) (b : ByteArray) (s x : Operand) (hg : Region.wanted o (yielded ops f.tmps) = true)
    (hop : o.op = .call { callee := .builtin .append, args := #[s, x], argTypes := #[t, st] })
    (es : f.eval s = .slice a n c) (ex : f.eval x = .string b) (hbytes : n + b.size ≤ 140737488355328) (h63 : n + b.size ≤ maxLen) (hbase : base ≤ w.heap.size)
    (h : ∀ a' c' w', OW w' base e 1 a' (n + b.size) c' (vs ++ Lib.strCells b) → w.grownBy w' (a.map (·.block)) → wpList P ops Q rest (f.put o.dst (.slice a' (n + b.size) c')) w') : wpList P ops Q (o :: rest) f w := by
  obtain ⟨i, hi, hz0, hz1, hz2⟩ := info_parts ty.info
  have hrow : Value.ownBlock (.slice a n c) = a.map (·.block) := by cases a <;> rfl
  obtain ⟨v', w', hrun, h1, h2, _⟩ := Lib.run_append_own_string (P := P) w base t st o.type e i ty.und hst hi hz0 hz1 hz2 (.slice a n c) n vs hs.1 b h63 (by omega) hbase
  rw [hrow] at h2
  have hone : ∀ v ∈ vs ++ Lib.strCells b, v.oneCell' = true := by
    intro v hv; rcases List.mem_append.1 hv with hv | hv
    · exact hs.2 v hv
    · exact Lib.strCells_oneCell b v hv
  refine wpList_on hg fun K hK => ?_
  unfold Oper.wp
  simp only [execOp, hop, resolve, invoke, builtin, Sem.run_bind, Sem.run_pure, Result.andThen_ok, List.map_toArray, List.map_cons, List.map_nil, es, ex, hrun]
  refine hK _ _ ?_
  rcases h1.2 with ⟨rfl, h3⟩ | ⟨g, cap, cur, rfl, _⟩
  · have := h none 0 w' ⟨by rw [h3] at h1 ⊢; exact h1, hone⟩ h2
    rw [h3] at this; exact this
  · exact h _ _ w' ⟨h1, hone⟩ h2
/-- make([]T, n) -/
theorem L_make (ty : STy P t e zero 1 bytes) (base N : Nat) (hone : zero.oneCell' = true) (hz : zero.cells = #[zero]) (l cc : Operand) (hg : Region.wanted o (yielded ops f.tmps) = true)
    (hop : o.op = .makeSlice t l cc) (kl kc : IntKind) (L C : Int) (el : f.eval l = .int kl L) (ec : f.eval cc = .int kc C) (hL : L = N) (hC : C = N) (hb : bytes * N ≤ 281474976710656) (hm : N ≤ maxLen) (hbase : base ≤ w.heap.size)
    (h : ∀ w', OW w' base e 1 (some ⟨w.heap.size, 0, none⟩) N N (List.replicate N zero) → w.grownBy w' none → wpList P ops Q rest (f.put o.dst (.slice (some ⟨w.heap.size, 0, none⟩) N N)) w') : wpList P ops Q (o :: rest) f w := by
  obtain ⟨i, hi, hz0, hz1, hz2⟩ := info_parts ty.info
  obtain ⟨w', hrun, h1, h2⟩ := run_make_full (P := P) w base t e i zero 1 ty.und hi hz0 hz1 kl kc N (by rw [hz2]; exact hb) hm hbase
  subst hL
  subst hC
  rw [hz, Nat.mul_one, toList_madeCells_one] at h1
  refine wpList_on hg fun K hK => ?_
  unfold Oper.wp
  simp only [execOp, hop, el, ec]
  simp only [Sem.run_bind, hrun, Result.andThen]
  exact hK _ _ (h w' ⟨h1, fun v hv => by rw [(List.mem_replicate.1 hv).2]; exact hone⟩ h2)
/-- the bytes of a slice as a string -/
theorem cells_u8 (xs : List UInt8) : (xs.map fun b => Value.int .u8 (b.toNat : Int)) = (xs.map fun b => (b.toNat : Int)).map (Value.int .u8) := by simp
def B (b : UInt8) : Value := .int .u8 (b.toNat : Int)
theorem map_B (xs : List UInt8) : xs.map B = (xs.map fun b => (b.toNat : Int)).map (Value.int .u8) := by simp [B]
theorem L_string (ty : STy P t e zero 1 bytes) (he : P.underlying e = some (.int .u8)) (st : TypeId) (hst : P.underlying st = some .string) {a : Option Addr} {n c : Nat} {xs : List UInt8} (hx : RS w 1 a n c (xs.map B)) (x : Operand) (hg : Region.wanted o (yielded ops f.tmps) = true)
    (hop : o.op = .convert t st x) (ex : f.eval x = .slice a n c)
    (h : wpList P ops Q rest (f.put o.dst (.string ⟨xs.toArray⟩)) w) : wpList P ops Q (o :: rest) f w := by
  have hrun : (convert t st (.slice a n c)).run P w = .ok (.string ⟨xs.toArray⟩) w := by
    rw [run_convert_bytes_string w t st e a n c ty.und he hst]
    cases a with
    | none =>
      obtain ⟨rfl, rfl, hn⟩ := hx.nil_inv
      obtain rfl : xs = [] := by simpa using hn
      simp [Conv.bytesToString]; rfl
    | some ad =>
      have hl : (loadCells ad n).run P w = .ok ((xs.map fun b => (b.toNat : Int)).map (Value.int .u8)).toArray w := by
        have := run_loadCells_list (P := P) w ad (xs.map B) (hx.cells rfl)
        have hn := hx.len
        rw [show (xs.map B).length = n by omega] at this
        rw [this, map_B]
      rw [run_bytesToString w ad n c _ hl, foldl_push_bytes]
      congr 2
      simp [ByteArray.empty, ByteArray.emptyWithCapacity]
      apply List.map_id''
      intro b; exact UInt8.ofNat_toNat
  refine wpList_on hg fun K hK => ?_
  unfold Oper.wp
  simp only [execOp, hop, ex]
  simp [hrun, Result.andThen]
  exact hK _ _ h
/-- p[i] = v in a slice that is the call's own: its address -/
theorem L_index_own (ty : STy P t e zero 1 bytes) {base : Nat} {a : Option Addr} {n c : Nat} {vs : List Value} (hs : OW w base e 1 a n c vs) (x i : Operand) (hg : Region.wanted o (yielded ops f.tmps) = true)
    (hop : o.op = .indexAddr t x i) (k : IntKind) (I : Int) (ex : f.eval x = .slice a n c) (ei : f.eval i = .int k I) (h0 : 0 ≤ I) (h1 : I < n)
    (h : ∀ g, a = some ⟨g, 0, none⟩ → wpList P ops Q rest (f.put o.dst (.pointer (some ⟨g, I.toNat, none⟩))) w) : wpList P ops Q (o :: rest) f w := by
  rcases hs.shape with ⟨rfl, rfl, rfl, rfl⟩ | ⟨g, cur, rfl, g1, g2, g3, g4, g5, g6, g7⟩
  · omega
  · refine wpList_on hg fun K hK => ?_
    have hrun : (Instr.indexAt t (.slice (some ⟨g, 0, none⟩) n c) (.int k I)).run P w = .ok (.pointer (some ⟨g, I.toNat, none⟩)) w := by
      rw [run_indexAt_slice w t ⟨g, 0, none⟩ n c k I ty.und', if_pos ⟨h0, h1⟩, ty.sizeOf]
      simp [Result.andThen, add_plain]
    unfold Oper.wp
    simp only [execOp, hop, ex, ei]
    simp [hrun, Result.andThen]
    exact hK _ _ (h g rfl)
theorem OW.setCell {w : World} {base : Nat} {e : TypeId} {g n c : Nat} {vs : List Value} (hs : OW w base e 1 (some ⟨g, 0, none⟩) n c vs) (i : Nat) (v : Value) (hv : v.oneCell' = true) : OW (w.setCell ⟨g, i, none⟩ v) base e 1 (some ⟨g, 0, none⟩) n c (vs.set i v) := by
  rcases hs.shape with ⟨h, _⟩ | ⟨g', cur, h, g1, g2, g3, g4, g5, g6, g7⟩
  · cases h
  · cases h
    refine OW.mk' g (cur.setIfInBounds i v) g1 ?_ g4 g5 (by simpa using g6) ?_ ?_
    · simp [World.setCell, Array.getElem?_modify, g3]
    · rw [← g7]; simp [List.take_set]
    · intro u hu
      rcases List.mem_or_eq_of_mem_set hu with h | rfl
      · exact hs.2 u h
      · exact hv
theorem OW.frozen {w : World} {base : Nat} {e : TypeId} {g n c : Nat} {vs : List Value} (hs : OW w base e 1 (some ⟨g, 0, none⟩) n c vs) (i : Nat) : w.frozen? ⟨g, i, none⟩ = false := hs.1.frozenAt i
theorem OW.cell {w : World} {base : Nat} {e : TypeId} {g n c : Nat} {vs : List Value} (hs : OW w base e 1 (some ⟨g, 0, none⟩) n c vs) (i : Nat) (v : Value) (hv : vs[i]? = some v) : w.cell? ⟨g, i, none⟩ = some v := by
  have := hs.rs.cells rfl i v hv
  rwa [add_plain rfl, show (0 + i) = i by omega] at this
theorem grownBy_setCell (w : World) (ad : Addr) (v : Value) : w.grownBy (w.setCell ad v) (some ad.block) :=
  ⟨rfl, rfl, rfl, by simp [World.setCell], fun k _ hk => Below.heap_setCell _ _ _ _ (fun h => hk (by rw [h]))⟩
theorem OW.old {w w' : World} {B base : Nat} {e : TypeId} {z : Nat} {a : Option Addr} {n c : Nat} {vs : List Value} (h : OW w base e z a n c vs) (hb : Below B w w') (hB : ∀ ad, a = some ad → ad.block < B) : OW w' base e z a n c vs :=
  h.keepb fun ad ha => hb.block _ (hB ad ha)
theorem below_own {w0 w w' : World} {B base : Nat} {e : TypeId} {z : Nat} {a : Option Addr} {n c : Nat} {vs : List Value} (hb : Below B w0 w) (h : OW w base e z a n c vs) (hg : w.grownBy w' (a.map (·.block))) (hB : B ≤ base) (hs : B ≤ w.heap.size) : Below B w0 w' :=
  hb.grown hg hs fun k hk => by
    obtain ⟨ad, ha, rfl⟩ := Option.map_eq_some_iff.1 hk
    exact Nat.le_trans hB (h.base_le ha).1
theorem below_none {w0 w w' : World} {B : Nat} (hb : Below B w0 w) (hg : w.grownBy w' none) (hs : B ≤ w.heap.size) : Below B w0 w' :=
  hb.grown hg hs fun k hk => by cases hk
theorem below_then {w0 w w' : World} {B : Nat} (hb : Below B w0 w) (h : Below w.heap.size w w') (hs : B ≤ w.heap.size) : Below B w0 w' :=
  hb.trans (h.mono hs)
theorem below_alloc (w : World) (o : Obj) : Below w.heap.size w (w.alloc o) := (Below.refl _ _).alloc (Nat.le_refl _) o
theorem grown_trans {w w1 w2 : World} {row : Option Nat} (h1 : w.grownBy w1 row) (h2 : w1.grownBy w2 row) : w.grownBy w2 row :=
  ⟨h2.os.trans h1.os, h2.tape.trans h1.tape, h2.output.trans h1.output, Nat.le_trans h1.size h2.size, fun k hk hr => (h2.block k (Nat.lt_of_lt_of_le hk h1.size) hr).trans (h1.block k hk hr)⟩
theorem grown_below {w w1 w2 : World} {row : Option Nat} (h1 : w.grownBy w1 row) (h2 : Below w1.heap.size w1 w2) : w.grownBy w2 row :=
  ⟨h2.os.trans h1.os, h2.tape.trans h1.tape, h2.output.trans h1.output, Nat.le_trans h1.size h2.size, fun k hk hr => (h2.block k (Nat.lt_of_lt_of_le hk h1.size)).trans (h1.block k hk hr)⟩
theorem grown_of_below {w w1 : World} {row : Option Nat} (h2 : Below w.heap.size w w1) : w.grownBy w1 row :=
  ⟨h2.os, h2.tape, h2.output, h2.size, fun k hk _ => h2.block k hk⟩
theorem below_undrew {w w' : World} {B : Nat} (h : Below B w.drew w') : Below B w w' := ⟨h.os, h.tape, h.output, h.size, h.block⟩
theorem grown_setNew {w w1 : World} {row : Option Nat} (h : w.grownBy w1 row) {ad : Addr} (hb : w.heap.size ≤ ad.block) (v : Value) : w.grownBy (w1.setCell ad v) row :=
  ⟨h.os, h.tape, h.output, by have := h.size; simpa [World.setCell] using this, fun k hk hr => (Below.heap_setCell _ _ _ _ (by omega)).trans (h.block k hk hr)⟩
theorem grown_allocNew {w w1 : World} {row : Option Nat} (h : w.grownBy w1 row) (o : Obj) : w.grownBy (w1.alloc o) row :=
  grown_trans h (World.grownBy_alloc w1 o row)
theorem RS.setOther {w : World} {z : Nat} {a : Option Addr} {n c : Nat} {vs : List Value} (h : RS w z a n c vs) {ad : Addr} (hne : ∀ x, a = some x → x.block ≠ ad.block) (v : Value) : RS (w.setCell ad v) z a n c vs :=
  h.grown (grownBy_setCell w ad v) (fun x hx he => hne x hx (by simpa using he))
theorem OW.setOther {w : World} {base : Nat} {e : TypeId} {z : Nat} {a : Option Addr} {n c : Nat} {vs : List Value} (h : OW w base e z a n c vs) {ad : Addr} (hne : ∀ x, a = some x → x.block ≠ ad.block) (v : Value) : OW (w.setCell ad v) base e z a n c vs :=
  h.grown (grownBy_setCell w ad v) (fun x hx he => hne x hx (by simpa using he))
theorem grown_drew {w w1 : World} {row : Option Nat} (h : w.grownBy w1 row) : w.grownBy w1.drew row := ⟨h.os, h.tape, h.output, h.size, h.block⟩
/-- &[]T{}: nothing in it -/
theorem OW_empty (w : World) (base : Nat) (e : TypeId) (z : Nat) (hb : base ≤ w.heap.size) : OW (w.alloc (.cells #[] e)) base e z (some ⟨w.heap.size, 0, none⟩) 0 0 [] :=
  OW_made w base e z #[] 0 hb (by simp) (by unfold maxLen; omega) (by simp)

/-! ### The same for bytes -/
abbrev BS (w : World) (a : Option Addr) (n c : Nat) (xs : List UInt8) : Prop := RS w 1 a n c (xs.map B)
theorem BS.len {w : World} {a : Option Addr} {n c : Nat} {xs : List UInt8} (h : BS w a n c xs) : xs.length = n := by have := RS.len h; simpa using this
theorem BS.get {w : World} {a : Option Addr} {n c : Nat} {xs : List UInt8} (h : BS w a n c xs) (k : Nat) (hk : k < n) : ∃ b : UInt8, xs[k]? = some b :=
  ⟨xs[k]'(by rw [BS.len h]; exact hk), List.getElem?_eq_getElem _⟩
theorem one_B (xs : List UInt8) : ∀ v ∈ xs.map B, v.oneCell' = true := by
  intro v hv; obtain ⟨b, _, rfl⟩ := List.mem_map.1 hv; rfl
theorem B_eq (b : UInt8) : B b = .int .u8 (b.toNat : Int) := rfl
theorem u8_lt (b : UInt8) : b.toNat < 256 := b.toNat_lt
theorem LB_index (ty : STy P t e zero 1 bytes) {a : Option Addr} {n c : Nat} {xs : List UInt8} (hx : BS w a n c xs) (b : UInt8) (x i : Operand) (hg : Region.wanted o (yielded ops f.tmps) = true)
    (hop : o.op = .indexAddr t x i) (k : IntKind) (I : Int) (ex : f.eval x = .slice a n c) (ei : f.eval i = .int k I) (h0 : 0 ≤ I) (h1 : I < n)
    (hv : xs[I.toNat]? = some b)
    (h : ∀ q, w.cell? q = some (.int .u8 (b.toNat : Int)) → wpList P ops Q rest (f.put o.dst (.pointer (some q))) w) : wpList P ops Q (o :: rest) f w :=
  L_index ty hx x i hg hop k I ex ei h0 h1 (B b) (by rw [List.getElem?_map, hv]; rfl) h
theorem LB_slice_lh (ty : STy P t e zero 1 bytes) {a : Option Addr} {n c : Nat} {xs : List UInt8} (hx : BS w a n c xs) (i j : Nat) (x l r : Operand) (hg : Region.wanted o (yielded ops f.tmps) = true)
    (hop : o.op = .slice t x (some l) (some r) none) (k1 k2 : IntKind) (I J : Int) (ex : f.eval x = .slice a n c) (el : f.eval l = .int k1 I) (er : f.eval r = .int k2 J) (hI : I = i) (hJ : J = j) (h1 : i ≤ j) (h2 : j ≤ n)
    (h : ∀ a', BS w a' (j - i) (c - i) ((xs.drop i).take (j - i)) → wpList P ops Q rest (f.put o.dst (.slice a' (j - i) (c - i))) w) : wpList P ops Q (o :: rest) f w :=
  L_slice_lh ty hx i j x l r hg hop k1 k2 I J ex el er hI hJ h1 h2 fun a' _ _ h3 => h a' (by
    unfold BS; simpa only [Nat.mul_one, List.map_take, List.map_drop] using h3)
theorem LB_slice_l (ty : STy P t e zero 1 bytes) {a : Option Addr} {n c : Nat} {xs : List UInt8} (hx : BS w a n c xs) (i : Nat) (x l : Operand) (hg : Region.wanted o (yielded ops f.tmps) = true)
    (hop : o.op = .slice t x (some l) none none) (k1 : IntKind) (I : Int) (ex : f.eval x = .slice a n c) (el : f.eval l = .int k1 I) (hI : I = i) (h1 : i ≤ n)
    (h : ∀ a', BS w a' (n - i) (c - i) (xs.drop i) → wpList P ops Q rest (f.put o.dst (.slice a' (n - i) (c - i))) w) : wpList P ops Q (o :: rest) f w :=
  L_slice_l ty hx i x l hg hop k1 I ex el hI h1 fun a' _ _ h3 => h a' (by
    unfold BS; simpa only [Nat.mul_one, List.map_drop] using h3)
theorem LB_slice_h (ty : STy P t e zero 1 bytes) {a : Option Addr} {n c : Nat} {xs : List UInt8} (hx : BS w a n c xs) (j : Nat) (x r : Operand) (hg : Region.wanted o (yielded ops f.tmps) = true)
    (hop : o.op = .slice t x none (some r) none) (k2 : IntKind) (J : Int) (ex : f.eval x = .slice a n c) (er : f.eval r = .int k2 J) (hJ : J = j) (h2 : j ≤ n)
    (h : BS w a j c (xs.take j) → wpList P ops Q rest (f.put o.dst (.slice a j c)) w) : wpList P ops Q (o :: rest) f w :=
  L_slice_h ty hx j x r hg hop k2 J ex er hJ h2 fun h3 => h (by
    unfold BS; simpa only [Nat.mul_one, List.map_take] using h3)
end laws
end Go.Proofs.Yteekafpkbdbadaa
