/- A session as it lies: its requests, what it has to say. -/
import Derived.Test.YtokgpnkooigamaaDoorTN
set_option maxRecDepth 100000
set_option linter.unusedVariables false
namespace Go.Proofs.YtokgpnkooigamaaDoor
open Go.RowKit
/-- a request -/
structure AG where
  m : MG
  st : Nat
/-- a session -/
structure SS where
  srv : Bool
  own : List AG
  ol : Nat
  their : List AG
  tl : Nat
  out : List MG
  heard : Bool
  code : Nat
/-- where it lies -/
structure SL where
  ow : SA
  th : SA
  ou : SA
  lo : List ML
  lt : List ML
  lu : List ML
def akc (x : AG) (l : ML) : List Value := mgc x.m l ++ [.int .i64 (x.st : Int)]
theorem akc_len (x : AG) (l : ML) : (akc x l).length = 17 := rfl
def akL : List AG → List ML → List Value
  | x :: xs, l :: ls => akc x l ++ akL xs ls
  | _, _ => []
def mgL : List MG → List ML → List Value
  | x :: xs, l :: ls => mgc x l ++ mgL xs ls
  | _, _ => []
theorem akL_len : ∀ (xs : List AG) (ls : List ML), ls.length = xs.length → (akL xs ls).length = xs.length * 17
  | [], ls, _ => by cases ls <;> rfl
  | x :: xs, [], h => by simp at h
  | x :: xs, l :: ls, h => by
    rw [akL, List.length_append, akc_len, akL_len xs ls (by simpa using h), List.length_cons]; omega
theorem mgL_len : ∀ (xs : List MG) (ls : List ML), ls.length = xs.length → (mgL xs ls).length = xs.length * 16
  | [], ls, _ => by cases ls <;> rfl
  | x :: xs, [], h => by simp at h
  | x :: xs, l :: ls, h => by
    rw [mgL, List.length_append, mgc_len, mgL_len xs ls (by simpa using h), List.length_cons]; omega
theorem akL_get : ∀ (xs : List AG) (ls : List ML) (i : Nat) (x : AG) (l : ML), xs[i]? = some x → ls[i]? = some l → ∀ (j : Nat) v, (akc x l)[j]? = some v → (akL xs ls)[i * 17 + j]? = some v
  | [], ls, i, x, l, h, _ => by simp at h
  | y :: xs, [], i, x, l, _, h => by simp at h
  | y :: xs, k :: ls, 0, x, l, h, h2 => fun j v hv => by
    simp at h h2
    subst h; subst h2
    rw [akL, Nat.zero_mul, Nat.zero_add, List.getElem?_append_left (List.getElem?_eq_some_iff.1 hv).1]; exact hv
  | y :: xs, k :: ls, i + 1, x, l, h, h2 => fun j v hv => by
    rw [akL, List.getElem?_append_right (by rw [akc_len]; omega), akc_len, show (i + 1) * 17 + j - 17 = i * 17 + j by omega]
    exact akL_get xs ls i x l (by simpa using h) (by simpa using h2) j v hv
theorem mgL_get : ∀ (xs : List MG) (ls : List ML) (i : Nat) (x : MG) (l : ML), xs[i]? = some x → ls[i]? = some l → ∀ (j : Nat) v, (mgc x l)[j]? = some v → (mgL xs ls)[i * 16 + j]? = some v
  | [], ls, i, x, l, h, _ => by simp at h
  | y :: xs, [], i, x, l, _, h => by simp at h
  | y :: xs, k :: ls, 0, x, l, h, h2 => fun j v hv => by
    simp at h h2
    subst h; subst h2
    rw [mgL, Nat.zero_mul, Nat.zero_add, List.getElem?_append_left (List.getElem?_eq_some_iff.1 hv).1]; exact hv
  | y :: xs, k :: ls, i + 1, x, l, h, h2 => fun j v hv => by
    rw [mgL, List.getElem?_append_right (by rw [mgc_len]; omega), mgc_len, show (i + 1) * 16 + j - 16 = i * 16 + j by omega]
    exact mgL_get xs ls i x l (by simpa using h) (by simpa using h2) j v hv
theorem akL_set : ∀ (xs : List AG) (ls : List ML) (i : Nat) (x : AG) (l : ML) (st : Nat), xs[i]? = some x → ls[i]? = some l → (akL xs ls).set (i * 17 + 16) (.int .i64 (st : Int)) = akL (xs.set i ⟨x.m, st⟩) ls
  | [], ls, i, x, l, _, h, _ => by simp at h
  | y :: xs, [], i, x, l, _, _, h => by simp at h
  | y :: xs, k :: ls, 0, x, l, st, h, h2 => by
    simp at h
    subst h
    rw [akL, List.set_append_left _ _ (by rw [akc_len]; omega)]
    rfl
  | y :: xs, k :: ls, i + 1, x, l, st, h, h2 => by
    rw [akL, List.set_append_right _ _ (by rw [akc_len]; omega), akc_len, show (i + 1) * 17 + 16 - 17 = i * 17 + 16 by omega, akL_set xs ls i x l st (by simpa using h) (by simpa using h2)]
    rfl
theorem akL_snoc : ∀ (xs : List AG) (ls : List ML) (x : AG) (l : ML), ls.length = xs.length → akL (xs ++ [x]) (ls ++ [l]) = akL xs ls ++ akc x l
  | [], [], x, l, _ => by simp [akL]
  | [], k :: ls, x, l, h => by simp at h
  | y :: xs, [], x, l, h => by simp at h
  | y :: xs, k :: ls, x, l, h => by
    rw [List.cons_append, List.cons_append, akL, akL, akL_snoc xs ls x l (by simpa using h), List.append_assoc]
theorem mgL_snoc : ∀ (xs : List MG) (ls : List ML) (x : MG) (l : ML), ls.length = xs.length → mgL (xs ++ [x]) (ls ++ [l]) = mgL xs ls ++ mgc x l
  | [], [], x, l, _ => by simp [mgL]
  | [], k :: ls, x, l, h => by simp at h
  | y :: xs, [], x, l, h => by simp at h
  | y :: xs, k :: ls, x, l, h => by
    rw [List.cons_append, List.cons_append, mgL, mgL, mgL_snoc xs ls x l (by simpa using h), List.append_assoc]
/-- requests in a row of the call's own -/
structure AO (w : World) (base : Nat) (s : SA) (xs : List AG) (ls : List ML) : Prop where
  len : ls.length = xs.length
  n : xs.length = s.n
  row : OW w base 49 17 s.a s.n s.c (akL xs ls)
  ms : ∀ (i : Nat) x l, xs[i]? = some x → ls[i]? = some l → MO w base x.m l
structure QO (w : World) (base : Nat) (s : SA) (xs : List MG) (ls : List ML) : Prop where
  len : ls.length = xs.length
  n : xs.length = s.n
  row : OW w base 31 16 s.a s.n s.c (mgL xs ls)
  ms : ∀ (i : Nat) x l, xs[i]? = some x → ls[i]? = some l → MO w base x l
theorem AO.nil (w : World) (base : Nat) : AO w base SA0 [] [] := ⟨rfl, rfl, OW_nil _ _ _ _, fun i x l h => by simp at h⟩
theorem QO.nil (w : World) (base : Nat) : QO w base SA0 [] [] := ⟨rfl, rfl, OW_nil _ _ _ _, fun i x l h => by simp at h⟩
section
variable {w w' : World} {base : Nat} {s : SA} {ls : List ML}
theorem AO.keep {xs : List AG} (h : AO w base s xs ls) (hk : KB w w') (hr : ∀ ad, s.a = some ad → w'.heap[ad.block]? = w.heap[ad.block]?) : AO w' base s xs ls :=
  ⟨h.len, h.n, h.row.keepb hr, fun i x l h1 h2 => (h.ms i x l h1 h2).kb hk⟩
theorem QO.keep {xs : List MG} (h : QO w base s xs ls) (hk : KB w w') (hr : ∀ ad, s.a = some ad → w'.heap[ad.block]? = w.heap[ad.block]?) : QO w' base s xs ls :=
  ⟨h.len, h.n, h.row.keepb hr, fun i x l h1 h2 => (h.ms i x l h1 h2).kb hk⟩
theorem AO.loc {xs : List AG} (h : AO w base s xs ls) {i : Nat} {x : AG} (hx : xs[i]? = some x) : ∃ l, ls[i]? = some l :=
  ⟨_, List.getElem?_eq_getElem (by rw [h.len]; exact (List.getElem?_eq_some_iff.1 hx).1)⟩
theorem QO.loc {xs : List MG} (h : QO w base s xs ls) {i : Nat} {x : MG} (hx : xs[i]? = some x) : ∃ l, ls[i]? = some l :=
  ⟨_, List.getElem?_eq_getElem (by rw [h.len]; exact (List.getElem?_eq_some_iff.1 hx).1)⟩
/-- the block of the row -/
theorem AO.blk {xs : List AG} (h : AO w base s xs ls) {i : Nat} {x : AG} (hx : xs[i]? = some x) : ∃ g, s.a = some ⟨g, 0, none⟩ ∧ base ≤ g ∧ g < w.heap.size := by
  have hi := (List.getElem?_eq_some_iff.1 hx).1
  rcases h.row.shape with ⟨_, h2, _⟩ | ⟨g, cur, h1, h2, h3, _⟩
  · have := h.n; omega
  · exact ⟨g, h1, h2, h3⟩
theorem QO.blk {xs : List MG} (h : QO w base s xs ls) {i : Nat} {x : MG} (hx : xs[i]? = some x) : ∃ g, s.a = some ⟨g, 0, none⟩ ∧ base ≤ g ∧ g < w.heap.size := by
  have hi := (List.getElem?_eq_some_iff.1 hx).1
  rcases h.row.shape with ⟨_, h2, _⟩ | ⟨g, cur, h1, h2, h3, _⟩
  · have := h.n; omega
  · exact ⟨g, h1, h2, h3⟩
/-- the cells of one request -/
theorem AO.rng {xs : List AG} (h : AO w base s xs ls) {i : Nat} {x : AG} {l : ML} (hx : xs[i]? = some x) (hl : ls[i]? = some l) {g : Nat} (hg : s.a = some ⟨g, 0, none⟩) : w.rangeAt g (i * 17) (akc x l) := fun j v hv => by
  have := h.row.rs.cells hg (i * 17 + j) v (akL_get xs ls i x l hx hl j v hv)
  rwa [add_plain rfl, Nat.zero_add] at this
theorem QO.rng {xs : List MG} (h : QO w base s xs ls) {i : Nat} {x : MG} {l : ML} (hx : xs[i]? = some x) (hl : ls[i]? = some l) {g : Nat} (hg : s.a = some ⟨g, 0, none⟩) : w.rangeAt g (i * 16) (mgc x l) := fun j v hv => by
  have := h.row.rs.cells hg (i * 16 + j) v (mgL_get xs ls i x l hx hl j v hv)
  rwa [add_plain rfl, Nat.zero_add] at this
theorem OW.setCellZ {e : TypeId} {z g n c : Nat} {vs : List Value} (hs : OW w base e z (some ⟨g, 0, none⟩) n c vs) (i : Nat) (v : Value) (hv : v.oneCell' = true) : OW (w.setCell ⟨g, i, none⟩ v) base e z (some ⟨g, 0, none⟩) n c (vs.set i v) := by
  rcases hs.shape with ⟨h, _⟩ | ⟨g', cur, h, g1, g2, g3, g4, g5, g6, g7⟩
  · cases h
  · cases h
    refine OW.mk' g (cur.setIfInBounds i v) g1 ?_ g4 g5 (by simpa using g6) ?_ ?_
    · simp [World.setCell, Array.getElem?_modify, g3]
    · rw [← g7]; simp [List.take_set]
    · intro u hu
      rcases List.mem_or_eq_of_mem_set hu with h | rfl
      · exact hs.2 u h
      · exact hv
theorem OW.frz {e : TypeId} {z g n c : Nat} {vs : List Value} (hs : OW w base e z (some ⟨g, 0, none⟩) n c vs) (i : Nat) : w.frozen? ⟨g, i, none⟩ = false := by
  rcases hs.shape with ⟨h, _⟩ | ⟨g', cur, h, g1, g2, g3, _⟩
  · cases h
  · cases h
    simp [World.frozen?, g3]
/-- writes to rows of other types keep bytes and numbers -/
theorem KB.grown {e : TypeId} {z : Nat} {a : Option Addr} {n c : Nat} {vs : List Value} (h : OW w base e z a n c vs) (h1 : e ≠ 5) (h2 : e ≠ 23) (hg : w.grownBy w' (a.map (·.block))) : KB w w' := fun b cur e' fr he hb => by
  refine hg.block b (Array.getElem?_eq_some_iff.1 hb).1 (fun hk => ?_)
  obtain ⟨ad, h5, h6⟩ := Option.map_eq_some_iff.1 hk.symm
  rcases h.shape with ⟨rfl, _⟩ | ⟨g', cur', rfl, _, _, h3, _⟩
  · cases h5
  · cases h5
    simp only at h6
    rw [← h6, h3] at hb
    injection hb with hb
    injection hb with hb1 hb2
    rcases he with rfl | rfl
    · exact h1 hb2
    · exact h2 hb2
theorem KB.setO {e : TypeId} {z g i : Nat} {n c : Nat} {vs : List Value} (h : OW w base e z (some ⟨g, 0, none⟩) n c vs) (h1 : e ≠ 5) (h2 : e ≠ 23) (v : Value) : KB w (w.setCell ⟨g, i, none⟩ v) :=
  KB.grown h h1 h2 (grownBy_setCell w ⟨g, i, none⟩ v)
/-- a request's state -/
theorem AO.setSt {xs : List AG} (h : AO w base s xs ls) {i : Nat} {x : AG} (hx : xs[i]? = some x) {g : Nat} (hg : s.a = some ⟨g, 0, none⟩) (st : Nat) : AO (w.setCell ⟨g, i * 17 + 16, none⟩ (.int .i64 (st : Int))) base s (xs.set i ⟨x.m, st⟩) ls := by
  obtain ⟨l, hl⟩ := h.loc hx
  have hr := h.row
  rw [hg] at hr
  have hk := KB.setO (i := i * 17 + 16) hr (by decide) (by decide) (.int .i64 (st : Int))
  refine ⟨by rw [List.length_set]; exact h.len, by rw [List.length_set]; exact h.n, ?_, fun j y k h1 h2 => ?_⟩
  · rw [hg, ← akL_set xs ls i x l st hx hl]
    exact hr.setCellZ _ _ rfl
  · by_cases hj : j = i
    · subst hj
      rw [List.getElem?_set_self (List.getElem?_eq_some_iff.1 hx).1] at h1
      cases h1
      exact (h.ms j x k hx h2).kb hk
    · rw [List.getElem?_set_ne (fun h => hj h.symm)] at h1
      exact (h.ms j y k h1 h2).kb hk
end
/-- a session as it lies -/
structure SZ (w : World) (base g : Nat) (S : SS) (A : SL) : Prop where
  hg : base ≤ g
  row : CR w g 58 [.bool S.srv, A.ow.v, u64 S.ol, A.th.v, u64 S.tl, A.ou.v, .bool S.heard, u64 S.code]
  ow : AO w base A.ow S.own A.lo
  th : AO w base A.th S.their A.lt
  ou : QO w base A.ou S.out A.lu
  ap : ∀ x y, A.ow.a = some x → A.th.a = some y → x.block ≠ y.block
/-- its blocks -/
def FP (g : Nat) (A : SL) (b : Nat) : Prop := b = g ∨ (∃ ad, A.ow.a = some ad ∧ ad.block = b) ∨ (∃ ad, A.th.a = some ad ∧ ad.block = b) ∨ (∃ ad, A.ou.a = some ad ∧ ad.block = b)
/-- what a call of it does to the world -/
structure SK (w : World) (g : Nat) (A : SL) (w' : World) (A' : SL) : Prop where
  os : w'.os = w.os
  tape : w'.tape = w.tape
  output : w'.output = w.output
  size : w.heap.size ≤ w'.heap.size
  keep : ∀ b, b < w.heap.size → ¬ FP g A b → w'.heap[b]? = w.heap[b]?
  fp : ∀ b, FP g A' b → FP g A b ∨ w.heap.size ≤ b
theorem SK.refl (w : World) (g : Nat) (A : SL) : SK w g A w A := ⟨rfl, rfl, rfl, Nat.le_refl _, fun _ _ _ => rfl, fun _ h => .inl h⟩
theorem SK.trans {w w1 w2 : World} {g : Nat} {A A1 A2 : SL} (h : SK w g A w1 A1) (k : SK w1 g A1 w2 A2) : SK w g A w2 A2 :=
  ⟨k.os.trans h.os, k.tape.trans h.tape, k.output.trans h.output, Nat.le_trans h.size k.size, fun b hb hn => by
    rw [k.keep b (Nat.lt_of_lt_of_le hb h.size) (fun hf => by
      rcases h.fp b hf with h1 | h1
      · exact hn h1
      · omega), h.keep b hb hn], fun b hf => by
    rcases k.fp b hf with h1 | h1
    · exact h.fp b h1
    · exact .inr (Nat.le_trans h.size h1)⟩
theorem SK.bel {w w1 : World} {g : Nat} {A : SL} (h : Below w.heap.size w w1) : SK w g A w1 A :=
  ⟨h.os, h.tape, h.output, h.size, fun b hb _ => h.block b hb, fun _ h => .inl h⟩
theorem SZ.fp_ge {w : World} {base g : Nat} {S : SS} {A : SL} (h : SZ w base g S A) {b : Nat} (hf : FP g A b) : base ≤ b ∧ b < w.heap.size := by
  rcases hf with rfl | ⟨ad, h1, rfl⟩ | ⟨ad, h1, rfl⟩ | ⟨ad, h1, rfl⟩
  · exact ⟨h.hg, h.row.lt⟩
  · exact h.ow.row.base_le h1
  · exact h.th.row.base_le h1
  · exact h.ou.row.base_le h1
theorem SK.below {w w' : World} {base g : Nat} {S : SS} {A A' : SL} (h : SK w g A w' A') (hz : SZ w base g S A) (hB : base ≤ w.heap.size) : Below base w w' :=
  ⟨h.os, h.tape, h.output, h.size, fun b hb => h.keep b (Nat.lt_of_lt_of_le hb hB) (fun hf => by have := (hz.fp_ge hf).1; omega)⟩
/-- another's session stays -/
theorem SZ.keep {w w' : World} {base g : Nat} {S : SS} {A : SL} (h : SZ w base g S A) (hk : KB w w') (hf : ∀ b, FP g A b → w'.heap[b]? = w.heap[b]?) : SZ w' base g S A :=
  ⟨h.hg, h.row.keep (hf g (.inl rfl)), h.ow.keep hk (fun ad ha => hf _ (.inr (.inl ⟨ad, ha, rfl⟩))), h.th.keep hk (fun ad ha => hf _ (.inr (.inr (.inl ⟨ad, ha, rfl⟩)))), h.ou.keep hk (fun ad ha => hf _ (.inr (.inr (.inr ⟨ad, ha, rfl⟩)))), h.ap⟩
theorem SZ.bel {w w' : World} {base g : Nat} {S : SS} {A : SL} (h : SZ w base g S A) (hb : Below w.heap.size w w') : SZ w' base g S A :=
  h.keep (KB.bel hb) (fun b hf => hb.block b (h.fp_ge hf).2)
theorem SZ.drew {w : World} {base g : Nat} {S : SS} {A : SL} (h : SZ w base g S A) : SZ w.drew base g S A := h.bel (Below.refl _ _).drew
theorem SK.kb {w w' : World} {base g : Nat} {S : SS} {A A' : SL} (h : SK w g A w' A') (hz : SZ w base g S A) : KB w w' := fun b cur e fr he hb => by
  refine h.keep b (Array.getElem?_eq_some_iff.1 hb).1 (fun hf => ?_)
  have no : ∀ {e' : TypeId} {z : Nat} {s : SA} {vs : List Value}, OW w base e' z s.a s.n s.c vs → e' ≠ 5 → e' ≠ 23 → ∀ ad, s.a = some ad → ad.block = b → False := by
    intro e' z s vs ho h1 h2 ad had hbk
    rcases ho.shape with ⟨h3, _⟩ | ⟨g', cur', h3, _, _, h4, _⟩
    · rw [h3] at had; cases had
    · rw [h3] at had; cases had
      simp only at hbk
      rw [hbk, hb] at h4
      injection h4 with h4
      injection h4 with h5 h6
      rcases he with rfl | rfl
      · exact h1 h6.symm
      · exact h2 h6.symm
  rcases hf with rfl | ⟨ad, h1, h2⟩ | ⟨ad, h1, h2⟩ | ⟨ad, h1, h2⟩
  · have := hz.row
    unfold CR at this
    rw [hb] at this
    injection this with this
    injection this with h5 h6
    rcases he with rfl | rfl <;> cases h6
  · exact no hz.ow.row (by decide) (by decide) ad h1 h2
  · exact no hz.th.row (by decide) (by decide) ad h1 h2
  · exact no hz.ou.row (by decide) (by decide) ad h1 h2
end Go.Proofs.YtokgpnkooigamaaDoor
