/- What one step does to a session. -/
import Derived.Test.YtokgpnkooigamaaDoorTO
import Derived.Test.YtokgpnkooigamaaDoorTJ
set_option maxRecDepth 100000
set_option linter.unusedVariables false
namespace Go.Proofs.YtokgpnkooigamaaDoor
open Go.RowKit
/-- append onto the call's own: the result's row is the old one, or a new one -/
theorem W_append_atZ {P : Program} {w : World} {o : Oper} {f : Act} {K : Act → World → Prop} {Q : Exit → Act → World → Prop} {t e : TypeId} {zero : Value} {z bytes : Nat}
    (ty : STy P t e zero z bytes) {base : Nat} {a : Option Addr} {n c : Nat} {vs : List Value} (hs : OW w base e z a n c vs)
    {b : Option Addr} {m d : Nat} {us : List Value} (hx : RS w z b m d us) (s x : Operand)
    (hop : o.op = .call { callee := .builtin .append, args := #[s, x], argTypes := #[t, t] })
    (es : f.eval s = .slice a n c) (ex : f.eval x = .slice b m d) (hbytes : (n + m) * bytes ≤ 140737488355328) (h63 : n + m ≤ maxLen) (hbase : base ≤ w.heap.size)
    (h : ∀ a' c' w', OW w' base e z a' (n + m) c' (vs ++ us) → w.grownBy w' (a.map (·.block)) → (∀ ad, a' = some ad → a = some ad ∨ w.heap.size ≤ ad.block) → K (f.put o.dst (.slice a' (n + m) c')) w') : o.wp P f w K Q := by
  obtain ⟨i, hi, hz0, hz1, hz2⟩ := info_parts ty.info
  have hzp := ty.zpos
  rcases hs.shape with ⟨rfl, rfl, rfl, rfl⟩ | ⟨g, cur, rfl, hb, hc, hcell, hmx, hsz, htk, hnc⟩
  · refine W_append ty (OW_nil w w.heap.size e z) hx s x hop es ex hbytes h63 (Nat.le_refl _) fun a' c' w' o1 g1 => ?_
    exact h a' c' w' (o1.mono hbase) g1 (fun ad ha => Or.inr (o1.base_le ha).1)
  · cases b with
    | none =>
      obtain ⟨rfl, rfl, rfl⟩ := hx.nil_inv
      have hrun := run_append_owned_none (P := P) (w := w) base t o.type e i z ty.und hi (.slice (some ⟨g, 0, none⟩) n c) n vs hs.1
      unfold Oper.wp
      simp only [execOp, hop, resolve, invoke, builtin, Sem.run_bind, Sem.run_pure, Result.andThen_ok, List.map_toArray, List.map_cons, List.map_nil, es, ex, hrun]
      have := h (some ⟨g, 0, none⟩) c w (by simpa using hs) (World.grownBy.refl w _) (fun ad ha => Or.inl ha)
      have h2 : K (f.put o.dst (.slice (some ⟨g, 0, none⟩) n c)) w := by simpa using this
      exact h2
    | some bd =>
      have hvl : vs.length = n * z := hs.len
      have hul : us.length = m * z := hx.len
      have hone : ∀ v ∈ vs ++ us, v.oneCell' = true := by
        intro v hv; rcases List.mem_append.1 hv with hv | hv
        · exact hs.2 v hv
        · exact hx.one v hv
      by_cases hroom : n + m ≤ c
      · refine wp_append_own_spare w s x t hop base e i z ty.und hi hz1 g n c vs es hs.1 bd m d us ex hul (hx.cells rfl) hx.one hroom fun w' h1 h2 => ?_
        exact h _ _ w' ⟨h1, hone⟩ h2 (fun ad ha => Or.inl ha)
      · have hle := hs.rs.le
        have h63' : ((n + m : Nat) : Int) ≤ 9223372036854775807 := by unfold maxLen at h63; omega
        have hrun := run_append_grow (P := P) w t o.type e i zero ty.und hi hz0 ⟨g, 0, none⟩ n c vs (by rw [hz1]; exact hs.len) (by intro j v hv; exact hs.rs.cells rfl j v hv) bd m d us (by rw [hz1]; exact hul) (hx.cells rfl) (by omega) h63' (growslice_fits (by omega) (by rw [hz2]; exact hbytes))
        have hge := grownCap_ge w (n + m) c e
        unfold Oper.wp
        simp only [execOp, hop, resolve, invoke, builtin, Sem.run_bind, Sem.run_pure, Result.andThen_ok, List.map_toArray, List.map_cons, List.map_nil, es, ex, hrun]
        refine h _ _ _ (OW.mk' w.heap.size _ hbase (heap_alloc_new w.drew _) hge (grownCap_le_maxLen w (n + m) c e h63) ?_ ?_ hone) ⟨rfl, rfl, rfl, by simp, fun k hk _ => Below.heap_alloc w.drew _ k hk⟩ (fun ad ha => by cases ha; exact Or.inr (Nat.le_refl _))
        · simp only [Array.size_append, List.size_toArray, size_zeroCells, hvl, hul, ty.zs]
          rw [← Nat.add_mul, ← Nat.add_mul]; congr 1; omega
        · simp only [Array.toList_append, List.append_assoc]
          rw [← List.append_assoc, show (n + m) * z = (vs ++ us).length by rw [List.length_append, hvl, hul, Nat.add_mul]]
          exact List.take_left
theorem L_append_atZ {P : Program} {w : World} {ops : Array Oper} {rest : List Oper} {o : Oper} {f : Act} {Q : Exit → Act → World → Prop} {t e : TypeId} {zero : Value} {z bytes : Nat}
    (ty : STy P t e zero z bytes) {base : Nat} {a : Option Addr} {n c : Nat} {vs : List Value} (hs : OW w base e z a n c vs)
    {b : Option Addr} {m d : Nat} {us : List Value} (hx : RS w z b m d us) (s x : Operand) (hg : Region.wanted o (yielded ops f.tmps) = true)
    (hop : o.op = .call { callee := .builtin .append, args := #[s, x], argTypes := #[t, t] })
    (es : f.eval s = .slice a n c) (ex : f.eval x = .slice b m d) (hbytes : (n + m) * bytes ≤ 140737488355328) (h63 : n + m ≤ maxLen) (hbase : base ≤ w.heap.size)
    (h : ∀ a' c' w', OW w' base e z a' (n + m) c' (vs ++ us) → w.grownBy w' (a.map (·.block)) → (∀ ad, a' = some ad → a = some ad ∨ w.heap.size ≤ ad.block) → wpList P ops Q rest (f.put o.dst (.slice a' (n + m) c')) w') : wpList P ops Q (o :: rest) f w :=
  wpList_on hg fun K hK => W_append_atZ ty hs hx s x hop es ex hbytes h63 hbase fun a' c' w' h1 h2 h3 => hK _ _ (h a' c' w' h1 h2 h3)
theorem S_append_atZ {P : Program} {ops : Array Oper} {w : World} {o : Oper} {f : Act} {K : Act → World → Prop} {Q : Exit → Act → World → Prop} {E : Prop} {t e : TypeId} {zero : Value} {z bytes : Nat}
    (ty : STy P t e zero z bytes) {base : Nat} {a : Option Addr} {n c : Nat} {vs : List Value} (hs : OW w base e z a n c vs)
    {b : Option Addr} {m d : Nat} {us : List Value} (hx : RS w z b m d us) (s x : Operand) (hg : Region.wanted o (yielded ops f.tmps) = true)
    (hop : o.op = .call { callee := .builtin .append, args := #[s, x], argTypes := #[t, t] })
    (es : f.eval s = .slice a n c) (ex : f.eval x = .slice b m d) (hbytes : (n + m) * bytes ≤ 140737488355328) (h63 : n + m ≤ maxLen) (hbase : base ≤ w.heap.size)
    (h : ∀ a' c' w', OW w' base e z a' (n + m) c' (vs ++ us) → w.grownBy w' (a.map (·.block)) → (∀ ad, a' = some ad → a = some ad ∨ w.heap.size ≤ ad.block) → K (f.put o.dst (.slice a' (n + m) c')) w') : if Region.wanted o (yielded ops f.tmps) = true then Oper.wp P o f w K Q else E := by
  rw [if_pos hg]
  exact W_append_atZ ty hs hx s x hop es ex hbytes h63 hbase h
def srow (S : SS) (A : SL) : List Value := [.bool S.srv, A.ow.v, u64 S.ol, A.th.v, u64 S.tl, A.ou.v, .bool S.heard, u64 S.code]
section
variable {w w' : World} {base g : Nat} {S : SS} {A : SL}
theorem SZ.rw' (h : SZ w base g S A) : CR w g 58 (srow S A) := h.row
theorem FP.ne (h : SZ w base g S A) : (∀ ad, A.ow.a = some ad → ad.block ≠ g) ∧ (∀ ad, A.th.a = some ad → ad.block ≠ g) ∧ (∀ ad, A.ou.a = some ad → ad.block ≠ g) :=
  ⟨h.ow.row.neCR h.row (by decide), h.th.row.neCR h.row (by decide), h.ou.row.neCR h.row (by decide)⟩
/-- rows of asks and of messages are apart -/
theorem SZ.apo (h : SZ w base g S A) : (∀ x y, A.ow.a = some x → A.ou.a = some y → x.block ≠ y.block) ∧ (∀ x y, A.th.a = some x → A.ou.a = some y → x.block ≠ y.block) := by
  have H : ∀ {s : SA} {vs : List Value}, OW w base 49 17 s.a s.n s.c vs → ∀ x y, s.a = some x → A.ou.a = some y → x.block ≠ y.block := by
    intro s vs ho x y hx hy hxy
    rcases ho.shape with ⟨h1, _⟩ | ⟨p, cp, h1, _, _, h2, _⟩
    · rw [h1] at hx; cases hx
    · rcases h.ou.row.shape with ⟨h3, _⟩ | ⟨q, cq, h3, _, _, h4, _⟩
      · rw [h3] at hy; cases hy
      · rw [h1] at hx; rw [h3] at hy; cases hx; cases hy
        simp only at hxy
        rw [hxy, h4] at h2
        injection h2 with h2
        injection h2 with h5 h6
        cases h6
  exact ⟨H h.ow.row, H h.th.row⟩
/-- a store into the session's own row -/
theorem SZ.cell (h : SZ w base g S A) (i : Nat) (v : Value) (S' : SS) (hr : (srow S A).set i v = srow S' A) (h1 : S'.own = S.own) (h2 : S'.their = S.their) (h3 : S'.out = S.out) : SZ (w.setCell ⟨g, i, none⟩ v) base g S' A ∧ SK w g A (w.setCell ⟨g, i, none⟩ v) A := by
  have hrow := h.rw'
  have hk : KB w (w.setCell ⟨g, i, none⟩ v) := KB.set hrow (by decide) (by decide) v
  obtain ⟨n1, n2, n3⟩ := FP.ne h
  have hc := hrow.set i v
  rw [hr] at hc
  exact ⟨⟨h.hg, hc, by rw [h1]; exact h.ow.keep hk (fun ad ha => Below.heap_setCell _ _ _ _ (fun he => n1 ad ha he)), by rw [h2]; exact h.th.keep hk (fun ad ha => Below.heap_setCell _ _ _ _ (fun he => n2 ad ha he)), by rw [h3]; exact h.ou.keep hk (fun ad ha => Below.heap_setCell _ _ _ _ (fun he => n3 ad ha he)), h.ap⟩,
    ⟨rfl, rfl, rfl, by simp [World.setCell], fun b _ hn => Below.heap_setCell _ _ _ _ (fun he => hn (.inl he)), fun b hf => .inl hf⟩⟩
theorem SZ.set_ol (h : SZ w base g S A) (n : Nat) : SZ (w.setCell ⟨g, 2, none⟩ (u64 n)) base g { S with ol := n } A ∧ SK w g A (w.setCell ⟨g, 2, none⟩ (u64 n)) A := h.cell 2 _ { S with ol := n } rfl rfl rfl rfl
theorem SZ.set_tl (h : SZ w base g S A) (n : Nat) : SZ (w.setCell ⟨g, 4, none⟩ (u64 n)) base g { S with tl := n } A ∧ SK w g A (w.setCell ⟨g, 4, none⟩ (u64 n)) A := h.cell 4 _ { S with tl := n } rfl rfl rfl rfl
theorem SZ.set_heard (h : SZ w base g S A) (n : Bool) : SZ (w.setCell ⟨g, 6, none⟩ (.bool n)) base g { S with heard := n } A ∧ SK w g A (w.setCell ⟨g, 6, none⟩ (.bool n)) A := h.cell 6 _ { S with heard := n } rfl rfl rfl rfl
theorem SZ.set_code (h : SZ w base g S A) (n : Nat) : SZ (w.setCell ⟨g, 7, none⟩ (u64 n)) base g { S with code := n } A ∧ SK w g A (w.setCell ⟨g, 7, none⟩ (u64 n)) A := h.cell 7 _ { S with code := n } rfl rfl rfl rfl
/-- what is to be said is handed out -/
theorem SZ.clear (h : SZ w base g S A) : SZ (w.setCell ⟨g, 5, none⟩ (.slice none 0 0)) base g { S with out := [] } { A with ou := SA0, lu := [] } ∧ SK w g A (w.setCell ⟨g, 5, none⟩ (.slice none 0 0)) { A with ou := SA0, lu := [] } ∧ QO (w.setCell ⟨g, 5, none⟩ (.slice none 0 0)) base A.ou S.out A.lu := by
  have hrow := h.rw'
  have hk : KB w (w.setCell ⟨g, 5, none⟩ (.slice none 0 0)) := KB.set hrow (by decide) (by decide) _
  obtain ⟨n1, n2, n3⟩ := FP.ne h
  have hc := hrow.set 5 (.slice none 0 0)
  exact ⟨⟨h.hg, hc, h.ow.keep hk (fun ad ha => Below.heap_setCell _ _ _ _ (fun he => n1 ad ha he)), h.th.keep hk (fun ad ha => Below.heap_setCell _ _ _ _ (fun he => n2 ad ha he)), QO.nil _ _, h.ap⟩,
    ⟨rfl, rfl, rfl, by simp [World.setCell], fun b _ hn => Below.heap_setCell _ _ _ _ (fun he => hn (.inl he)), fun b hf => by
      rcases hf with h1 | h1 | h1 | ⟨ad, h1, _⟩
      · exact .inl (.inl h1)
      · exact .inl (.inr (.inl h1))
      · exact .inl (.inr (.inr (.inl h1)))
      · cases h1⟩, h.ou.keep hk (fun ad ha => Below.heap_setCell _ _ _ _ (fun he => n3 ad ha he))⟩
/-- one more to be said -/
theorem SZ.app_out (h : SZ w base g S A) {m : MG} {l : ML} (hm : MO w base m l) {a2 : Option Addr} {c2 : Nat} (ho : OW w' base 31 16 a2 (A.ou.n + 1) c2 (mgL S.out A.lu ++ mgc m l)) (hg : w.grownBy w' (A.ou.a.map (·.block))) (hd : ∀ ad, a2 = some ad → A.ou.a = some ad ∨ w.heap.size ≤ ad.block) :
    CR w' g 58 (srow S A) ∧ SZ (w'.setCell ⟨g, 5, none⟩ (.slice a2 (A.ou.n + 1) c2)) base g { S with out := S.out ++ [m] } { A with ou := ⟨a2, A.ou.n + 1, c2⟩, lu := A.lu ++ [l] } ∧ SK w g A (w'.setCell ⟨g, 5, none⟩ (.slice a2 (A.ou.n + 1) c2)) { A with ou := ⟨a2, A.ou.n + 1, c2⟩, lu := A.lu ++ [l] } := by
  obtain ⟨n1, n2, n3⟩ := FP.ne h
  obtain ⟨p1, p2⟩ := h.apo
  have other : ∀ b, b < w.heap.size → (∀ ad, A.ou.a = some ad → ad.block ≠ b) → w'.heap[b]? = w.heap[b]? := fun b hb hn => hg.block b hb (fun he => by
    obtain ⟨ad, h5, h6⟩ := Option.map_eq_some_iff.1 he.symm
    exact hn ad h5 h6)
  have hrow := h.rw'.keep (other g h.row.lt n3)
  have hk1 : KB w w' := KB.grown h.ou.row (by decide) (by decide) hg
  have hk2 : KB w' (w'.setCell ⟨g, 5, none⟩ (.slice a2 (A.ou.n + 1) c2)) := KB.set hrow (by decide) (by decide) _
  have hc := hrow.set 5 (.slice a2 (A.ou.n + 1) c2)
  have st : ∀ {x : Addr}, x.block ≠ g → (w'.setCell ⟨g, 5, none⟩ (.slice a2 (A.ou.n + 1) c2)).heap[x.block]? = w'.heap[x.block]? := fun hne => Below.heap_setCell _ _ _ _ (fun he => hne he)
  refine ⟨hrow, ⟨h.hg, hc, ?_, ?_, ⟨?_, ?_, ?_, ?_⟩, h.ap⟩, ⟨hg.os, hg.tape, hg.output, by have := hg.size; simpa [World.setCell] using this, fun b hb hn => ?_, fun b hf => ?_⟩⟩
  · exact (h.ow.keep hk1 (fun ad ha => other _ (h.ow.row.base_le ha).2 (fun y hy he => p1 ad y ha hy he.symm))).keep hk2 (fun ad ha => st (n1 ad ha))
  · exact (h.th.keep hk1 (fun ad ha => other _ (h.th.row.base_le ha).2 (fun y hy he => p2 ad y ha hy he.symm))).keep hk2 (fun ad ha => st (n2 ad ha))
  · simp [h.ou.len]
  · simp [h.ou.n]
  · rw [mgL_snoc _ _ _ _ h.ou.len]
    exact ho.setOther (ad := ⟨g, 5, none⟩) (ho.neCR hrow (by decide)) _
  · intro i x k h1 h2
    by_cases hi : i < S.out.length
    · rw [List.getElem?_append_left hi] at h1
      rw [List.getElem?_append_left (by rw [h.ou.len]; exact hi)] at h2
      exact ((h.ou.ms i x k h1 h2).kb hk1).kb hk2
    · have hl := (List.getElem?_eq_some_iff.1 h1).1
      simp at hl
      obtain rfl : i = S.out.length := by omega
      rw [List.getElem?_append_right (Nat.le_refl _), Nat.sub_self] at h1
      rw [List.getElem?_append_right (by rw [h.ou.len]; exact Nat.le_refl _), h.ou.len, Nat.sub_self] at h2
      cases h1; cases h2
      exact (hm.kb hk1).kb hk2
  · rw [Below.heap_setCell _ _ _ _ (fun he => hn (.inl he))]
    exact other b hb (fun ad ha he => hn (.inr (.inr (.inr ⟨ad, ha, he⟩))))
  · rcases hf with h1 | h1 | h1 | ⟨ad, h1, h2⟩
    · exact .inl (.inl h1)
    · exact .inl (.inr (.inl h1))
    · exact .inl (.inr (.inr (.inl h1)))
    · rcases hd ad h1 with h3 | h3
      · exact .inl (.inr (.inr (.inr ⟨ad, h3, h2⟩)))
      · exact .inr (by omega)
theorem SZ.app_th (h : SZ w base g S A) {x : AG} {l : ML} (hm : MO w base x.m l) {a2 : Option Addr} {c2 : Nat} (ho : OW w' base 49 17 a2 (A.th.n + 1) c2 (akL S.their A.lt ++ akc x l)) (hg : w.grownBy w' (A.th.a.map (·.block))) (hd : ∀ ad, a2 = some ad → A.th.a = some ad ∨ w.heap.size ≤ ad.block) :
    CR w' g 58 (srow S A) ∧ SZ (w'.setCell ⟨g, 3, none⟩ (.slice a2 (A.th.n + 1) c2)) base g { S with their := S.their ++ [x] } { A with th := ⟨a2, A.th.n + 1, c2⟩, lt := A.lt ++ [l] } ∧ SK w g A (w'.setCell ⟨g, 3, none⟩ (.slice a2 (A.th.n + 1) c2)) { A with th := ⟨a2, A.th.n + 1, c2⟩, lt := A.lt ++ [l] } := by
  obtain ⟨n1, n2, n3⟩ := FP.ne h
  obtain ⟨p1, p2⟩ := h.apo
  have other : ∀ b, b < w.heap.size → (∀ ad, A.th.a = some ad → ad.block ≠ b) → w'.heap[b]? = w.heap[b]? := fun b hb hn => hg.block b hb (fun he => by
    obtain ⟨ad, h5, h6⟩ := Option.map_eq_some_iff.1 he.symm
    exact hn ad h5 h6)
  have hrow := h.rw'.keep (other g h.row.lt n2)
  have hk1 : KB w w' := KB.grown h.th.row (by decide) (by decide) hg
  have hk2 : KB w' (w'.setCell ⟨g, 3, none⟩ (.slice a2 (A.th.n + 1) c2)) := KB.set hrow (by decide) (by decide) _
  have hc := hrow.set 3 (.slice a2 (A.th.n + 1) c2)
  have st : ∀ {x : Addr}, x.block ≠ g → (w'.setCell ⟨g, 3, none⟩ (.slice a2 (A.th.n + 1) c2)).heap[x.block]? = w'.heap[x.block]? := fun hne => Below.heap_setCell _ _ _ _ (fun he => hne he)
  have hme : AO (w'.setCell ⟨g, 3, none⟩ (.slice a2 (A.th.n + 1) c2)) base ⟨a2, A.th.n + 1, c2⟩ (S.their ++ [x]) (A.lt ++ [l]) := by
    refine ⟨by simp [h.th.len], by simp [h.th.n], ?_, ?_⟩
    · rw [akL_snoc _ _ _ _ h.th.len]
      exact ho.setOther (ad := ⟨g, 3, none⟩) (ho.neCR hrow (by decide)) _
    · intro i y k h1 h2
      by_cases hi : i < S.their.length
      · rw [List.getElem?_append_left hi] at h1
        rw [List.getElem?_append_left (by rw [h.th.len]; exact hi)] at h2
        exact ((h.th.ms i y k h1 h2).kb hk1).kb hk2
      · have hl := (List.getElem?_eq_some_iff.1 h1).1
        simp at hl
        obtain rfl : i = S.their.length := by omega
        rw [List.getElem?_append_right (Nat.le_refl _), Nat.sub_self] at h1
        rw [List.getElem?_append_right (by rw [h.th.len]; exact Nat.le_refl _), h.th.len, Nat.sub_self] at h2
        cases h1; cases h2
        exact (hm.kb hk1).kb hk2
  have hoth : AO (w'.setCell ⟨g, 3, none⟩ (.slice a2 (A.th.n + 1) c2)) base A.ow S.own A.lo :=
    (h.ow.keep hk1 (fun ad ha => other _ (h.ow.row.base_le ha).2 (fun y hy he => h.ap ad y ha hy he.symm))).keep hk2 (fun ad ha => st (n1 ad ha))
  have hou : QO (w'.setCell ⟨g, 3, none⟩ (.slice a2 (A.th.n + 1) c2)) base A.ou S.out A.lu :=
    (h.ou.keep hk1 (fun ad ha => other _ (h.ou.row.base_le ha).2 (fun y hy he => p2 y ad hy ha he))).keep hk2 (fun ad ha => st (n3 ad ha))
  refine ⟨hrow, ⟨h.hg, hc, hoth, hme, hou, fun x y hx hy => by rcases hd y hy with h3 | h3; exact h.ap x y hx h3; have := (h.ow.row.base_le hx).2; omega⟩, ⟨hg.os, hg.tape, hg.output, by have := hg.size; simpa [World.setCell] using this, fun b hb hn => ?_, fun b hf => ?_⟩⟩
  · rw [Below.heap_setCell _ _ _ _ (fun he => hn (.inl he))]
    exact other b hb (fun ad ha he => hn (.inr (.inr (.inl ⟨ad, ha, he⟩))))
  · rcases hf with h1 | h1 | ⟨ad, h1, h2⟩ | h1
    · exact .inl (.inl h1)
    · exact .inl (.inr (.inl h1))
    · rcases hd ad h1 with h3 | h3
      · exact .inl (.inr (.inr (.inl ⟨ad, h3, h2⟩)))
      · exact .inr (by omega)
    · exact .inl (.inr (.inr (.inr h1)))
/-- a request's state -/
theorem SZ.st_th (h : SZ w base g S A) {i : Nat} {x : AG} (hx : S.their[i]? = some x) {b : Nat} (hb : A.th.a = some ⟨b, 0, none⟩) (st : Nat) :
    SZ (w.setCell ⟨b, i * 17 + 16, none⟩ (.int .i64 (st : Int))) base g { S with their := S.their.set i ⟨x.m, st⟩ } A ∧ SK w g A (w.setCell ⟨b, i * 17 + 16, none⟩ (.int .i64 (st : Int))) A := by
  obtain ⟨n1, n2, n3⟩ := FP.ne h
  obtain ⟨p1, p2⟩ := h.apo
  have hr := h.th.row
  rw [hb] at hr
  have hk := KB.setO (i := i * 17 + 16) hr (by decide) (by decide) (.int .i64 (st : Int))
  have oth : ∀ {y : Addr}, y.block ≠ b → (w.setCell ⟨b, i * 17 + 16, none⟩ (.int .i64 (st : Int))).heap[y.block]? = w.heap[y.block]? := fun hne => Below.heap_setCell _ _ _ _ (fun he => hne he)
  have hme := h.th.setSt hx hb st
  have hoth : AO (w.setCell ⟨b, i * 17 + 16, none⟩ (.int .i64 (st : Int))) base A.ow S.own A.lo := h.ow.keep hk (fun ad ha => oth (fun he => h.ap ad _ ha hb he))
  have hou : QO (w.setCell ⟨b, i * 17 + 16, none⟩ (.int .i64 (st : Int))) base A.ou S.out A.lu := h.ou.keep hk (fun ad ha => oth (fun he => p2 _ ad hb ha he.symm))
  exact ⟨⟨h.hg, h.row.keep (Below.heap_setCell _ _ _ _ (fun he => n2 _ hb he.symm)), hoth, hme, hou, h.ap⟩,
    ⟨rfl, rfl, rfl, by simp [World.setCell], fun c _ hn => Below.heap_setCell _ _ _ _ (fun he => hn (.inr (.inr (.inl ⟨_, hb, he.symm⟩)))), fun b hf => .inl hf⟩⟩
theorem SZ.app_ow (h : SZ w base g S A) {x : AG} {l : ML} (hm : MO w base x.m l) {a2 : Option Addr} {c2 : Nat} (ho : OW w' base 49 17 a2 (A.ow.n + 1) c2 (akL S.own A.lo ++ akc x l)) (hg : w.grownBy w' (A.ow.a.map (·.block))) (hd : ∀ ad, a2 = some ad → A.ow.a = some ad ∨ w.heap.size ≤ ad.block) :
    CR w' g 58 (srow S A) ∧ SZ (w'.setCell ⟨g, 1, none⟩ (.slice a2 (A.ow.n + 1) c2)) base g { S with own := S.own ++ [x] } { A with ow := ⟨a2, A.ow.n + 1, c2⟩, lo := A.lo ++ [l] } ∧ SK w g A (w'.setCell ⟨g, 1, none⟩ (.slice a2 (A.ow.n + 1) c2)) { A with ow := ⟨a2, A.ow.n + 1, c2⟩, lo := A.lo ++ [l] } := by
  obtain ⟨n1, n2, n3⟩ := FP.ne h
  obtain ⟨p1, p2⟩ := h.apo
  have other : ∀ b, b < w.heap.size → (∀ ad, A.ow.a = some ad → ad.block ≠ b) → w'.heap[b]? = w.heap[b]? := fun b hb hn => hg.block b hb (fun he => by
    obtain ⟨ad, h5, h6⟩ := Option.map_eq_some_iff.1 he.symm
    exact hn ad h5 h6)
  have hrow := h.rw'.keep (other g h.row.lt n1)
  have hk1 : KB w w' := KB.grown h.ow.row (by decide) (by decide) hg
  have hk2 : KB w' (w'.setCell ⟨g, 1, none⟩ (.slice a2 (A.ow.n + 1) c2)) := KB.set hrow (by decide) (by decide) _
  have hc := hrow.set 1 (.slice a2 (A.ow.n + 1) c2)
  have st : ∀ {x : Addr}, x.block ≠ g → (w'.setCell ⟨g, 1, none⟩ (.slice a2 (A.ow.n + 1) c2)).heap[x.block]? = w'.heap[x.block]? := fun hne => Below.heap_setCell _ _ _ _ (fun he => hne he)
  have hme : AO (w'.setCell ⟨g, 1, none⟩ (.slice a2 (A.ow.n + 1) c2)) base ⟨a2, A.ow.n + 1, c2⟩ (S.own ++ [x]) (A.lo ++ [l]) := by
    refine ⟨by simp [h.ow.len], by simp [h.ow.n], ?_, ?_⟩
    · rw [akL_snoc _ _ _ _ h.ow.len]
      exact ho.setOther (ad := ⟨g, 1, none⟩) (ho.neCR hrow (by decide)) _
    · intro i y k h1 h2
      by_cases hi : i < S.own.length
      · rw [List.getElem?_append_left hi] at h1
        rw [List.getElem?_append_left (by rw [h.ow.len]; exact hi)] at h2
        exact ((h.ow.ms i y k h1 h2).kb hk1).kb hk2
      · have hl := (List.getElem?_eq_some_iff.1 h1).1
        simp at hl
        obtain rfl : i = S.own.length := by omega
        rw [List.getElem?_append_right (Nat.le_refl _), Nat.sub_self] at h1
        rw [List.getElem?_append_right (by rw [h.ow.len]; exact Nat.le_refl _), h.ow.len, Nat.sub_self] at h2
        cases h1; cases h2
        exact (hm.kb hk1).kb hk2
  have hoth : AO (w'.setCell ⟨g, 1, none⟩ (.slice a2 (A.ow.n + 1) c2)) base A.th S.their A.lt :=
    (h.th.keep hk1 (fun ad ha => other _ (h.th.row.base_le ha).2 (fun y hy he => h.ap y ad hy ha he))).keep hk2 (fun ad ha => st (n2 ad ha))
  have hou : QO (w'.setCell ⟨g, 1, none⟩ (.slice a2 (A.ow.n + 1) c2)) base A.ou S.out A.lu :=
    (h.ou.keep hk1 (fun ad ha => other _ (h.ou.row.base_le ha).2 (fun y hy he => p1 y ad hy ha he))).keep hk2 (fun ad ha => st (n3 ad ha))
  refine ⟨hrow, ⟨h.hg, hc, hme, hoth, hou, fun x y hx hy => by rcases hd x hx with h3 | h3; exact h.ap x y h3 hy; have := (h.th.row.base_le hy).2; omega⟩, ⟨hg.os, hg.tape, hg.output, by have := hg.size; simpa [World.setCell] using this, fun b hb hn => ?_, fun b hf => ?_⟩⟩
  · rw [Below.heap_setCell _ _ _ _ (fun he => hn (.inl he))]
    exact other b hb (fun ad ha he => hn (.inr (.inl ⟨ad, ha, he⟩)))
  · rcases hf with h1 | ⟨ad, h1, h2⟩ | h1 | h1
    · exact .inl (.inl h1)
    · rcases hd ad h1 with h3 | h3
      · exact .inl (.inr (.inl ⟨ad, h3, h2⟩))
      · exact .inr (by omega)
    · exact .inl (.inr (.inr (.inl h1)))
    · exact .inl (.inr (.inr (.inr h1)))
/-- a request's state -/
theorem SZ.st_ow (h : SZ w base g S A) {i : Nat} {x : AG} (hx : S.own[i]? = some x) {b : Nat} (hb : A.ow.a = some ⟨b, 0, none⟩) (st : Nat) :
    SZ (w.setCell ⟨b, i * 17 + 16, none⟩ (.int .i64 (st : Int))) base g { S with own := S.own.set i ⟨x.m, st⟩ } A ∧ SK w g A (w.setCell ⟨b, i * 17 + 16, none⟩ (.int .i64 (st : Int))) A := by
  obtain ⟨n1, n2, n3⟩ := FP.ne h
  obtain ⟨p1, p2⟩ := h.apo
  have hr := h.ow.row
  rw [hb] at hr
  have hk := KB.setO (i := i * 17 + 16) hr (by decide) (by decide) (.int .i64 (st : Int))
  have oth : ∀ {y : Addr}, y.block ≠ b → (w.setCell ⟨b, i * 17 + 16, none⟩ (.int .i64 (st : Int))).heap[y.block]? = w.heap[y.block]? := fun hne => Below.heap_setCell _ _ _ _ (fun he => hne he)
  have hme := h.ow.setSt hx hb st
  have hoth : AO (w.setCell ⟨b, i * 17 + 16, none⟩ (.int .i64 (st : Int))) base A.th S.their A.lt := h.th.keep hk (fun ad ha => oth (fun he => h.ap _ ad hb ha he.symm))
  have hou : QO (w.setCell ⟨b, i * 17 + 16, none⟩ (.int .i64 (st : Int))) base A.ou S.out A.lu := h.ou.keep hk (fun ad ha => oth (fun he => p1 _ ad hb ha he.symm))
  exact ⟨⟨h.hg, h.row.keep (Below.heap_setCell _ _ _ _ (fun he => n1 _ hb he.symm)), hme, hoth, hou, h.ap⟩,
    ⟨rfl, rfl, rfl, by simp [World.setCell], fun c _ hn => Below.heap_setCell _ _ _ _ (fun he => hn (.inr (.inl ⟨_, hb, he.symm⟩))), fun b hf => .inl hf⟩⟩
end
end Go.Proofs.YtokgpnkooigamaaDoor
