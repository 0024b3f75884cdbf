/- A slice of heads that came in; the reference's Bytes of a long head, both levels in one. -/
import Derived.Test.YtdfachjgnhljfaaDoorH8
import Derived.Test.YtdfachjgnhljfaaDoorP5
import Derived.Deep.Slices
set_option maxRecDepth 100000
set_option linter.unusedVariables false
namespace Go.Proofs.YtdfachjgnhljfaaDoor
open Go.ChangeShapes Go.WideShapes Go.ChangeAt Go.RowKit Go.Deep
/-- one head in a row's cells -/
def HC (W : World) (b o : Nat) : Prop :=
  ∃ (l : Bool) (lv : Int) (ph : Bool) (a1 a2 : Option Addr) (n1 c1 n2 c2 : Nat) (t f : List UInt8),
    (W.cell? ⟨b, o, none⟩ = some (.bool l) ∧ W.cell? ⟨b, o + 1, none⟩ = some (.int .i64 lv) ∧ W.cell? ⟨b, o + 2, none⟩ = some (.bool ph) ∧ W.cell? ⟨b, o + 3, none⟩ = some (.slice a1 n1 c1) ∧ W.cell? ⟨b, o + 4, none⟩ = some (.slice a2 n2 c2)) ∧
    BS W a1 n1 c1 t ∧ BS W a2 n2 c2 f
def HS (W : World) (a : Option Addr) (n : Nat) : Prop := n ≤ maxLen ∧ (0 < n → ∃ b o, a = some ⟨b, o, none⟩ ∧ ∀ i, i < n → HC W b (o + 5 * i))
theorem HC.below {W W' : World} {b o : Nat} (h : HC W b o) (hb : Below W.heap.size W W') : HC W' b o := by
  obtain ⟨l, lv, ph, a1, a2, n1, c1, n2, c2, t, f, ⟨h0, h1, h2, h3, h4⟩, ht, hf⟩ := h
  have hlt := World.block_lt_of_cell? W _ h0
  have hk : ∀ j, W'.cell? ⟨b, j, none⟩ = W.cell? ⟨b, j, none⟩ := fun j => hb.cell (p := ⟨b, j, none⟩) hlt
  exact ⟨l, lv, ph, a1, a2, n1, c1, n2, c2, t, f, ⟨(hk _).trans h0, (hk _).trans h1, (hk _).trans h2, (hk _).trans h3, (hk _).trans h4⟩, RS.below ht hb (Nat.le_refl _), RS.below hf hb (Nat.le_refl _)⟩
theorem HS.below {W W' : World} {a : Option Addr} {n : Nat} (h : HS W a n) (hb : Below W.heap.size W W') : HS W' a n :=
  ⟨h.1, fun hn => by obtain ⟨b, o, e, hh⟩ := h.2 hn; exact ⟨b, o, e, fun i hi => (hh i hi).below hb⟩⟩
theorem spot_cell {W : World} {ad : Addr} {v : Value} (h : W.cell? ad = some v) : ad.spot = none := by
  unfold World.cell? at h
  split at h
  · split at h
    · cases h
    · next h1 => simpa using h1
  · cases h
theorem heads_in {H : Type} {enc : TypeId × Value → H} {W : World} {a : Option Addr} {n c : Nat} {x : DataW H × List MemPlace}
    (h : ∃ fuel, DataW.trod enc Tryd.prog W 0 (fun _ => true) true fuel 53 [.slice a n c] = some x) : HS W a n := by
  obtain ⟨fuel, hf⟩ := h
  have hc5 : Tryd.prog.cellsOf 40 = 5 := by kernel_rfl
  rcases open_slice Tryd.underlying53 hf with ⟨h0, _⟩ | ⟨ad, len, cap, m, k, D, Pl, hcs, hb, hl, hm, hmm, hx, hi⟩
  · simp at h0; obtain ⟨_, rfl, _⟩ := h0; exact ⟨by unfold maxLen; omega, fun h => by omega⟩
  · simp at hcs
    obtain ⟨rfl, rfl, rfl⟩ := hcs
    simp only [if_true] at hmm
    refine ⟨by omega, fun hn => ?_⟩
    have hcell : ∀ i, i < n → ∃ cs', cs'.length = 5 ∧ (∀ j, j < 5 → W.cell? ((ad.add (i * 5)).add j) = cs'[j]?) ∧ DataW.trod enc Tryd.prog W 0 (fun _ => true) true k 40 cs' = some (D i, Pl i) := by
      intro i hin
      obtain ⟨cs', hc, ht'⟩ := hi i (by omega)
      rw [hc5] at hc
      obtain ⟨_, hcl, hat⟩ := World.cells?_some hc
      exact ⟨cs', hcl, fun j hj => hat j (by omega), ht'⟩
    have hsp : ad.spot = none := by
      obtain ⟨cs', hcl, hat, _⟩ := hcell 0 hn
      have h1 := hat 0 (by omega)
      rw [show ((ad.add (0 * 5)).add 0) = ad from rfl, List.getElem?_eq_getElem (by omega)] at h1
      exact spot_cell h1
    refine ⟨ad.block, ad.off, by cases ad; simp_all, fun i hin => ?_⟩
    obtain ⟨cs', hcl, hat, ht⟩ := hcell i hin
    obtain ⟨l, lv, ph, a1, a2, n1, c1, n2, c2, t, f, rfl, b1, b2⟩ := head_cells hcl ht
    have e : ∀ j, (ad.add (i * 5)).add j = ⟨ad.block, ad.off + 5 * i + j, none⟩ := fun j => by
      rw [add_plain hsp, add_plain rfl]; simp [Nat.mul_comm]
    have e0 := hat 0 (by omega); have e1 := hat 1 (by omega); have e2 := hat 2 (by omega); have e3 := hat 3 (by omega); have e4 := hat 4 (by omega)
    rw [e] at e0 e1 e2 e3 e4
    exact ⟨l, lv, ph, a1, a2, n1, c1, n2, c2, t, f, ⟨e0, e1, e2, e3, e4⟩, b1, b2⟩
section
variable {P : Program} {w : World} {ops : Array Oper} {rest : List Oper} {o : Oper} {f : Act} {Q : Exit → Act → World → Prop} {t e : TypeId} {zero : Value} {bytes : Nat}
/-- &l[i] of a slice of heads -/
theorem L_index5 (ty : STy P t e zero 5 bytes) {b of n c : Nat} (x i : Operand) (hg : Region.wanted o (yielded ops f.tmps) = true)
    (hop : o.op = .indexAddr t x i) (k : IntKind) (I : Int) (j : Nat) (ex : f.eval x = .slice (some ⟨b, of, none⟩) n c) (ei : f.eval i = .int k I) (hI : I = j) (h1 : j < n)
    (h : wpList P ops Q rest (f.put o.dst (.pointer (some ⟨b, of + 5 * j, none⟩))) w) : wpList P ops Q (o :: rest) f w := by
  subst hI
  refine wpList_on hg fun K hK => ?_
  have hrun : (Instr.indexAt t (.slice (some ⟨b, of, none⟩) n c) (.int k (j : Int))).run P w = .ok (.pointer (some ⟨b, of + 5 * j, none⟩)) w := by
    rw [run_indexAt_slice w t _ n c k _ ty.und', if_pos ⟨by omega, by omega⟩, ty.sizeOf]
    simp [Result.andThen, add_plain, Nat.mul_comm]
  unfold Oper.wp
  simp only [execOp, hop, ex, ei]
  simp [hrun, Result.andThen]
  exact hK _ _ h
end
theorem OW.ne {w : World} {b1 b2 : Nat} {e1 e2 : TypeId} {z1 z2 n1 n2 c1 c2 : Nat} {a1 a2 : Option Addr} {v1 v2 : List Value} (h1 : OW w b1 e1 z1 a1 n1 c1 v1) (h2 : OW w b2 e2 z2 a2 n2 c2 v2) (hne : e1 ≠ e2) :
    ∀ ad, a1 = some ad → some ad.block ≠ a2.map (·.block) := by
  intro ad h he
  rcases h1.shape with ⟨rfl, _⟩ | ⟨g, cur, rfl, _, _, hg, _⟩
  · cases h
  · cases h
    rcases h2.shape with ⟨rfl, _⟩ | ⟨g', cur', rfl, _, _, hg', _⟩
    · cases he
    · simp at he; subst he
      rw [hg] at hg'; injection hg' with hg'; injection hg' with _ ht; exact hne ht
theorem rb_long {w : World} {a b : Option Addr} {n c m k pn : Nat} {t f : List UInt8} (lv : Nat) (hlv : lv ≤ 1) (hp : pn < 18446744073709551616) (S L : Nat) (h1 : 1 ≤ S) (h4 : S ≤ 4) (hL : S + L ≤ 16383) (hn : n < 21) (hm : m < 21) (ht : BS w a n c t) (hf : BS w b m k f) :
    Calls Tryd.prog 29 #[.agg #[.bool true, .int .i64 (lv : Int), .bool false, .slice a n c, .slice b m k], .int .u64 (pn : Int), .int .i64 (S : Int), .int .i64 (L : Int)] w
      fun e w' => ∃ a' c', e = .returned (.tuple #[.slice a' (lenL lv t f + S) c', .int .i64 0]) ∧ OW w' w.heap.size 5 1 a' (lenL lv t f + S) c' ((bytesLong lv t f S L pn).map B) ∧ Below w.heap.size w w' := by
  obtain rfl | rfl : lv = 0 ∨ lv = 1 := by omega
  · refine (rb_long0 hp S L h1 h4 hL (by simp [rightS]; omega) hn hm ht hf).mono ?_
    rintro e w' ⟨a', N, c', rfl, o, hb⟩
    obtain rfl : N = lenL 0 t f + S := by have := o.len; rw [List.length_map, bytesLong_len] at this; omega
    exact ⟨a', c', rfl, o, hb⟩
  · refine (rb_long1 hp S L h1 h4 hL (by simp [rightS]; omega) hn hm ht hf).mono ?_
    rintro e w' ⟨a', N, c', rfl, o, hb⟩
    obtain rfl : N = lenL 1 t f + S := by have := o.len; rw [List.length_map, bytesLong_len] at this; omega
    exact ⟨a', c', rfl, o, hb⟩
end Go.Proofs.YtdfachjgnhljfaaDoor
