/- Arrays of words. -/
import Derived.Test.YtlncnjcbgfeaoaaR2
import Derived.Test.YtlncnjcbgfeaoaaP7
import Derived.StillTailTactics
import Derived.Deep.DeepCutAuto
set_option maxRecDepth 100000
set_option linter.unusedVariables false
namespace Go.Proofs.Ytlncnjcbgfeaoaa
open Go.RowKit
def U (x : Nat) : Value := .int .u32 (x : Int)
/-- the block g is just the words vs -/
def AR (w : World) (g : Nat) (t : TypeId) (vs : List Nat) : Prop := w.heap[g]? = some (.cells (vs.map U).toArray t (0, 0))
section
variable {w w' : World} {g : Nat} {t : TypeId} {vs : List Nat}
theorem AR.lt (h : AR w g t vs) : g < w.heap.size := (Array.getElem?_eq_some_iff.1 h).1
theorem AR.cell (h : AR w g t vs) (i : Nat) (x : Nat) (hx : vs[i]? = some x) : w.cell? ⟨g, i, none⟩ = some (.int .u32 (x : Int)) := by
  unfold AR at h
  simp [World.cell?, h, hx, U]
theorem AR.fr (h : AR w g t vs) (i : Nat) : w.frozen? ⟨g, i, none⟩ = false := by
  unfold AR at h
  simp [World.frozen?, h]
theorem AR.set_ (h : AR w g t vs) (i : Nat) (x : Nat) : AR (w.setCell ⟨g, i, none⟩ (.int .u32 (x : Int))) g t (vs.set i x) := by
  unfold AR at h ⊢
  simp [World.setCell, Array.getElem?_modify, h, U]
theorem AR.grown {row : Option Nat} (h : AR w g t vs) (hg : w.grownBy w' row) (hb : some g ≠ row) : AR w' g t vs := by
  have := hg.block g h.lt hb
  unfold AR at h ⊢
  rw [this]; exact h
theorem AR.other (h : AR w g t vs) {ad : Addr} (hne : g ≠ ad.block) (v : Value) : AR (w.setCell ad v) g t vs :=
  h.grown (grownBy_setCell w ad v) (by simpa using hne)
theorem AR.drewN (h : AR w g t vs) (k : Nat) : AR (w.drewN k) g t vs := h
theorem AR.drew (h : AR w g t vs) : AR w.drew g t vs := h
theorem AR.new (w : World) (t : TypeId) (vs : List Nat) : AR (w.alloc (.cells (vs.map U).toArray t)) w.heap.size t vs := heap_alloc_new w _
theorem BS.drewN {a : Option Addr} {n c : Nat} {xs : List UInt8} (h : BS w a n c xs) (k : Nat) : BS (w.drewN k) a n c xs := h
end
theorem grown_drewN {w w1 : World} {row : Option Nat} (h : w.grownBy w1 row) (k : Nat) : w.grownBy (w1.drewN k) row := ⟨h.os, h.tape, h.output, h.size, h.block⟩
theorem drop4 (p : List UInt8) (j : Nat) (h : 4 * j + 4 ≤ p.length) : ∃ x0 x1 x2 x3 r, p.drop (4 * j) = x0 :: x1 :: x2 :: x3 :: r := by
  have hl : 4 ≤ (p.drop (4 * j)).length := by rw [List.length_drop]; omega
  match hd : p.drop (4 * j), hl with
  | x0 :: x1 :: x2 :: x3 :: r, _ => exact ⟨x0, x1, x2, x3, r, rfl⟩
theorem grown_new {w w1 w2 : World} {row : Option Nat} {g : Nat} (h1 : w.grownBy w1 row) (h2 : w1.grownBy w2 (some g)) (hg : w.heap.size ≤ g) : w.grownBy w2 row :=
  ⟨h2.os.trans h1.os, h2.tape.trans h1.tape, h2.output.trans h1.output, Nat.le_trans h1.size h2.size, fun k hk hne => (h2.block k (Nat.lt_of_lt_of_le hk h1.size) (by simp; omega)).trans (h1.block k hk hne)⟩
theorem grown_weak {w w1 : World} {row : Option Nat} (h : w.grownBy w1 none) : w.grownBy w1 row := ⟨h.os, h.tape, h.output, h.size, fun k hk _ => h.block k hk (by simp)⟩
theorem grown_set {w w1 : World} {g : Nat} (h : w.grownBy w1 (some g)) (i : Nat) (v : Value) : w.grownBy (w1.setCell ⟨g, i, none⟩ v) (some g) := grown_trans h (grownBy_setCell w1 ⟨g, i, none⟩ v)
theorem ret_u32 {a b : Int} (h : a = b) : Ending.returned (.int .u32 a) = .returned (.int .u32 b) := by rw [h]
theorem rotr_lt (x r : Nat) (hx : x < 4294967296) : rotr x r < 4294967296 := by
  unfold rotr
  refine Nat.or_lt_two_pow (n := 32) ?_ (Nat.mod_lt _ (by decide))
  exact Nat.lt_of_le_of_lt (by rw [Nat.shiftRight_eq_div_pow]; exact Nat.div_le_self _ _) hx
theorem BS.at_ {w : World} {a : Option Addr} {n c : Nat} {xs : List UInt8} (h : BS w a n c xs) (hn : 0 < n) : ∃ b o, a = some ⟨b, o, none⟩ ∧ ∀ j x, xs[j]? = some x → w.cell? ⟨b, o + j, none⟩ = some (.int .u8 (x.toNat : Int)) := by
  cases a with
  | none => have := (RS.nil_inv h).1; omega
  | some ad =>
    obtain ⟨h1, h2⟩ := h.2.2.2.2.2 ad rfl
    have hs := h1 (Nat.lt_of_lt_of_le hn (RS.le h))
    refine ⟨ad.block, ad.off, by cases ad; simp_all, fun j x hx => h2 j (B x) (by rw [List.getElem?_map, hx]; rfl)⟩
def AB (w : World) (g : Nat) (t : TypeId) (vs : List UInt8) : Prop := w.heap[g]? = some (.cells (vs.map B).toArray t (0, 0))
section
variable {w w' : World} {g : Nat} {t : TypeId} {vs : List UInt8}
theorem AB.lt (h : AB w g t vs) : g < w.heap.size := (Array.getElem?_eq_some_iff.1 h).1
theorem AB.cell (h : AB w g t vs) (i : Nat) (x : UInt8) (hx : vs[i]? = some x) : w.cell? ⟨g, i, none⟩ = some (B x) := by
  unfold AB at h
  simp [World.cell?, h, hx]
theorem AB.fr (h : AB w g t vs) (i : Nat) : w.frozen? ⟨g, i, none⟩ = false := by
  unfold AB at h
  simp [World.frozen?, h]
theorem AB.set_ (h : AB w g t vs) (i : Nat) (x : UInt8) : AB (w.setCell ⟨g, i, none⟩ (B x)) g t (vs.set i x) := by
  unfold AB at h ⊢
  simp [World.setCell, Array.getElem?_modify, h]
theorem AB.grown {row : Option Nat} (h : AB w g t vs) (hg : w.grownBy w' row) (hb : some g ≠ row) : AB w' g t vs := by
  have := hg.block g h.lt hb
  unfold AB at h ⊢
  rw [this]; exact h
end
theorem grownBy_setRow (w : World) (g : Nat) (cs : Array Value) : w.grownBy (w.setRow g cs) (some g) := by
  refine ⟨rfl, rfl, rfl, by simp, fun k _ hk => ?_⟩
  have : g ≠ k := fun h => hk (by rw [h])
  simp [World.setRow, Array.getElem?_modify, this]
end Go.Proofs.Ytlncnjcbgfeaoaa
