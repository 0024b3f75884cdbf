/- limbs: arrays of five long words; (*salt.limbs).carry. -/
import Derived.Test.YtlncnjcbgfeaoaaA0
import Derived.Deep.RegionWith
set_option maxRecDepth 100000
set_option linter.unusedVariables false
namespace Go.Proofs.Ytlncnjcbgfeaoaa
open Go.RowKit
def UV (x : Nat) : Value := .int .u64 (x : Int)
/-- the block g is just the long words vs -/
def AL (w : World) (g : Nat) (t : TypeId) (vs : List Nat) : Prop := w.heap[g]? = some (.cells (vs.map UV).toArray t (0, 0))
section
variable {w w' : World} {g : Nat} {t : TypeId} {vs : List Nat}
theorem AL.lt (h : AL w g t vs) : g < w.heap.size := (Array.getElem?_eq_some_iff.1 h).1
theorem AL.cell (h : AL w g t vs) (i : Nat) (x : Nat) (hx : vs[i]? = some x) : w.cell? ⟨g, i, none⟩ = some (.int .u64 (x : Int)) := by
  unfold AL at h
  simp [World.cell?, h, hx, UV]
theorem AL.fr (h : AL w g t vs) (i : Nat) : w.frozen? ⟨g, i, none⟩ = false := by
  unfold AL at h
  simp [World.frozen?, h]
theorem AL.set_ (h : AL w g t vs) (i : Nat) (x : Nat) : AL (w.setCell ⟨g, i, none⟩ (.int .u64 (x : Int))) g t (vs.set i x) := by
  unfold AL at h ⊢
  simp [World.setCell, Array.getElem?_modify, h, UV]
theorem AL.grown {row : Option Nat} (h : AL w g t vs) (hg : w.grownBy w' row) (hb : some g ≠ row) : AL w' g t vs := by
  have := hg.block g h.lt hb
  unfold AL at h ⊢
  rw [this]; exact h
theorem AL.drew (h : AL w g t vs) : AL w.drew g t vs := h
theorem AL.drewN (h : AL w g t vs) (k : Nat) : AL (w.drewN k) g t vs := h
end
/-- one limb's carry -/
def cstep (h : List Nat) (i : Nat) : List Nat :=
  let c := h.getD i 0 / 67108864
  let h1 := h.set i (h.getD i 0 % 67108864)
  if i = 4 then h1.set 0 (h1.getD 0 0 + 5 * c) else h1.set (i + 1) (h1.getD (i + 1) 0 + c)
def cpass (h : List Nat) : Nat → List Nat
  | 0 => h
  | i + 1 => cstep (cpass h i) i
def cars (h : List Nat) : Nat → List Nat
  | 0 => h
  | r + 1 => cpass (cars h r) 5
theorem cstep_len (h : List Nat) (i : Nat) : (cstep h i).length = h.length := by
  unfold cstep; simp only; split <;> simp
/-- limbs that have room -/
structure LM (h : List Nat) (k : Nat) : Prop where
  len : h.length = 5
  le : ∀ x ∈ h, x ≤ 1152921504606846976 + 1099511627776 * k
theorem LM.get {h : List Nat} {k : Nat} (H : LM h k) (i : Nat) (hi : i < 5) : ∃ x, h[i]? = some x ∧ x ≤ 1152921504606846976 + 1099511627776 * k := by
  have hl := H.len
  exact ⟨h[i]'(by omega), List.getElem?_eq_getElem _, H.le _ (List.getElem_mem _)⟩
/-- what one step does, said of its two limbs -/
theorem cstep_lo {h : List Nat} {i a b : Nat} (hi : i < 4) (hl : h.length = 5) (ea : h[i]? = some a) (eb : h[i + 1]? = some b) : cstep h i = (h.set i (a % 67108864)).set (i + 1) (b + a / 67108864) := by
  unfold cstep
  simp only [List.getD_eq_getElem?_getD, ea, Option.getD_some]
  rw [if_neg (by omega), List.getElem?_set_ne (by omega), eb]; rfl
theorem cstep_hi {h : List Nat} {a b : Nat} (hl : h.length = 5) (ea : h[4]? = some a) (eb : h[0]? = some b) : cstep h 4 = (h.set 4 (a % 67108864)).set 0 (b + 5 * (a / 67108864)) := by
  unfold cstep
  simp only [List.getD_eq_getElem?_getD, ea, Option.getD_some]
  rw [if_pos trivial, List.getElem?_set_ne (by omega), eb]; rfl
theorem LM.step {h : List Nat} {k : Nat} (H : LM h k) (hk : k ≤ 100) (i : Nat) (hi : i < 5) : LM (cstep h i) (k + 1) := by
  refine ⟨by rw [cstep_len, H.len], ?_⟩
  obtain ⟨a, ea, la⟩ := H.get i hi
  rcases Nat.lt_or_ge i 4 with h4 | h4
  · obtain ⟨b, eb, lb⟩ := H.get (i + 1) (by omega)
    rw [cstep_lo h4 H.len ea eb]
    intro x hx
    rcases List.mem_or_eq_of_mem_set hx with hx | rfl
    · rcases List.mem_or_eq_of_mem_set hx with hx | rfl
      · have := H.le x hx; omega
      · omega
    · omega
  · obtain rfl : i = 4 := by omega
    obtain ⟨b, eb, lb⟩ := H.get 0 (by omega)
    rw [cstep_hi H.len ea eb]
    intro x hx
    rcases List.mem_or_eq_of_mem_set hx with hx | rfl
    · rcases List.mem_or_eq_of_mem_set hx with hx | rfl
      · have := H.le x hx; omega
      · omega
    · omega
theorem LM.pass {h : List Nat} {k : Nat} (H : LM h k) (i : Nat) (hi : i ≤ 5) (hk : k + 5 ≤ 100) : LM (cpass h i) (k + i) := by
  induction i with
  | zero => exact H
  | succ i ih => exact (ih (by omega)).step (by omega) i (by omega)
theorem LM.cars {h : List Nat} (H : LM h 0) (r : Nat) (hr : r ≤ 10) : LM (cars h r) (5 * r) := by
  induction r with
  | zero => exact H
  | succ r ih => exact (ih (by omega)).pass 5 (by omega) (by omega)
/-- equations out of the walk's sight -/
structure EN (a b : List Nat) : Prop where
  h : a = b
end Go.Proofs.Ytlncnjcbgfeaoaa
