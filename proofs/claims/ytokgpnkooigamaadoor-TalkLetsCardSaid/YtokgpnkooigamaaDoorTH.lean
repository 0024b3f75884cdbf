/- word.right: its switch in plain Lean. -/
import Derived.Test.YtokgpnkooigamaaDoorTG
set_option maxRecDepth 100000
set_option linter.unusedVariables false
namespace Go.Proofs.YtokgpnkooigamaaDoor
open Go.RowKit
theorem gate_index {w : World} {ops : Array Oper} {rest : List Oper} {f : Act} {Q : Exit → Act → World → Prop} {d : Option Tmp} {t ty : TypeId} {x i : Operand} {pos : String} {af : Array Edge} {g : Option (Nat × Bool)} (h : wpList Tryd.prog ops Q (⟨d, .indexAddr t x i, ty, pos, af, g⟩ :: rest) f w) : wpList Tryd.prog ops Q (⟨d, .indexAddr t x i, ty, pos, af, g⟩ :: rest) f w := h
def nameB (m : MG) : Bool := match m.name.getLast? with | none => false | some b => decide (m.name.length ≤ 32) && b != 0
def ordB (m : MG) : Bool := decide (m.ord = 1 ∨ m.ord = 2)
def groupB (m : MG) : Bool := decide (m.eo = 0 ∧ (m.eg = 0 ∨ m.sg < m.eg))
def endB (m : MG) : Bool := !lessS m.eg m.eo m.sg m.so
def someB (m : MG) : Bool := decide (m.some = true ∨ (m.sg = 0 ∧ m.so = 0))
def listB (m : MG) : Bool := decide (0 < m.vers.length ∧ m.vers.length ≤ 8 ∧ maxI m.vers m.vers.length ≤ 4611686018427387903)
def okM (p : Nat) (m : MG) : Bool := (!bit p 4 || nameB m) && (!bit p 16 || ordB m) && (!bit p 128 || groupB m) && (!bit p 64 || endB m) && (!bit p 256 || someB m) && (!bit p 8192 || listB m)
def rightM (m : MG) : Bool := match partsS m.kind with
  | none => false
  | some p => emptyM (bareM p m) && decide (m.reason.length ≤ 64) && decide (maxM m ≤ 4611686018427387903) && okM p m
theorem name_cases {w : World} {m : MG} {s : ML} (h : MR w m s) : (s.nm.n = 0 ∧ nameB m = false) ∨ (32 < s.nm.n ∧ nameB m = false) ∨ (∃ b : UInt8, 1 ≤ s.nm.n ∧ s.nm.n ≤ 32 ∧ m.name[s.nm.n - 1]? = some b ∧ b.toNat = 0 ∧ nameB m = false) ∨ (∃ b : UInt8, 1 ≤ s.nm.n ∧ s.nm.n ≤ 32 ∧ m.name[s.nm.n - 1]? = some b ∧ ¬ (b.toNat = 0) ∧ nameB m = true) := by
  have hl := h.n1
  unfold nameB
  rw [List.getLast?_eq_getElem?, hl]
  by_cases h0 : s.nm.n = 0
  · exact .inl ⟨h0, by rw [h0, List.getElem?_eq_none (by omega)]⟩
  · obtain ⟨b, hb⟩ : ∃ b, m.name[s.nm.n - 1]? = some b := ⟨_, List.getElem?_eq_getElem (by omega)⟩
    rw [hb]
    by_cases h1 : s.nm.n ≤ 32
    · by_cases h2 : b.toNat = 0
      · exact .inr (.inr (.inl ⟨b, by omega, h1, rfl, h2, by simp [show b = 0 from UInt8.toNat_inj.1 h2]⟩))
      · exact .inr (.inr (.inr ⟨b, by omega, h1, rfl, h2, by simp [h1]; intro h3; rw [h3] at h2; exact h2 rfl⟩))
    · exact .inr (.inl ⟨by omega, by simp [h1]⟩)
end Go.Proofs.YtokgpnkooigamaaDoor
