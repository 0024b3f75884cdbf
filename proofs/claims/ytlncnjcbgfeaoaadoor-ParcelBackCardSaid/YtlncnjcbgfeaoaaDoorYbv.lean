/- Two rows of the call's own of different types lie in different blocks. -/
import Derived.Test.YtlncnjcbgfeaoaaDoorYaa
set_option linter.unusedVariables false
namespace Go.Proofs.YtlncnjcbgfeaoaaDoor
theorem OW.ne {w : World} {b1 b2 : Nat} {e1 e2 : TypeId} {z1 z2 n1 n2 c1 c2 : Nat} {a1 a2 : Option Addr} {v1 v2 : List Value} (h1 : OW w b1 e1 z1 a1 n1 c1 v1) (h2 : OW w b2 e2 z2 a2 n2 c2 v2) (hne : e1 ≠ e2) :
    ∀ ad, a1 = some ad → some ad.block ≠ a2.map (·.block) := by
  intro ad h he
  rcases h1.shape with ⟨rfl, _⟩ | ⟨g, cur, rfl, _, _, hg, _⟩
  · cases h
  · cases h
    rcases h2.shape with ⟨rfl, _⟩ | ⟨g', cur', rfl, _, _, hg', _⟩
    · cases he
    · simp at he; subst he
      rw [hg] at hg'; injection hg' with hg'; injection hg' with _ ht; exact hne ht
end Go.Proofs.YtlncnjcbgfeaoaaDoor
