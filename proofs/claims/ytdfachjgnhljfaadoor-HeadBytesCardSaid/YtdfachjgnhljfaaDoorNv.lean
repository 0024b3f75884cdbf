/- A signed number that came in, with its bounds. -/
import Derived.Test.YtdfachjgnhljfaaDoorNu
set_option maxRecDepth 100000
set_option linter.unusedVariables false
namespace Go.Proofs.YtdfachjgnhljfaaDoor
open Go.ChangeShapes Go.WideShapes Go.ChangeAt Go.RowKit
theorem num_i64 {H : Type} {enc : TypeId × Value → H} {W : World} {base : Nat} {v : Value} {x : DataW H} {p : List MemPlace} (hok : Value.okWide Tryd.prog W .any base 3 v) (h : ∃ fuel, DataW.trod enc Tryd.prog W 0 (fun _ => true) true fuel 3 (Value.cells v).toList = some (x, p)) :
    ∃ n : Int, v = .int .i64 n ∧ -9223372036854775808 ≤ n ∧ n ≤ 9223372036854775807 := by
  obtain ⟨n, rfl⟩ := okWide_int Tryd.underlying3 hok
  obtain ⟨fuel, hf⟩ := h
  obtain ⟨m, hm, _, hw⟩ := DataW.trod_int Tryd.underlying3 hf
  simp only [Value.cells, List.cons.injEq, Value.int.injEq, true_and, and_true] at hm
  subst hm
  have hb := bounds_i64 hw
  exact ⟨n, rfl, hb.1, hb.2⟩
end Go.Proofs.YtdfachjgnhljfaaDoor
