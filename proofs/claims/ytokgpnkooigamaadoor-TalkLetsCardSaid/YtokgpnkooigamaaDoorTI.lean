/- word.right whole. -/
import Derived.Test.YtokgpnkooigamaaDoorTH0
import Derived.Test.YtokgpnkooigamaaDoorTH1
import Derived.Test.YtokgpnkooigamaaDoorTH2
import Derived.Test.YtokgpnkooigamaaDoorTH3
import Derived.Test.YtokgpnkooigamaaDoorTH4
set_option maxRecDepth 100000
set_option linter.unusedVariables false
namespace Go.Proofs.YtokgpnkooigamaaDoor
open Go.RowKit
theorem right_any (w : World) (m : MG) (s : ML) (hm : MR w m s) (hK : KA w) :
    Calls Tryd.prog 45 #[.agg (mgc m s).toArray] w fun e w' => e = .returned (.bool (rightM m)) ∧ Below w.heap.size w w' := by
  unfold rightM
  have h2 := hm.n2
  cases hp : partsS m.kind with
  | none => exact right_none w m s hK hp
  | some p =>
    simp only []
    by_cases he : emptyM (bareM p m) = true
    · by_cases hr : s.rs.n ≤ 64
      · by_cases hx : maxM m ≤ 4611686018427387903
        · have e1 : (emptyM (bareM p m) && decide (m.reason.length ≤ 64) && decide (maxM m ≤ 4611686018427387903) && okM p m) = okM p m := by
            rw [he, decide_eq_true (by omega), decide_eq_true hx]; rfl
          rw [e1]
          have hmem := parts_mem hp
          unfold PSn at hmem
          simp only [List.mem_cons, List.not_mem_nil, or_false] at hmem
          rcases hmem with rfl | rfl | rfl | rfl | rfl | rfl | rfl | rfl | rfl | rfl | rfl
          · exact right_191 w m s hm hK hp he hr hx
          · exact right_289 w m s hm hK hp he hr hx
          · exact right_1537 w m s hm hK hp he hr hx
          · exact right_5 w m s hm hK hp he hr hx
          · exact right_1 w m s hm hK hp he hr hx
          · exact right_4 w m s hm hK hp he hr hx
          · exact right_0 w m s hm hK hp he hr hx
          · exact right_2048 w m s hm hK hp he hr hx
          · exact right_109 w m s hm hK hp he hr hx
          · exact right_10240 w m s hm hK hp he hr hx
          · exact right_6144 w m s hm hK hp he hr hx
        · have e1 : (emptyM (bareM p m) && decide (m.reason.length ≤ 64) && decide (maxM m ≤ 4611686018427387903) && okM p m) = false := by
            rw [decide_eq_false hx]; simp
          rw [e1]; exact right_fX w m s hm hK p hp he hr (by omega)
      · have e1 : (emptyM (bareM p m) && decide (m.reason.length ≤ 64) && decide (maxM m ≤ 4611686018427387903) && okM p m) = false := by
          rw [decide_eq_false (p := m.reason.length ≤ 64) (by omega)]; simp
        rw [e1]; exact right_fR w m s hm hK p hp he (by omega)
    · have e1 : (emptyM (bareM p m) && decide (m.reason.length ≤ 64) && decide (maxM m ≤ 4611686018427387903) && okM p m) = false := by
        simp only [Bool.not_eq_true] at he; rw [he]; simp
      rw [e1]; exact right_fE w m s hm hK p hp (by simpa using he)
end Go.Proofs.YtokgpnkooigamaaDoor
