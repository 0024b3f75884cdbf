/- law12.PipeOpens: its walk, both sides. -/
import Derived.Test.YteekafpkbdbadaaQK
import Derived.Test.YteekafpkbdbadaaQM
import Derived.Test.YteekafpkbdbadaaRows
import Derived.Test.YteekafpkbdbadaaChecked
import Derived.ProofKit
import Derived.OpenShut
import Derived.ShutString
import Derived.ChangeOld
import Derived.Below
import Derived.Deep.DeepHandedRow
import Derived.WideKeyArr2
set_option maxRecDepth 100000
namespace Go.Proofs.Yteekafpkbdbadaa
open Go.ChangeShapes Go.WideShapes Go.ChangeAt Go.RowKit
theorem own : ownKnob Try.prog.godebug = none := by kernel_rfl
end Go.Proofs.Yteekafpkbdbadaa
namespace Go.Proofs.Yteekafpkbdbadaa.Pi
open Go.RowKit
theorem pipeOpens_walk (W : World) (sv : Bool) {a1 a2 a3 : Int} (w1 : (Lit.int .u8 a1).wf = true) (w2 : (Lit.int .u8 a2).wf = true) (w3 : (Lit.int .u8 a3).wf = true) :
    Calls Try.prog 3 #[.bool sv, .int .u8 a1, .int .u8 a2, .int .u8 a3] W fun e w' => e = .returned (.bool true) ∧ Below W.heap.size W w' := by
  obtain ⟨g1, g2⟩ := bounds_u8 w1
  obtain ⟨g3, g4⟩ := bounds_u8 w2
  obtain ⟨g5, g6⟩ := bounds_u8 w3
  obtain ⟨bi, rfl⟩ := Int.eq_ofNat_of_zero_le g1
  obtain ⟨un, rfl⟩ := Int.eq_ofNat_of_zero_le g3
  obtain ⟨mo, rfl⟩ := Int.eq_ofNat_of_zero_le g5
  cases sv
  · exact pipeOpens_false W bi un mo (by omega) (by omega) (by omega)
  · exact pipeOpens_true W bi un mo (by omega) (by omega) (by omega)
end Go.Proofs.Yteekafpkbdbadaa.Pi
