/- law12.PipeOver: its walk, and what its shell needs. -/
import Derived.Test.YteekafpkbdbadaaRH
import Derived.Test.YteekafpkbdbadaaRows
import Derived.Test.YteekafpkbdbadaaChecked
import Derived.ProofKit
import Derived.OpenShut
import Derived.ShutString
import Derived.ChangeOld
import Derived.Below
import Derived.Deep.DeepHandedRow
import Derived.WideKeyArr2
set_option maxRecDepth 100000
namespace Go.Proofs.Yteekafpkbdbadaa
open Go.ChangeShapes Go.WideShapes Go.ChangeAt Go.RowKit
theorem own : ownKnob Try.prog.godebug = none := by kernel_rfl
end Go.Proofs.Yteekafpkbdbadaa
namespace Go.Proofs.Yteekafpkbdbadaa.Pi
open Go.RowKit
theorem pipeOver_walk (W : World) {a1 a2 : Int} (w1 : (Lit.int .u8 a1).wf = true) (w2 : (Lit.int .u8 a2).wf = true) :
    Calls Try.prog 6 #[.int .u8 a1, .int .u8 a2] W fun e w' => e = .returned (.bool true) ∧ Below W.heap.size W w' := by
  obtain ⟨g1, g2⟩ := bounds_u8 w1
  obtain ⟨g3, g4⟩ := bounds_u8 w2
  obtain ⟨m, rfl⟩ := Int.eq_ofNat_of_zero_le g1
  obtain ⟨r, rfl⟩ := Int.eq_ofNat_of_zero_le g3
  exact pipeOver_nat W m r (by omega) (by omega)
end Go.Proofs.Yteekafpkbdbadaa.Pi
