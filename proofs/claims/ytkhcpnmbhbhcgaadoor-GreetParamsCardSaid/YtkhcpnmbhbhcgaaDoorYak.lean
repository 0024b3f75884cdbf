/- nothing in parts; literal bytes. -/
import Derived.Test.YtkhcpnmbhbhcgaaDoorYai
import Derived.Test.YtkhcpnmbhbhcgaaDoorYaj
import Derived.Lib.SmallJoins
set_option maxRecDepth 100000
set_option linter.unusedVariables false
namespace Go.Proofs.YtkhcpnmbhbhcgaaDoor
open Go.RowKit Go.Shelf Go.Joins
theorem PS_nil (w : World) : PS w none 0 0 [] := ⟨[], RS_nil w 1, rfl, fun i p h => by simp at h⟩
end Go.Proofs.YtkhcpnmbhbhcgaaDoor
