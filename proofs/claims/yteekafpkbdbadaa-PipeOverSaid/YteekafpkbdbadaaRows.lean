/-
  No cell of these rows narrows 'for every input' (looked for: loops, veiled, ifaces, maps, wideKeys, modest, calm, conditions, laid).
  DERIVED. THE GIVEN ROWS OF THIS SEAT. 4 by the template 'for every input the law returns true; each argument reads behind the call as it read before'; 0 by the template 'total and deterministic' (their statements: YteekafpkbdbadaaTotals.lean).
  GIVEN WITH THE SEED: the statements are not yours to turn. If you find one false, say at which input.
  Laid BY PROGRAM, IN A SANDBOX (cutbox-rows.mjs): the forced cells as the released guide's own fill.sh prints them over the translation bf837e4edd25ecd3… (all of the seat's roots in one cut). By AI agents, Wed Nov 11 2026. No macro, syntax, notation, axiom, sorry.
-/
import Derived.Test.YteekafpkbdbadaaChecked
import GoSem.Claim
import GoSem.ClaimJoined
import GoSem.ClaimMapViews
import Derived.JoinedTies
import Derived.KernelRfl
namespace Go.Proofs.Yteekafpkbdbadaa
/- THE CELL 'sum', in the pinned program and in every row, IS THE sha256 OF THE DUMP (.gsa) THAT YteekafpkbdbadaaProg.lean LOADS. Nothing in Lean hashes anything: it is a label: what it is worth is what the hold of that sum in a sandbox is worth. -/
noncomputable def Try.pinned : Pinned := { name := "yteekafpkbdbadaa", sum := "bf837e4edd25ecd381026b6782a5c53699f2a8de93263f078f44d42a17f386db", checked := Try.checked }
namespace Rows
def none {H : Type} : Left H := { results := [], args := [] }

/-- 'colonnadelaw12.PipeOpens': WHATEVER THE INPUT: true; the input reads as it did. -/
def pipeOpensSpec : ChangeSpec := { name := "pipeOpens", fn := fun _ => fun
  | [d1, d2, d3, d4] => { results := [.lit (.bool true)], args := [d1, d2, d3, d4] }
  | _ => none }
def pipeOpensRow : OpenClaim := { program := "yteekafpkbdbadaa", sum := "bf837e4edd25ecd381026b6782a5c53699f2a8de93263f078f44d42a17f386db", func := "colonnade/colonnadelaw12.PipeOpens", spec := "pipeOpens", inPlace := ["slices.overlaps[colonnade/api.Range]"], unfollowed := true, recurses := true, plainKeys := false, apart := false }
def PipeOpensSaid : Prop := pipeOpensRow.holds Try.pinned (OpenSpec.ofChange pipeOpensSpec)

/-- ITS FALSE NEIGHBOUR: 'it returns false'. Refute it at one input. -/
def pipeOpensWrong : ChangeSpec := { name := "pipeOpens", fn := fun _ => fun
  | [d1, d2, d3, d4] => { results := [.lit (.bool false)], args := [d1, d2, d3, d4] }
  | _ => none }
def PipeOpensWrongFalsely : Prop := pipeOpensRow.holds Try.pinned (OpenSpec.ofChange pipeOpensWrong)

/-- 'colonnadelaw12.PipeCames': WHATEVER THE INPUT: true; the input reads as it did. -/
def pipeCamesSpec : ChangeSpec := { name := "pipeCames", fn := fun _ => fun
  | [d] => { results := [.lit (.bool true)], args := [d] }
  | _ => none }
def pipeCamesRow : OpenClaim := { program := "yteekafpkbdbadaa", sum := "bf837e4edd25ecd381026b6782a5c53699f2a8de93263f078f44d42a17f386db", func := "colonnade/colonnadelaw12.PipeCames", spec := "pipeCames", inPlace := ["slices.overlaps[colonnade/api.Range]"], unfollowed := true, recurses := true, plainKeys := false, apart := false }
def PipeCamesSaid : Prop := pipeCamesRow.holds Try.pinned (OpenSpec.ofChange pipeCamesSpec)

/-- ITS FALSE NEIGHBOUR: 'it returns false'. Refute it at one input. -/
def pipeCamesWrong : ChangeSpec := { name := "pipeCames", fn := fun _ => fun
  | [d] => { results := [.lit (.bool false)], args := [d] }
  | _ => none }
def PipeCamesWrongFalsely : Prop := pipeCamesRow.holds Try.pinned (OpenSpec.ofChange pipeCamesWrong)

/-- 'colonnadelaw12.PipeBounds': WHATEVER THE INPUT: true; the input reads as it did. -/
def pipeBoundsSpec : ChangeSpec := { name := "pipeBounds", fn := fun _ => fun
  | [d1, d2, d3] => { results := [.lit (.bool true)], args := [d1, d2, d3] }
  | _ => none }
def pipeBoundsRow : OpenClaim := { program := "yteekafpkbdbadaa", sum := "bf837e4edd25ecd381026b6782a5c53699f2a8de93263f078f44d42a17f386db", func := "colonnade/colonnadelaw12.PipeBounds", spec := "pipeBounds", inPlace := ["slices.overlaps[colonnade/api.Range]"], unfollowed := true, recurses := true, plainKeys := false, apart := false }
def PipeBoundsSaid : Prop := pipeBoundsRow.holds Try.pinned (OpenSpec.ofChange pipeBoundsSpec)

/-- ITS FALSE NEIGHBOUR: 'it returns false'. Refute it at one input. -/
def pipeBoundsWrong : ChangeSpec := { name := "pipeBounds", fn := fun _ => fun
  | [d1, d2, d3] => { results := [.lit (.bool false)], args := [d1, d2, d3] }
  | _ => none }
def PipeBoundsWrongFalsely : Prop := pipeBoundsRow.holds Try.pinned (OpenSpec.ofChange pipeBoundsWrong)

/-- 'colonnadelaw12.PipeOver': WHATEVER THE INPUT: true; the input reads as it did. -/
def pipeOverSpec : ChangeSpec := { name := "pipeOver", fn := fun _ => fun
  | [d1, d2] => { results := [.lit (.bool true)], args := [d1, d2] }
  | _ => none }
def pipeOverRow : OpenClaim := { program := "yteekafpkbdbadaa", sum := "bf837e4edd25ecd381026b6782a5c53699f2a8de93263f078f44d42a17f386db", func := "colonnade/colonnadelaw12.PipeOver", spec := "pipeOver", inPlace := ["slices.overlaps[colonnade/api.Range]"], unfollowed := true, recurses := true, plainKeys := false, apart := false }
def PipeOverSaid : Prop := pipeOverRow.holds Try.pinned (OpenSpec.ofChange pipeOverSpec)

/-- ITS FALSE NEIGHBOUR: 'it returns false'. Refute it at one input. -/
def pipeOverWrong : ChangeSpec := { name := "pipeOver", fn := fun _ => fun
  | [d1, d2] => { results := [.lit (.bool false)], args := [d1, d2] }
  | _ => none }
def PipeOverWrongFalsely : Prop := pipeOverRow.holds Try.pinned (OpenSpec.ofChange pipeOverWrong)

/- THE SECOND FORM. 'bulk': how many values and letters a reading holds, each counted each time it is reached (what is shared counts as often as it is met; a slice's spare places count too). A statement '..UptoSaid' is the law's where the arguments, and the package variables that the reading takes, are together of bulk at most 1048576: NARROWER than '..Said'. Prove '..Said' where nothing that the law and all that it calls make is longer than what came in: it says more and counts as full. Else prove '..UptoSaid'. A law counts once. -/
mutual
def uptoBulk {H : Type} : DataW H → Nat
  | .lit (.string bytes) => bytes.length + 1
  | .lit _ => 1
  | .nil => 1
  | .ptr d => uptoBulk d + 1
  | .slice elems spare => uptoBulkAll elems + uptoBulkAll spare + 1
  | .agg parts => uptoBulkAll parts + 1
  | .iface _ d => uptoBulk d + 1
  | .map entries => uptoBulkEntries entries + 1
  | .held _ => 1
def uptoBulkAll {H : Type} : List (DataW H) → Nat
  | [] => 0
  | d :: r => uptoBulk d + uptoBulkAll r
def uptoBulkEntries {H : Type} : List (Lit × DataW H) → Nat
  | [] => 0
  | x :: r => uptoBulkEntry x + uptoBulkEntries r
def uptoBulkEntry {H : Type} : Lit × DataW H → Nat
  | (.string bytes, d) => bytes.length + uptoBulk d + 1
  | (_, d) => uptoBulk d + 1
 end
def uptoSmall : (H : Type) → List (DataW H) → Bool := fun _ ds => decide (uptoBulkAll ds ≤ 1048576)
def OpenSpec.upto (s : _root_.Go.ChangeSpec) : _root_.Go.OpenSpec := { _root_.Go.OpenSpec.ofChange s with cond := some uptoSmall }

/-- 'colonnadelaw12.PipeOpens', WHERE WHAT IT READS IS OF BULK AT MOST 1048576: true; the input reads as it did. -/
def pipeOpensUptoRow : OpenClaim := { program := "yteekafpkbdbadaa", sum := "bf837e4edd25ecd381026b6782a5c53699f2a8de93263f078f44d42a17f386db", func := "colonnade/colonnadelaw12.PipeOpens", spec := "pipeOpens", inPlace := ["slices.overlaps[colonnade/api.Range]"], unfollowed := true, recurses := true, plainKeys := false, apart := false, narrowed := true }
def PipeOpensUptoSaid : Prop := pipeOpensUptoRow.holds Try.pinned (OpenSpec.upto pipeOpensSpec)

/-- 'colonnadelaw12.PipeCames', WHERE WHAT IT READS IS OF BULK AT MOST 1048576: true; the input reads as it did. -/
def pipeCamesUptoRow : OpenClaim := { program := "yteekafpkbdbadaa", sum := "bf837e4edd25ecd381026b6782a5c53699f2a8de93263f078f44d42a17f386db", func := "colonnade/colonnadelaw12.PipeCames", spec := "pipeCames", inPlace := ["slices.overlaps[colonnade/api.Range]"], unfollowed := true, recurses := true, plainKeys := false, apart := false, narrowed := true }
def PipeCamesUptoSaid : Prop := pipeCamesUptoRow.holds Try.pinned (OpenSpec.upto pipeCamesSpec)

/-- 'colonnadelaw12.PipeBounds', WHERE WHAT IT READS IS OF BULK AT MOST 1048576: true; the input reads as it did. -/
def pipeBoundsUptoRow : OpenClaim := { program := "yteekafpkbdbadaa", sum := "bf837e4edd25ecd381026b6782a5c53699f2a8de93263f078f44d42a17f386db", func := "colonnade/colonnadelaw12.PipeBounds", spec := "pipeBounds", inPlace := ["slices.overlaps[colonnade/api.Range]"], unfollowed := true, recurses := true, plainKeys := false, apart := false, narrowed := true }
def PipeBoundsUptoSaid : Prop := pipeBoundsUptoRow.holds Try.pinned (OpenSpec.upto pipeBoundsSpec)

/-- 'colonnadelaw12.PipeOver', WHERE WHAT IT READS IS OF BULK AT MOST 1048576: true; the input reads as it did. -/
def pipeOverUptoRow : OpenClaim := { program := "yteekafpkbdbadaa", sum := "bf837e4edd25ecd381026b6782a5c53699f2a8de93263f078f44d42a17f386db", func := "colonnade/colonnadelaw12.PipeOver", spec := "pipeOver", inPlace := ["slices.overlaps[colonnade/api.Range]"], unfollowed := true, recurses := true, plainKeys := false, apart := false, narrowed := true }
def PipeOverUptoSaid : Prop := pipeOverUptoRow.holds Try.pinned (OpenSpec.upto pipeOverSpec)

end Rows
end Go.Proofs.Yteekafpkbdbadaa
