/-
  No cell of these rows narrows 'for every input' (looked for: loops, veiled, ifaces, maps, wideKeys, modest, calm, conditions, laid).
  DERIVED. THE GIVEN ROWS OF THIS SEAT. 6 by the template 'for every input the law returns true; each argument reads behind the call as it read before'; 0 by the template 'total and deterministic' (their statements: YtlncnjcbgfeaoaaTotals.lean).
  GIVEN WITH THE SEED: the statements are not yours to turn. If you find one false, say at which input.
  Laid BY PROGRAM, IN A SANDBOX (cutbox-rows.mjs): the forced cells as the released guide's own fill.sh prints them over the translation 0c349b417e27e97d… (all of the seat's roots in one cut). By AI agents, Wed Nov 11 2026. No macro, syntax, notation, axiom, sorry.
-/
import Derived.Test.YtlncnjcbgfeaoaaChecked
import GoSem.Claim
import GoSem.ClaimJoined
import GoSem.ClaimMapViews
import Derived.JoinedTies
import Derived.KernelRfl
namespace Go.Proofs.Ytlncnjcbgfeaoaa
/- THE CELL 'sum', in the pinned program and in every row, IS THE sha256 OF THE DUMP (.gsa) THAT YtlncnjcbgfeaoaaProg.lean LOADS. Nothing in Lean hashes anything: it is a label: what it is worth is what the hold of that sum in a sandbox is worth. -/
noncomputable def Try.pinned : Pinned := { name := "ytlncnjcbgfeaoaa", sum := "0c349b417e27e97d42c5f2f9c14f4244649b4a9d02369afe5ac9400bce0b3ec2", checked := Try.checked }
namespace Rows
def none {H : Type} : Left H := { results := [], args := [] }

/-- 'colonnadelaw03.SaltTags': WHATEVER THE INPUT: true; the input reads as it did. -/
def saltTagsSpec : ChangeSpec := { name := "saltTags", fn := fun _ => fun
  | [d1, d2] => { results := [.lit (.bool true)], args := [d1, d2] }
  | _ => none }
def saltTagsRow : OpenClaim := { program := "ytlncnjcbgfeaoaa", sum := "0c349b417e27e97d42c5f2f9c14f4244649b4a9d02369afe5ac9400bce0b3ec2", func := "colonnade/colonnadelaw03.SaltTags", spec := "saltTags", inPlace := ["internal/bytealg.MakeNoZero"], apart := false }
def SaltTagsSaid : Prop := saltTagsRow.holds Try.pinned (OpenSpec.ofChange saltTagsSpec)

/-- ITS FALSE NEIGHBOUR: 'it returns false'. Refute it at one input. -/
def saltTagsWrong : ChangeSpec := { name := "saltTags", fn := fun _ => fun
  | [d1, d2] => { results := [.lit (.bool false)], args := [d1, d2] }
  | _ => none }
def SaltTagsWrongFalsely : Prop := saltTagsRow.holds Try.pinned (OpenSpec.ofChange saltTagsWrong)

/-- 'colonnadelaw03.SaltCloses': WHATEVER THE INPUT: true; the input reads as it did. -/
def saltClosesSpec : ChangeSpec := { name := "saltCloses", fn := fun _ => fun
  | [d1, d2, d3, d4] => { results := [.lit (.bool true)], args := [d1, d2, d3, d4] }
  | _ => none }
def saltClosesRow : OpenClaim := { program := "ytlncnjcbgfeaoaa", sum := "0c349b417e27e97d42c5f2f9c14f4244649b4a9d02369afe5ac9400bce0b3ec2", func := "colonnade/colonnadelaw03.SaltCloses", spec := "saltCloses", inPlace := ["internal/bytealg.MakeNoZero"], apart := false }
def SaltClosesSaid : Prop := saltClosesRow.holds Try.pinned (OpenSpec.ofChange saltClosesSpec)

/-- ITS FALSE NEIGHBOUR: 'it returns false'. Refute it at one input. -/
def saltClosesWrong : ChangeSpec := { name := "saltCloses", fn := fun _ => fun
  | [d1, d2, d3, d4] => { results := [.lit (.bool false)], args := [d1, d2, d3, d4] }
  | _ => none }
def SaltClosesWrongFalsely : Prop := saltClosesRow.holds Try.pinned (OpenSpec.ofChange saltClosesWrong)

/-- 'colonnadelaw03.SaltOpens': WHATEVER THE INPUT: true; the input reads as it did. -/
def saltOpensSpec : ChangeSpec := { name := "saltOpens", fn := fun _ => fun
  | [d1, d2, d3, d4] => { results := [.lit (.bool true)], args := [d1, d2, d3, d4] }
  | _ => none }
def saltOpensRow : OpenClaim := { program := "ytlncnjcbgfeaoaa", sum := "0c349b417e27e97d42c5f2f9c14f4244649b4a9d02369afe5ac9400bce0b3ec2", func := "colonnade/colonnadelaw03.SaltOpens", spec := "saltOpens", inPlace := ["internal/bytealg.MakeNoZero"], apart := false }
def SaltOpensSaid : Prop := saltOpensRow.holds Try.pinned (OpenSpec.ofChange saltOpensSpec)

/-- ITS FALSE NEIGHBOUR: 'it returns false'. Refute it at one input. -/
def saltOpensWrong : ChangeSpec := { name := "saltOpens", fn := fun _ => fun
  | [d1, d2, d3, d4] => { results := [.lit (.bool false)], args := [d1, d2, d3, d4] }
  | _ => none }
def SaltOpensWrongFalsely : Prop := saltOpensRow.holds Try.pinned (OpenSpec.ofChange saltOpensWrong)

/-- 'colonnadelaw03.SaltTurned': WHATEVER THE INPUT: true; the input reads as it did. -/
def saltTurnedSpec : ChangeSpec := { name := "saltTurned", fn := fun _ => fun
  | [d1, d2, d3, d4, d5, d6] => { results := [.lit (.bool true)], args := [d1, d2, d3, d4, d5, d6] }
  | _ => none }
def saltTurnedRow : OpenClaim := { program := "ytlncnjcbgfeaoaa", sum := "0c349b417e27e97d42c5f2f9c14f4244649b4a9d02369afe5ac9400bce0b3ec2", func := "colonnade/colonnadelaw03.SaltTurned", spec := "saltTurned", inPlace := ["internal/bytealg.MakeNoZero"], apart := false }
def SaltTurnedSaid : Prop := saltTurnedRow.holds Try.pinned (OpenSpec.ofChange saltTurnedSpec)

/-- ITS FALSE NEIGHBOUR: 'it returns false'. Refute it at one input. -/
def saltTurnedWrong : ChangeSpec := { name := "saltTurned", fn := fun _ => fun
  | [d1, d2, d3, d4, d5, d6] => { results := [.lit (.bool false)], args := [d1, d2, d3, d4, d5, d6] }
  | _ => none }
def SaltTurnedWrongFalsely : Prop := saltTurnedRow.holds Try.pinned (OpenSpec.ofChange saltTurnedWrong)

/-- 'colonnadelaw03.SaltGoesOn': WHATEVER THE INPUT: true; the input reads as it did. -/
def saltGoesOnSpec : ChangeSpec := { name := "saltGoesOn", fn := fun _ => fun
  | [d1, d2, d3, d4, d5] => { results := [.lit (.bool true)], args := [d1, d2, d3, d4, d5] }
  | _ => none }
def saltGoesOnRow : OpenClaim := { program := "ytlncnjcbgfeaoaa", sum := "0c349b417e27e97d42c5f2f9c14f4244649b4a9d02369afe5ac9400bce0b3ec2", func := "colonnade/colonnadelaw03.SaltGoesOn", spec := "saltGoesOn", inPlace := ["internal/bytealg.MakeNoZero"], apart := false }
def SaltGoesOnSaid : Prop := saltGoesOnRow.holds Try.pinned (OpenSpec.ofChange saltGoesOnSpec)

/-- ITS FALSE NEIGHBOUR: 'it returns false'. Refute it at one input. -/
def saltGoesOnWrong : ChangeSpec := { name := "saltGoesOn", fn := fun _ => fun
  | [d1, d2, d3, d4, d5] => { results := [.lit (.bool false)], args := [d1, d2, d3, d4, d5] }
  | _ => none }
def SaltGoesOnWrongFalsely : Prop := saltGoesOnRow.holds Try.pinned (OpenSpec.ofChange saltGoesOnWrong)

/-- 'colonnadelaw03.SaltStreams': WHATEVER THE INPUT: true; the input reads as it did. -/
def saltStreamsSpec : ChangeSpec := { name := "saltStreams", fn := fun _ => fun
  | [d1, d2, d3, d4, d5] => { results := [.lit (.bool true)], args := [d1, d2, d3, d4, d5] }
  | _ => none }
def saltStreamsRow : OpenClaim := { program := "ytlncnjcbgfeaoaa", sum := "0c349b417e27e97d42c5f2f9c14f4244649b4a9d02369afe5ac9400bce0b3ec2", func := "colonnade/colonnadelaw03.SaltStreams", spec := "saltStreams", inPlace := ["internal/bytealg.MakeNoZero"], apart := false }
def SaltStreamsSaid : Prop := saltStreamsRow.holds Try.pinned (OpenSpec.ofChange saltStreamsSpec)

/-- ITS FALSE NEIGHBOUR: 'it returns false'. Refute it at one input. -/
def saltStreamsWrong : ChangeSpec := { name := "saltStreams", fn := fun _ => fun
  | [d1, d2, d3, d4, d5] => { results := [.lit (.bool false)], args := [d1, d2, d3, d4, d5] }
  | _ => none }
def SaltStreamsWrongFalsely : Prop := saltStreamsRow.holds Try.pinned (OpenSpec.ofChange saltStreamsWrong)

/- THE SECOND FORM. 'bulk': how many values and letters a reading holds, each counted each time it is reached (what is shared counts as often as it is met; a slice's spare places count too). A statement '..UptoSaid' is the law's where the arguments, and the package variables that the reading takes, are together of bulk at most 1048576: NARROWER than '..Said'. Prove '..Said' where nothing that the law and all that it calls make is longer than what came in: it says more and counts as full. Else prove '..UptoSaid'. A law counts once. -/
mutual
def uptoBulk {H : Type} : DataW H → Nat
  | .lit (.string bytes) => bytes.length + 1
  | .lit _ => 1
  | .nil => 1
  | .ptr d => uptoBulk d + 1
  | .slice elems spare => uptoBulkAll elems + uptoBulkAll spare + 1
  | .agg parts => uptoBulkAll parts + 1
  | .iface _ d => uptoBulk d + 1
  | .map entries => uptoBulkEntries entries + 1
  | .held _ => 1
def uptoBulkAll {H : Type} : List (DataW H) → Nat
  | [] => 0
  | d :: r => uptoBulk d + uptoBulkAll r
def uptoBulkEntries {H : Type} : List (Lit × DataW H) → Nat
  | [] => 0
  | x :: r => uptoBulkEntry x + uptoBulkEntries r
def uptoBulkEntry {H : Type} : Lit × DataW H → Nat
  | (.string bytes, d) => bytes.length + uptoBulk d + 1
  | (_, d) => uptoBulk d + 1
 end
def uptoSmall : (H : Type) → List (DataW H) → Bool := fun _ ds => decide (uptoBulkAll ds ≤ 1048576)
def OpenSpec.upto (s : _root_.Go.ChangeSpec) : _root_.Go.OpenSpec := { _root_.Go.OpenSpec.ofChange s with cond := some uptoSmall }

/-- 'colonnadelaw03.SaltTags', WHERE WHAT IT READS IS OF BULK AT MOST 1048576: true; the input reads as it did. -/
def saltTagsUptoRow : OpenClaim := { program := "ytlncnjcbgfeaoaa", sum := "0c349b417e27e97d42c5f2f9c14f4244649b4a9d02369afe5ac9400bce0b3ec2", func := "colonnade/colonnadelaw03.SaltTags", spec := "saltTags", inPlace := ["internal/bytealg.MakeNoZero"], apart := false, narrowed := true }
def SaltTagsUptoSaid : Prop := saltTagsUptoRow.holds Try.pinned (OpenSpec.upto saltTagsSpec)

/-- 'colonnadelaw03.SaltCloses', WHERE WHAT IT READS IS OF BULK AT MOST 1048576: true; the input reads as it did. -/
def saltClosesUptoRow : OpenClaim := { program := "ytlncnjcbgfeaoaa", sum := "0c349b417e27e97d42c5f2f9c14f4244649b4a9d02369afe5ac9400bce0b3ec2", func := "colonnade/colonnadelaw03.SaltCloses", spec := "saltCloses", inPlace := ["internal/bytealg.MakeNoZero"], apart := false, narrowed := true }
def SaltClosesUptoSaid : Prop := saltClosesUptoRow.holds Try.pinned (OpenSpec.upto saltClosesSpec)

/-- 'colonnadelaw03.SaltOpens', WHERE WHAT IT READS IS OF BULK AT MOST 1048576: true; the input reads as it did. -/
def saltOpensUptoRow : OpenClaim := { program := "ytlncnjcbgfeaoaa", sum := "0c349b417e27e97d42c5f2f9c14f4244649b4a9d02369afe5ac9400bce0b3ec2", func := "colonnade/colonnadelaw03.SaltOpens", spec := "saltOpens", inPlace := ["internal/bytealg.MakeNoZero"], apart := false, narrowed := true }
def SaltOpensUptoSaid : Prop := saltOpensUptoRow.holds Try.pinned (OpenSpec.upto saltOpensSpec)

/-- 'colonnadelaw03.SaltTurned', WHERE WHAT IT READS IS OF BULK AT MOST 1048576: true; the input reads as it did. -/
def saltTurnedUptoRow : OpenClaim := { program := "ytlncnjcbgfeaoaa", sum := "0c349b417e27e97d42c5f2f9c14f4244649b4a9d02369afe5ac9400bce0b3ec2", func := "colonnade/colonnadelaw03.SaltTurned", spec := "saltTurned", inPlace := ["internal/bytealg.MakeNoZero"], apart := false, narrowed := true }
def SaltTurnedUptoSaid : Prop := saltTurnedUptoRow.holds Try.pinned (OpenSpec.upto saltTurnedSpec)

/-- 'colonnadelaw03.SaltGoesOn', WHERE WHAT IT READS IS OF BULK AT MOST 1048576: true; the input reads as it did. -/
def saltGoesOnUptoRow : OpenClaim := { program := "ytlncnjcbgfeaoaa", sum := "0c349b417e27e97d42c5f2f9c14f4244649b4a9d02369afe5ac9400bce0b3ec2", func := "colonnade/colonnadelaw03.SaltGoesOn", spec := "saltGoesOn", inPlace := ["internal/bytealg.MakeNoZero"], apart := false, narrowed := true }
def SaltGoesOnUptoSaid : Prop := saltGoesOnUptoRow.holds Try.pinned (OpenSpec.upto saltGoesOnSpec)

/-- 'colonnadelaw03.SaltStreams', WHERE WHAT IT READS IS OF BULK AT MOST 1048576: true; the input reads as it did. -/
def saltStreamsUptoRow : OpenClaim := { program := "ytlncnjcbgfeaoaa", sum := "0c349b417e27e97d42c5f2f9c14f4244649b4a9d02369afe5ac9400bce0b3ec2", func := "colonnade/colonnadelaw03.SaltStreams", spec := "saltStreams", inPlace := ["internal/bytealg.MakeNoZero"], apart := false, narrowed := true }
def SaltStreamsUptoSaid : Prop := saltStreamsUptoRow.holds Try.pinned (OpenSpec.upto saltStreamsSpec)

end Rows
end Go.Proofs.Ytlncnjcbgfeaoaa
