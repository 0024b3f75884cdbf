/-
  NARROWER THAN 'FOR EVERY INPUT', by the rows' own cells (each row's printed sentence says how): RingParts: laid · RingSums: laid · RingBegins: laid · HeadReads: laid · HeadCuts: laid · HeadTwo: laid · HeadShort: laid · RingKeys: laid · RingLabels: laid · HeadBytes: laid.
  DERIVED. THE GIVEN ROWS OF THIS SEAT. 10 by the template 'for every input the law returns true; each argument reads behind the call as it read before'; 0 by the template 'total and deterministic' (their statements: YtdfachjgnhljfaaDoorTotals.lean).
  GIVEN WITH THE SEED: the statements are not yours to turn. If you find one false, say at which input.
  Laid BY PROGRAM, IN A SANDBOX (cutbox-rows.mjs): the forced cells as the released guide's own fill.sh prints them over the translation 3ef5225a017ef499… (all of the seat's roots in one cut). By AI agents, Wed Nov 11 2026. No macro, syntax, notation, axiom, sorry.
-/
import Derived.Test.YtdfachjgnhljfaaDoorChecked
import GoSem.Claim
import GoSem.ClaimJoined
import GoSem.ClaimMapViews
import Derived.JoinedTies
import Derived.KernelRfl
namespace Go.Proofs.YtdfachjgnhljfaaDoor
/- THE CELL 'sum', in the pinned program and in every row, IS THE sha256 OF THE DUMP (.gsa) THAT YtdfachjgnhljfaaDoorProg.lean LOADS. Nothing in Lean hashes anything: it is a label: what it is worth is what the hold of that sum in a sandbox is worth. -/
noncomputable def Tryd.pinned : Pinned := { name := "ytdfachjgnhljfaadoor", sum := "3ef5225a017ef499b358a01fd0709fe969bed0b3422349bb617eeb4ca5ff5475", checked := Tryd.checked }
namespace Rows
def none {H : Type} : Left H := { results := [], args := [] }

/- WHAT THE LISTED PACKAGE-LEVEL VARIABLES READ AS WHEN THE CALL BEGINS. Each datum BY PROGRAM (the guide's laid-datum.mjs) off the statement by which the dump's own 'gosem.cut.vars' lays the variable. In a bare row this is a premise. The card (YtdfachjgnhljfaaDoorCards.lean) ties it to the program's text. -/
def laid_colonnade_ring_round {H : Type} : DataW H := .agg [.lit (.int .u32 1116352408), .lit (.int .u32 1899447441), .lit (.int .u32 3049323471), .lit (.int .u32 3921009573), .lit (.int .u32 961987163), .lit (.int .u32 1508970993), .lit (.int .u32 2453635748), .lit (.int .u32 2870763221), .lit (.int .u32 3624381080), .lit (.int .u32 310598401), .lit (.int .u32 607225278), .lit (.int .u32 1426881987), .lit (.int .u32 1925078388), .lit (.int .u32 2162078206), .lit (.int .u32 2614888103), .lit (.int .u32 3248222580), .lit (.int .u32 3835390401), .lit (.int .u32 4022224774), .lit (.int .u32 264347078), .lit (.int .u32 604807628), .lit (.int .u32 770255983), .lit (.int .u32 1249150122), .lit (.int .u32 1555081692), .lit (.int .u32 1996064986), .lit (.int .u32 2554220882), .lit (.int .u32 2821834349), .lit (.int .u32 2952996808), .lit (.int .u32 3210313671), .lit (.int .u32 3336571891), .lit (.int .u32 3584528711), .lit (.int .u32 113926993), .lit (.int .u32 338241895), .lit (.int .u32 666307205), .lit (.int .u32 773529912), .lit (.int .u32 1294757372), .lit (.int .u32 1396182291), .lit (.int .u32 1695183700), .lit (.int .u32 1986661051), .lit (.int .u32 2177026350), .lit (.int .u32 2456956037), .lit (.int .u32 2730485921), .lit (.int .u32 2820302411), .lit (.int .u32 3259730800), .lit (.int .u32 3345764771), .lit (.int .u32 3516065817), .lit (.int .u32 3600352804), .lit (.int .u32 4094571909), .lit (.int .u32 275423344), .lit (.int .u32 430227734), .lit (.int .u32 506948616), .lit (.int .u32 659060556), .lit (.int .u32 883997877), .lit (.int .u32 958139571), .lit (.int .u32 1322822218), .lit (.int .u32 1537002063), .lit (.int .u32 1747873779), .lit (.int .u32 1955562222), .lit (.int .u32 2024104815), .lit (.int .u32 2227730452), .lit (.int .u32 2361852424), .lit (.int .u32 2428436474), .lit (.int .u32 2756734187), .lit (.int .u32 3204031479), .lit (.int .u32 3329325298)]
def laid_colonnade_head_kinds {H : Type} : DataW H := .agg [.lit (.int .u8 0), .lit (.int .u8 2)]

/-- 'colonnadelaw02.RingParts': WHATEVER THE INPUT: true; the input reads as it did. -/
def ringPartsSpec : ChangeSpec := { name := "ringParts", fn := fun _ => fun
  | [d1, d2] => { results := [.lit (.bool true)], args := [d1, d2] }
  | _ => none }
def ringPartsRow : OpenClaim := { program := "ytdfachjgnhljfaadoor", sum := "3ef5225a017ef499b358a01fd0709fe969bed0b3422349bb617eeb4ca5ff5475", func := "colonnade/colonnadelaw02.RingParts", spec := "ringParts", inPlace := ["internal/bytealg.MakeNoZero"], unfollowed := true, recurses := true, named := ["colonnade/ring.round"], apart := false, laid := [("colonnade/ring.round", laid_colonnade_ring_round)] }
def RingPartsSaid : Prop := ringPartsRow.holds Tryd.pinned (OpenSpec.ofChange ringPartsSpec)

/-- ITS FALSE NEIGHBOUR: 'it returns false'. Refute it at one input. -/
def ringPartsWrong : ChangeSpec := { name := "ringParts", fn := fun _ => fun
  | [d1, d2] => { results := [.lit (.bool false)], args := [d1, d2] }
  | _ => none }
def RingPartsWrongFalsely : Prop := ringPartsRow.holds Tryd.pinned (OpenSpec.ofChange ringPartsWrong)

/-- 'colonnadelaw02.RingSums': WHATEVER THE INPUT: true; the input reads as it did. -/
def ringSumsSpec : ChangeSpec := { name := "ringSums", fn := fun _ => fun
  | [d1, d2] => { results := [.lit (.bool true)], args := [d1, d2] }
  | _ => none }
def ringSumsRow : OpenClaim := { program := "ytdfachjgnhljfaadoor", sum := "3ef5225a017ef499b358a01fd0709fe969bed0b3422349bb617eeb4ca5ff5475", func := "colonnade/colonnadelaw02.RingSums", spec := "ringSums", inPlace := ["internal/bytealg.MakeNoZero"], unfollowed := true, recurses := true, named := ["colonnade/ring.round"], apart := false, laid := [("colonnade/ring.round", laid_colonnade_ring_round)] }
def RingSumsSaid : Prop := ringSumsRow.holds Tryd.pinned (OpenSpec.ofChange ringSumsSpec)

/-- ITS FALSE NEIGHBOUR: 'it returns false'. Refute it at one input. -/
def ringSumsWrong : ChangeSpec := { name := "ringSums", fn := fun _ => fun
  | [d1, d2] => { results := [.lit (.bool false)], args := [d1, d2] }
  | _ => none }
def RingSumsWrongFalsely : Prop := ringSumsRow.holds Tryd.pinned (OpenSpec.ofChange ringSumsWrong)

/-- 'colonnadelaw02.RingBegins': WHATEVER THE INPUT: true; the input reads as it did. -/
def ringBeginsSpec : ChangeSpec := { name := "ringBegins", fn := fun _ => fun
  | [d1, d2, d3, d4] => { results := [.lit (.bool true)], args := [d1, d2, d3, d4] }
  | _ => none }
def ringBeginsRow : OpenClaim := { program := "ytdfachjgnhljfaadoor", sum := "3ef5225a017ef499b358a01fd0709fe969bed0b3422349bb617eeb4ca5ff5475", func := "colonnade/colonnadelaw02.RingBegins", spec := "ringBegins", inPlace := ["internal/bytealg.MakeNoZero"], unfollowed := true, recurses := true, named := ["colonnade/ring.round"], apart := false, laid := [("colonnade/ring.round", laid_colonnade_ring_round)] }
def RingBeginsSaid : Prop := ringBeginsRow.holds Tryd.pinned (OpenSpec.ofChange ringBeginsSpec)

/-- ITS FALSE NEIGHBOUR: 'it returns false'. Refute it at one input. -/
def ringBeginsWrong : ChangeSpec := { name := "ringBegins", fn := fun _ => fun
  | [d1, d2, d3, d4] => { results := [.lit (.bool false)], args := [d1, d2, d3, d4] }
  | _ => none }
def RingBeginsWrongFalsely : Prop := ringBeginsRow.holds Tryd.pinned (OpenSpec.ofChange ringBeginsWrong)

/-- 'colonnadelaw04.HeadReads': WHATEVER THE INPUT: true; the input reads as it did. -/
def headReadsSpec : ChangeSpec := { name := "headReads", fn := fun _ => fun
  | [d] => { results := [.lit (.bool true)], args := [d] }
  | _ => none }
def headReadsRow : OpenClaim := { program := "ytdfachjgnhljfaadoor", sum := "3ef5225a017ef499b358a01fd0709fe969bed0b3422349bb617eeb4ca5ff5475", func := "colonnade/colonnadelaw04.HeadReads", spec := "headReads", named := ["colonnade/head.kinds"], apart := false, laid := [("colonnade/head.kinds", laid_colonnade_head_kinds)] }
def HeadReadsSaid : Prop := headReadsRow.holds Tryd.pinned (OpenSpec.ofChange headReadsSpec)

/-- ITS FALSE NEIGHBOUR: 'it returns false'. Refute it at one input. -/
def headReadsWrong : ChangeSpec := { name := "headReads", fn := fun _ => fun
  | [d] => { results := [.lit (.bool false)], args := [d] }
  | _ => none }
def HeadReadsWrongFalsely : Prop := headReadsRow.holds Tryd.pinned (OpenSpec.ofChange headReadsWrong)

/-- 'colonnadelaw04.HeadCuts': WHATEVER THE INPUT: true; the input reads as it did. -/
def headCutsSpec : ChangeSpec := { name := "headCuts", fn := fun _ => fun
  | [d1, d2, d3] => { results := [.lit (.bool true)], args := [d1, d2, d3] }
  | _ => none }
def headCutsRow : OpenClaim := { program := "ytdfachjgnhljfaadoor", sum := "3ef5225a017ef499b358a01fd0709fe969bed0b3422349bb617eeb4ca5ff5475", func := "colonnade/colonnadelaw04.HeadCuts", spec := "headCuts", named := ["colonnade/head.kinds"], apart := false, laid := [("colonnade/head.kinds", laid_colonnade_head_kinds)] }
def HeadCutsSaid : Prop := headCutsRow.holds Tryd.pinned (OpenSpec.ofChange headCutsSpec)

/-- ITS FALSE NEIGHBOUR: 'it returns false'. Refute it at one input. -/
def headCutsWrong : ChangeSpec := { name := "headCuts", fn := fun _ => fun
  | [d1, d2, d3] => { results := [.lit (.bool false)], args := [d1, d2, d3] }
  | _ => none }
def HeadCutsWrongFalsely : Prop := headCutsRow.holds Tryd.pinned (OpenSpec.ofChange headCutsWrong)

/-- 'colonnadelaw04.HeadTwo': WHATEVER THE INPUT: true; the input reads as it did. -/
def headTwoSpec : ChangeSpec := { name := "headTwo", fn := fun _ => fun
  | [d1, d2] => { results := [.lit (.bool true)], args := [d1, d2] }
  | _ => none }
def headTwoRow : OpenClaim := { program := "ytdfachjgnhljfaadoor", sum := "3ef5225a017ef499b358a01fd0709fe969bed0b3422349bb617eeb4ca5ff5475", func := "colonnade/colonnadelaw04.HeadTwo", spec := "headTwo", named := ["colonnade/head.kinds"], apart := false, laid := [("colonnade/head.kinds", laid_colonnade_head_kinds)] }
def HeadTwoSaid : Prop := headTwoRow.holds Tryd.pinned (OpenSpec.ofChange headTwoSpec)

/-- ITS FALSE NEIGHBOUR: 'it returns false'. Refute it at one input. -/
def headTwoWrong : ChangeSpec := { name := "headTwo", fn := fun _ => fun
  | [d1, d2] => { results := [.lit (.bool false)], args := [d1, d2] }
  | _ => none }
def HeadTwoWrongFalsely : Prop := headTwoRow.holds Tryd.pinned (OpenSpec.ofChange headTwoWrong)

/-- 'colonnadelaw04.HeadShort': WHATEVER THE INPUT: true; the input reads as it did. -/
def headShortSpec : ChangeSpec := { name := "headShort", fn := fun _ => fun
  | [d1, d2, d3] => { results := [.lit (.bool true)], args := [d1, d2, d3] }
  | _ => none }
def headShortRow : OpenClaim := { program := "ytdfachjgnhljfaadoor", sum := "3ef5225a017ef499b358a01fd0709fe969bed0b3422349bb617eeb4ca5ff5475", func := "colonnade/colonnadelaw04.HeadShort", spec := "headShort", named := ["colonnade/head.kinds"], apart := false, laid := [("colonnade/head.kinds", laid_colonnade_head_kinds)] }
def HeadShortSaid : Prop := headShortRow.holds Tryd.pinned (OpenSpec.ofChange headShortSpec)

/-- ITS FALSE NEIGHBOUR: 'it returns false'. Refute it at one input. -/
def headShortWrong : ChangeSpec := { name := "headShort", fn := fun _ => fun
  | [d1, d2, d3] => { results := [.lit (.bool false)], args := [d1, d2, d3] }
  | _ => none }
def HeadShortWrongFalsely : Prop := headShortRow.holds Tryd.pinned (OpenSpec.ofChange headShortWrong)

/-- 'colonnadelaw02.RingKeys': WHATEVER THE INPUT: true; the input reads as it did. -/
def ringKeysSpec : ChangeSpec := { name := "ringKeys", fn := fun _ => fun
  | [d1, d2, d3, d4] => { results := [.lit (.bool true)], args := [d1, d2, d3, d4] }
  | _ => none }
def ringKeysRow : OpenClaim := { program := "ytdfachjgnhljfaadoor", sum := "3ef5225a017ef499b358a01fd0709fe969bed0b3422349bb617eeb4ca5ff5475", func := "colonnade/colonnadelaw02.RingKeys", spec := "ringKeys", inPlace := ["internal/bytealg.MakeNoZero"], unfollowed := true, recurses := true, named := ["colonnade/ring.round"], apart := false, laid := [("colonnade/ring.round", laid_colonnade_ring_round)] }
def RingKeysSaid : Prop := ringKeysRow.holds Tryd.pinned (OpenSpec.ofChange ringKeysSpec)

/-- ITS FALSE NEIGHBOUR: 'it returns false'. Refute it at one input. -/
def ringKeysWrong : ChangeSpec := { name := "ringKeys", fn := fun _ => fun
  | [d1, d2, d3, d4] => { results := [.lit (.bool false)], args := [d1, d2, d3, d4] }
  | _ => none }
def RingKeysWrongFalsely : Prop := ringKeysRow.holds Tryd.pinned (OpenSpec.ofChange ringKeysWrong)

/-- 'colonnadelaw02.RingLabels': WHATEVER THE INPUT: true; the input reads as it did. -/
def ringLabelsSpec : ChangeSpec := { name := "ringLabels", fn := fun _ => fun
  | [d1, d2, d3, d4] => { results := [.lit (.bool true)], args := [d1, d2, d3, d4] }
  | _ => none }
def ringLabelsRow : OpenClaim := { program := "ytdfachjgnhljfaadoor", sum := "3ef5225a017ef499b358a01fd0709fe969bed0b3422349bb617eeb4ca5ff5475", func := "colonnade/colonnadelaw02.RingLabels", spec := "ringLabels", inPlace := ["internal/bytealg.MakeNoZero"], unfollowed := true, recurses := true, named := ["colonnade/ring.round"], apart := false, laid := [("colonnade/ring.round", laid_colonnade_ring_round)] }
def RingLabelsSaid : Prop := ringLabelsRow.holds Tryd.pinned (OpenSpec.ofChange ringLabelsSpec)

/-- ITS FALSE NEIGHBOUR: 'it returns false'. Refute it at one input. -/
def ringLabelsWrong : ChangeSpec := { name := "ringLabels", fn := fun _ => fun
  | [d1, d2, d3, d4] => { results := [.lit (.bool false)], args := [d1, d2, d3, d4] }
  | _ => none }
def RingLabelsWrongFalsely : Prop := ringLabelsRow.holds Tryd.pinned (OpenSpec.ofChange ringLabelsWrong)

/-- 'colonnadelaw04.HeadBytes': WHATEVER THE INPUT: true; the input reads as it did. -/
def headBytesSpec : ChangeSpec := { name := "headBytes", fn := fun _ => fun
  | [d1, d2, d3, d4] => { results := [.lit (.bool true)], args := [d1, d2, d3, d4] }
  | _ => none }
def headBytesRow : OpenClaim := { program := "ytdfachjgnhljfaadoor", sum := "3ef5225a017ef499b358a01fd0709fe969bed0b3422349bb617eeb4ca5ff5475", func := "colonnade/colonnadelaw04.HeadBytes", spec := "headBytes", inPlace := ["internal/bytealg.MakeNoZero"], named := ["colonnade/head.kinds"], apart := false, laid := [("colonnade/head.kinds", laid_colonnade_head_kinds)] }
def HeadBytesSaid : Prop := headBytesRow.holds Tryd.pinned (OpenSpec.ofChange headBytesSpec)

/-- ITS FALSE NEIGHBOUR: 'it returns false'. Refute it at one input. -/
def headBytesWrong : ChangeSpec := { name := "headBytes", fn := fun _ => fun
  | [d1, d2, d3, d4] => { results := [.lit (.bool false)], args := [d1, d2, d3, d4] }
  | _ => none }
def HeadBytesWrongFalsely : Prop := headBytesRow.holds Tryd.pinned (OpenSpec.ofChange headBytesWrong)

/- THE SECOND FORM. 'bulk': how many values and letters a reading holds, each counted each time it is reached (what is shared counts as often as it is met; a slice's spare places count too). A statement '..UptoSaid' is the law's where the arguments, and the package variables that the reading takes, are together of bulk at most 1048576: NARROWER than '..Said'. Prove '..Said' where nothing that the law and all that it calls make is longer than what came in: it says more and counts as full. Else prove '..UptoSaid'. A law counts once. -/
mutual
def uptoBulk {H : Type} : DataW H → Nat
  | .lit (.string bytes) => bytes.length + 1
  | .lit _ => 1
  | .nil => 1
  | .ptr d => uptoBulk d + 1
  | .slice elems spare => uptoBulkAll elems + uptoBulkAll spare + 1
  | .agg parts => uptoBulkAll parts + 1
  | .iface _ d => uptoBulk d + 1
  | .map entries => uptoBulkEntries entries + 1
  | .held _ => 1
def uptoBulkAll {H : Type} : List (DataW H) → Nat
  | [] => 0
  | d :: r => uptoBulk d + uptoBulkAll r
def uptoBulkEntries {H : Type} : List (Lit × DataW H) → Nat
  | [] => 0
  | x :: r => uptoBulkEntry x + uptoBulkEntries r
def uptoBulkEntry {H : Type} : Lit × DataW H → Nat
  | (.string bytes, d) => bytes.length + uptoBulk d + 1
  | (_, d) => uptoBulk d + 1
 end
def uptoSmall : (H : Type) → List (DataW H) → Bool := fun _ ds => decide (uptoBulkAll ds ≤ 1048576)
def OpenSpec.upto (s : _root_.Go.ChangeSpec) : _root_.Go.OpenSpec := { _root_.Go.OpenSpec.ofChange s with cond := some uptoSmall }

/-- 'colonnadelaw02.RingParts', WHERE WHAT IT READS IS OF BULK AT MOST 1048576: true; the input reads as it did. -/
def ringPartsUptoRow : OpenClaim := { program := "ytdfachjgnhljfaadoor", sum := "3ef5225a017ef499b358a01fd0709fe969bed0b3422349bb617eeb4ca5ff5475", func := "colonnade/colonnadelaw02.RingParts", spec := "ringParts", inPlace := ["internal/bytealg.MakeNoZero"], unfollowed := true, recurses := true, named := ["colonnade/ring.round"], apart := false, laid := [("colonnade/ring.round", laid_colonnade_ring_round)], narrowed := true }
def RingPartsUptoSaid : Prop := ringPartsUptoRow.holds Tryd.pinned (OpenSpec.upto ringPartsSpec)

/-- 'colonnadelaw02.RingSums', WHERE WHAT IT READS IS OF BULK AT MOST 1048576: true; the input reads as it did. -/
def ringSumsUptoRow : OpenClaim := { program := "ytdfachjgnhljfaadoor", sum := "3ef5225a017ef499b358a01fd0709fe969bed0b3422349bb617eeb4ca5ff5475", func := "colonnade/colonnadelaw02.RingSums", spec := "ringSums", inPlace := ["internal/bytealg.MakeNoZero"], unfollowed := true, recurses := true, named := ["colonnade/ring.round"], apart := false, laid := [("colonnade/ring.round", laid_colonnade_ring_round)], narrowed := true }
def RingSumsUptoSaid : Prop := ringSumsUptoRow.holds Tryd.pinned (OpenSpec.upto ringSumsSpec)

/-- 'colonnadelaw02.RingBegins', WHERE WHAT IT READS IS OF BULK AT MOST 1048576: true; the input reads as it did. -/
def ringBeginsUptoRow : OpenClaim := { program := "ytdfachjgnhljfaadoor", sum := "3ef5225a017ef499b358a01fd0709fe969bed0b3422349bb617eeb4ca5ff5475", func := "colonnade/colonnadelaw02.RingBegins", spec := "ringBegins", inPlace := ["internal/bytealg.MakeNoZero"], unfollowed := true, recurses := true, named := ["colonnade/ring.round"], apart := false, laid := [("colonnade/ring.round", laid_colonnade_ring_round)], narrowed := true }
def RingBeginsUptoSaid : Prop := ringBeginsUptoRow.holds Tryd.pinned (OpenSpec.upto ringBeginsSpec)

/-- 'colonnadelaw04.HeadReads', WHERE WHAT IT READS IS OF BULK AT MOST 1048576: true; the input reads as it did. -/
def headReadsUptoRow : OpenClaim := { program := "ytdfachjgnhljfaadoor", sum := "3ef5225a017ef499b358a01fd0709fe969bed0b3422349bb617eeb4ca5ff5475", func := "colonnade/colonnadelaw04.HeadReads", spec := "headReads", named := ["colonnade/head.kinds"], apart := false, laid := [("colonnade/head.kinds", laid_colonnade_head_kinds)], narrowed := true }
def HeadReadsUptoSaid : Prop := headReadsUptoRow.holds Tryd.pinned (OpenSpec.upto headReadsSpec)

/-- 'colonnadelaw04.HeadCuts', WHERE WHAT IT READS IS OF BULK AT MOST 1048576: true; the input reads as it did. -/
def headCutsUptoRow : OpenClaim := { program := "ytdfachjgnhljfaadoor", sum := "3ef5225a017ef499b358a01fd0709fe969bed0b3422349bb617eeb4ca5ff5475", func := "colonnade/colonnadelaw04.HeadCuts", spec := "headCuts", named := ["colonnade/head.kinds"], apart := false, laid := [("colonnade/head.kinds", laid_colonnade_head_kinds)], narrowed := true }
def HeadCutsUptoSaid : Prop := headCutsUptoRow.holds Tryd.pinned (OpenSpec.upto headCutsSpec)

/-- 'colonnadelaw04.HeadTwo', WHERE WHAT IT READS IS OF BULK AT MOST 1048576: true; the input reads as it did. -/
def headTwoUptoRow : OpenClaim := { program := "ytdfachjgnhljfaadoor", sum := "3ef5225a017ef499b358a01fd0709fe969bed0b3422349bb617eeb4ca5ff5475", func := "colonnade/colonnadelaw04.HeadTwo", spec := "headTwo", named := ["colonnade/head.kinds"], apart := false, laid := [("colonnade/head.kinds", laid_colonnade_head_kinds)], narrowed := true }
def HeadTwoUptoSaid : Prop := headTwoUptoRow.holds Tryd.pinned (OpenSpec.upto headTwoSpec)

/-- 'colonnadelaw04.HeadShort', WHERE WHAT IT READS IS OF BULK AT MOST 1048576: true; the input reads as it did. -/
def headShortUptoRow : OpenClaim := { program := "ytdfachjgnhljfaadoor", sum := "3ef5225a017ef499b358a01fd0709fe969bed0b3422349bb617eeb4ca5ff5475", func := "colonnade/colonnadelaw04.HeadShort", spec := "headShort", named := ["colonnade/head.kinds"], apart := false, laid := [("colonnade/head.kinds", laid_colonnade_head_kinds)], narrowed := true }
def HeadShortUptoSaid : Prop := headShortUptoRow.holds Tryd.pinned (OpenSpec.upto headShortSpec)

/-- 'colonnadelaw02.RingKeys', WHERE WHAT IT READS IS OF BULK AT MOST 1048576: true; the input reads as it did. -/
def ringKeysUptoRow : OpenClaim := { program := "ytdfachjgnhljfaadoor", sum := "3ef5225a017ef499b358a01fd0709fe969bed0b3422349bb617eeb4ca5ff5475", func := "colonnade/colonnadelaw02.RingKeys", spec := "ringKeys", inPlace := ["internal/bytealg.MakeNoZero"], unfollowed := true, recurses := true, named := ["colonnade/ring.round"], apart := false, laid := [("colonnade/ring.round", laid_colonnade_ring_round)], narrowed := true }
def RingKeysUptoSaid : Prop := ringKeysUptoRow.holds Tryd.pinned (OpenSpec.upto ringKeysSpec)

/-- 'colonnadelaw02.RingLabels', WHERE WHAT IT READS IS OF BULK AT MOST 1048576: true; the input reads as it did. -/
def ringLabelsUptoRow : OpenClaim := { program := "ytdfachjgnhljfaadoor", sum := "3ef5225a017ef499b358a01fd0709fe969bed0b3422349bb617eeb4ca5ff5475", func := "colonnade/colonnadelaw02.RingLabels", spec := "ringLabels", inPlace := ["internal/bytealg.MakeNoZero"], unfollowed := true, recurses := true, named := ["colonnade/ring.round"], apart := false, laid := [("colonnade/ring.round", laid_colonnade_ring_round)], narrowed := true }
def RingLabelsUptoSaid : Prop := ringLabelsUptoRow.holds Tryd.pinned (OpenSpec.upto ringLabelsSpec)

/-- 'colonnadelaw04.HeadBytes', WHERE WHAT IT READS IS OF BULK AT MOST 1048576: true; the input reads as it did. -/
def headBytesUptoRow : OpenClaim := { program := "ytdfachjgnhljfaadoor", sum := "3ef5225a017ef499b358a01fd0709fe969bed0b3422349bb617eeb4ca5ff5475", func := "colonnade/colonnadelaw04.HeadBytes", spec := "headBytes", inPlace := ["internal/bytealg.MakeNoZero"], named := ["colonnade/head.kinds"], apart := false, laid := [("colonnade/head.kinds", laid_colonnade_head_kinds)], narrowed := true }
def HeadBytesUptoSaid : Prop := headBytesUptoRow.holds Tryd.pinned (OpenSpec.upto headBytesSpec)

end Rows
end Go.Proofs.YtdfachjgnhljfaaDoor
