/-
  NARROWER THAN 'FOR EVERY INPUT', by the rows' own cells (each row's printed sentence says how): ParcelKeys: laid · ParcelOpens: laid · ParcelBack: laid · ParcelTwo: laid · ParcelTurns: laid.
  DERIVED. THE GIVEN ROWS OF THIS SEAT. 5 by the template 'for every input the law returns true; each argument reads behind the call as it read before'; 0 by the template 'total and deterministic' (their statements: YtlncnjcbgfeaoaaDoorTotals.lean).
  GIVEN WITH THE SEED: the statements are not yours to turn. If you find one false, say at which input.
  Laid BY PROGRAM, IN A SANDBOX (cutbox-rows.mjs): the forced cells as the released guide's own fill.sh prints them over the translation 9fcc79ea9b0591bf… (all of the seat's roots in one cut). By AI agents, Wed Nov 11 2026. No macro, syntax, notation, axiom, sorry.
-/
import Derived.Test.YtlncnjcbgfeaoaaDoorChecked
import GoSem.Claim
import GoSem.ClaimJoined
import GoSem.ClaimMapViews
import Derived.JoinedTies
import Derived.KernelRfl
namespace Go.Proofs.YtlncnjcbgfeaoaaDoor
/- THE CELL 'sum', in the pinned program and in every row, IS THE sha256 OF THE DUMP (.gsa) THAT YtlncnjcbgfeaoaaDoorProg.lean LOADS. Nothing in Lean hashes anything: it is a label: what it is worth is what the hold of that sum in a sandbox is worth. -/
noncomputable def Tryd.pinned : Pinned := { name := "ytlncnjcbgfeaoaadoor", sum := "9fcc79ea9b0591bf584c09a38fc8e412927d0ae1e68872b417d8922e0eebbcb0", checked := Tryd.checked }
namespace Rows
def none {H : Type} : Left H := { results := [], args := [] }

/- WHAT THE LISTED PACKAGE-LEVEL VARIABLES READ AS WHEN THE CALL BEGINS. Each datum BY PROGRAM (the guide's laid-datum.mjs) off the statement by which the dump's own 'gosem.cut.vars' lays the variable. In a bare row this is a premise. The card (YtlncnjcbgfeaoaaDoorCards.lean) ties it to the program's text. -/
def laid_colonnade_ring_round {H : Type} : DataW H := .agg [.lit (.int .u32 1116352408), .lit (.int .u32 1899447441), .lit (.int .u32 3049323471), .lit (.int .u32 3921009573), .lit (.int .u32 961987163), .lit (.int .u32 1508970993), .lit (.int .u32 2453635748), .lit (.int .u32 2870763221), .lit (.int .u32 3624381080), .lit (.int .u32 310598401), .lit (.int .u32 607225278), .lit (.int .u32 1426881987), .lit (.int .u32 1925078388), .lit (.int .u32 2162078206), .lit (.int .u32 2614888103), .lit (.int .u32 3248222580), .lit (.int .u32 3835390401), .lit (.int .u32 4022224774), .lit (.int .u32 264347078), .lit (.int .u32 604807628), .lit (.int .u32 770255983), .lit (.int .u32 1249150122), .lit (.int .u32 1555081692), .lit (.int .u32 1996064986), .lit (.int .u32 2554220882), .lit (.int .u32 2821834349), .lit (.int .u32 2952996808), .lit (.int .u32 3210313671), .lit (.int .u32 3336571891), .lit (.int .u32 3584528711), .lit (.int .u32 113926993), .lit (.int .u32 338241895), .lit (.int .u32 666307205), .lit (.int .u32 773529912), .lit (.int .u32 1294757372), .lit (.int .u32 1396182291), .lit (.int .u32 1695183700), .lit (.int .u32 1986661051), .lit (.int .u32 2177026350), .lit (.int .u32 2456956037), .lit (.int .u32 2730485921), .lit (.int .u32 2820302411), .lit (.int .u32 3259730800), .lit (.int .u32 3345764771), .lit (.int .u32 3516065817), .lit (.int .u32 3600352804), .lit (.int .u32 4094571909), .lit (.int .u32 275423344), .lit (.int .u32 430227734), .lit (.int .u32 506948616), .lit (.int .u32 659060556), .lit (.int .u32 883997877), .lit (.int .u32 958139571), .lit (.int .u32 1322822218), .lit (.int .u32 1537002063), .lit (.int .u32 1747873779), .lit (.int .u32 1955562222), .lit (.int .u32 2024104815), .lit (.int .u32 2227730452), .lit (.int .u32 2361852424), .lit (.int .u32 2428436474), .lit (.int .u32 2756734187), .lit (.int .u32 3204031479), .lit (.int .u32 3329325298)]
def laid_colonnade_parcel_first {H : Type} : DataW H := .agg [.lit (.int .u8 56), .lit (.int .u8 118), .lit (.int .u8 44), .lit (.int .u8 247), .lit (.int .u8 245), .lit (.int .u8 89), .lit (.int .u8 52), .lit (.int .u8 179), .lit (.int .u8 77), .lit (.int .u8 23), .lit (.int .u8 154), .lit (.int .u8 230), .lit (.int .u8 164), .lit (.int .u8 200), .lit (.int .u8 12), .lit (.int .u8 173), .lit (.int .u8 204), .lit (.int .u8 187), .lit (.int .u8 127), .lit (.int .u8 10)]
def laid_colonnade_head_kinds {H : Type} : DataW H := .agg [.lit (.int .u8 0), .lit (.int .u8 2)]

/-- 'colonnadelaw06.ParcelKeys': WHATEVER THE INPUT: true; the input reads as it did. -/
def parcelKeysSpec : ChangeSpec := { name := "parcelKeys", fn := fun _ => fun
  | [d1, d2, d3] => { results := [.lit (.bool true)], args := [d1, d2, d3] }
  | _ => none }
def parcelKeysRow : OpenClaim := { program := "ytlncnjcbgfeaoaadoor", sum := "9fcc79ea9b0591bf584c09a38fc8e412927d0ae1e68872b417d8922e0eebbcb0", func := "colonnade/colonnadelaw06.ParcelKeys", spec := "parcelKeys", inPlace := ["internal/bytealg.MakeNoZero"], unfollowed := true, recurses := true, named := ["colonnade/parcel.first", "colonnade/ring.round"], apart := false, laid := [("colonnade/ring.round", laid_colonnade_ring_round), ("colonnade/parcel.first", laid_colonnade_parcel_first)] }
def ParcelKeysSaid : Prop := parcelKeysRow.holds Tryd.pinned (OpenSpec.ofChange parcelKeysSpec)

/-- ITS FALSE NEIGHBOUR: 'it returns false'. Refute it at one input. -/
def parcelKeysWrong : ChangeSpec := { name := "parcelKeys", fn := fun _ => fun
  | [d1, d2, d3] => { results := [.lit (.bool false)], args := [d1, d2, d3] }
  | _ => none }
def ParcelKeysWrongFalsely : Prop := parcelKeysRow.holds Tryd.pinned (OpenSpec.ofChange parcelKeysWrong)

/-- 'colonnadelaw06.ParcelOpens': WHATEVER THE INPUT: true; the input reads as it did. -/
def parcelOpensSpec : ChangeSpec := { name := "parcelOpens", fn := fun _ => fun
  | [d1, d2, d3, d4] => { results := [.lit (.bool true)], args := [d1, d2, d3, d4] }
  | _ => none }
def parcelOpensRow : OpenClaim := { program := "ytlncnjcbgfeaoaadoor", sum := "9fcc79ea9b0591bf584c09a38fc8e412927d0ae1e68872b417d8922e0eebbcb0", func := "colonnade/colonnadelaw06.ParcelOpens", spec := "parcelOpens", inPlace := ["internal/bytealg.MakeNoZero"], unfollowed := true, recurses := true, named := ["colonnade/parcel.first", "colonnade/ring.round", "colonnade/head.kinds"], apart := false, laid := [("colonnade/ring.round", laid_colonnade_ring_round), ("colonnade/head.kinds", laid_colonnade_head_kinds), ("colonnade/parcel.first", laid_colonnade_parcel_first)] }
def ParcelOpensSaid : Prop := parcelOpensRow.holds Tryd.pinned (OpenSpec.ofChange parcelOpensSpec)

/-- ITS FALSE NEIGHBOUR: 'it returns false'. Refute it at one input. -/
def parcelOpensWrong : ChangeSpec := { name := "parcelOpens", fn := fun _ => fun
  | [d1, d2, d3, d4] => { results := [.lit (.bool false)], args := [d1, d2, d3, d4] }
  | _ => none }
def ParcelOpensWrongFalsely : Prop := parcelOpensRow.holds Tryd.pinned (OpenSpec.ofChange parcelOpensWrong)

/-- 'colonnadelaw06.ParcelBack': WHATEVER THE INPUT: true; the input reads as it did. -/
def parcelBackSpec : ChangeSpec := { name := "parcelBack", fn := fun _ => fun
  | [d1, d2, d3, d4, d5, d6] => { results := [.lit (.bool true)], args := [d1, d2, d3, d4, d5, d6] }
  | _ => none }
def parcelBackRow : OpenClaim := { program := "ytlncnjcbgfeaoaadoor", sum := "9fcc79ea9b0591bf584c09a38fc8e412927d0ae1e68872b417d8922e0eebbcb0", func := "colonnade/colonnadelaw06.ParcelBack", spec := "parcelBack", inPlace := ["internal/bytealg.MakeNoZero"], unfollowed := true, recurses := true, named := ["colonnade/parcel.first", "colonnade/ring.round", "colonnade/head.kinds"], apart := false, laid := [("colonnade/ring.round", laid_colonnade_ring_round), ("colonnade/head.kinds", laid_colonnade_head_kinds), ("colonnade/parcel.first", laid_colonnade_parcel_first)] }
def ParcelBackSaid : Prop := parcelBackRow.holds Tryd.pinned (OpenSpec.ofChange parcelBackSpec)

/-- ITS FALSE NEIGHBOUR: 'it returns false'. Refute it at one input. -/
def parcelBackWrong : ChangeSpec := { name := "parcelBack", fn := fun _ => fun
  | [d1, d2, d3, d4, d5, d6] => { results := [.lit (.bool false)], args := [d1, d2, d3, d4, d5, d6] }
  | _ => none }
def ParcelBackWrongFalsely : Prop := parcelBackRow.holds Tryd.pinned (OpenSpec.ofChange parcelBackWrong)

/-- 'colonnadelaw06.ParcelTwo': WHATEVER THE INPUT: true; the input reads as it did. -/
def parcelTwoSpec : ChangeSpec := { name := "parcelTwo", fn := fun _ => fun
  | [d1, d2, d3, d4, d5] => { results := [.lit (.bool true)], args := [d1, d2, d3, d4, d5] }
  | _ => none }
def parcelTwoRow : OpenClaim := { program := "ytlncnjcbgfeaoaadoor", sum := "9fcc79ea9b0591bf584c09a38fc8e412927d0ae1e68872b417d8922e0eebbcb0", func := "colonnade/colonnadelaw06.ParcelTwo", spec := "parcelTwo", inPlace := ["internal/bytealg.MakeNoZero"], unfollowed := true, recurses := true, named := ["colonnade/parcel.first", "colonnade/ring.round", "colonnade/head.kinds"], apart := false, laid := [("colonnade/ring.round", laid_colonnade_ring_round), ("colonnade/head.kinds", laid_colonnade_head_kinds), ("colonnade/parcel.first", laid_colonnade_parcel_first)] }
def ParcelTwoSaid : Prop := parcelTwoRow.holds Tryd.pinned (OpenSpec.ofChange parcelTwoSpec)

/-- ITS FALSE NEIGHBOUR: 'it returns false'. Refute it at one input. -/
def parcelTwoWrong : ChangeSpec := { name := "parcelTwo", fn := fun _ => fun
  | [d1, d2, d3, d4, d5] => { results := [.lit (.bool false)], args := [d1, d2, d3, d4, d5] }
  | _ => none }
def ParcelTwoWrongFalsely : Prop := parcelTwoRow.holds Tryd.pinned (OpenSpec.ofChange parcelTwoWrong)

/-- 'colonnadelaw06.ParcelTurns': WHATEVER THE INPUT: true; the input reads as it did. -/
def parcelTurnsSpec : ChangeSpec := { name := "parcelTurns", fn := fun _ => fun
  | [d1, d2, d3] => { results := [.lit (.bool true)], args := [d1, d2, d3] }
  | _ => none }
def parcelTurnsRow : OpenClaim := { program := "ytlncnjcbgfeaoaadoor", sum := "9fcc79ea9b0591bf584c09a38fc8e412927d0ae1e68872b417d8922e0eebbcb0", func := "colonnade/colonnadelaw06.ParcelTurns", spec := "parcelTurns", inPlace := ["internal/bytealg.MakeNoZero"], unfollowed := true, recurses := true, named := ["colonnade/parcel.first", "colonnade/ring.round", "colonnade/head.kinds"], apart := false, laid := [("colonnade/ring.round", laid_colonnade_ring_round), ("colonnade/head.kinds", laid_colonnade_head_kinds), ("colonnade/parcel.first", laid_colonnade_parcel_first)] }
def ParcelTurnsSaid : Prop := parcelTurnsRow.holds Tryd.pinned (OpenSpec.ofChange parcelTurnsSpec)

/-- ITS FALSE NEIGHBOUR: 'it returns false'. Refute it at one input. -/
def parcelTurnsWrong : ChangeSpec := { name := "parcelTurns", fn := fun _ => fun
  | [d1, d2, d3] => { results := [.lit (.bool false)], args := [d1, d2, d3] }
  | _ => none }
def ParcelTurnsWrongFalsely : Prop := parcelTurnsRow.holds Tryd.pinned (OpenSpec.ofChange parcelTurnsWrong)

/- THE SECOND FORM. 'bulk': how many values and letters a reading holds, each counted each time it is reached (what is shared counts as often as it is met; a slice's spare places count too). A statement '..UptoSaid' is the law's where the arguments, and the package variables that the reading takes, are together of bulk at most 1048576: NARROWER than '..Said'. Prove '..Said' where nothing that the law and all that it calls make is longer than what came in: it says more and counts as full. Else prove '..UptoSaid'. A law counts once. -/
mutual
def uptoBulk {H : Type} : DataW H → Nat
  | .lit (.string bytes) => bytes.length + 1
  | .lit _ => 1
  | .nil => 1
  | .ptr d => uptoBulk d + 1
  | .slice elems spare => uptoBulkAll elems + uptoBulkAll spare + 1
  | .agg parts => uptoBulkAll parts + 1
  | .iface _ d => uptoBulk d + 1
  | .map entries => uptoBulkEntries entries + 1
  | .held _ => 1
def uptoBulkAll {H : Type} : List (DataW H) → Nat
  | [] => 0
  | d :: r => uptoBulk d + uptoBulkAll r
def uptoBulkEntries {H : Type} : List (Lit × DataW H) → Nat
  | [] => 0
  | x :: r => uptoBulkEntry x + uptoBulkEntries r
def uptoBulkEntry {H : Type} : Lit × DataW H → Nat
  | (.string bytes, d) => bytes.length + uptoBulk d + 1
  | (_, d) => uptoBulk d + 1
 end
def uptoSmall : (H : Type) → List (DataW H) → Bool := fun _ ds => decide (uptoBulkAll ds ≤ 1048576)
def OpenSpec.upto (s : _root_.Go.ChangeSpec) : _root_.Go.OpenSpec := { _root_.Go.OpenSpec.ofChange s with cond := some uptoSmall }

/-- 'colonnadelaw06.ParcelKeys', WHERE WHAT IT READS IS OF BULK AT MOST 1048576: true; the input reads as it did. -/
def parcelKeysUptoRow : OpenClaim := { program := "ytlncnjcbgfeaoaadoor", sum := "9fcc79ea9b0591bf584c09a38fc8e412927d0ae1e68872b417d8922e0eebbcb0", func := "colonnade/colonnadelaw06.ParcelKeys", spec := "parcelKeys", inPlace := ["internal/bytealg.MakeNoZero"], unfollowed := true, recurses := true, named := ["colonnade/parcel.first", "colonnade/ring.round"], apart := false, laid := [("colonnade/ring.round", laid_colonnade_ring_round), ("colonnade/parcel.first", laid_colonnade_parcel_first)], narrowed := true }
def ParcelKeysUptoSaid : Prop := parcelKeysUptoRow.holds Tryd.pinned (OpenSpec.upto parcelKeysSpec)

/-- 'colonnadelaw06.ParcelOpens', WHERE WHAT IT READS IS OF BULK AT MOST 1048576: true; the input reads as it did. -/
def parcelOpensUptoRow : OpenClaim := { program := "ytlncnjcbgfeaoaadoor", sum := "9fcc79ea9b0591bf584c09a38fc8e412927d0ae1e68872b417d8922e0eebbcb0", func := "colonnade/colonnadelaw06.ParcelOpens", spec := "parcelOpens", inPlace := ["internal/bytealg.MakeNoZero"], unfollowed := true, recurses := true, named := ["colonnade/parcel.first", "colonnade/ring.round", "colonnade/head.kinds"], apart := false, laid := [("colonnade/ring.round", laid_colonnade_ring_round), ("colonnade/head.kinds", laid_colonnade_head_kinds), ("colonnade/parcel.first", laid_colonnade_parcel_first)], narrowed := true }
def ParcelOpensUptoSaid : Prop := parcelOpensUptoRow.holds Tryd.pinned (OpenSpec.upto parcelOpensSpec)

/-- 'colonnadelaw06.ParcelBack', WHERE WHAT IT READS IS OF BULK AT MOST 1048576: true; the input reads as it did. -/
def parcelBackUptoRow : OpenClaim := { program := "ytlncnjcbgfeaoaadoor", sum := "9fcc79ea9b0591bf584c09a38fc8e412927d0ae1e68872b417d8922e0eebbcb0", func := "colonnade/colonnadelaw06.ParcelBack", spec := "parcelBack", inPlace := ["internal/bytealg.MakeNoZero"], unfollowed := true, recurses := true, named := ["colonnade/parcel.first", "colonnade/ring.round", "colonnade/head.kinds"], apart := false, laid := [("colonnade/ring.round", laid_colonnade_ring_round), ("colonnade/head.kinds", laid_colonnade_head_kinds), ("colonnade/parcel.first", laid_colonnade_parcel_first)], narrowed := true }
def ParcelBackUptoSaid : Prop := parcelBackUptoRow.holds Tryd.pinned (OpenSpec.upto parcelBackSpec)

/-- 'colonnadelaw06.ParcelTwo', WHERE WHAT IT READS IS OF BULK AT MOST 1048576: true; the input reads as it did. -/
def parcelTwoUptoRow : OpenClaim := { program := "ytlncnjcbgfeaoaadoor", sum := "9fcc79ea9b0591bf584c09a38fc8e412927d0ae1e68872b417d8922e0eebbcb0", func := "colonnade/colonnadelaw06.ParcelTwo", spec := "parcelTwo", inPlace := ["internal/bytealg.MakeNoZero"], unfollowed := true, recurses := true, named := ["colonnade/parcel.first", "colonnade/ring.round", "colonnade/head.kinds"], apart := false, laid := [("colonnade/ring.round", laid_colonnade_ring_round), ("colonnade/head.kinds", laid_colonnade_head_kinds), ("colonnade/parcel.first", laid_colonnade_parcel_first)], narrowed := true }
def ParcelTwoUptoSaid : Prop := parcelTwoUptoRow.holds Tryd.pinned (OpenSpec.upto parcelTwoSpec)

/-- 'colonnadelaw06.ParcelTurns', WHERE WHAT IT READS IS OF BULK AT MOST 1048576: true; the input reads as it did. -/
def parcelTurnsUptoRow : OpenClaim := { program := "ytlncnjcbgfeaoaadoor", sum := "9fcc79ea9b0591bf584c09a38fc8e412927d0ae1e68872b417d8922e0eebbcb0", func := "colonnade/colonnadelaw06.ParcelTurns", spec := "parcelTurns", inPlace := ["internal/bytealg.MakeNoZero"], unfollowed := true, recurses := true, named := ["colonnade/parcel.first", "colonnade/ring.round", "colonnade/head.kinds"], apart := false, laid := [("colonnade/ring.round", laid_colonnade_ring_round), ("colonnade/head.kinds", laid_colonnade_head_kinds), ("colonnade/parcel.first", laid_colonnade_parcel_first)], narrowed := true }
def ParcelTurnsUptoSaid : Prop := parcelTurnsUptoRow.holds Tryd.pinned (OpenSpec.upto parcelTurnsSpec)

end Rows
end Go.Proofs.YtlncnjcbgfeaoaaDoor
