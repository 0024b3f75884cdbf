/-
  NARROWER THAN 'FOR EVERY INPUT', by the rows' own cells (each row's printed sentence says how): GreetWhole: laid · GreetMeets: laid · GreetParts: laid · GreetHears: laid · GreetParams: laid.
  DERIVED. THE GIVEN ROWS OF THIS SEAT. 5 by the template 'for every input the law returns true; each argument reads behind the call as it read before'; 0 by the template 'total and deterministic' (their statements: YtkhcpnmbhbhcgaaDoorTotals.lean).
  GIVEN WITH THE SEED: the statements are not yours to turn. If you find one false, say at which input.
  Laid BY PROGRAM, IN A SANDBOX (cutbox-rows.mjs): the forced cells as the released guide's own fill.sh prints them over the translation c930e6d00a5f4325… (all of the seat's roots in one cut). By AI agents, Wed Nov 11 2026. No macro, syntax, notation, axiom, sorry.
-/
import Derived.Test.YtkhcpnmbhbhcgaaDoorChecked
import GoSem.Claim
import GoSem.ClaimJoined
import GoSem.ClaimMapViews
import Derived.JoinedTies
import Derived.KernelRfl
namespace Go.Proofs.YtkhcpnmbhbhcgaaDoor
/- THE CELL 'sum', in the pinned program and in every row, IS THE sha256 OF THE DUMP (.gsa) THAT YtkhcpnmbhbhcgaaDoorProg.lean LOADS. Nothing in Lean hashes anything: it is a label: what it is worth is what the hold of that sum in a sandbox is worth. -/
noncomputable def Tryd.pinned : Pinned := { name := "ytkhcpnmbhbhcgaadoor", sum := "c930e6d00a5f43256bc2fbe1d3167ec58465af52f19f75772e10cc9377a634bd", checked := Tryd.checked }
namespace Rows
def none {H : Type} : Left H := { results := [], args := [] }

/- WHAT THE LISTED PACKAGE-LEVEL VARIABLES READ AS WHEN THE CALL BEGINS. Each datum BY PROGRAM (the guide's laid-datum.mjs) off the statement by which the dump's own 'gosem.cut.vars' lays the variable. In a bare row this is a premise. The card (YtkhcpnmbhbhcgaaDoorCards.lean) ties it to the program's text. -/
def laid_colonnade_ring_round {H : Type} : DataW H := .agg [.lit (.int .u32 1116352408), .lit (.int .u32 1899447441), .lit (.int .u32 3049323471), .lit (.int .u32 3921009573), .lit (.int .u32 961987163), .lit (.int .u32 1508970993), .lit (.int .u32 2453635748), .lit (.int .u32 2870763221), .lit (.int .u32 3624381080), .lit (.int .u32 310598401), .lit (.int .u32 607225278), .lit (.int .u32 1426881987), .lit (.int .u32 1925078388), .lit (.int .u32 2162078206), .lit (.int .u32 2614888103), .lit (.int .u32 3248222580), .lit (.int .u32 3835390401), .lit (.int .u32 4022224774), .lit (.int .u32 264347078), .lit (.int .u32 604807628), .lit (.int .u32 770255983), .lit (.int .u32 1249150122), .lit (.int .u32 1555081692), .lit (.int .u32 1996064986), .lit (.int .u32 2554220882), .lit (.int .u32 2821834349), .lit (.int .u32 2952996808), .lit (.int .u32 3210313671), .lit (.int .u32 3336571891), .lit (.int .u32 3584528711), .lit (.int .u32 113926993), .lit (.int .u32 338241895), .lit (.int .u32 666307205), .lit (.int .u32 773529912), .lit (.int .u32 1294757372), .lit (.int .u32 1396182291), .lit (.int .u32 1695183700), .lit (.int .u32 1986661051), .lit (.int .u32 2177026350), .lit (.int .u32 2456956037), .lit (.int .u32 2730485921), .lit (.int .u32 2820302411), .lit (.int .u32 3259730800), .lit (.int .u32 3345764771), .lit (.int .u32 3516065817), .lit (.int .u32 3600352804), .lit (.int .u32 4094571909), .lit (.int .u32 275423344), .lit (.int .u32 430227734), .lit (.int .u32 506948616), .lit (.int .u32 659060556), .lit (.int .u32 883997877), .lit (.int .u32 958139571), .lit (.int .u32 1322822218), .lit (.int .u32 1537002063), .lit (.int .u32 1747873779), .lit (.int .u32 1955562222), .lit (.int .u32 2024104815), .lit (.int .u32 2227730452), .lit (.int .u32 2361852424), .lit (.int .u32 2428436474), .lit (.int .u32 2756734187), .lit (.int .u32 3204031479), .lit (.int .u32 3329325298)]
def laid_colonnade_colonnaderef13_order {H : Type} : DataW H := .agg [.lit (.int .u64 1), .lit (.int .u64 4), .lit (.int .u64 6), .lit (.int .u64 8), .lit (.int .u64 9), .lit (.int .u64 32)]
def laid_colonnade_greet_ids {H : Type} : DataW H := .agg [.lit (.int .u64 1), .lit (.int .u64 4), .lit (.int .u64 6), .lit (.int .u64 8), .lit (.int .u64 9), .lit (.int .u64 32)]

/-- 'colonnadelaw13.GreetWhole': WHATEVER THE INPUT: true; the input reads as it did. -/
def greetWholeSpec : ChangeSpec := { name := "greetWhole", fn := fun _ => fun
  | [d1, d2, d3] => { results := [.lit (.bool true)], args := [d1, d2, d3] }
  | _ => none }
def greetWholeRow : OpenClaim := { program := "ytkhcpnmbhbhcgaadoor", sum := "c930e6d00a5f43256bc2fbe1d3167ec58465af52f19f75772e10cc9377a634bd", func := "colonnade/colonnadelaw13.GreetWhole", spec := "greetWhole", inPlace := ["internal/bytealg.MakeNoZero"], unfollowed := true, recurses := true, named := ["colonnade/ring.round"], apart := false, laid := [("colonnade/ring.round", laid_colonnade_ring_round)] }
def GreetWholeSaid : Prop := greetWholeRow.holds Tryd.pinned (OpenSpec.ofChange greetWholeSpec)

/-- ITS FALSE NEIGHBOUR: 'it returns false'. Refute it at one input. -/
def greetWholeWrong : ChangeSpec := { name := "greetWhole", fn := fun _ => fun
  | [d1, d2, d3] => { results := [.lit (.bool false)], args := [d1, d2, d3] }
  | _ => none }
def GreetWholeWrongFalsely : Prop := greetWholeRow.holds Tryd.pinned (OpenSpec.ofChange greetWholeWrong)

/-- 'colonnadelaw13.GreetMeets': WHATEVER THE INPUT: true; the input reads as it did. -/
def greetMeetsSpec : ChangeSpec := { name := "greetMeets", fn := fun _ => fun
  | [d1, d2, d3] => { results := [.lit (.bool true)], args := [d1, d2, d3] }
  | _ => none }
def greetMeetsRow : OpenClaim := { program := "ytkhcpnmbhbhcgaadoor", sum := "c930e6d00a5f43256bc2fbe1d3167ec58465af52f19f75772e10cc9377a634bd", func := "colonnade/colonnadelaw13.GreetMeets", spec := "greetMeets", inPlace := ["internal/bytealg.MakeNoZero"], unfollowed := true, recurses := true, named := ["colonnade/ring.round"], apart := false, laid := [("colonnade/ring.round", laid_colonnade_ring_round)] }
def GreetMeetsSaid : Prop := greetMeetsRow.holds Tryd.pinned (OpenSpec.ofChange greetMeetsSpec)

/-- ITS FALSE NEIGHBOUR: 'it returns false'. Refute it at one input. -/
def greetMeetsWrong : ChangeSpec := { name := "greetMeets", fn := fun _ => fun
  | [d1, d2, d3] => { results := [.lit (.bool false)], args := [d1, d2, d3] }
  | _ => none }
def GreetMeetsWrongFalsely : Prop := greetMeetsRow.holds Tryd.pinned (OpenSpec.ofChange greetMeetsWrong)

/-- 'colonnadelaw13.GreetParts': WHATEVER THE INPUT: true; the input reads as it did. -/
def greetPartsSpec : ChangeSpec := { name := "greetParts", fn := fun _ => fun
  | [d1, d2] => { results := [.lit (.bool true)], args := [d1, d2] }
  | _ => none }
def greetPartsRow : OpenClaim := { program := "ytkhcpnmbhbhcgaadoor", sum := "c930e6d00a5f43256bc2fbe1d3167ec58465af52f19f75772e10cc9377a634bd", func := "colonnade/colonnadelaw13.GreetParts", spec := "greetParts", inPlace := ["internal/bytealg.MakeNoZero"], unfollowed := true, recurses := true, named := ["colonnade/ring.round"], apart := false, laid := [("colonnade/ring.round", laid_colonnade_ring_round)] }
def GreetPartsSaid : Prop := greetPartsRow.holds Tryd.pinned (OpenSpec.ofChange greetPartsSpec)

/-- ITS FALSE NEIGHBOUR: 'it returns false'. Refute it at one input. -/
def greetPartsWrong : ChangeSpec := { name := "greetParts", fn := fun _ => fun
  | [d1, d2] => { results := [.lit (.bool false)], args := [d1, d2] }
  | _ => none }
def GreetPartsWrongFalsely : Prop := greetPartsRow.holds Tryd.pinned (OpenSpec.ofChange greetPartsWrong)

/-- 'colonnadelaw13.GreetHears': WHATEVER THE INPUT: true; the input reads as it did. -/
def greetHearsSpec : ChangeSpec := { name := "greetHears", fn := fun _ => fun
  | [d1, d2] => { results := [.lit (.bool true)], args := [d1, d2] }
  | _ => none }
def greetHearsRow : OpenClaim := { program := "ytkhcpnmbhbhcgaadoor", sum := "c930e6d00a5f43256bc2fbe1d3167ec58465af52f19f75772e10cc9377a634bd", func := "colonnade/colonnadelaw13.GreetHears", spec := "greetHears", inPlace := ["internal/bytealg.MakeNoZero"], unfollowed := true, recurses := true, named := ["colonnade/ring.round"], apart := false, laid := [("colonnade/ring.round", laid_colonnade_ring_round)] }
def GreetHearsSaid : Prop := greetHearsRow.holds Tryd.pinned (OpenSpec.ofChange greetHearsSpec)

/-- ITS FALSE NEIGHBOUR: 'it returns false'. Refute it at one input. -/
def greetHearsWrong : ChangeSpec := { name := "greetHears", fn := fun _ => fun
  | [d1, d2] => { results := [.lit (.bool false)], args := [d1, d2] }
  | _ => none }
def GreetHearsWrongFalsely : Prop := greetHearsRow.holds Tryd.pinned (OpenSpec.ofChange greetHearsWrong)

/-- 'colonnadelaw13.GreetParams': WHATEVER THE INPUT: true; the input reads as it did. -/
def greetParamsSpec : ChangeSpec := { name := "greetParams", fn := fun _ => fun
  | [d1, d2] => { results := [.lit (.bool true)], args := [d1, d2] }
  | _ => none }
def greetParamsRow : OpenClaim := { program := "ytkhcpnmbhbhcgaadoor", sum := "c930e6d00a5f43256bc2fbe1d3167ec58465af52f19f75772e10cc9377a634bd", func := "colonnade/colonnadelaw13.GreetParams", spec := "greetParams", inPlace := ["internal/bytealg.MakeNoZero"], unfollowed := true, recurses := true, named := ["colonnade/ring.round", "colonnade/greet.ids", "colonnade/colonnaderef13.order"], apart := false, laid := [("colonnade/colonnaderef13.order", laid_colonnade_colonnaderef13_order), ("colonnade/ring.round", laid_colonnade_ring_round), ("colonnade/greet.ids", laid_colonnade_greet_ids)] }
def GreetParamsSaid : Prop := greetParamsRow.holds Tryd.pinned (OpenSpec.ofChange greetParamsSpec)

/-- ITS FALSE NEIGHBOUR: 'it returns false'. Refute it at one input. -/
def greetParamsWrong : ChangeSpec := { name := "greetParams", fn := fun _ => fun
  | [d1, d2] => { results := [.lit (.bool false)], args := [d1, d2] }
  | _ => none }
def GreetParamsWrongFalsely : Prop := greetParamsRow.holds Tryd.pinned (OpenSpec.ofChange greetParamsWrong)

/- THE SECOND FORM. 'bulk': how many values and letters a reading holds, each counted each time it is reached (what is shared counts as often as it is met; a slice's spare places count too). A statement '..UptoSaid' is the law's where the arguments, and the package variables that the reading takes, are together of bulk at most 1048576: NARROWER than '..Said'. Prove '..Said' where nothing that the law and all that it calls make is longer than what came in: it says more and counts as full. Else prove '..UptoSaid'. A law counts once. -/
mutual
def uptoBulk {H : Type} : DataW H → Nat
  | .lit (.string bytes) => bytes.length + 1
  | .lit _ => 1
  | .nil => 1
  | .ptr d => uptoBulk d + 1
  | .slice elems spare => uptoBulkAll elems + uptoBulkAll spare + 1
  | .agg parts => uptoBulkAll parts + 1
  | .iface _ d => uptoBulk d + 1
  | .map entries => uptoBulkEntries entries + 1
  | .held _ => 1
def uptoBulkAll {H : Type} : List (DataW H) → Nat
  | [] => 0
  | d :: r => uptoBulk d + uptoBulkAll r
def uptoBulkEntries {H : Type} : List (Lit × DataW H) → Nat
  | [] => 0
  | x :: r => uptoBulkEntry x + uptoBulkEntries r
def uptoBulkEntry {H : Type} : Lit × DataW H → Nat
  | (.string bytes, d) => bytes.length + uptoBulk d + 1
  | (_, d) => uptoBulk d + 1
 end
def uptoSmall : (H : Type) → List (DataW H) → Bool := fun _ ds => decide (uptoBulkAll ds ≤ 1048576)
def OpenSpec.upto (s : _root_.Go.ChangeSpec) : _root_.Go.OpenSpec := { _root_.Go.OpenSpec.ofChange s with cond := some uptoSmall }

/-- 'colonnadelaw13.GreetWhole', WHERE WHAT IT READS IS OF BULK AT MOST 1048576: true; the input reads as it did. -/
def greetWholeUptoRow : OpenClaim := { program := "ytkhcpnmbhbhcgaadoor", sum := "c930e6d00a5f43256bc2fbe1d3167ec58465af52f19f75772e10cc9377a634bd", func := "colonnade/colonnadelaw13.GreetWhole", spec := "greetWhole", inPlace := ["internal/bytealg.MakeNoZero"], unfollowed := true, recurses := true, named := ["colonnade/ring.round"], apart := false, laid := [("colonnade/ring.round", laid_colonnade_ring_round)], narrowed := true }
def GreetWholeUptoSaid : Prop := greetWholeUptoRow.holds Tryd.pinned (OpenSpec.upto greetWholeSpec)

/-- 'colonnadelaw13.GreetMeets', WHERE WHAT IT READS IS OF BULK AT MOST 1048576: true; the input reads as it did. -/
def greetMeetsUptoRow : OpenClaim := { program := "ytkhcpnmbhbhcgaadoor", sum := "c930e6d00a5f43256bc2fbe1d3167ec58465af52f19f75772e10cc9377a634bd", func := "colonnade/colonnadelaw13.GreetMeets", spec := "greetMeets", inPlace := ["internal/bytealg.MakeNoZero"], unfollowed := true, recurses := true, named := ["colonnade/ring.round"], apart := false, laid := [("colonnade/ring.round", laid_colonnade_ring_round)], narrowed := true }
def GreetMeetsUptoSaid : Prop := greetMeetsUptoRow.holds Tryd.pinned (OpenSpec.upto greetMeetsSpec)

/-- 'colonnadelaw13.GreetParts', WHERE WHAT IT READS IS OF BULK AT MOST 1048576: true; the input reads as it did. -/
def greetPartsUptoRow : OpenClaim := { program := "ytkhcpnmbhbhcgaadoor", sum := "c930e6d00a5f43256bc2fbe1d3167ec58465af52f19f75772e10cc9377a634bd", func := "colonnade/colonnadelaw13.GreetParts", spec := "greetParts", inPlace := ["internal/bytealg.MakeNoZero"], unfollowed := true, recurses := true, named := ["colonnade/ring.round"], apart := false, laid := [("colonnade/ring.round", laid_colonnade_ring_round)], narrowed := true }
def GreetPartsUptoSaid : Prop := greetPartsUptoRow.holds Tryd.pinned (OpenSpec.upto greetPartsSpec)

/-- 'colonnadelaw13.GreetHears', WHERE WHAT IT READS IS OF BULK AT MOST 1048576: true; the input reads as it did. -/
def greetHearsUptoRow : OpenClaim := { program := "ytkhcpnmbhbhcgaadoor", sum := "c930e6d00a5f43256bc2fbe1d3167ec58465af52f19f75772e10cc9377a634bd", func := "colonnade/colonnadelaw13.GreetHears", spec := "greetHears", inPlace := ["internal/bytealg.MakeNoZero"], unfollowed := true, recurses := true, named := ["colonnade/ring.round"], apart := false, laid := [("colonnade/ring.round", laid_colonnade_ring_round)], narrowed := true }
def GreetHearsUptoSaid : Prop := greetHearsUptoRow.holds Tryd.pinned (OpenSpec.upto greetHearsSpec)

/-- 'colonnadelaw13.GreetParams', WHERE WHAT IT READS IS OF BULK AT MOST 1048576: true; the input reads as it did. -/
def greetParamsUptoRow : OpenClaim := { program := "ytkhcpnmbhbhcgaadoor", sum := "c930e6d00a5f43256bc2fbe1d3167ec58465af52f19f75772e10cc9377a634bd", func := "colonnade/colonnadelaw13.GreetParams", spec := "greetParams", inPlace := ["internal/bytealg.MakeNoZero"], unfollowed := true, recurses := true, named := ["colonnade/ring.round", "colonnade/greet.ids", "colonnade/colonnaderef13.order"], apart := false, laid := [("colonnade/colonnaderef13.order", laid_colonnade_colonnaderef13_order), ("colonnade/ring.round", laid_colonnade_ring_round), ("colonnade/greet.ids", laid_colonnade_greet_ids)], narrowed := true }
def GreetParamsUptoSaid : Prop := greetParamsUptoRow.holds Tryd.pinned (OpenSpec.upto greetParamsSpec)

end Rows
end Go.Proofs.YtkhcpnmbhbhcgaaDoor
