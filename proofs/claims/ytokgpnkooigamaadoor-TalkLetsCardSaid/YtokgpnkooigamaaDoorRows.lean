/-
  NARROWER THAN 'FOR EVERY INPUT', by the rows' own cells (each row's printed sentence says how): TalkSetups: laid · TalkOnce: laid · TalkLets: laid · TalkNil: laid.
  DERIVED. THE GIVEN ROWS OF THIS SEAT. 4 by the template 'for every input the law returns true; each argument reads behind the call as it read before'; 0 by the template 'total and deterministic' (their statements: YtokgpnkooigamaaDoorTotals.lean).
  GIVEN WITH THE SEED: the statements are not yours to turn. If you find one false, say at which input.
  Laid BY PROGRAM, IN A SANDBOX (cutbox-rows.mjs): the forced cells as the released guide's own fill.sh prints them over the translation 5b17987f649cc7a4… (all of the seat's roots in one cut). By AI agents, Wed Nov 11 2026. No macro, syntax, notation, axiom, sorry.
-/
import Derived.Test.YtokgpnkooigamaaDoorChecked
import GoSem.Claim
import GoSem.ClaimJoined
import GoSem.ClaimMapViews
import Derived.JoinedTies
import Derived.KernelRfl
namespace Go.Proofs.YtokgpnkooigamaaDoor
/- THE CELL 'sum', in the pinned program and in every row, IS THE sha256 OF THE DUMP (.gsa) THAT YtokgpnkooigamaaDoorProg.lean LOADS. Nothing in Lean hashes anything: it is a label: what it is worth is what the hold of that sum in a sandbox is worth. -/
noncomputable def Tryd.pinned : Pinned := { name := "ytokgpnkooigamaadoor", sum := "5b17987f649cc7a40aeca56db15c1f1d21ee565c29f111fe19afda86ef6474af", checked := Tryd.checked }
namespace Rows
def none {H : Type} : Left H := { results := [], args := [] }

/- WHAT THE LISTED PACKAGE-LEVEL VARIABLES READ AS WHEN THE CALL BEGINS. Each datum BY PROGRAM (the guide's laid-datum.mjs) off the statement by which the dump's own 'gosem.cut.vars' lays the variable. In a bare row this is a premise. The card (YtokgpnkooigamaaDoorCards.lean) ties it to the program's text. -/
def laid_colonnade_word_all {H : Type} : DataW H := .agg [.agg [.lit (.int .u64 3), .lit (.int .i64 191)], .agg [.lit (.int .u64 4), .lit (.int .i64 289)], .agg [.lit (.int .u64 5), .lit (.int .i64 1537)], .agg [.lit (.int .u64 6), .lit (.int .i64 5)], .agg [.lit (.int .u64 7), .lit (.int .i64 1)], .agg [.lit (.int .u64 8), .lit (.int .i64 1537)], .agg [.lit (.int .u64 9), .lit (.int .i64 4)], .agg [.lit (.int .u64 10), .lit (.int .i64 1)], .agg [.lit (.int .u64 11), .lit (.int .i64 1537)], .agg [.lit (.int .u64 16), .lit (.int .i64 0)], .agg [.lit (.int .u64 21), .lit (.int .i64 2048)], .agg [.lit (.int .u64 22), .lit (.int .i64 109)], .agg [.lit (.int .u64 23), .lit (.int .i64 1)], .agg [.lit (.int .u64 24), .lit (.int .i64 1)], .agg [.lit (.int .u64 25), .lit (.int .i64 1537)], .agg [.lit (.int .u64 32), .lit (.int .i64 10240)], .agg [.lit (.int .u64 33), .lit (.int .i64 6144)]]

/-- 'colonnadelaw17.TalkSetups': WHATEVER THE INPUT: true; the input reads as it did. -/
def talkSetupsSpec : ChangeSpec := { name := "talkSetups", fn := fun _ => fun
  | [d1, d2, d3, d4] => { results := [.lit (.bool true)], args := [d1, d2, d3, d4] }
  | _ => none }
def talkSetupsRow : OpenClaim := { program := "ytokgpnkooigamaadoor", sum := "5b17987f649cc7a40aeca56db15c1f1d21ee565c29f111fe19afda86ef6474af", func := "colonnade/colonnadelaw17.TalkSetups", spec := "talkSetups", inPlace := ["internal/bytealg.MakeNoZero"], unfollowed := true, recurses := true, named := ["colonnade/word.all"], apart := false, laid := [("colonnade/word.all", laid_colonnade_word_all)] }
def TalkSetupsSaid : Prop := talkSetupsRow.holds Tryd.pinned (OpenSpec.ofChange talkSetupsSpec)

/-- ITS FALSE NEIGHBOUR: 'it returns false'. Refute it at one input. -/
def talkSetupsWrong : ChangeSpec := { name := "talkSetups", fn := fun _ => fun
  | [d1, d2, d3, d4] => { results := [.lit (.bool false)], args := [d1, d2, d3, d4] }
  | _ => none }
def TalkSetupsWrongFalsely : Prop := talkSetupsRow.holds Tryd.pinned (OpenSpec.ofChange talkSetupsWrong)

/-- 'colonnadelaw17.TalkOnce': WHATEVER THE INPUT: true; the input reads as it did. -/
def talkOnceSpec : ChangeSpec := { name := "talkOnce", fn := fun _ => fun
  | [d1, d2, d3] => { results := [.lit (.bool true)], args := [d1, d2, d3] }
  | _ => none }
def talkOnceRow : OpenClaim := { program := "ytokgpnkooigamaadoor", sum := "5b17987f649cc7a40aeca56db15c1f1d21ee565c29f111fe19afda86ef6474af", func := "colonnade/colonnadelaw17.TalkOnce", spec := "talkOnce", inPlace := ["internal/bytealg.MakeNoZero"], unfollowed := true, recurses := true, named := ["colonnade/word.all"], apart := false, laid := [("colonnade/word.all", laid_colonnade_word_all)] }
def TalkOnceSaid : Prop := talkOnceRow.holds Tryd.pinned (OpenSpec.ofChange talkOnceSpec)

/-- ITS FALSE NEIGHBOUR: 'it returns false'. Refute it at one input. -/
def talkOnceWrong : ChangeSpec := { name := "talkOnce", fn := fun _ => fun
  | [d1, d2, d3] => { results := [.lit (.bool false)], args := [d1, d2, d3] }
  | _ => none }
def TalkOnceWrongFalsely : Prop := talkOnceRow.holds Tryd.pinned (OpenSpec.ofChange talkOnceWrong)

/-- 'colonnadelaw17.TalkLets': WHATEVER THE INPUT: true; the input reads as it did. -/
def talkLetsSpec : ChangeSpec := { name := "talkLets", fn := fun _ => fun
  | [d1, d2] => { results := [.lit (.bool true)], args := [d1, d2] }
  | _ => none }
def talkLetsRow : OpenClaim := { program := "ytokgpnkooigamaadoor", sum := "5b17987f649cc7a40aeca56db15c1f1d21ee565c29f111fe19afda86ef6474af", func := "colonnade/colonnadelaw17.TalkLets", spec := "talkLets", inPlace := ["internal/bytealg.MakeNoZero"], unfollowed := true, recurses := true, named := ["colonnade/word.all"], apart := false, laid := [("colonnade/word.all", laid_colonnade_word_all)] }
def TalkLetsSaid : Prop := talkLetsRow.holds Tryd.pinned (OpenSpec.ofChange talkLetsSpec)

/-- ITS FALSE NEIGHBOUR: 'it returns false'. Refute it at one input. -/
def talkLetsWrong : ChangeSpec := { name := "talkLets", fn := fun _ => fun
  | [d1, d2] => { results := [.lit (.bool false)], args := [d1, d2] }
  | _ => none }
def TalkLetsWrongFalsely : Prop := talkLetsRow.holds Tryd.pinned (OpenSpec.ofChange talkLetsWrong)

/-- 'colonnadelaw17.TalkNil': WHATEVER THE INPUT: true; the input reads as it did. -/
def talkNilSpec : ChangeSpec := { name := "talkNil", fn := fun _ => fun
  | [d1, d2] => { results := [.lit (.bool true)], args := [d1, d2] }
  | _ => none }
def talkNilRow : OpenClaim := { program := "ytokgpnkooigamaadoor", sum := "5b17987f649cc7a40aeca56db15c1f1d21ee565c29f111fe19afda86ef6474af", func := "colonnade/colonnadelaw17.TalkNil", spec := "talkNil", inPlace := ["internal/bytealg.MakeNoZero"], unfollowed := true, recurses := true, named := ["colonnade/word.all"], apart := false, laid := [("colonnade/word.all", laid_colonnade_word_all)] }
def TalkNilSaid : Prop := talkNilRow.holds Tryd.pinned (OpenSpec.ofChange talkNilSpec)

/-- ITS FALSE NEIGHBOUR: 'it returns false'. Refute it at one input. -/
def talkNilWrong : ChangeSpec := { name := "talkNil", fn := fun _ => fun
  | [d1, d2] => { results := [.lit (.bool false)], args := [d1, d2] }
  | _ => none }
def TalkNilWrongFalsely : Prop := talkNilRow.holds Tryd.pinned (OpenSpec.ofChange talkNilWrong)

/- THE SECOND FORM. 'bulk': how many values and letters a reading holds, each counted each time it is reached (what is shared counts as often as it is met; a slice's spare places count too). A statement '..UptoSaid' is the law's where the arguments, and the package variables that the reading takes, are together of bulk at most 1048576: NARROWER than '..Said'. Prove '..Said' where nothing that the law and all that it calls make is longer than what came in: it says more and counts as full. Else prove '..UptoSaid'. A law counts once. -/
mutual
def uptoBulk {H : Type} : DataW H → Nat
  | .lit (.string bytes) => bytes.length + 1
  | .lit _ => 1
  | .nil => 1
  | .ptr d => uptoBulk d + 1
  | .slice elems spare => uptoBulkAll elems + uptoBulkAll spare + 1
  | .agg parts => uptoBulkAll parts + 1
  | .iface _ d => uptoBulk d + 1
  | .map entries => uptoBulkEntries entries + 1
  | .held _ => 1
def uptoBulkAll {H : Type} : List (DataW H) → Nat
  | [] => 0
  | d :: r => uptoBulk d + uptoBulkAll r
def uptoBulkEntries {H : Type} : List (Lit × DataW H) → Nat
  | [] => 0
  | x :: r => uptoBulkEntry x + uptoBulkEntries r
def uptoBulkEntry {H : Type} : Lit × DataW H → Nat
  | (.string bytes, d) => bytes.length + uptoBulk d + 1
  | (_, d) => uptoBulk d + 1
 end
def uptoSmall : (H : Type) → List (DataW H) → Bool := fun _ ds => decide (uptoBulkAll ds ≤ 1048576)
def OpenSpec.upto (s : _root_.Go.ChangeSpec) : _root_.Go.OpenSpec := { _root_.Go.OpenSpec.ofChange s with cond := some uptoSmall }

/-- 'colonnadelaw17.TalkSetups', WHERE WHAT IT READS IS OF BULK AT MOST 1048576: true; the input reads as it did. -/
def talkSetupsUptoRow : OpenClaim := { program := "ytokgpnkooigamaadoor", sum := "5b17987f649cc7a40aeca56db15c1f1d21ee565c29f111fe19afda86ef6474af", func := "colonnade/colonnadelaw17.TalkSetups", spec := "talkSetups", inPlace := ["internal/bytealg.MakeNoZero"], unfollowed := true, recurses := true, named := ["colonnade/word.all"], apart := false, laid := [("colonnade/word.all", laid_colonnade_word_all)], narrowed := true }
def TalkSetupsUptoSaid : Prop := talkSetupsUptoRow.holds Tryd.pinned (OpenSpec.upto talkSetupsSpec)

/-- 'colonnadelaw17.TalkOnce', WHERE WHAT IT READS IS OF BULK AT MOST 1048576: true; the input reads as it did. -/
def talkOnceUptoRow : OpenClaim := { program := "ytokgpnkooigamaadoor", sum := "5b17987f649cc7a40aeca56db15c1f1d21ee565c29f111fe19afda86ef6474af", func := "colonnade/colonnadelaw17.TalkOnce", spec := "talkOnce", inPlace := ["internal/bytealg.MakeNoZero"], unfollowed := true, recurses := true, named := ["colonnade/word.all"], apart := false, laid := [("colonnade/word.all", laid_colonnade_word_all)], narrowed := true }
def TalkOnceUptoSaid : Prop := talkOnceUptoRow.holds Tryd.pinned (OpenSpec.upto talkOnceSpec)

/-- 'colonnadelaw17.TalkLets', WHERE WHAT IT READS IS OF BULK AT MOST 1048576: true; the input reads as it did. -/
def talkLetsUptoRow : OpenClaim := { program := "ytokgpnkooigamaadoor", sum := "5b17987f649cc7a40aeca56db15c1f1d21ee565c29f111fe19afda86ef6474af", func := "colonnade/colonnadelaw17.TalkLets", spec := "talkLets", inPlace := ["internal/bytealg.MakeNoZero"], unfollowed := true, recurses := true, named := ["colonnade/word.all"], apart := false, laid := [("colonnade/word.all", laid_colonnade_word_all)], narrowed := true }
def TalkLetsUptoSaid : Prop := talkLetsUptoRow.holds Tryd.pinned (OpenSpec.upto talkLetsSpec)

/-- 'colonnadelaw17.TalkNil', WHERE WHAT IT READS IS OF BULK AT MOST 1048576: true; the input reads as it did. -/
def talkNilUptoRow : OpenClaim := { program := "ytokgpnkooigamaadoor", sum := "5b17987f649cc7a40aeca56db15c1f1d21ee565c29f111fe19afda86ef6474af", func := "colonnade/colonnadelaw17.TalkNil", spec := "talkNil", inPlace := ["internal/bytealg.MakeNoZero"], unfollowed := true, recurses := true, named := ["colonnade/word.all"], apart := false, laid := [("colonnade/word.all", laid_colonnade_word_all)], narrowed := true }
def TalkNilUptoSaid : Prop := talkNilUptoRow.holds Tryd.pinned (OpenSpec.upto talkNilSpec)

end Rows
end Go.Proofs.YtokgpnkooigamaaDoor
