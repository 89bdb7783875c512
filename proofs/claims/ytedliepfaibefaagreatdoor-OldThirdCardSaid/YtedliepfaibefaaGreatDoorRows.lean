/-
  NARROWER THAN 'FOR EVERY INPUT', by the rows' own cells (each row's printed sentence says how): OldGets: laid · OldLifts: laid · OldThird: laid.
  DERIVED. THE GIVEN ROWS OF THIS SEAT. 3 by the template 'for every input the law returns true; each argument reads behind the call as it read before'; 0 by the template 'total and deterministic' (their statements: YtedliepfaibefaaGreatDoorTotals.lean).
  GIVEN WITH THE SEED: the statements are not yours to turn. If you find one false, say at which input.
  Laid BY PROGRAM, IN A SANDBOX (cutbox-rows.mjs): the forced cells as the released guide's own fill.sh prints them over the translation 8a8909ea7a571ab9… (all of the seat's roots in one cut). By AI agents, Wed Nov 11 2026. No macro, syntax, notation, axiom, sorry.
-/
import Derived.Test.YtedliepfaibefaaGreatDoorChecked
import GoSem.Claim
import GoSem.ClaimJoined
import GoSem.ClaimMapViews
import Derived.JoinedTies
import Derived.KernelRfl
namespace Go.Proofs.YtedliepfaibefaaGreatDoor
/- THE CELL 'sum', in the pinned program and in every row, IS THE sha256 OF THE DUMP (.gsa) THAT YtedliepfaibefaaGreatDoorProg.lean LOADS. Nothing in Lean hashes anything: it is a label: what it is worth is what the hold of that sum in a sandbox is worth. -/
noncomputable def Tryz.pinned : Pinned := { name := "ytedliepfaibefaagreatdoor", sum := "8a8909ea7a571ab9e7fdfa9c839738d8ff832b65c10a42ce72d9748e90780490", checked := Tryz.checked }
namespace Rows
def none {H : Type} : Left H := { results := [], args := [] }

/- WHAT THE LISTED PACKAGE-LEVEL VARIABLES READ AS WHEN THE CALL BEGINS. Each datum BY PROGRAM (the guide's laid-datum.mjs) off the statement by which the dump's own 'gosem.cut.vars' lays the variable. In a bare row this is a premise. The card (YtedliepfaibefaaGreatDoorCards.lean) ties it to the program's text. -/
def laid_newsstand_event_names {H : Type} : DataW H := .agg [.lit (.string []), .lit (.string [102, 111, 108, 100, 101, 114]), .lit (.string [117, 110, 102, 111, 108, 100, 101, 114]), .lit (.string [102, 101, 101, 100]), .lit (.string [117, 110, 102, 101, 101, 100]), .lit (.string [116, 105, 116, 108, 101]), .lit (.string [109, 111, 118, 101]), .lit (.string [105, 116, 101, 109]), .lit (.string [114, 101, 97, 100]), .lit (.string [115, 116, 97, 114]), .lit (.string [116, 97, 103]), .lit (.string [115, 101, 97, 114, 99, 104]), .lit (.string [117, 110, 115, 101, 97, 114, 99, 104]), .lit (.string [99, 108, 111, 99, 107])]

/-- 'newsstandlaw16.OldGets': WHATEVER THE INPUT: true; the input reads as it did. -/
def oldGetsSpec : ChangeSpec := { name := "oldGets", fn := fun _ => fun
  | [d] => { results := [.lit (.bool true)], args := [d] }
  | _ => none }
def oldGetsRow : OpenClaim := { program := "ytedliepfaibefaagreatdoor", sum := "8a8909ea7a571ab9e7fdfa9c839738d8ff832b65c10a42ce72d9748e90780490", func := "newsstand/newsstandlaw16.OldGets", spec := "oldGets", inPlace := ["internal/abi.NoEscape"], unfollowed := true, recurses := true, named := ["newsstand/event.names"], apart := false, laid := [("newsstand/event.names", laid_newsstand_event_names)] }
def OldGetsSaid : Prop := oldGetsRow.holds Tryz.pinned (OpenSpec.ofChange oldGetsSpec)

/-- ITS FALSE NEIGHBOUR: 'it returns false'. Refute it at one input. -/
def oldGetsWrong : ChangeSpec := { name := "oldGets", fn := fun _ => fun
  | [d] => { results := [.lit (.bool false)], args := [d] }
  | _ => none }
def OldGetsWrongFalsely : Prop := oldGetsRow.holds Tryz.pinned (OpenSpec.ofChange oldGetsWrong)

/-- 'newsstandlaw16.OldLifts': WHATEVER THE INPUT: true; the input reads as it did. -/
def oldLiftsSpec : ChangeSpec := { name := "oldLifts", fn := fun _ => fun
  | [d] => { results := [.lit (.bool true)], args := [d] }
  | _ => none }
def oldLiftsRow : OpenClaim := { program := "ytedliepfaibefaagreatdoor", sum := "8a8909ea7a571ab9e7fdfa9c839738d8ff832b65c10a42ce72d9748e90780490", func := "newsstand/newsstandlaw16.OldLifts", spec := "oldLifts", inPlace := ["internal/abi.NoEscape"], unfollowed := true, recurses := true, named := ["newsstand/event.names"], apart := false, laid := [("newsstand/event.names", laid_newsstand_event_names)] }
def OldLiftsSaid : Prop := oldLiftsRow.holds Tryz.pinned (OpenSpec.ofChange oldLiftsSpec)

/-- ITS FALSE NEIGHBOUR: 'it returns false'. Refute it at one input. -/
def oldLiftsWrong : ChangeSpec := { name := "oldLifts", fn := fun _ => fun
  | [d] => { results := [.lit (.bool false)], args := [d] }
  | _ => none }
def OldLiftsWrongFalsely : Prop := oldLiftsRow.holds Tryz.pinned (OpenSpec.ofChange oldLiftsWrong)

/-- 'newsstandlaw16.OldThird': WHATEVER THE INPUT: true; the input reads as it did. -/
def oldThirdSpec : ChangeSpec := { name := "oldThird", fn := fun _ => fun
  | [d] => { results := [.lit (.bool true)], args := [d] }
  | _ => none }
def oldThirdRow : OpenClaim := { program := "ytedliepfaibefaagreatdoor", sum := "8a8909ea7a571ab9e7fdfa9c839738d8ff832b65c10a42ce72d9748e90780490", func := "newsstand/newsstandlaw16.OldThird", spec := "oldThird", inPlace := ["internal/abi.NoEscape"], unfollowed := true, recurses := true, named := ["newsstand/event.names"], apart := false, laid := [("newsstand/event.names", laid_newsstand_event_names)] }
def OldThirdSaid : Prop := oldThirdRow.holds Tryz.pinned (OpenSpec.ofChange oldThirdSpec)

/-- ITS FALSE NEIGHBOUR: 'it returns false'. Refute it at one input. -/
def oldThirdWrong : ChangeSpec := { name := "oldThird", fn := fun _ => fun
  | [d] => { results := [.lit (.bool false)], args := [d] }
  | _ => none }
def OldThirdWrongFalsely : Prop := oldThirdRow.holds Tryz.pinned (OpenSpec.ofChange oldThirdWrong)

/- THE SECOND FORM. 'bulk': how many values and letters a reading holds, each counted each time it is reached (what is shared counts as often as it is met; a slice's spare places count too). A statement '..UptoSaid' is the law's where the arguments, and the package variables that the reading takes, are together of bulk at most 1048576: NARROWER than '..Said'. Prove '..Said' where nothing that the law and all that it calls make is longer than what came in: it says more and counts as full. Else prove '..UptoSaid'. A law counts once. -/
mutual
def uptoBulk {H : Type} : DataW H → Nat
  | .lit (.string bytes) => bytes.length + 1
  | .lit _ => 1
  | .nil => 1
  | .ptr d => uptoBulk d + 1
  | .slice elems spare => uptoBulkAll elems + uptoBulkAll spare + 1
  | .agg parts => uptoBulkAll parts + 1
  | .iface _ d => uptoBulk d + 1
  | .map entries => uptoBulkEntries entries + 1
  | .held _ => 1
def uptoBulkAll {H : Type} : List (DataW H) → Nat
  | [] => 0
  | d :: r => uptoBulk d + uptoBulkAll r
def uptoBulkEntries {H : Type} : List (Lit × DataW H) → Nat
  | [] => 0
  | x :: r => uptoBulkEntry x + uptoBulkEntries r
def uptoBulkEntry {H : Type} : Lit × DataW H → Nat
  | (.string bytes, d) => bytes.length + uptoBulk d + 1
  | (_, d) => uptoBulk d + 1
 end
def uptoSmall : (H : Type) → List (DataW H) → Bool := fun _ ds => decide (uptoBulkAll ds ≤ 1048576)
def OpenSpec.upto (s : _root_.Go.ChangeSpec) : _root_.Go.OpenSpec := { _root_.Go.OpenSpec.ofChange s with cond := some uptoSmall }

/-- 'newsstandlaw16.OldGets', WHERE WHAT IT READS IS OF BULK AT MOST 1048576: true; the input reads as it did. -/
def oldGetsUptoRow : OpenClaim := { program := "ytedliepfaibefaagreatdoor", sum := "8a8909ea7a571ab9e7fdfa9c839738d8ff832b65c10a42ce72d9748e90780490", func := "newsstand/newsstandlaw16.OldGets", spec := "oldGets", inPlace := ["internal/abi.NoEscape"], unfollowed := true, recurses := true, named := ["newsstand/event.names"], apart := false, laid := [("newsstand/event.names", laid_newsstand_event_names)], narrowed := true }
def OldGetsUptoSaid : Prop := oldGetsUptoRow.holds Tryz.pinned (OpenSpec.upto oldGetsSpec)

/-- 'newsstandlaw16.OldLifts', WHERE WHAT IT READS IS OF BULK AT MOST 1048576: true; the input reads as it did. -/
def oldLiftsUptoRow : OpenClaim := { program := "ytedliepfaibefaagreatdoor", sum := "8a8909ea7a571ab9e7fdfa9c839738d8ff832b65c10a42ce72d9748e90780490", func := "newsstand/newsstandlaw16.OldLifts", spec := "oldLifts", inPlace := ["internal/abi.NoEscape"], unfollowed := true, recurses := true, named := ["newsstand/event.names"], apart := false, laid := [("newsstand/event.names", laid_newsstand_event_names)], narrowed := true }
def OldLiftsUptoSaid : Prop := oldLiftsUptoRow.holds Tryz.pinned (OpenSpec.upto oldLiftsSpec)

/-- 'newsstandlaw16.OldThird', WHERE WHAT IT READS IS OF BULK AT MOST 1048576: true; the input reads as it did. -/
def oldThirdUptoRow : OpenClaim := { program := "ytedliepfaibefaagreatdoor", sum := "8a8909ea7a571ab9e7fdfa9c839738d8ff832b65c10a42ce72d9748e90780490", func := "newsstand/newsstandlaw16.OldThird", spec := "oldThird", inPlace := ["internal/abi.NoEscape"], unfollowed := true, recurses := true, named := ["newsstand/event.names"], apart := false, laid := [("newsstand/event.names", laid_newsstand_event_names)], narrowed := true }
def OldThirdUptoSaid : Prop := oldThirdUptoRow.holds Tryz.pinned (OpenSpec.upto oldThirdSpec)

end Rows
end Go.Proofs.YtedliepfaibefaaGreatDoor
