/-
  NARROWER THAN 'FOR EVERY INPUT', by the rows' own cells (each row's printed sentence says how): SegReads: laid · SegWrites: laid · SegCuts: laid · SegNames: laid.
  DERIVED. THE GIVEN ROWS OF THIS SEAT. 4 by the template 'for every input the law returns true; each argument reads behind the call as it read before'; 0 by the template 'total and deterministic' (their statements: YtfepinnfhcjopaaGreatDoorTotals.lean).
  GIVEN WITH THE SEED: the statements are not yours to turn. If you find one false, say at which input.
  Laid BY PROGRAM, IN A SANDBOX (cutbox-rows.mjs): the forced cells as the released guide's own fill.sh prints them over the translation 807a004725312571… (all of the seat's roots in one cut). By AI agents, Wed Nov 11 2026. No macro, syntax, notation, axiom, sorry.
-/
import Derived.Test.YtfepinnfhcjopaaGreatDoorChecked
import GoSem.Claim
import GoSem.ClaimJoined
import GoSem.ClaimMapViews
import Derived.JoinedTies
import Derived.KernelRfl
namespace Go.Proofs.YtfepinnfhcjopaaGreatDoor
/- THE CELL 'sum', in the pinned program and in every row, IS THE sha256 OF THE DUMP (.gsa) THAT YtfepinnfhcjopaaGreatDoorProg.lean LOADS. Nothing in Lean hashes anything: it is a label: what it is worth is what the hold of that sum in a sandbox is worth. -/
noncomputable def Tryz.pinned : Pinned := { name := "ytfepinnfhcjopaagreatdoor", sum := "807a0047253125710e7d72c7cc22bee75618b779daf96055ca9e8f3fc3f2c70c", checked := Tryz.checked }
namespace Rows
def none {H : Type} : Left H := { results := [], args := [] }

/- WHAT THE LISTED PACKAGE-LEVEL VARIABLES READ AS WHEN THE CALL BEGINS. Each datum BY PROGRAM (the guide's laid-datum.mjs) off the statement by which the dump's own 'gosem.cut.vars' lays the variable. In a bare row this is a premise. The card (YtfepinnfhcjopaaGreatDoorCards.lean) ties it to the program's text. -/
def laid_newsstand_crc_halves {H : Type} : DataW H := .agg [.lit (.int .u32 0), .lit (.int .u32 498536548), .lit (.int .u32 997073096), .lit (.int .u32 651767980), .lit (.int .u32 1994146192), .lit (.int .u32 1802195444), .lit (.int .u32 1303535960), .lit (.int .u32 1342533948), .lit (.int .u32 3988292384), .lit (.int .u32 4027552580), .lit (.int .u32 3604390888), .lit (.int .u32 3412177804), .lit (.int .u32 2607071920), .lit (.int .u32 2262029012), .lit (.int .u32 2685067896), .lit (.int .u32 3183342108)]
def laid_newsstand_event_names {H : Type} : DataW H := .agg [.lit (.string []), .lit (.string [102, 111, 108, 100, 101, 114]), .lit (.string [117, 110, 102, 111, 108, 100, 101, 114]), .lit (.string [102, 101, 101, 100]), .lit (.string [117, 110, 102, 101, 101, 100]), .lit (.string [116, 105, 116, 108, 101]), .lit (.string [109, 111, 118, 101]), .lit (.string [105, 116, 101, 109]), .lit (.string [114, 101, 97, 100]), .lit (.string [115, 116, 97, 114]), .lit (.string [116, 97, 103]), .lit (.string [115, 101, 97, 114, 99, 104]), .lit (.string [117, 110, 115, 101, 97, 114, 99, 104]), .lit (.string [99, 108, 111, 99, 107])]

/-- 'newsstandlaw18.SegReads': WHATEVER THE INPUT: true; the input reads as it did. -/
def segReadsSpec : ChangeSpec := { name := "segReads", fn := fun _ => fun
  | [d] => { results := [.lit (.bool true)], args := [d] }
  | _ => none }
def segReadsRow : OpenClaim := { program := "ytfepinnfhcjopaagreatdoor", sum := "807a0047253125710e7d72c7cc22bee75618b779daf96055ca9e8f3fc3f2c70c", func := "newsstand/newsstandlaw18.SegReads", spec := "segReads", inPlace := ["internal/abi.NoEscape"], unfollowed := true, recurses := true, named := ["newsstand/crc.halves", "newsstand/event.names"], apart := false, laid := [("newsstand/crc.halves", laid_newsstand_crc_halves), ("newsstand/event.names", laid_newsstand_event_names)] }
def SegReadsSaid : Prop := segReadsRow.holds Tryz.pinned (OpenSpec.ofChange segReadsSpec)

/-- ITS FALSE NEIGHBOUR: 'it returns false'. Refute it at one input. -/
def segReadsWrong : ChangeSpec := { name := "segReads", fn := fun _ => fun
  | [d] => { results := [.lit (.bool false)], args := [d] }
  | _ => none }
def SegReadsWrongFalsely : Prop := segReadsRow.holds Tryz.pinned (OpenSpec.ofChange segReadsWrong)

/-- 'newsstandlaw18.SegWrites': WHATEVER THE INPUT: true; the input reads as it did. -/
def segWritesSpec : ChangeSpec := { name := "segWrites", fn := fun _ => fun
  | [d] => { results := [.lit (.bool true)], args := [d] }
  | _ => none }
def segWritesRow : OpenClaim := { program := "ytfepinnfhcjopaagreatdoor", sum := "807a0047253125710e7d72c7cc22bee75618b779daf96055ca9e8f3fc3f2c70c", func := "newsstand/newsstandlaw18.SegWrites", spec := "segWrites", inPlace := ["internal/abi.NoEscape"], unfollowed := true, recurses := true, named := ["newsstand/crc.halves", "newsstand/event.names"], apart := false, laid := [("newsstand/crc.halves", laid_newsstand_crc_halves), ("newsstand/event.names", laid_newsstand_event_names)] }
def SegWritesSaid : Prop := segWritesRow.holds Tryz.pinned (OpenSpec.ofChange segWritesSpec)

/-- ITS FALSE NEIGHBOUR: 'it returns false'. Refute it at one input. -/
def segWritesWrong : ChangeSpec := { name := "segWrites", fn := fun _ => fun
  | [d] => { results := [.lit (.bool false)], args := [d] }
  | _ => none }
def SegWritesWrongFalsely : Prop := segWritesRow.holds Tryz.pinned (OpenSpec.ofChange segWritesWrong)

/-- 'newsstandlaw18.SegCuts': WHATEVER THE INPUT: true; the input reads as it did. -/
def segCutsSpec : ChangeSpec := { name := "segCuts", fn := fun _ => fun
  | [d1, d2] => { results := [.lit (.bool true)], args := [d1, d2] }
  | _ => none }
def segCutsRow : OpenClaim := { program := "ytfepinnfhcjopaagreatdoor", sum := "807a0047253125710e7d72c7cc22bee75618b779daf96055ca9e8f3fc3f2c70c", func := "newsstand/newsstandlaw18.SegCuts", spec := "segCuts", inPlace := ["internal/abi.NoEscape"], unfollowed := true, recurses := true, named := ["newsstand/crc.halves", "newsstand/event.names"], apart := false, laid := [("newsstand/crc.halves", laid_newsstand_crc_halves), ("newsstand/event.names", laid_newsstand_event_names)] }
def SegCutsSaid : Prop := segCutsRow.holds Tryz.pinned (OpenSpec.ofChange segCutsSpec)

/-- ITS FALSE NEIGHBOUR: 'it returns false'. Refute it at one input. -/
def segCutsWrong : ChangeSpec := { name := "segCuts", fn := fun _ => fun
  | [d1, d2] => { results := [.lit (.bool false)], args := [d1, d2] }
  | _ => none }
def SegCutsWrongFalsely : Prop := segCutsRow.holds Tryz.pinned (OpenSpec.ofChange segCutsWrong)

/-- 'newsstandlaw18.SegNames': WHATEVER THE INPUT: true; the input reads as it did. -/
def segNamesSpec : ChangeSpec := { name := "segNames", fn := fun _ => fun
  | [d1, d2, d3] => { results := [.lit (.bool true)], args := [d1, d2, d3] }
  | _ => none }
def segNamesRow : OpenClaim := { program := "ytfepinnfhcjopaagreatdoor", sum := "807a0047253125710e7d72c7cc22bee75618b779daf96055ca9e8f3fc3f2c70c", func := "newsstand/newsstandlaw18.SegNames", spec := "segNames", inPlace := ["internal/abi.NoEscape"], unfollowed := true, recurses := true, named := ["newsstand/crc.halves", "newsstand/event.names"], apart := false, laid := [("newsstand/crc.halves", laid_newsstand_crc_halves), ("newsstand/event.names", laid_newsstand_event_names)] }
def SegNamesSaid : Prop := segNamesRow.holds Tryz.pinned (OpenSpec.ofChange segNamesSpec)

/-- ITS FALSE NEIGHBOUR: 'it returns false'. Refute it at one input. -/
def segNamesWrong : ChangeSpec := { name := "segNames", fn := fun _ => fun
  | [d1, d2, d3] => { results := [.lit (.bool false)], args := [d1, d2, d3] }
  | _ => none }
def SegNamesWrongFalsely : Prop := segNamesRow.holds Tryz.pinned (OpenSpec.ofChange segNamesWrong)

/- THE SECOND FORM. 'bulk': how many values and letters a reading holds, each counted each time it is reached (what is shared counts as often as it is met; a slice's spare places count too). A statement '..UptoSaid' is the law's where the arguments, and the package variables that the reading takes, are together of bulk at most 1048576: NARROWER than '..Said'. Prove '..Said' where nothing that the law and all that it calls make is longer than what came in: it says more and counts as full. Else prove '..UptoSaid'. A law counts once. -/
mutual
def uptoBulk {H : Type} : DataW H → Nat
  | .lit (.string bytes) => bytes.length + 1
  | .lit _ => 1
  | .nil => 1
  | .ptr d => uptoBulk d + 1
  | .slice elems spare => uptoBulkAll elems + uptoBulkAll spare + 1
  | .agg parts => uptoBulkAll parts + 1
  | .iface _ d => uptoBulk d + 1
  | .map entries => uptoBulkEntries entries + 1
  | .held _ => 1
def uptoBulkAll {H : Type} : List (DataW H) → Nat
  | [] => 0
  | d :: r => uptoBulk d + uptoBulkAll r
def uptoBulkEntries {H : Type} : List (Lit × DataW H) → Nat
  | [] => 0
  | x :: r => uptoBulkEntry x + uptoBulkEntries r
def uptoBulkEntry {H : Type} : Lit × DataW H → Nat
  | (.string bytes, d) => bytes.length + uptoBulk d + 1
  | (_, d) => uptoBulk d + 1
 end
def uptoSmall : (H : Type) → List (DataW H) → Bool := fun _ ds => decide (uptoBulkAll ds ≤ 1048576)
def OpenSpec.upto (s : _root_.Go.ChangeSpec) : _root_.Go.OpenSpec := { _root_.Go.OpenSpec.ofChange s with cond := some uptoSmall }

/-- 'newsstandlaw18.SegReads', WHERE WHAT IT READS IS OF BULK AT MOST 1048576: true; the input reads as it did. -/
def segReadsUptoRow : OpenClaim := { program := "ytfepinnfhcjopaagreatdoor", sum := "807a0047253125710e7d72c7cc22bee75618b779daf96055ca9e8f3fc3f2c70c", func := "newsstand/newsstandlaw18.SegReads", spec := "segReads", inPlace := ["internal/abi.NoEscape"], unfollowed := true, recurses := true, named := ["newsstand/crc.halves", "newsstand/event.names"], apart := false, laid := [("newsstand/crc.halves", laid_newsstand_crc_halves), ("newsstand/event.names", laid_newsstand_event_names)], narrowed := true }
def SegReadsUptoSaid : Prop := segReadsUptoRow.holds Tryz.pinned (OpenSpec.upto segReadsSpec)

/-- 'newsstandlaw18.SegWrites', WHERE WHAT IT READS IS OF BULK AT MOST 1048576: true; the input reads as it did. -/
def segWritesUptoRow : OpenClaim := { program := "ytfepinnfhcjopaagreatdoor", sum := "807a0047253125710e7d72c7cc22bee75618b779daf96055ca9e8f3fc3f2c70c", func := "newsstand/newsstandlaw18.SegWrites", spec := "segWrites", inPlace := ["internal/abi.NoEscape"], unfollowed := true, recurses := true, named := ["newsstand/crc.halves", "newsstand/event.names"], apart := false, laid := [("newsstand/crc.halves", laid_newsstand_crc_halves), ("newsstand/event.names", laid_newsstand_event_names)], narrowed := true }
def SegWritesUptoSaid : Prop := segWritesUptoRow.holds Tryz.pinned (OpenSpec.upto segWritesSpec)

/-- 'newsstandlaw18.SegCuts', WHERE WHAT IT READS IS OF BULK AT MOST 1048576: true; the input reads as it did. -/
def segCutsUptoRow : OpenClaim := { program := "ytfepinnfhcjopaagreatdoor", sum := "807a0047253125710e7d72c7cc22bee75618b779daf96055ca9e8f3fc3f2c70c", func := "newsstand/newsstandlaw18.SegCuts", spec := "segCuts", inPlace := ["internal/abi.NoEscape"], unfollowed := true, recurses := true, named := ["newsstand/crc.halves", "newsstand/event.names"], apart := false, laid := [("newsstand/crc.halves", laid_newsstand_crc_halves), ("newsstand/event.names", laid_newsstand_event_names)], narrowed := true }
def SegCutsUptoSaid : Prop := segCutsUptoRow.holds Tryz.pinned (OpenSpec.upto segCutsSpec)

/-- 'newsstandlaw18.SegNames', WHERE WHAT IT READS IS OF BULK AT MOST 1048576: true; the input reads as it did. -/
def segNamesUptoRow : OpenClaim := { program := "ytfepinnfhcjopaagreatdoor", sum := "807a0047253125710e7d72c7cc22bee75618b779daf96055ca9e8f3fc3f2c70c", func := "newsstand/newsstandlaw18.SegNames", spec := "segNames", inPlace := ["internal/abi.NoEscape"], unfollowed := true, recurses := true, named := ["newsstand/crc.halves", "newsstand/event.names"], apart := false, laid := [("newsstand/crc.halves", laid_newsstand_crc_halves), ("newsstand/event.names", laid_newsstand_event_names)], narrowed := true }
def SegNamesUptoSaid : Prop := segNamesUptoRow.holds Tryz.pinned (OpenSpec.upto segNamesSpec)

end Rows
end Go.Proofs.YtfepinnfhcjopaaGreatDoor
