/-
  DERIVED. GIVEN WITH THE SEED: THE CARDS: each row of YtfepinnfhcjopaaGreatDoorRows.lean that lists a variable, with what it lists TIED to the program's text (the seventh form; the later family's looks); each row that meets fmt, with fmt's text TOLD by the authors' own Lean function (tested against real Go, not proved from fmt's source: count such statements apart). THE CARD IS WHAT COUNTS. Prove the row's statement (the work); the ties are given (YtfepinnfhcjopaaGreatDoorTie.lean); close each card by the builder's one call (the guide's Derived/Test/ToyasCard.lean, 'card_holds'). Laid BY PROGRAM, IN A SANDBOX (cutbox-door.mjs). By AI agents, Wed Nov 11 2026. No macro, syntax, notation, axiom, sorry.
-/
import Derived.Test.YtfepinnfhcjopaaGreatDoorRows
import GoSem.ClaimSeven
namespace Go.Proofs.YtfepinnfhcjopaaGreatDoor
namespace Rows

/-- THE TIED CARD OF 'newsstandlaw18.SegReads'. -/
def segReadsCard : Claim7 := { stood := { row := segReadsRow, standIns := [], harness := (true, "f4e26bf15951a58c7b56990241ac9ed2f6494604e8eb884070112df121790be9"), looks := true }, kinds := [], alts := [], laidByText := true, laidKinds := [.data, .data], laidTests := true, laidLooks := .later }
def SegReadsCardSaid : Prop := Claim7.holds Tryz.pinned (.plain (OpenSpec.ofChange segReadsSpec)) segReadsCard

/-- THE TIED CARD OF 'newsstandlaw18.SegWrites'. -/
def segWritesCard : Claim7 := { stood := { row := segWritesRow, standIns := [], harness := (true, "f4e26bf15951a58c7b56990241ac9ed2f6494604e8eb884070112df121790be9"), looks := true }, kinds := [], alts := [], laidByText := true, laidKinds := [.data, .data], laidTests := true, laidLooks := .later }
def SegWritesCardSaid : Prop := Claim7.holds Tryz.pinned (.plain (OpenSpec.ofChange segWritesSpec)) segWritesCard

/-- THE TIED CARD OF 'newsstandlaw18.SegCuts'. -/
def segCutsCard : Claim7 := { stood := { row := segCutsRow, standIns := [], harness := (true, "f4e26bf15951a58c7b56990241ac9ed2f6494604e8eb884070112df121790be9"), looks := true }, kinds := [], alts := [], laidByText := true, laidKinds := [.data, .data], laidTests := true, laidLooks := .later }
def SegCutsCardSaid : Prop := Claim7.holds Tryz.pinned (.plain (OpenSpec.ofChange segCutsSpec)) segCutsCard

/-- THE TIED CARD OF 'newsstandlaw18.SegNames'. -/
def segNamesCard : Claim7 := { stood := { row := segNamesRow, standIns := [], harness := (true, "f4e26bf15951a58c7b56990241ac9ed2f6494604e8eb884070112df121790be9"), looks := true }, kinds := [], alts := [], laidByText := true, laidKinds := [.data, .data], laidTests := true, laidLooks := .later }
def SegNamesCardSaid : Prop := Claim7.holds Tryz.pinned (.plain (OpenSpec.ofChange segNamesSpec)) segNamesCard

/-- THE SECOND FORM's CARD OF 'newsstandlaw18.SegReads'. -/
def segReadsUptoCard : Claim7 := { stood := { row := segReadsUptoRow, standIns := [], harness := (true, "f4e26bf15951a58c7b56990241ac9ed2f6494604e8eb884070112df121790be9"), looks := true }, kinds := [], alts := [], laidByText := true, laidKinds := [.data, .data], laidTests := true, laidLooks := .later }
def SegReadsUptoCardSaid : Prop := Claim7.holds Tryz.pinned (.plain (OpenSpec.upto segReadsSpec)) segReadsUptoCard

/-- THE SECOND FORM's CARD OF 'newsstandlaw18.SegWrites'. -/
def segWritesUptoCard : Claim7 := { stood := { row := segWritesUptoRow, standIns := [], harness := (true, "f4e26bf15951a58c7b56990241ac9ed2f6494604e8eb884070112df121790be9"), looks := true }, kinds := [], alts := [], laidByText := true, laidKinds := [.data, .data], laidTests := true, laidLooks := .later }
def SegWritesUptoCardSaid : Prop := Claim7.holds Tryz.pinned (.plain (OpenSpec.upto segWritesSpec)) segWritesUptoCard

/-- THE SECOND FORM's CARD OF 'newsstandlaw18.SegCuts'. -/
def segCutsUptoCard : Claim7 := { stood := { row := segCutsUptoRow, standIns := [], harness := (true, "f4e26bf15951a58c7b56990241ac9ed2f6494604e8eb884070112df121790be9"), looks := true }, kinds := [], alts := [], laidByText := true, laidKinds := [.data, .data], laidTests := true, laidLooks := .later }
def SegCutsUptoCardSaid : Prop := Claim7.holds Tryz.pinned (.plain (OpenSpec.upto segCutsSpec)) segCutsUptoCard

/-- THE SECOND FORM's CARD OF 'newsstandlaw18.SegNames'. -/
def segNamesUptoCard : Claim7 := { stood := { row := segNamesUptoRow, standIns := [], harness := (true, "f4e26bf15951a58c7b56990241ac9ed2f6494604e8eb884070112df121790be9"), looks := true }, kinds := [], alts := [], laidByText := true, laidKinds := [.data, .data], laidTests := true, laidLooks := .later }
def SegNamesUptoCardSaid : Prop := Claim7.holds Tryz.pinned (.plain (OpenSpec.upto segNamesSpec)) segNamesUptoCard
end Rows
end Go.Proofs.YtfepinnfhcjopaaGreatDoor
