/-
  DERIVED. GIVEN WITH THE SEED: THE CARDS: each row of YtjmmgekildlckaaGreatDoorRows.lean that lists a variable, with what it lists TIED to the program's text (the seventh form; the later family's looks); each row that meets fmt, with fmt's text TOLD by the authors' own Lean function (tested against real Go, not proved from fmt's source: count such statements apart). THE CARD IS WHAT COUNTS. Prove the row's statement (the work); the ties are given (YtjmmgekildlckaaGreatDoorTie.lean); close each card by the builder's one call (the guide's Derived/Test/ToyasCard.lean, 'card_holds'). Laid BY PROGRAM, IN A SANDBOX (cutbox-door.mjs). By AI agents, Wed Nov 11 2026. No macro, syntax, notation, axiom, sorry.
-/
import Derived.Test.YtjmmgekildlckaaGreatDoorRows
import GoSem.ClaimSeven
namespace Go.Proofs.YtjmmgekildlckaaGreatDoor
namespace Rows

/-- THE TIED CARD OF 'newsstandlaw11.AtomReads'. -/
def atomReadsCard : Claim7 := { stood := { row := atomReadsRow, standIns := [], harness := (true, "881b12c2d81c3a0b0d301afdce528671c1dbe7c4b127499568b7949952538477"), looks := false }, kinds := [], alts := [], laidByText := true, laidKinds := [.data, .pinned], laidTests := true, laidLooks := .later }
def AtomReadsCardSaid : Prop := Claim7.holds Tryz.pinned (.plain (OpenSpec.ofChange atomReadsSpec)) atomReadsCard

/-- THE SECOND FORM's CARD OF 'newsstandlaw11.AtomReads'. -/
def atomReadsUptoCard : Claim7 := { stood := { row := atomReadsUptoRow, standIns := [], harness := (true, "881b12c2d81c3a0b0d301afdce528671c1dbe7c4b127499568b7949952538477"), looks := false }, kinds := [], alts := [], laidByText := true, laidKinds := [.data, .pinned], laidTests := true, laidLooks := .later }
def AtomReadsUptoCardSaid : Prop := Claim7.holds Tryz.pinned (.plain (OpenSpec.upto atomReadsSpec)) atomReadsUptoCard
end Rows
end Go.Proofs.YtjmmgekildlckaaGreatDoor
