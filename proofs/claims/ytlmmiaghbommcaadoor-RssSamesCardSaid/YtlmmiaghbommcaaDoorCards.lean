/-
  DERIVED. GIVEN WITH THE SEED: THE CARDS: each row of YtlmmiaghbommcaaDoorRows.lean that lists a variable, with what it lists TIED to the program's text (the seventh form; the later family's looks); each row that meets fmt, with fmt's text TOLD by the authors' own Lean function (tested against real Go, not proved from fmt's source: count such statements apart). THE CARD IS WHAT COUNTS. Prove the row's statement (the work); the ties are given (YtlmmiaghbommcaaDoorTie.lean); close each card by the builder's one call (the guide's Derived/Test/ToyasCard.lean, 'card_holds'). Laid BY PROGRAM, IN A SANDBOX (cutbox-door.mjs). By AI agents, Wed Nov 11 2026. No macro, syntax, notation, axiom, sorry.
-/
import Derived.Test.YtlmmiaghbommcaaDoorRows
import GoSem.ClaimSeven
namespace Go.Proofs.YtlmmiaghbommcaaDoor
namespace Rows

/-- THE TIED CARD OF 'newsstandlaw10.RssSames'. -/
def rssSamesCard : Claim7 := { stood := { row := rssSamesRow, standIns := [], harness := (true, "4ca82f5b248c750105b2557ac345b764a2f81203b9abb421bde357fbb7407fd1"), looks := false }, kinds := [], alts := [], laidByText := true, laidKinds := [.data, .pinned], laidTests := true, laidLooks := .later }
def RssSamesCardSaid : Prop := Claim7.holds Tryd.pinned (.plain (OpenSpec.ofChange rssSamesSpec)) rssSamesCard

/-- THE SECOND FORM's CARD OF 'newsstandlaw10.RssSames'. -/
def rssSamesUptoCard : Claim7 := { stood := { row := rssSamesUptoRow, standIns := [], harness := (true, "4ca82f5b248c750105b2557ac345b764a2f81203b9abb421bde357fbb7407fd1"), looks := false }, kinds := [], alts := [], laidByText := true, laidKinds := [.data, .pinned], laidTests := true, laidLooks := .later }
def RssSamesUptoCardSaid : Prop := Claim7.holds Tryd.pinned (.plain (OpenSpec.upto rssSamesSpec)) rssSamesUptoCard
end Rows
end Go.Proofs.YtlmmiaghbommcaaDoor
