/-
  DERIVED. GIVEN WITH THE SEED: THE CARDS: each row of YtedliepfaibefaaDoorRows.lean that lists a variable, with what it lists TIED to the program's text (the seventh form; the later family's looks); each row that meets fmt, with fmt's text TOLD by the authors' own Lean function (tested against real Go, not proved from fmt's source: count such statements apart). THE CARD IS WHAT COUNTS. Prove the row's statement (the work); the ties are given (YtedliepfaibefaaDoorTie.lean); close each card by the builder's one call (the guide's Derived/Test/ToyasCard.lean, 'card_holds'). Laid BY PROGRAM, IN A SANDBOX (cutbox-door.mjs). By AI agents, Wed Nov 11 2026. No macro, syntax, notation, axiom, sorry.
-/
import Derived.Test.YtedliepfaibefaaDoorRows
import GoSem.ClaimSeven
namespace Go.Proofs.YtedliepfaibefaaDoor
namespace Rows

/-- THE TIED CARD OF 'newsstandlaw16.OldPuts'. -/
def oldPutsCard : Claim7 := { stood := { row := oldPutsRow, standIns := [], harness := (true, "d1c813ee500d84f31345ed7de0466f5663db4a1b70fdc063e71dd76ab83bc4c4"), looks := true }, kinds := [], alts := [], laidByText := true, laidKinds := [.data], laidTests := true, laidLooks := .later }
def OldPutsCardSaid : Prop := Claim7.holds Tryd.pinned (.plain (OpenSpec.ofChange oldPutsSpec)) oldPutsCard

/-- THE SECOND FORM's CARD OF 'newsstandlaw16.OldPuts'. -/
def oldPutsUptoCard : Claim7 := { stood := { row := oldPutsUptoRow, standIns := [], harness := (true, "d1c813ee500d84f31345ed7de0466f5663db4a1b70fdc063e71dd76ab83bc4c4"), looks := true }, kinds := [], alts := [], laidByText := true, laidKinds := [.data], laidTests := true, laidLooks := .later }
def OldPutsUptoCardSaid : Prop := Claim7.holds Tryd.pinned (.plain (OpenSpec.upto oldPutsSpec)) oldPutsUptoCard
end Rows
end Go.Proofs.YtedliepfaibefaaDoor
