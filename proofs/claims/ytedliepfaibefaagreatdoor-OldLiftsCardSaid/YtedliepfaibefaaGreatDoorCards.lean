/-
  DERIVED. GIVEN WITH THE SEED: THE CARDS: each row of YtedliepfaibefaaGreatDoorRows.lean that lists a variable, with what it lists TIED to the program's text (the seventh form; the later family's looks); each row that meets fmt, with fmt's text TOLD by the authors' own Lean function (tested against real Go, not proved from fmt's source: count such statements apart). THE CARD IS WHAT COUNTS. Prove the row's statement (the work); the ties are given (YtedliepfaibefaaGreatDoorTie.lean); close each card by the builder's one call (the guide's Derived/Test/ToyasCard.lean, 'card_holds'). Laid BY PROGRAM, IN A SANDBOX (cutbox-door.mjs). By AI agents, Wed Nov 11 2026. No macro, syntax, notation, axiom, sorry.
-/
import Derived.Test.YtedliepfaibefaaGreatDoorRows
import GoSem.ClaimSeven
namespace Go.Proofs.YtedliepfaibefaaGreatDoor
namespace Rows

/-- THE TIED CARD OF 'newsstandlaw16.OldGets'. -/
def oldGetsCard : Claim7 := { stood := { row := oldGetsRow, standIns := [], harness := (true, "1f176054f70676d93272f881bce61d6b8faf75d868d8ca961c17ac1495374c94"), looks := true }, kinds := [], alts := [], laidByText := true, laidKinds := [.data], laidTests := true, laidLooks := .later }
def OldGetsCardSaid : Prop := Claim7.holds Tryz.pinned (.plain (OpenSpec.ofChange oldGetsSpec)) oldGetsCard

/-- THE TIED CARD OF 'newsstandlaw16.OldLifts'. -/
def oldLiftsCard : Claim7 := { stood := { row := oldLiftsRow, standIns := [], harness := (true, "1f176054f70676d93272f881bce61d6b8faf75d868d8ca961c17ac1495374c94"), looks := true }, kinds := [], alts := [], laidByText := true, laidKinds := [.data], laidTests := true, laidLooks := .later }
def OldLiftsCardSaid : Prop := Claim7.holds Tryz.pinned (.plain (OpenSpec.ofChange oldLiftsSpec)) oldLiftsCard

/-- THE TIED CARD OF 'newsstandlaw16.OldThird'. -/
def oldThirdCard : Claim7 := { stood := { row := oldThirdRow, standIns := [], harness := (true, "1f176054f70676d93272f881bce61d6b8faf75d868d8ca961c17ac1495374c94"), looks := true }, kinds := [], alts := [], laidByText := true, laidKinds := [.data], laidTests := true, laidLooks := .later }
def OldThirdCardSaid : Prop := Claim7.holds Tryz.pinned (.plain (OpenSpec.ofChange oldThirdSpec)) oldThirdCard

/-- THE SECOND FORM's CARD OF 'newsstandlaw16.OldGets'. -/
def oldGetsUptoCard : Claim7 := { stood := { row := oldGetsUptoRow, standIns := [], harness := (true, "1f176054f70676d93272f881bce61d6b8faf75d868d8ca961c17ac1495374c94"), looks := true }, kinds := [], alts := [], laidByText := true, laidKinds := [.data], laidTests := true, laidLooks := .later }
def OldGetsUptoCardSaid : Prop := Claim7.holds Tryz.pinned (.plain (OpenSpec.upto oldGetsSpec)) oldGetsUptoCard

/-- THE SECOND FORM's CARD OF 'newsstandlaw16.OldLifts'. -/
def oldLiftsUptoCard : Claim7 := { stood := { row := oldLiftsUptoRow, standIns := [], harness := (true, "1f176054f70676d93272f881bce61d6b8faf75d868d8ca961c17ac1495374c94"), looks := true }, kinds := [], alts := [], laidByText := true, laidKinds := [.data], laidTests := true, laidLooks := .later }
def OldLiftsUptoCardSaid : Prop := Claim7.holds Tryz.pinned (.plain (OpenSpec.upto oldLiftsSpec)) oldLiftsUptoCard

/-- THE SECOND FORM's CARD OF 'newsstandlaw16.OldThird'. -/
def oldThirdUptoCard : Claim7 := { stood := { row := oldThirdUptoRow, standIns := [], harness := (true, "1f176054f70676d93272f881bce61d6b8faf75d868d8ca961c17ac1495374c94"), looks := true }, kinds := [], alts := [], laidByText := true, laidKinds := [.data], laidTests := true, laidLooks := .later }
def OldThirdUptoCardSaid : Prop := Claim7.holds Tryz.pinned (.plain (OpenSpec.upto oldThirdSpec)) oldThirdUptoCard
end Rows
end Go.Proofs.YtedliepfaibefaaGreatDoor
