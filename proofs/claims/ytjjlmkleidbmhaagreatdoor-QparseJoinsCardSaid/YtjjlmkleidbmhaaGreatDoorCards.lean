/-
  DERIVED. GIVEN WITH THE SEED: THE CARDS: each row of YtjjlmkleidbmhaaGreatDoorRows.lean that lists a variable, with what it lists TIED to the program's text (the seventh form; the later family's looks); each row that meets fmt, with fmt's text TOLD by the authors' own Lean function (tested against real Go, not proved from fmt's source: count such statements apart). THE CARD IS WHAT COUNTS. Prove the row's statement (the work); the ties are given (YtjjlmkleidbmhaaGreatDoorTie.lean); close each card by the builder's one call (the guide's Derived/Test/ToyasCard.lean, 'card_holds'). Laid BY PROGRAM, IN A SANDBOX (cutbox-door.mjs). By AI agents, Wed Nov 11 2026. No macro, syntax, notation, axiom, sorry.
-/
import Derived.Test.YtjjlmkleidbmhaaGreatDoorRows
import GoSem.ClaimSeven
namespace Go.Proofs.YtjjlmkleidbmhaaGreatDoor
namespace Rows

/-- THE TIED CARD OF 'newsstandlaw26.QparseReads'. -/
def qparseReadsCard : Claim7 := { stood := { row := qparseReadsRow, standIns := [], harness := (true, "e9bb1ab53ca88495ca64bb43678a7add0b2ec51f894fc86bc0711d13402be448"), looks := true }, kinds := [], alts := [], laidByText := true, laidKinds := [.data, .data, .data, .sentinel, .sentinel], laidTests := true, laidLooks := .later }
def QparseReadsCardSaid : Prop := Claim7.holds Tryz.pinned (.plain (OpenSpec.ofChange qparseReadsSpec)) qparseReadsCard

/-- THE TIED CARD OF 'newsstandlaw26.QparseShows'. -/
def qparseShowsCard : Claim7 := { stood := { row := qparseShowsRow, standIns := [], harness := (true, "e9bb1ab53ca88495ca64bb43678a7add0b2ec51f894fc86bc0711d13402be448"), looks := true }, kinds := [], alts := [], laidByText := true, laidKinds := [.data, .data, .data, .sentinel, .sentinel], laidTests := true, laidLooks := .later }
def QparseShowsCardSaid : Prop := Claim7.holds Tryz.pinned (.plain (OpenSpec.ofChange qparseShowsSpec)) qparseShowsCard

/-- THE TIED CARD OF 'newsstandlaw26.QparseBack'. -/
def qparseBackCard : Claim7 := { stood := { row := qparseBackRow, standIns := [], harness := (true, "e9bb1ab53ca88495ca64bb43678a7add0b2ec51f894fc86bc0711d13402be448"), looks := true }, kinds := [], alts := [], laidByText := true, laidKinds := [.data, .data, .data, .sentinel, .sentinel], laidTests := true, laidLooks := .later }
def QparseBackCardSaid : Prop := Claim7.holds Tryz.pinned (.plain (OpenSpec.ofChange qparseBackSpec)) qparseBackCard

/-- THE TIED CARD OF 'newsstandlaw26.QparseAgain'. -/
def qparseAgainCard : Claim7 := { stood := { row := qparseAgainRow, standIns := [], harness := (true, "e9bb1ab53ca88495ca64bb43678a7add0b2ec51f894fc86bc0711d13402be448"), looks := true }, kinds := [], alts := [], laidByText := true, laidKinds := [.data, .data, .data, .sentinel, .sentinel], laidTests := true, laidLooks := .later }
def QparseAgainCardSaid : Prop := Claim7.holds Tryz.pinned (.plain (OpenSpec.ofChange qparseAgainSpec)) qparseAgainCard

/-- THE TIED CARD OF 'newsstandlaw26.QparseJoins'. -/
def qparseJoinsCard : Claim7 := { stood := { row := qparseJoinsRow, standIns := [], harness := (true, "e9bb1ab53ca88495ca64bb43678a7add0b2ec51f894fc86bc0711d13402be448"), looks := true }, kinds := [], alts := [], laidByText := true, laidKinds := [.data, .data, .data, .sentinel, .sentinel], laidTests := true, laidLooks := .later }
def QparseJoinsCardSaid : Prop := Claim7.holds Tryz.pinned (.plain (OpenSpec.ofChange qparseJoinsSpec)) qparseJoinsCard

/-- THE SECOND FORM's CARD OF 'newsstandlaw26.QparseReads'. -/
def qparseReadsUptoCard : Claim7 := { stood := { row := qparseReadsUptoRow, standIns := [], harness := (true, "e9bb1ab53ca88495ca64bb43678a7add0b2ec51f894fc86bc0711d13402be448"), looks := true }, kinds := [], alts := [], laidByText := true, laidKinds := [.data, .data, .data, .sentinel, .sentinel], laidTests := true, laidLooks := .later }
def QparseReadsUptoCardSaid : Prop := Claim7.holds Tryz.pinned (.plain (OpenSpec.upto qparseReadsSpec)) qparseReadsUptoCard

/-- THE SECOND FORM's CARD OF 'newsstandlaw26.QparseShows'. -/
def qparseShowsUptoCard : Claim7 := { stood := { row := qparseShowsUptoRow, standIns := [], harness := (true, "e9bb1ab53ca88495ca64bb43678a7add0b2ec51f894fc86bc0711d13402be448"), looks := true }, kinds := [], alts := [], laidByText := true, laidKinds := [.data, .data, .data, .sentinel, .sentinel], laidTests := true, laidLooks := .later }
def QparseShowsUptoCardSaid : Prop := Claim7.holds Tryz.pinned (.plain (OpenSpec.upto qparseShowsSpec)) qparseShowsUptoCard

/-- THE SECOND FORM's CARD OF 'newsstandlaw26.QparseBack'. -/
def qparseBackUptoCard : Claim7 := { stood := { row := qparseBackUptoRow, standIns := [], harness := (true, "e9bb1ab53ca88495ca64bb43678a7add0b2ec51f894fc86bc0711d13402be448"), looks := true }, kinds := [], alts := [], laidByText := true, laidKinds := [.data, .data, .data, .sentinel, .sentinel], laidTests := true, laidLooks := .later }
def QparseBackUptoCardSaid : Prop := Claim7.holds Tryz.pinned (.plain (OpenSpec.upto qparseBackSpec)) qparseBackUptoCard

/-- THE SECOND FORM's CARD OF 'newsstandlaw26.QparseAgain'. -/
def qparseAgainUptoCard : Claim7 := { stood := { row := qparseAgainUptoRow, standIns := [], harness := (true, "e9bb1ab53ca88495ca64bb43678a7add0b2ec51f894fc86bc0711d13402be448"), looks := true }, kinds := [], alts := [], laidByText := true, laidKinds := [.data, .data, .data, .sentinel, .sentinel], laidTests := true, laidLooks := .later }
def QparseAgainUptoCardSaid : Prop := Claim7.holds Tryz.pinned (.plain (OpenSpec.upto qparseAgainSpec)) qparseAgainUptoCard

/-- THE SECOND FORM's CARD OF 'newsstandlaw26.QparseJoins'. -/
def qparseJoinsUptoCard : Claim7 := { stood := { row := qparseJoinsUptoRow, standIns := [], harness := (true, "e9bb1ab53ca88495ca64bb43678a7add0b2ec51f894fc86bc0711d13402be448"), looks := true }, kinds := [], alts := [], laidByText := true, laidKinds := [.data, .data, .data, .sentinel, .sentinel], laidTests := true, laidLooks := .later }
def QparseJoinsUptoCardSaid : Prop := Claim7.holds Tryz.pinned (.plain (OpenSpec.upto qparseJoinsSpec)) qparseJoinsUptoCard
end Rows
end Go.Proofs.YtjjlmkleidbmhaaGreatDoor
