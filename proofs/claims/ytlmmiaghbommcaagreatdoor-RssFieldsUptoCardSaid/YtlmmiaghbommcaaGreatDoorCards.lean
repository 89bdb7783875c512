/-
  DERIVED. GIVEN WITH THE SEED: THE CARDS: each row of YtlmmiaghbommcaaGreatDoorRows.lean that lists a variable, with what it lists TIED to the program's text (the seventh form; the later family's looks); each row that meets fmt, with fmt's text TOLD by the authors' own Lean function (tested against real Go, not proved from fmt's source: count such statements apart). THE CARD IS WHAT COUNTS. Prove the row's statement (the work); the ties are given (YtlmmiaghbommcaaGreatDoorTie.lean); close each card by the builder's one call (the guide's Derived/Test/ToyasCard.lean, 'card_holds'). Laid BY PROGRAM, IN A SANDBOX (cutbox-door.mjs). By AI agents, Wed Nov 11 2026. No macro, syntax, notation, axiom, sorry.
-/
import Derived.Test.YtlmmiaghbommcaaGreatDoorRows
import GoSem.ClaimSeven
namespace Go.Proofs.YtlmmiaghbommcaaGreatDoor
namespace Rows

/-- THE TIED CARD OF 'newsstandlaw10.RssReads'. -/
def rssReadsCard : Claim7 := { stood := { row := rssReadsRow, standIns := [], harness := (true, "af08fa749175bb02d8fd02706ef304068a85c93fb1b8317e58bf52d1dec3f587"), looks := false }, kinds := [], alts := [], laidByText := true, laidKinds := [.data, .pinned], laidTests := true, laidLooks := .later }
def RssReadsCardSaid : Prop := Claim7.holds Tryz.pinned (.plain (OpenSpec.ofChange rssReadsSpec)) rssReadsCard

/-- THE TIED CARD OF 'newsstandlaw10.RssEntries'. -/
def rssEntriesCard : Claim7 := { stood := { row := rssEntriesRow, standIns := [], harness := (true, "af08fa749175bb02d8fd02706ef304068a85c93fb1b8317e58bf52d1dec3f587"), looks := false }, kinds := [], alts := [], laidByText := true, laidKinds := [.data, .pinned], laidTests := true, laidLooks := .later }
def RssEntriesCardSaid : Prop := Claim7.holds Tryz.pinned (.plain (OpenSpec.ofChange rssEntriesSpec)) rssEntriesCard

/-- THE TIED CARD OF 'newsstandlaw10.RssFields'. -/
def rssFieldsCard : Claim7 := { stood := { row := rssFieldsRow, standIns := [], harness := (true, "af08fa749175bb02d8fd02706ef304068a85c93fb1b8317e58bf52d1dec3f587"), looks := false }, kinds := [], alts := [], laidByText := true, laidKinds := [.data, .pinned], laidTests := true, laidLooks := .later }
def RssFieldsCardSaid : Prop := Claim7.holds Tryz.pinned (.plain (OpenSpec.ofChange rssFieldsSpec)) rssFieldsCard

/-- THE SECOND FORM's CARD OF 'newsstandlaw10.RssReads'. -/
def rssReadsUptoCard : Claim7 := { stood := { row := rssReadsUptoRow, standIns := [], harness := (true, "af08fa749175bb02d8fd02706ef304068a85c93fb1b8317e58bf52d1dec3f587"), looks := false }, kinds := [], alts := [], laidByText := true, laidKinds := [.data, .pinned], laidTests := true, laidLooks := .later }
def RssReadsUptoCardSaid : Prop := Claim7.holds Tryz.pinned (.plain (OpenSpec.upto rssReadsSpec)) rssReadsUptoCard

/-- THE SECOND FORM's CARD OF 'newsstandlaw10.RssEntries'. -/
def rssEntriesUptoCard : Claim7 := { stood := { row := rssEntriesUptoRow, standIns := [], harness := (true, "af08fa749175bb02d8fd02706ef304068a85c93fb1b8317e58bf52d1dec3f587"), looks := false }, kinds := [], alts := [], laidByText := true, laidKinds := [.data, .pinned], laidTests := true, laidLooks := .later }
def RssEntriesUptoCardSaid : Prop := Claim7.holds Tryz.pinned (.plain (OpenSpec.upto rssEntriesSpec)) rssEntriesUptoCard

/-- THE SECOND FORM's CARD OF 'newsstandlaw10.RssFields'. -/
def rssFieldsUptoCard : Claim7 := { stood := { row := rssFieldsUptoRow, standIns := [], harness := (true, "af08fa749175bb02d8fd02706ef304068a85c93fb1b8317e58bf52d1dec3f587"), looks := false }, kinds := [], alts := [], laidByText := true, laidKinds := [.data, .pinned], laidTests := true, laidLooks := .later }
def RssFieldsUptoCardSaid : Prop := Claim7.holds Tryz.pinned (.plain (OpenSpec.upto rssFieldsSpec)) rssFieldsUptoCard
end Rows
end Go.Proofs.YtlmmiaghbommcaaGreatDoor
