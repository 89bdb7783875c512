/-
  DERIVED. GIVEN WITH THE SEED: THE CARDS: each row of YtobidipkgaaecaaDoorRows.lean that lists a variable, with what it lists TIED to the program's text (the seventh form; the later family's looks); each row that meets fmt, with fmt's text TOLD by the authors' own Lean function (tested against real Go, not proved from fmt's source: count such statements apart). THE CARD IS WHAT COUNTS. Prove the row's statement (the work); the ties are given (YtobidipkgaaecaaDoorTie.lean); close each card by the builder's one call (the guide's Derived/Test/ToyasCard.lean, 'card_holds'). Laid BY PROGRAM, IN A SANDBOX (cutbox-door.mjs). By AI agents, Wed Nov 11 2026. No macro, syntax, notation, axiom, sorry.
-/
import Derived.Test.YtobidipkgaaecaaDoorRows
import GoSem.ClaimSeven
namespace Go.Proofs.YtobidipkgaaecaaDoor
namespace Rows

/-- THE TIED CARD OF 'newsstandlaw04.DateMoments'. -/
def dateMomentsCard : Claim7 := { stood := { row := dateMomentsRow, standIns := [], harness := (true, "9ae76612f51a82b078ea6d15569e36faa6dc5bad72ac8fe860a026757d18c824"), looks := false }, kinds := [], alts := [], laidByText := true, laidKinds := [.data, .pinned], laidTests := true, laidLooks := .later }
def DateMomentsCardSaid : Prop := Claim7.holds Tryd.pinned (.plain (OpenSpec.ofChange dateMomentsSpec)) dateMomentsCard

/-- THE TIED CARD OF 'newsstandlaw04.DateOfs'. -/
def dateOfsCard : Claim7 := { stood := { row := dateOfsRow, standIns := [], harness := (true, "9ae76612f51a82b078ea6d15569e36faa6dc5bad72ac8fe860a026757d18c824"), looks := false }, kinds := [], alts := [], laidByText := true, laidKinds := [.data, .pinned], laidTests := true, laidLooks := .later }
def DateOfsCardSaid : Prop := Claim7.holds Tryd.pinned (.plain (OpenSpec.ofChange dateOfsSpec)) dateOfsCard

/-- THE TIED CARD OF 'newsstandlaw04.DateReads'. -/
def dateReadsCard : Claim7 := { stood := { row := dateReadsRow, standIns := [], harness := (true, "9ae76612f51a82b078ea6d15569e36faa6dc5bad72ac8fe860a026757d18c824"), looks := false }, kinds := [], alts := [], laidByText := true, laidKinds := [.data, .pinned], laidTests := true, laidLooks := .later }
def DateReadsCardSaid : Prop := Claim7.holds Tryd.pinned (.plain (OpenSpec.ofChange dateReadsSpec)) dateReadsCard

/-- THE TIED CARD OF 'newsstandlaw04.DateOrders'. -/
def dateOrdersCard : Claim7 := { stood := { row := dateOrdersRow, standIns := [], harness := (true, "9ae76612f51a82b078ea6d15569e36faa6dc5bad72ac8fe860a026757d18c824"), looks := false }, kinds := [], alts := [], laidByText := true, laidKinds := [.data, .pinned], laidTests := true, laidLooks := .later }
def DateOrdersCardSaid : Prop := Claim7.holds Tryd.pinned (.plain (OpenSpec.ofChange dateOrdersSpec)) dateOrdersCard

/-- THE SECOND FORM's CARD OF 'newsstandlaw04.DateMoments'. -/
def dateMomentsUptoCard : Claim7 := { stood := { row := dateMomentsUptoRow, standIns := [], harness := (true, "9ae76612f51a82b078ea6d15569e36faa6dc5bad72ac8fe860a026757d18c824"), looks := false }, kinds := [], alts := [], laidByText := true, laidKinds := [.data, .pinned], laidTests := true, laidLooks := .later }
def DateMomentsUptoCardSaid : Prop := Claim7.holds Tryd.pinned (.plain (OpenSpec.upto dateMomentsSpec)) dateMomentsUptoCard

/-- THE SECOND FORM's CARD OF 'newsstandlaw04.DateOfs'. -/
def dateOfsUptoCard : Claim7 := { stood := { row := dateOfsUptoRow, standIns := [], harness := (true, "9ae76612f51a82b078ea6d15569e36faa6dc5bad72ac8fe860a026757d18c824"), looks := false }, kinds := [], alts := [], laidByText := true, laidKinds := [.data, .pinned], laidTests := true, laidLooks := .later }
def DateOfsUptoCardSaid : Prop := Claim7.holds Tryd.pinned (.plain (OpenSpec.upto dateOfsSpec)) dateOfsUptoCard

/-- THE SECOND FORM's CARD OF 'newsstandlaw04.DateReads'. -/
def dateReadsUptoCard : Claim7 := { stood := { row := dateReadsUptoRow, standIns := [], harness := (true, "9ae76612f51a82b078ea6d15569e36faa6dc5bad72ac8fe860a026757d18c824"), looks := false }, kinds := [], alts := [], laidByText := true, laidKinds := [.data, .pinned], laidTests := true, laidLooks := .later }
def DateReadsUptoCardSaid : Prop := Claim7.holds Tryd.pinned (.plain (OpenSpec.upto dateReadsSpec)) dateReadsUptoCard

/-- THE SECOND FORM's CARD OF 'newsstandlaw04.DateOrders'. -/
def dateOrdersUptoCard : Claim7 := { stood := { row := dateOrdersUptoRow, standIns := [], harness := (true, "9ae76612f51a82b078ea6d15569e36faa6dc5bad72ac8fe860a026757d18c824"), looks := false }, kinds := [], alts := [], laidByText := true, laidKinds := [.data, .pinned], laidTests := true, laidLooks := .later }
def DateOrdersUptoCardSaid : Prop := Claim7.holds Tryd.pinned (.plain (OpenSpec.upto dateOrdersSpec)) dateOrdersUptoCard
end Rows
end Go.Proofs.YtobidipkgaaecaaDoor
