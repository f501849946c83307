/-
  DERIVED. GIVEN WITH THE SEED: THE CARDS: each row of YtnjhblcfjhpoiaaGreatDoorRows.lean that lists a variable, with what it lists TIED to the program's text (the seventh form; the later family's looks); each row that meets fmt, with fmt's text TOLD by the authors' own Lean function (tested against real Go, not proved from fmt's source: count such statements apart). THE CARD IS WHAT COUNTS. Prove the row's statement (the work); the ties are given (YtnjhblcfjhpoiaaGreatDoorTie.lean); close each card by the builder's one call (the guide's Derived/Test/ToyasCard.lean, 'card_holds'). Laid BY PROGRAM, IN A SANDBOX (cutbox-door.mjs). By AI agents, Wed Nov 11 2026. No macro, syntax, notation, axiom, sorry.
-/
import Derived.Test.YtnjhblcfjhpoiaaGreatDoorRows
import GoSem.ClaimSeven
namespace Go.Proofs.YtnjhblcfjhpoiaaGreatDoor
namespace Rows

/-- THE TIED CARD OF 'windsocklaw02.LoadFuels'. -/
def loadFuelsCard : Claim7 := { stood := { row := loadFuelsRow, standIns := [], harness := (true, "5ead983eb76cd4f028fa487a1870d2e1f3e01aa43d232f67d0214a0db4d1ac67"), looks := true }, kinds := [], alts := [], laidByText := true, laidKinds := [.data, .data, .data], laidTests := true, laidLooks := .later }
def LoadFuelsCardSaid : Prop := Claim7.holds Tryz.pinned (.plain (OpenSpec.ofChange loadFuelsSpec)) loadFuelsCard

/-- THE TIED CARD OF 'windsocklaw02.LoadTakes'. -/
def loadTakesCard : Claim7 := { stood := { row := loadTakesRow, standIns := [], harness := (true, "5ead983eb76cd4f028fa487a1870d2e1f3e01aa43d232f67d0214a0db4d1ac67"), looks := true }, kinds := [], alts := [], laidByText := true, laidKinds := [.data, .data, .data], laidTests := true, laidLooks := .later }
def LoadTakesCardSaid : Prop := Claim7.holds Tryz.pinned (.plain (OpenSpec.ofChange loadTakesSpec)) loadTakesCard

/-- THE TIED CARD OF 'windsocklaw02.LoadWorth'. -/
def loadWorthCard : Claim7 := { stood := { row := loadWorthRow, standIns := [], harness := (true, "5ead983eb76cd4f028fa487a1870d2e1f3e01aa43d232f67d0214a0db4d1ac67"), looks := true }, kinds := [], alts := [], laidByText := true, laidKinds := [.data, .data, .data], laidTests := true, laidLooks := .later }
def LoadWorthCardSaid : Prop := Claim7.holds Tryz.pinned (.plain (OpenSpec.ofChange loadWorthSpec)) loadWorthCard

/-- THE TIED CARD OF 'windsocklaw02.LoadTrips'. -/
def loadTripsCard : Claim7 := { stood := { row := loadTripsRow, standIns := [], harness := (true, "5ead983eb76cd4f028fa487a1870d2e1f3e01aa43d232f67d0214a0db4d1ac67"), looks := true }, kinds := [], alts := [], laidByText := true, laidKinds := [.data, .data, .data], laidTests := true, laidLooks := .later }
def LoadTripsCardSaid : Prop := Claim7.holds Tryz.pinned (.plain (OpenSpec.ofChange loadTripsSpec)) loadTripsCard

/-- THE TIED CARD OF 'windsocklaw02.LoadSure'. -/
def loadSureCard : Claim7 := { stood := { row := loadSureRow, standIns := [], harness := (true, "5ead983eb76cd4f028fa487a1870d2e1f3e01aa43d232f67d0214a0db4d1ac67"), looks := true }, kinds := [], alts := [], laidByText := true, laidKinds := [.data, .data, .data], laidTests := true, laidLooks := .later }
def LoadSureCardSaid : Prop := Claim7.holds Tryz.pinned (.plain (OpenSpec.ofChange loadSureSpec)) loadSureCard

/-- THE TIED CARD OF 'windsocklaw02.LoadTrue'. -/
def loadTrueCard : Claim7 := { stood := { row := loadTrueRow, standIns := [], harness := (true, "5ead983eb76cd4f028fa487a1870d2e1f3e01aa43d232f67d0214a0db4d1ac67"), looks := true }, kinds := [], alts := [], laidByText := true, laidKinds := [.data, .data, .data], laidTests := true, laidLooks := .later }
def LoadTrueCardSaid : Prop := Claim7.holds Tryz.pinned (.plain (OpenSpec.ofChange loadTrueSpec)) loadTrueCard

/-- THE TIED CARD OF 'windsocklaw02.LoadSeats'. -/
def loadSeatsCard : Claim7 := { stood := { row := loadSeatsRow, standIns := [], harness := (true, "5ead983eb76cd4f028fa487a1870d2e1f3e01aa43d232f67d0214a0db4d1ac67"), looks := true }, kinds := [], alts := [], laidByText := true, laidKinds := [.data, .data, .data], laidTests := true, laidLooks := .later }
def LoadSeatsCardSaid : Prop := Claim7.holds Tryz.pinned (.plain (OpenSpec.ofChange loadSeatsSpec)) loadSeatsCard

/-- THE TIED CARD OF 'windsocklaw02.LoadSeated'. -/
def loadSeatedCard : Claim7 := { stood := { row := loadSeatedRow, standIns := [], harness := (true, "5ead983eb76cd4f028fa487a1870d2e1f3e01aa43d232f67d0214a0db4d1ac67"), looks := true }, kinds := [], alts := [], laidByText := true, laidKinds := [.data, .data, .data], laidTests := true, laidLooks := .later }
def LoadSeatedCardSaid : Prop := Claim7.holds Tryz.pinned (.plain (OpenSpec.ofChange loadSeatedSpec)) loadSeatedCard

/-- THE TIED CARD OF 'windsocklaw02.LoadSheets'. -/
def loadSheetsCard : Claim7 := { stood := { row := loadSheetsRow, standIns := [], harness := (true, "5ead983eb76cd4f028fa487a1870d2e1f3e01aa43d232f67d0214a0db4d1ac67"), looks := true }, kinds := [], alts := [], laidByText := true, laidKinds := [.data, .data, .data, .data, .sentinel, .sentinel, .pinned], laidTests := true, laidLooks := .later }
def LoadSheetsCardSaid : Prop := Claim7.holds Tryz.pinned (.plain (OpenSpec.ofChange loadSheetsSpec)) loadSheetsCard

/-- THE TIED CARD OF 'windsocklaw02.LoadReads'. -/
def loadReadsCard : Claim7 := { stood := { row := loadReadsRow, standIns := [], harness := (true, "5ead983eb76cd4f028fa487a1870d2e1f3e01aa43d232f67d0214a0db4d1ac67"), looks := true }, kinds := [], alts := [], laidByText := true, laidKinds := [.data, .data, .data, .data, .sentinel, .sentinel, .pinned], laidTests := true, laidLooks := .later }
def LoadReadsCardSaid : Prop := Claim7.holds Tryz.pinned (.plain (OpenSpec.ofChange loadReadsSpec)) loadReadsCard

/-- THE TIED CARD OF 'windsocklaw02.LoadSpoilt'. -/
def loadSpoiltCard : Claim7 := { stood := { row := loadSpoiltRow, standIns := [], harness := (true, "5ead983eb76cd4f028fa487a1870d2e1f3e01aa43d232f67d0214a0db4d1ac67"), looks := true }, kinds := [], alts := [], laidByText := true, laidKinds := [.data, .data, .data, .data, .sentinel, .sentinel, .pinned], laidTests := true, laidLooks := .later }
def LoadSpoiltCardSaid : Prop := Claim7.holds Tryz.pinned (.plain (OpenSpec.ofChange loadSpoiltSpec)) loadSpoiltCard

/-- THE SECOND FORM's CARD OF 'windsocklaw02.LoadFuels'. -/
def loadFuelsUptoCard : Claim7 := { stood := { row := loadFuelsUptoRow, standIns := [], harness := (true, "5ead983eb76cd4f028fa487a1870d2e1f3e01aa43d232f67d0214a0db4d1ac67"), looks := true }, kinds := [], alts := [], laidByText := true, laidKinds := [.data, .data, .data], laidTests := true, laidLooks := .later }
def LoadFuelsUptoCardSaid : Prop := Claim7.holds Tryz.pinned (.plain (OpenSpec.upto loadFuelsSpec)) loadFuelsUptoCard

/-- THE SECOND FORM's CARD OF 'windsocklaw02.LoadTakes'. -/
def loadTakesUptoCard : Claim7 := { stood := { row := loadTakesUptoRow, standIns := [], harness := (true, "5ead983eb76cd4f028fa487a1870d2e1f3e01aa43d232f67d0214a0db4d1ac67"), looks := true }, kinds := [], alts := [], laidByText := true, laidKinds := [.data, .data, .data], laidTests := true, laidLooks := .later }
def LoadTakesUptoCardSaid : Prop := Claim7.holds Tryz.pinned (.plain (OpenSpec.upto loadTakesSpec)) loadTakesUptoCard

/-- THE SECOND FORM's CARD OF 'windsocklaw02.LoadWorth'. -/
def loadWorthUptoCard : Claim7 := { stood := { row := loadWorthUptoRow, standIns := [], harness := (true, "5ead983eb76cd4f028fa487a1870d2e1f3e01aa43d232f67d0214a0db4d1ac67"), looks := true }, kinds := [], alts := [], laidByText := true, laidKinds := [.data, .data, .data], laidTests := true, laidLooks := .later }
def LoadWorthUptoCardSaid : Prop := Claim7.holds Tryz.pinned (.plain (OpenSpec.upto loadWorthSpec)) loadWorthUptoCard

/-- THE SECOND FORM's CARD OF 'windsocklaw02.LoadTrips'. -/
def loadTripsUptoCard : Claim7 := { stood := { row := loadTripsUptoRow, standIns := [], harness := (true, "5ead983eb76cd4f028fa487a1870d2e1f3e01aa43d232f67d0214a0db4d1ac67"), looks := true }, kinds := [], alts := [], laidByText := true, laidKinds := [.data, .data, .data], laidTests := true, laidLooks := .later }
def LoadTripsUptoCardSaid : Prop := Claim7.holds Tryz.pinned (.plain (OpenSpec.upto loadTripsSpec)) loadTripsUptoCard

/-- THE SECOND FORM's CARD OF 'windsocklaw02.LoadSure'. -/
def loadSureUptoCard : Claim7 := { stood := { row := loadSureUptoRow, standIns := [], harness := (true, "5ead983eb76cd4f028fa487a1870d2e1f3e01aa43d232f67d0214a0db4d1ac67"), looks := true }, kinds := [], alts := [], laidByText := true, laidKinds := [.data, .data, .data], laidTests := true, laidLooks := .later }
def LoadSureUptoCardSaid : Prop := Claim7.holds Tryz.pinned (.plain (OpenSpec.upto loadSureSpec)) loadSureUptoCard

/-- THE SECOND FORM's CARD OF 'windsocklaw02.LoadTrue'. -/
def loadTrueUptoCard : Claim7 := { stood := { row := loadTrueUptoRow, standIns := [], harness := (true, "5ead983eb76cd4f028fa487a1870d2e1f3e01aa43d232f67d0214a0db4d1ac67"), looks := true }, kinds := [], alts := [], laidByText := true, laidKinds := [.data, .data, .data], laidTests := true, laidLooks := .later }
def LoadTrueUptoCardSaid : Prop := Claim7.holds Tryz.pinned (.plain (OpenSpec.upto loadTrueSpec)) loadTrueUptoCard

/-- THE SECOND FORM's CARD OF 'windsocklaw02.LoadSeats'. -/
def loadSeatsUptoCard : Claim7 := { stood := { row := loadSeatsUptoRow, standIns := [], harness := (true, "5ead983eb76cd4f028fa487a1870d2e1f3e01aa43d232f67d0214a0db4d1ac67"), looks := true }, kinds := [], alts := [], laidByText := true, laidKinds := [.data, .data, .data], laidTests := true, laidLooks := .later }
def LoadSeatsUptoCardSaid : Prop := Claim7.holds Tryz.pinned (.plain (OpenSpec.upto loadSeatsSpec)) loadSeatsUptoCard

/-- THE SECOND FORM's CARD OF 'windsocklaw02.LoadSeated'. -/
def loadSeatedUptoCard : Claim7 := { stood := { row := loadSeatedUptoRow, standIns := [], harness := (true, "5ead983eb76cd4f028fa487a1870d2e1f3e01aa43d232f67d0214a0db4d1ac67"), looks := true }, kinds := [], alts := [], laidByText := true, laidKinds := [.data, .data, .data], laidTests := true, laidLooks := .later }
def LoadSeatedUptoCardSaid : Prop := Claim7.holds Tryz.pinned (.plain (OpenSpec.upto loadSeatedSpec)) loadSeatedUptoCard

/-- THE SECOND FORM's CARD OF 'windsocklaw02.LoadSheets'. -/
def loadSheetsUptoCard : Claim7 := { stood := { row := loadSheetsUptoRow, standIns := [], harness := (true, "5ead983eb76cd4f028fa487a1870d2e1f3e01aa43d232f67d0214a0db4d1ac67"), looks := true }, kinds := [], alts := [], laidByText := true, laidKinds := [.data, .data, .data, .data, .sentinel, .sentinel, .pinned], laidTests := true, laidLooks := .later }
def LoadSheetsUptoCardSaid : Prop := Claim7.holds Tryz.pinned (.plain (OpenSpec.upto loadSheetsSpec)) loadSheetsUptoCard

/-- THE SECOND FORM's CARD OF 'windsocklaw02.LoadReads'. -/
def loadReadsUptoCard : Claim7 := { stood := { row := loadReadsUptoRow, standIns := [], harness := (true, "5ead983eb76cd4f028fa487a1870d2e1f3e01aa43d232f67d0214a0db4d1ac67"), looks := true }, kinds := [], alts := [], laidByText := true, laidKinds := [.data, .data, .data, .data, .sentinel, .sentinel, .pinned], laidTests := true, laidLooks := .later }
def LoadReadsUptoCardSaid : Prop := Claim7.holds Tryz.pinned (.plain (OpenSpec.upto loadReadsSpec)) loadReadsUptoCard

/-- THE SECOND FORM's CARD OF 'windsocklaw02.LoadSpoilt'. -/
def loadSpoiltUptoCard : Claim7 := { stood := { row := loadSpoiltUptoRow, standIns := [], harness := (true, "5ead983eb76cd4f028fa487a1870d2e1f3e01aa43d232f67d0214a0db4d1ac67"), looks := true }, kinds := [], alts := [], laidByText := true, laidKinds := [.data, .data, .data, .data, .sentinel, .sentinel, .pinned], laidTests := true, laidLooks := .later }
def LoadSpoiltUptoCardSaid : Prop := Claim7.holds Tryz.pinned (.plain (OpenSpec.upto loadSpoiltSpec)) loadSpoiltUptoCard
end Rows
end Go.Proofs.YtnjhblcfjhpoiaaGreatDoor
