/-
  DERIVED. GIVEN WITH THE SEED: THE CARDS: each row of YtnjhblcfjhpoiaaDoorRows.lean that lists a variable, with what it lists TIED to the program's text (the seventh form; the later family's looks); each row that meets fmt, with fmt's text TOLD by the authors' own Lean function (tested against real Go, not proved from fmt's source: count such statements apart). THE CARD IS WHAT COUNTS. Prove the row's statement (the work); the ties are given (YtnjhblcfjhpoiaaDoorTie.lean); close each card by the builder's one call (the guide's Derived/Test/ToyasCard.lean, 'card_holds'). Laid BY PROGRAM, IN A SANDBOX (cutbox-door.mjs). By AI agents, Wed Nov 11 2026. No macro, syntax, notation, axiom, sorry.
-/
import Derived.Test.YtnjhblcfjhpoiaaDoorRows
import GoSem.ClaimSeven
namespace Go.Proofs.YtnjhblcfjhpoiaaDoor
namespace Rows

/-- THE TIED CARD OF 'windsocklaw02.LoadAlong'. -/
def loadAlongCard : Claim7 := { stood := { row := loadAlongRow, standIns := [], harness := (true, "e2a92ffffc748d4c5d0a11da87f696f3479846fd54a3a437b368b01b198bb327"), looks := false }, kinds := [], alts := [], laidByText := true, laidKinds := [.data, .data, .data], laidTests := true, laidLooks := .later }
def LoadAlongCardSaid : Prop := Claim7.holds Tryd.pinned (.plain (OpenSpec.ofChange loadAlongSpec)) loadAlongCard

/-- THE TIED CARD OF 'windsocklaw02.LoadLeast'. -/
def loadLeastCard : Claim7 := { stood := { row := loadLeastRow, standIns := [], harness := (true, "e2a92ffffc748d4c5d0a11da87f696f3479846fd54a3a437b368b01b198bb327"), looks := false }, kinds := [], alts := [], laidByText := true, laidKinds := [.data, .data, .data], laidTests := true, laidLooks := .later }
def LoadLeastCardSaid : Prop := Claim7.holds Tryd.pinned (.plain (OpenSpec.ofChange loadLeastSpec)) loadLeastCard

/-- THE TIED CARD OF 'windsocklaw02.LoadMore'. -/
def loadMoreCard : Claim7 := { stood := { row := loadMoreRow, standIns := [], harness := (true, "e2a92ffffc748d4c5d0a11da87f696f3479846fd54a3a437b368b01b198bb327"), looks := false }, kinds := [], alts := [], laidByText := true, laidKinds := [.data, .data, .data], laidTests := true, laidLooks := .later }
def LoadMoreCardSaid : Prop := Claim7.holds Tryd.pinned (.plain (OpenSpec.ofChange loadMoreSpec)) loadMoreCard

/-- THE TIED CARD OF 'windsocklaw02.LoadConvex'. -/
def loadConvexCard : Claim7 := { stood := { row := loadConvexRow, standIns := [], harness := (true, "e2a92ffffc748d4c5d0a11da87f696f3479846fd54a3a437b368b01b198bb327"), looks := false }, kinds := [], alts := [], laidByText := true, laidKinds := [.data, .data, .data], laidTests := true, laidLooks := .later }
def LoadConvexCardSaid : Prop := Claim7.holds Tryd.pinned (.plain (OpenSpec.ofChange loadConvexSpec)) loadConvexCard

/-- THE TIED CARD OF 'windsocklaw02.LoadChecks'. -/
def loadChecksCard : Claim7 := { stood := { row := loadChecksRow, standIns := [], harness := (true, "e2a92ffffc748d4c5d0a11da87f696f3479846fd54a3a437b368b01b198bb327"), looks := false }, kinds := [], alts := [], laidByText := true, laidKinds := [.data, .data, .data], laidTests := true, laidLooks := .later }
def LoadChecksCardSaid : Prop := Claim7.holds Tryd.pinned (.plain (OpenSpec.ofChange loadChecksSpec)) loadChecksCard

/-- THE SECOND FORM's CARD OF 'windsocklaw02.LoadAlong'. -/
def loadAlongUptoCard : Claim7 := { stood := { row := loadAlongUptoRow, standIns := [], harness := (true, "e2a92ffffc748d4c5d0a11da87f696f3479846fd54a3a437b368b01b198bb327"), looks := false }, kinds := [], alts := [], laidByText := true, laidKinds := [.data, .data, .data], laidTests := true, laidLooks := .later }
def LoadAlongUptoCardSaid : Prop := Claim7.holds Tryd.pinned (.plain (OpenSpec.upto loadAlongSpec)) loadAlongUptoCard

/-- THE SECOND FORM's CARD OF 'windsocklaw02.LoadLeast'. -/
def loadLeastUptoCard : Claim7 := { stood := { row := loadLeastUptoRow, standIns := [], harness := (true, "e2a92ffffc748d4c5d0a11da87f696f3479846fd54a3a437b368b01b198bb327"), looks := false }, kinds := [], alts := [], laidByText := true, laidKinds := [.data, .data, .data], laidTests := true, laidLooks := .later }
def LoadLeastUptoCardSaid : Prop := Claim7.holds Tryd.pinned (.plain (OpenSpec.upto loadLeastSpec)) loadLeastUptoCard

/-- THE SECOND FORM's CARD OF 'windsocklaw02.LoadMore'. -/
def loadMoreUptoCard : Claim7 := { stood := { row := loadMoreUptoRow, standIns := [], harness := (true, "e2a92ffffc748d4c5d0a11da87f696f3479846fd54a3a437b368b01b198bb327"), looks := false }, kinds := [], alts := [], laidByText := true, laidKinds := [.data, .data, .data], laidTests := true, laidLooks := .later }
def LoadMoreUptoCardSaid : Prop := Claim7.holds Tryd.pinned (.plain (OpenSpec.upto loadMoreSpec)) loadMoreUptoCard

/-- THE SECOND FORM's CARD OF 'windsocklaw02.LoadConvex'. -/
def loadConvexUptoCard : Claim7 := { stood := { row := loadConvexUptoRow, standIns := [], harness := (true, "e2a92ffffc748d4c5d0a11da87f696f3479846fd54a3a437b368b01b198bb327"), looks := false }, kinds := [], alts := [], laidByText := true, laidKinds := [.data, .data, .data], laidTests := true, laidLooks := .later }
def LoadConvexUptoCardSaid : Prop := Claim7.holds Tryd.pinned (.plain (OpenSpec.upto loadConvexSpec)) loadConvexUptoCard

/-- THE SECOND FORM's CARD OF 'windsocklaw02.LoadChecks'. -/
def loadChecksUptoCard : Claim7 := { stood := { row := loadChecksUptoRow, standIns := [], harness := (true, "e2a92ffffc748d4c5d0a11da87f696f3479846fd54a3a437b368b01b198bb327"), looks := false }, kinds := [], alts := [], laidByText := true, laidKinds := [.data, .data, .data], laidTests := true, laidLooks := .later }
def LoadChecksUptoCardSaid : Prop := Claim7.holds Tryd.pinned (.plain (OpenSpec.upto loadChecksSpec)) loadChecksUptoCard
end Rows
end Go.Proofs.YtnjhblcfjhpoiaaDoor
