/-
  DERIVED. GIVEN WITH THE SEED: THE CARDS: each row of YtpbejobgickffaaGreatDoorRows.lean that lists a variable, with what it lists TIED to the program's text (the seventh form; the later family's looks); each row that meets fmt, with fmt's text TOLD by the authors' own Lean function (tested against real Go, not proved from fmt's source: count such statements apart). THE CARD IS WHAT COUNTS. Prove the row's statement (the work); the ties are given (YtpbejobgickffaaGreatDoorTie.lean); close each card by the builder's one call (the guide's Derived/Test/ToyasCard.lean, 'card_holds'). Laid BY PROGRAM, IN A SANDBOX (cutbox-door.mjs). By AI agents, Wed Nov 11 2026. No macro, syntax, notation, axiom, sorry.
-/
import Derived.Test.YtpbejobgickffaaGreatDoorRows
import GoSem.ClaimSeven
namespace Go.Proofs.YtpbejobgickffaaGreatDoor
namespace Rows

/-- THE TIED CARD OF 'godownlaw17.SnapsBack'. -/
def snapsBackCard : Claim7 := { stood := { row := snapsBackRow, standIns := [], harness := (true, "cd806b3a9fd9a2d45ce313c4f29c7e7b3a25b33dc31c17a5a39451f1ab2896f8"), looks := false }, kinds := [], alts := [], laidByText := true, laidKinds := [.data, .pinned], laidTests := true, laidLooks := .later }
def SnapsBackCardSaid : Prop := Claim7.holds Tryz.pinned (.plain (OpenSpec.ofChange snapsBackSpec)) snapsBackCard

/-- THE TIED CARD OF 'godownlaw16.ShapeTells'. -/
def shapeTellsCard : Claim7 := { stood := { row := shapeTellsRow, standIns := [], harness := (true, "cd806b3a9fd9a2d45ce313c4f29c7e7b3a25b33dc31c17a5a39451f1ab2896f8"), looks := false }, kinds := [], alts := [], laidByText := true, laidKinds := [.data, .pinned], laidTests := true, laidLooks := .later }
def ShapeTellsCardSaid : Prop := Claim7.holds Tryz.pinned (.plain (OpenSpec.ofChange shapeTellsSpec)) shapeTellsCard

/-- THE TIED CARD OF 'godownlaw17.SnapsOwn'. -/
def snapsOwnCard : Claim7 := { stood := { row := snapsOwnRow, standIns := [], harness := (true, "cd806b3a9fd9a2d45ce313c4f29c7e7b3a25b33dc31c17a5a39451f1ab2896f8"), looks := false }, kinds := [], alts := [], laidByText := true, laidKinds := [.data, .pinned], laidTests := true, laidLooks := .later }
def SnapsOwnCardSaid : Prop := Claim7.holds Tryz.pinned (.plain (OpenSpec.ofChange snapsOwnSpec)) snapsOwnCard

/-- THE TIED CARD OF 'godownlaw17.SnapsMay'. -/
def snapsMayCard : Claim7 := { stood := { row := snapsMayRow, standIns := [], harness := (true, "cd806b3a9fd9a2d45ce313c4f29c7e7b3a25b33dc31c17a5a39451f1ab2896f8"), looks := false }, kinds := [], alts := [], laidByText := true, laidKinds := [.data, .pinned], laidTests := true, laidLooks := .later }
def SnapsMayCardSaid : Prop := Claim7.holds Tryz.pinned (.plain (OpenSpec.ofChange snapsMaySpec)) snapsMayCard

/-- THE TIED CARD OF 'godownlaw17.SnapsClones'. -/
def snapsClonesCard : Claim7 := { stood := { row := snapsClonesRow, standIns := [], harness := (true, "cd806b3a9fd9a2d45ce313c4f29c7e7b3a25b33dc31c17a5a39451f1ab2896f8"), looks := false }, kinds := [], alts := [], laidByText := true, laidKinds := [.data, .pinned], laidTests := true, laidLooks := .later }
def SnapsClonesCardSaid : Prop := Claim7.holds Tryz.pinned (.plain (OpenSpec.ofChange snapsClonesSpec)) snapsClonesCard

/-- THE TIED CARD OF 'godownlaw17.SnapsTells'. -/
def snapsTellsCard : Claim7 := { stood := { row := snapsTellsRow, standIns := [], harness := (true, "cd806b3a9fd9a2d45ce313c4f29c7e7b3a25b33dc31c17a5a39451f1ab2896f8"), looks := false }, kinds := [], alts := [], laidByText := true, laidKinds := [.data, .pinned], laidTests := true, laidLooks := .later }
def SnapsTellsCardSaid : Prop := Claim7.holds Tryz.pinned (.plain (OpenSpec.ofChange snapsTellsSpec)) snapsTellsCard

/-- THE TIED CARD OF 'godownlaw16.ShapeTurns'. -/
def shapeTurnsCard : Claim7 := { stood := { row := shapeTurnsRow, standIns := [], harness := (true, "cd806b3a9fd9a2d45ce313c4f29c7e7b3a25b33dc31c17a5a39451f1ab2896f8"), looks := false }, kinds := [], alts := [], laidByText := true, laidKinds := [.data, .pinned], laidTests := true, laidLooks := .later }
def ShapeTurnsCardSaid : Prop := Claim7.holds Tryz.pinned (.plain (OpenSpec.ofChange shapeTurnsSpec)) shapeTurnsCard

/-- THE SECOND FORM's CARD OF 'godownlaw17.SnapsBack'. -/
def snapsBackUptoCard : Claim7 := { stood := { row := snapsBackUptoRow, standIns := [], harness := (true, "cd806b3a9fd9a2d45ce313c4f29c7e7b3a25b33dc31c17a5a39451f1ab2896f8"), looks := false }, kinds := [], alts := [], laidByText := true, laidKinds := [.data, .pinned], laidTests := true, laidLooks := .later }
def SnapsBackUptoCardSaid : Prop := Claim7.holds Tryz.pinned (.plain (OpenSpec.upto snapsBackSpec)) snapsBackUptoCard

/-- THE SECOND FORM's CARD OF 'godownlaw16.ShapeTells'. -/
def shapeTellsUptoCard : Claim7 := { stood := { row := shapeTellsUptoRow, standIns := [], harness := (true, "cd806b3a9fd9a2d45ce313c4f29c7e7b3a25b33dc31c17a5a39451f1ab2896f8"), looks := false }, kinds := [], alts := [], laidByText := true, laidKinds := [.data, .pinned], laidTests := true, laidLooks := .later }
def ShapeTellsUptoCardSaid : Prop := Claim7.holds Tryz.pinned (.plain (OpenSpec.upto shapeTellsSpec)) shapeTellsUptoCard

/-- THE SECOND FORM's CARD OF 'godownlaw17.SnapsOwn'. -/
def snapsOwnUptoCard : Claim7 := { stood := { row := snapsOwnUptoRow, standIns := [], harness := (true, "cd806b3a9fd9a2d45ce313c4f29c7e7b3a25b33dc31c17a5a39451f1ab2896f8"), looks := false }, kinds := [], alts := [], laidByText := true, laidKinds := [.data, .pinned], laidTests := true, laidLooks := .later }
def SnapsOwnUptoCardSaid : Prop := Claim7.holds Tryz.pinned (.plain (OpenSpec.upto snapsOwnSpec)) snapsOwnUptoCard

/-- THE SECOND FORM's CARD OF 'godownlaw17.SnapsMay'. -/
def snapsMayUptoCard : Claim7 := { stood := { row := snapsMayUptoRow, standIns := [], harness := (true, "cd806b3a9fd9a2d45ce313c4f29c7e7b3a25b33dc31c17a5a39451f1ab2896f8"), looks := false }, kinds := [], alts := [], laidByText := true, laidKinds := [.data, .pinned], laidTests := true, laidLooks := .later }
def SnapsMayUptoCardSaid : Prop := Claim7.holds Tryz.pinned (.plain (OpenSpec.upto snapsMaySpec)) snapsMayUptoCard

/-- THE SECOND FORM's CARD OF 'godownlaw17.SnapsClones'. -/
def snapsClonesUptoCard : Claim7 := { stood := { row := snapsClonesUptoRow, standIns := [], harness := (true, "cd806b3a9fd9a2d45ce313c4f29c7e7b3a25b33dc31c17a5a39451f1ab2896f8"), looks := false }, kinds := [], alts := [], laidByText := true, laidKinds := [.data, .pinned], laidTests := true, laidLooks := .later }
def SnapsClonesUptoCardSaid : Prop := Claim7.holds Tryz.pinned (.plain (OpenSpec.upto snapsClonesSpec)) snapsClonesUptoCard

/-- THE SECOND FORM's CARD OF 'godownlaw17.SnapsTells'. -/
def snapsTellsUptoCard : Claim7 := { stood := { row := snapsTellsUptoRow, standIns := [], harness := (true, "cd806b3a9fd9a2d45ce313c4f29c7e7b3a25b33dc31c17a5a39451f1ab2896f8"), looks := false }, kinds := [], alts := [], laidByText := true, laidKinds := [.data, .pinned], laidTests := true, laidLooks := .later }
def SnapsTellsUptoCardSaid : Prop := Claim7.holds Tryz.pinned (.plain (OpenSpec.upto snapsTellsSpec)) snapsTellsUptoCard

/-- THE SECOND FORM's CARD OF 'godownlaw16.ShapeTurns'. -/
def shapeTurnsUptoCard : Claim7 := { stood := { row := shapeTurnsUptoRow, standIns := [], harness := (true, "cd806b3a9fd9a2d45ce313c4f29c7e7b3a25b33dc31c17a5a39451f1ab2896f8"), looks := false }, kinds := [], alts := [], laidByText := true, laidKinds := [.data, .pinned], laidTests := true, laidLooks := .later }
def ShapeTurnsUptoCardSaid : Prop := Claim7.holds Tryz.pinned (.plain (OpenSpec.upto shapeTurnsSpec)) shapeTurnsUptoCard
end Rows
end Go.Proofs.YtpbejobgickffaaGreatDoor
