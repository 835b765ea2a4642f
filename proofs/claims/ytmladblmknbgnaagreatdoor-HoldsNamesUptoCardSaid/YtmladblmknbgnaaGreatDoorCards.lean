/-
  DERIVED. GIVEN WITH THE SEED: THE CARDS: each row of YtmladblmknbgnaaGreatDoorRows.lean that lists a variable, with what it lists TIED to the program's text (the seventh form; the later family's looks); each row that meets fmt, with fmt's text TOLD by the authors' own Lean function (tested against real Go, not proved from fmt's source: count such statements apart). THE CARD IS WHAT COUNTS. Prove the row's statement (the work); the ties are given (YtmladblmknbgnaaGreatDoorTie.lean); close each card by the builder's one call (the guide's Derived/Test/ToyasCard.lean, 'card_holds'). Laid BY PROGRAM, IN A SANDBOX (cutbox-door.mjs). By AI agents, Wed Nov 11 2026. No macro, syntax, notation, axiom, sorry.
-/
import Derived.Test.YtmladblmknbgnaaGreatDoorRows
import GoSem.ClaimSeven
namespace Go.Proofs.YtmladblmknbgnaaGreatDoor
namespace Rows

/-- THE TIED CARD OF 'godownlaw17.SnapsBack'. -/
def snapsBackCard : Claim7 := { stood := { row := snapsBackRow, standIns := [], harness := (true, "db47c2539169cc523319ef9a827cb77814d517fd8cb5da19a81c36cee6a6ac74"), looks := false }, kinds := [], alts := [], laidByText := true, laidKinds := [.data, .pinned], laidTests := true, laidLooks := .later }
def SnapsBackCardSaid : Prop := Claim7.holds Tryz.pinned (.plain (OpenSpec.ofChange snapsBackSpec)) snapsBackCard

/-- THE TIED CARD OF 'godownlaw39.PruneGoes'. -/
def pruneGoesCard : Claim7 := { stood := { row := pruneGoesRow, standIns := [], harness := (true, "db47c2539169cc523319ef9a827cb77814d517fd8cb5da19a81c36cee6a6ac74"), looks := false }, kinds := [], alts := [], laidByText := true, laidKinds := [.data, .pinned], laidTests := true, laidLooks := .later }
def PruneGoesCardSaid : Prop := Claim7.holds Tryz.pinned (.plain (OpenSpec.ofChange pruneGoesSpec)) pruneGoesCard

/-- THE TIED CARD OF 'godownlaw16.ShapeTells'. -/
def shapeTellsCard : Claim7 := { stood := { row := shapeTellsRow, standIns := [], harness := (true, "db47c2539169cc523319ef9a827cb77814d517fd8cb5da19a81c36cee6a6ac74"), looks := false }, kinds := [], alts := [], laidByText := true, laidKinds := [.data, .pinned], laidTests := true, laidLooks := .later }
def ShapeTellsCardSaid : Prop := Claim7.holds Tryz.pinned (.plain (OpenSpec.ofChange shapeTellsSpec)) shapeTellsCard

/-- THE TIED CARD OF 'godownlaw17.SnapsOwn'. -/
def snapsOwnCard : Claim7 := { stood := { row := snapsOwnRow, standIns := [], harness := (true, "db47c2539169cc523319ef9a827cb77814d517fd8cb5da19a81c36cee6a6ac74"), looks := false }, kinds := [], alts := [], laidByText := true, laidKinds := [.data, .pinned], laidTests := true, laidLooks := .later }
def SnapsOwnCardSaid : Prop := Claim7.holds Tryz.pinned (.plain (OpenSpec.ofChange snapsOwnSpec)) snapsOwnCard

/-- THE TIED CARD OF 'godownlaw17.SnapsClones'. -/
def snapsClonesCard : Claim7 := { stood := { row := snapsClonesRow, standIns := [], harness := (true, "db47c2539169cc523319ef9a827cb77814d517fd8cb5da19a81c36cee6a6ac74"), looks := false }, kinds := [], alts := [], laidByText := true, laidKinds := [.data, .pinned], laidTests := true, laidLooks := .later }
def SnapsClonesCardSaid : Prop := Claim7.holds Tryz.pinned (.plain (OpenSpec.ofChange snapsClonesSpec)) snapsClonesCard

/-- THE TIED CARD OF 'godownlaw17.SnapsTells'. -/
def snapsTellsCard : Claim7 := { stood := { row := snapsTellsRow, standIns := [], harness := (true, "db47c2539169cc523319ef9a827cb77814d517fd8cb5da19a81c36cee6a6ac74"), looks := false }, kinds := [], alts := [], laidByText := true, laidKinds := [.data, .pinned], laidTests := true, laidLooks := .later }
def SnapsTellsCardSaid : Prop := Claim7.holds Tryz.pinned (.plain (OpenSpec.ofChange snapsTellsSpec)) snapsTellsCard

/-- THE TIED CARD OF 'godownlaw18.HoldsNames'. -/
def holdsNamesCard : Claim7 := { stood := { row := holdsNamesRow, standIns := [], harness := (true, "db47c2539169cc523319ef9a827cb77814d517fd8cb5da19a81c36cee6a6ac74"), looks := false }, kinds := [], alts := [], laidByText := true, laidKinds := [.data, .pinned], laidTests := true, laidLooks := .later }
def HoldsNamesCardSaid : Prop := Claim7.holds Tryz.pinned (.plain (OpenSpec.ofChange holdsNamesSpec)) holdsNamesCard

/-- THE TIED CARD OF 'godownlaw18.HoldsTells'. -/
def holdsTellsCard : Claim7 := { stood := { row := holdsTellsRow, standIns := [], harness := (true, "db47c2539169cc523319ef9a827cb77814d517fd8cb5da19a81c36cee6a6ac74"), looks := false }, kinds := [], alts := [], laidByText := true, laidKinds := [.data, .pinned], laidTests := true, laidLooks := .later }
def HoldsTellsCardSaid : Prop := Claim7.holds Tryz.pinned (.plain (OpenSpec.ofChange holdsTellsSpec)) holdsTellsCard

/-- THE TIED CARD OF 'godownlaw16.ShapeTurns'. -/
def shapeTurnsCard : Claim7 := { stood := { row := shapeTurnsRow, standIns := [], harness := (true, "db47c2539169cc523319ef9a827cb77814d517fd8cb5da19a81c36cee6a6ac74"), looks := false }, kinds := [], alts := [], laidByText := true, laidKinds := [.data, .pinned], laidTests := true, laidLooks := .later }
def ShapeTurnsCardSaid : Prop := Claim7.holds Tryz.pinned (.plain (OpenSpec.ofChange shapeTurnsSpec)) shapeTurnsCard

/-- THE TIED CARD OF 'godownlaw18.HoldsKeeps'. -/
def holdsKeepsCard : Claim7 := { stood := { row := holdsKeepsRow, standIns := [], harness := (true, "db47c2539169cc523319ef9a827cb77814d517fd8cb5da19a81c36cee6a6ac74"), looks := false }, kinds := [], alts := [], laidByText := true, laidKinds := [.data, .pinned], laidTests := true, laidLooks := .later }
def HoldsKeepsCardSaid : Prop := Claim7.holds Tryz.pinned (.plain (OpenSpec.ofChange holdsKeepsSpec)) holdsKeepsCard

/-- THE SECOND FORM's CARD OF 'godownlaw17.SnapsBack'. -/
def snapsBackUptoCard : Claim7 := { stood := { row := snapsBackUptoRow, standIns := [], harness := (true, "db47c2539169cc523319ef9a827cb77814d517fd8cb5da19a81c36cee6a6ac74"), looks := false }, kinds := [], alts := [], laidByText := true, laidKinds := [.data, .pinned], laidTests := true, laidLooks := .later }
def SnapsBackUptoCardSaid : Prop := Claim7.holds Tryz.pinned (.plain (OpenSpec.upto snapsBackSpec)) snapsBackUptoCard

/-- THE SECOND FORM's CARD OF 'godownlaw39.PruneGoes'. -/
def pruneGoesUptoCard : Claim7 := { stood := { row := pruneGoesUptoRow, standIns := [], harness := (true, "db47c2539169cc523319ef9a827cb77814d517fd8cb5da19a81c36cee6a6ac74"), looks := false }, kinds := [], alts := [], laidByText := true, laidKinds := [.data, .pinned], laidTests := true, laidLooks := .later }
def PruneGoesUptoCardSaid : Prop := Claim7.holds Tryz.pinned (.plain (OpenSpec.upto pruneGoesSpec)) pruneGoesUptoCard

/-- THE SECOND FORM's CARD OF 'godownlaw16.ShapeTells'. -/
def shapeTellsUptoCard : Claim7 := { stood := { row := shapeTellsUptoRow, standIns := [], harness := (true, "db47c2539169cc523319ef9a827cb77814d517fd8cb5da19a81c36cee6a6ac74"), looks := false }, kinds := [], alts := [], laidByText := true, laidKinds := [.data, .pinned], laidTests := true, laidLooks := .later }
def ShapeTellsUptoCardSaid : Prop := Claim7.holds Tryz.pinned (.plain (OpenSpec.upto shapeTellsSpec)) shapeTellsUptoCard

/-- THE SECOND FORM's CARD OF 'godownlaw17.SnapsOwn'. -/
def snapsOwnUptoCard : Claim7 := { stood := { row := snapsOwnUptoRow, standIns := [], harness := (true, "db47c2539169cc523319ef9a827cb77814d517fd8cb5da19a81c36cee6a6ac74"), looks := false }, kinds := [], alts := [], laidByText := true, laidKinds := [.data, .pinned], laidTests := true, laidLooks := .later }
def SnapsOwnUptoCardSaid : Prop := Claim7.holds Tryz.pinned (.plain (OpenSpec.upto snapsOwnSpec)) snapsOwnUptoCard

/-- THE SECOND FORM's CARD OF 'godownlaw17.SnapsClones'. -/
def snapsClonesUptoCard : Claim7 := { stood := { row := snapsClonesUptoRow, standIns := [], harness := (true, "db47c2539169cc523319ef9a827cb77814d517fd8cb5da19a81c36cee6a6ac74"), looks := false }, kinds := [], alts := [], laidByText := true, laidKinds := [.data, .pinned], laidTests := true, laidLooks := .later }
def SnapsClonesUptoCardSaid : Prop := Claim7.holds Tryz.pinned (.plain (OpenSpec.upto snapsClonesSpec)) snapsClonesUptoCard

/-- THE SECOND FORM's CARD OF 'godownlaw17.SnapsTells'. -/
def snapsTellsUptoCard : Claim7 := { stood := { row := snapsTellsUptoRow, standIns := [], harness := (true, "db47c2539169cc523319ef9a827cb77814d517fd8cb5da19a81c36cee6a6ac74"), looks := false }, kinds := [], alts := [], laidByText := true, laidKinds := [.data, .pinned], laidTests := true, laidLooks := .later }
def SnapsTellsUptoCardSaid : Prop := Claim7.holds Tryz.pinned (.plain (OpenSpec.upto snapsTellsSpec)) snapsTellsUptoCard

/-- THE SECOND FORM's CARD OF 'godownlaw18.HoldsNames'. -/
def holdsNamesUptoCard : Claim7 := { stood := { row := holdsNamesUptoRow, standIns := [], harness := (true, "db47c2539169cc523319ef9a827cb77814d517fd8cb5da19a81c36cee6a6ac74"), looks := false }, kinds := [], alts := [], laidByText := true, laidKinds := [.data, .pinned], laidTests := true, laidLooks := .later }
def HoldsNamesUptoCardSaid : Prop := Claim7.holds Tryz.pinned (.plain (OpenSpec.upto holdsNamesSpec)) holdsNamesUptoCard

/-- THE SECOND FORM's CARD OF 'godownlaw18.HoldsTells'. -/
def holdsTellsUptoCard : Claim7 := { stood := { row := holdsTellsUptoRow, standIns := [], harness := (true, "db47c2539169cc523319ef9a827cb77814d517fd8cb5da19a81c36cee6a6ac74"), looks := false }, kinds := [], alts := [], laidByText := true, laidKinds := [.data, .pinned], laidTests := true, laidLooks := .later }
def HoldsTellsUptoCardSaid : Prop := Claim7.holds Tryz.pinned (.plain (OpenSpec.upto holdsTellsSpec)) holdsTellsUptoCard

/-- THE SECOND FORM's CARD OF 'godownlaw16.ShapeTurns'. -/
def shapeTurnsUptoCard : Claim7 := { stood := { row := shapeTurnsUptoRow, standIns := [], harness := (true, "db47c2539169cc523319ef9a827cb77814d517fd8cb5da19a81c36cee6a6ac74"), looks := false }, kinds := [], alts := [], laidByText := true, laidKinds := [.data, .pinned], laidTests := true, laidLooks := .later }
def ShapeTurnsUptoCardSaid : Prop := Claim7.holds Tryz.pinned (.plain (OpenSpec.upto shapeTurnsSpec)) shapeTurnsUptoCard

/-- THE SECOND FORM's CARD OF 'godownlaw18.HoldsKeeps'. -/
def holdsKeepsUptoCard : Claim7 := { stood := { row := holdsKeepsUptoRow, standIns := [], harness := (true, "db47c2539169cc523319ef9a827cb77814d517fd8cb5da19a81c36cee6a6ac74"), looks := false }, kinds := [], alts := [], laidByText := true, laidKinds := [.data, .pinned], laidTests := true, laidLooks := .later }
def HoldsKeepsUptoCardSaid : Prop := Claim7.holds Tryz.pinned (.plain (OpenSpec.upto holdsKeepsSpec)) holdsKeepsUptoCard
end Rows
end Go.Proofs.YtmladblmknbgnaaGreatDoor
