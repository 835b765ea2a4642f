/-
  DERIVED. GIVEN WITH THE SEED: THE CARDS: each row of YtbppdlhbjddhjaaGreatDoorRows.lean that lists a variable, with what it lists TIED to the program's text (the seventh form; the later family's looks); each row that meets fmt, with fmt's text TOLD by the authors' own Lean function (tested against real Go, not proved from fmt's source: count such statements apart). THE CARD IS WHAT COUNTS. Prove the row's statement (the work); the ties are given (YtbppdlhbjddhjaaGreatDoorTie.lean); close each card by the builder's one call (the guide's Derived/Test/ToyasCard.lean, 'card_holds'). Laid BY PROGRAM, IN A SANDBOX (cutbox-door.mjs). By AI agents, Wed Nov 11 2026. No macro, syntax, notation, axiom, sorry.
-/
import Derived.Test.YtbppdlhbjddhjaaGreatDoorRows
import GoSem.ClaimSeven
namespace Go.Proofs.YtbppdlhbjddhjaaGreatDoor
namespace Rows

/-- THE TIED CARD OF 'godownlaw14.TreeCopies'. -/
def treeCopiesCard : Claim7 := { stood := { row := treeCopiesRow, standIns := [], harness := (true, "516ac203a1190b0cbeb6aa8cb6218cfb141934af7c3103625cca43e06af3b4f4"), looks := false }, kinds := [], alts := [], laidByText := true, laidKinds := [.data, .pinned], laidTests := true, laidLooks := .later }
def TreeCopiesCardSaid : Prop := Claim7.holds Tryz.pinned (.plain (OpenSpec.ofChange treeCopiesSpec)) treeCopiesCard

/-- THE TIED CARD OF 'godownlaw17.SnapsOwn'. -/
def snapsOwnCard : Claim7 := { stood := { row := snapsOwnRow, standIns := [], harness := (true, "516ac203a1190b0cbeb6aa8cb6218cfb141934af7c3103625cca43e06af3b4f4"), looks := false }, kinds := [], alts := [], laidByText := true, laidKinds := [.data, .pinned], laidTests := true, laidLooks := .later }
def SnapsOwnCardSaid : Prop := Claim7.holds Tryz.pinned (.plain (OpenSpec.ofChange snapsOwnSpec)) snapsOwnCard

/-- THE TIED CARD OF 'godownlaw18.HoldsNames'. -/
def holdsNamesCard : Claim7 := { stood := { row := holdsNamesRow, standIns := [], harness := (true, "516ac203a1190b0cbeb6aa8cb6218cfb141934af7c3103625cca43e06af3b4f4"), looks := false }, kinds := [], alts := [], laidByText := true, laidKinds := [.data, .pinned], laidTests := true, laidLooks := .later }
def HoldsNamesCardSaid : Prop := Claim7.holds Tryz.pinned (.plain (OpenSpec.ofChange holdsNamesSpec)) holdsNamesCard

/-- THE TIED CARD OF 'godownlaw14.TreeInherits'. -/
def treeInheritsCard : Claim7 := { stood := { row := treeInheritsRow, standIns := [], harness := (true, "516ac203a1190b0cbeb6aa8cb6218cfb141934af7c3103625cca43e06af3b4f4"), looks := false }, kinds := [], alts := [], laidByText := true, laidKinds := [.data, .pinned], laidTests := true, laidLooks := .later }
def TreeInheritsCardSaid : Prop := Claim7.holds Tryz.pinned (.plain (OpenSpec.ofChange treeInheritsSpec)) treeInheritsCard

/-- THE SECOND FORM's CARD OF 'godownlaw14.TreeCopies'. -/
def treeCopiesUptoCard : Claim7 := { stood := { row := treeCopiesUptoRow, standIns := [], harness := (true, "516ac203a1190b0cbeb6aa8cb6218cfb141934af7c3103625cca43e06af3b4f4"), looks := false }, kinds := [], alts := [], laidByText := true, laidKinds := [.data, .pinned], laidTests := true, laidLooks := .later }
def TreeCopiesUptoCardSaid : Prop := Claim7.holds Tryz.pinned (.plain (OpenSpec.upto treeCopiesSpec)) treeCopiesUptoCard

/-- THE SECOND FORM's CARD OF 'godownlaw17.SnapsOwn'. -/
def snapsOwnUptoCard : Claim7 := { stood := { row := snapsOwnUptoRow, standIns := [], harness := (true, "516ac203a1190b0cbeb6aa8cb6218cfb141934af7c3103625cca43e06af3b4f4"), looks := false }, kinds := [], alts := [], laidByText := true, laidKinds := [.data, .pinned], laidTests := true, laidLooks := .later }
def SnapsOwnUptoCardSaid : Prop := Claim7.holds Tryz.pinned (.plain (OpenSpec.upto snapsOwnSpec)) snapsOwnUptoCard

/-- THE SECOND FORM's CARD OF 'godownlaw18.HoldsNames'. -/
def holdsNamesUptoCard : Claim7 := { stood := { row := holdsNamesUptoRow, standIns := [], harness := (true, "516ac203a1190b0cbeb6aa8cb6218cfb141934af7c3103625cca43e06af3b4f4"), looks := false }, kinds := [], alts := [], laidByText := true, laidKinds := [.data, .pinned], laidTests := true, laidLooks := .later }
def HoldsNamesUptoCardSaid : Prop := Claim7.holds Tryz.pinned (.plain (OpenSpec.upto holdsNamesSpec)) holdsNamesUptoCard

/-- THE SECOND FORM's CARD OF 'godownlaw14.TreeInherits'. -/
def treeInheritsUptoCard : Claim7 := { stood := { row := treeInheritsUptoRow, standIns := [], harness := (true, "516ac203a1190b0cbeb6aa8cb6218cfb141934af7c3103625cca43e06af3b4f4"), looks := false }, kinds := [], alts := [], laidByText := true, laidKinds := [.data, .pinned], laidTests := true, laidLooks := .later }
def TreeInheritsUptoCardSaid : Prop := Claim7.holds Tryz.pinned (.plain (OpenSpec.upto treeInheritsSpec)) treeInheritsUptoCard
end Rows
end Go.Proofs.YtbppdlhbjddhjaaGreatDoor
