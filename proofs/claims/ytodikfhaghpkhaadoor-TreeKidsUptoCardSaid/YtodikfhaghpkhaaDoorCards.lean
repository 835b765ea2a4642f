/-
  DERIVED. GIVEN WITH THE SEED: THE CARDS: each row of YtodikfhaghpkhaaDoorRows.lean that lists a variable, with what it lists TIED to the program's text (the seventh form; the later family's looks); each row that meets fmt, with fmt's text TOLD by the authors' own Lean function (tested against real Go, not proved from fmt's source: count such statements apart). THE CARD IS WHAT COUNTS. Prove the row's statement (the work); the ties are given (YtodikfhaghpkhaaDoorTie.lean); close each card by the builder's one call (the guide's Derived/Test/ToyasCard.lean, 'card_holds'). Laid BY PROGRAM, IN A SANDBOX (cutbox-door.mjs). By AI agents, Wed Nov 11 2026. No macro, syntax, notation, axiom, sorry.
-/
import Derived.Test.YtodikfhaghpkhaaDoorRows
import GoSem.ClaimSeven
namespace Go.Proofs.YtodikfhaghpkhaaDoor
namespace Rows

/-- THE TIED CARD OF 'godownlaw14.TreeKids'. -/
def treeKidsCard : Claim7 := { stood := { row := treeKidsRow, standIns := [], harness := (true, "223fbcdb74f89cdd4bd853f85ba8c1874a4362c713f7763cd336ba81db35f6e7"), looks := false }, kinds := [], alts := [], laidByText := true, laidKinds := [.data, .pinned], laidTests := true, laidLooks := .later }
def TreeKidsCardSaid : Prop := Claim7.holds Tryd.pinned (.plain (OpenSpec.ofChange treeKidsSpec)) treeKidsCard

/-- THE TIED CARD OF 'godownlaw13.PermsGives'. -/
def permsGivesCard : Claim7 := { stood := { row := permsGivesRow, standIns := [], harness := (true, "223fbcdb74f89cdd4bd853f85ba8c1874a4362c713f7763cd336ba81db35f6e7"), looks := false }, kinds := [], alts := [], laidByText := true, laidKinds := [.data, .pinned], laidTests := true, laidLooks := .later }
def PermsGivesCardSaid : Prop := Claim7.holds Tryd.pinned (.plain (OpenSpec.ofChange permsGivesSpec)) permsGivesCard

/-- THE TIED CARD OF 'godownlaw13.PermsOwner'. -/
def permsOwnerCard : Claim7 := { stood := { row := permsOwnerRow, standIns := [], harness := (true, "223fbcdb74f89cdd4bd853f85ba8c1874a4362c713f7763cd336ba81db35f6e7"), looks := false }, kinds := [], alts := [], laidByText := true, laidKinds := [.data, .pinned], laidTests := true, laidLooks := .later }
def PermsOwnerCardSaid : Prop := Claim7.holds Tryd.pinned (.plain (OpenSpec.ofChange permsOwnerSpec)) permsOwnerCard

/-- THE TIED CARD OF 'godownlaw13.PermsTakes'. -/
def permsTakesCard : Claim7 := { stood := { row := permsTakesRow, standIns := [], harness := (true, "223fbcdb74f89cdd4bd853f85ba8c1874a4362c713f7763cd336ba81db35f6e7"), looks := false }, kinds := [], alts := [], laidByText := true, laidKinds := [.data, .pinned], laidTests := true, laidLooks := .later }
def PermsTakesCardSaid : Prop := Claim7.holds Tryd.pinned (.plain (OpenSpec.ofChange permsTakesSpec)) permsTakesCard

/-- THE TIED CARD OF 'godownlaw39.PruneOwn'. -/
def pruneOwnCard : Claim7 := { stood := { row := pruneOwnRow, standIns := [], harness := (true, "223fbcdb74f89cdd4bd853f85ba8c1874a4362c713f7763cd336ba81db35f6e7"), looks := false }, kinds := [], alts := [], laidByText := true, laidKinds := [.data, .pinned], laidTests := true, laidLooks := .later }
def PruneOwnCardSaid : Prop := Claim7.holds Tryd.pinned (.plain (OpenSpec.ofChange pruneOwnSpec)) pruneOwnCard

/-- THE SECOND FORM's CARD OF 'godownlaw14.TreeKids'. -/
def treeKidsUptoCard : Claim7 := { stood := { row := treeKidsUptoRow, standIns := [], harness := (true, "223fbcdb74f89cdd4bd853f85ba8c1874a4362c713f7763cd336ba81db35f6e7"), looks := false }, kinds := [], alts := [], laidByText := true, laidKinds := [.data, .pinned], laidTests := true, laidLooks := .later }
def TreeKidsUptoCardSaid : Prop := Claim7.holds Tryd.pinned (.plain (OpenSpec.upto treeKidsSpec)) treeKidsUptoCard

/-- THE SECOND FORM's CARD OF 'godownlaw13.PermsGives'. -/
def permsGivesUptoCard : Claim7 := { stood := { row := permsGivesUptoRow, standIns := [], harness := (true, "223fbcdb74f89cdd4bd853f85ba8c1874a4362c713f7763cd336ba81db35f6e7"), looks := false }, kinds := [], alts := [], laidByText := true, laidKinds := [.data, .pinned], laidTests := true, laidLooks := .later }
def PermsGivesUptoCardSaid : Prop := Claim7.holds Tryd.pinned (.plain (OpenSpec.upto permsGivesSpec)) permsGivesUptoCard

/-- THE SECOND FORM's CARD OF 'godownlaw13.PermsOwner'. -/
def permsOwnerUptoCard : Claim7 := { stood := { row := permsOwnerUptoRow, standIns := [], harness := (true, "223fbcdb74f89cdd4bd853f85ba8c1874a4362c713f7763cd336ba81db35f6e7"), looks := false }, kinds := [], alts := [], laidByText := true, laidKinds := [.data, .pinned], laidTests := true, laidLooks := .later }
def PermsOwnerUptoCardSaid : Prop := Claim7.holds Tryd.pinned (.plain (OpenSpec.upto permsOwnerSpec)) permsOwnerUptoCard

/-- THE SECOND FORM's CARD OF 'godownlaw13.PermsTakes'. -/
def permsTakesUptoCard : Claim7 := { stood := { row := permsTakesUptoRow, standIns := [], harness := (true, "223fbcdb74f89cdd4bd853f85ba8c1874a4362c713f7763cd336ba81db35f6e7"), looks := false }, kinds := [], alts := [], laidByText := true, laidKinds := [.data, .pinned], laidTests := true, laidLooks := .later }
def PermsTakesUptoCardSaid : Prop := Claim7.holds Tryd.pinned (.plain (OpenSpec.upto permsTakesSpec)) permsTakesUptoCard

/-- THE SECOND FORM's CARD OF 'godownlaw39.PruneOwn'. -/
def pruneOwnUptoCard : Claim7 := { stood := { row := pruneOwnUptoRow, standIns := [], harness := (true, "223fbcdb74f89cdd4bd853f85ba8c1874a4362c713f7763cd336ba81db35f6e7"), looks := false }, kinds := [], alts := [], laidByText := true, laidKinds := [.data, .pinned], laidTests := true, laidLooks := .later }
def PruneOwnUptoCardSaid : Prop := Claim7.holds Tryd.pinned (.plain (OpenSpec.upto pruneOwnSpec)) pruneOwnUptoCard
end Rows
end Go.Proofs.YtodikfhaghpkhaaDoor
