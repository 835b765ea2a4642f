/-
  DERIVED. GIVEN WITH THE SEED: THE CARDS: each row of YteafdncnnamakaaGreatDoorRows.lean that lists a variable, with what it lists TIED to the program's text (the seventh form; the later family's looks); each row that meets fmt, with fmt's text TOLD by the authors' own Lean function (tested against real Go, not proved from fmt's source: count such statements apart). THE CARD IS WHAT COUNTS. Prove the row's statement (the work); the ties are given (YteafdncnnamakaaGreatDoorTie.lean); close each card by the builder's one call (the guide's Derived/Test/ToyasCard.lean, 'card_holds'). Laid BY PROGRAM, IN A SANDBOX (cutbox-door.mjs). By AI agents, Wed Nov 11 2026. No macro, syntax, notation, axiom, sorry.
-/
import Derived.Test.YteafdncnnamakaaGreatDoorRows
import GoSem.ClaimSeven
namespace Go.Proofs.YteafdncnnamakaaGreatDoor
namespace Rows

/-- THE TIED CARD OF 'godownlaw16.ShapeTells'. -/
def shapeTellsCard : Claim7 := { stood := { row := shapeTellsRow, standIns := [], harness := (true, "78264901b05fbf5491b93fd2b539cda28b447c81c0a5b15194c6fe56ffa85c49"), looks := false }, kinds := [], alts := [], laidByText := true, laidKinds := [.data, .pinned], laidTests := true, laidLooks := .later }
def ShapeTellsCardSaid : Prop := Claim7.holds Tryz.pinned (.plain (OpenSpec.ofChange shapeTellsSpec)) shapeTellsCard

/-- THE TIED CARD OF 'godownlaw16.ShapeBack'. -/
def shapeBackCard : Claim7 := { stood := { row := shapeBackRow, standIns := [], harness := (true, "78264901b05fbf5491b93fd2b539cda28b447c81c0a5b15194c6fe56ffa85c49"), looks := false }, kinds := [], alts := [], laidByText := true, laidKinds := [.data, .pinned], laidTests := true, laidLooks := .later }
def ShapeBackCardSaid : Prop := Claim7.holds Tryz.pinned (.plain (OpenSpec.ofChange shapeBackSpec)) shapeBackCard

/-- THE TIED CARD OF 'godownlaw16.ShapeMay'. -/
def shapeMayCard : Claim7 := { stood := { row := shapeMayRow, standIns := [], harness := (true, "78264901b05fbf5491b93fd2b539cda28b447c81c0a5b15194c6fe56ffa85c49"), looks := false }, kinds := [], alts := [], laidByText := true, laidKinds := [.data, .pinned], laidTests := true, laidLooks := .later }
def ShapeMayCardSaid : Prop := Claim7.holds Tryz.pinned (.plain (OpenSpec.ofChange shapeMaySpec)) shapeMayCard

/-- THE TIED CARD OF 'godownlaw16.ShapeTurns'. -/
def shapeTurnsCard : Claim7 := { stood := { row := shapeTurnsRow, standIns := [], harness := (true, "78264901b05fbf5491b93fd2b539cda28b447c81c0a5b15194c6fe56ffa85c49"), looks := false }, kinds := [], alts := [], laidByText := true, laidKinds := [.data, .pinned], laidTests := true, laidLooks := .later }
def ShapeTurnsCardSaid : Prop := Claim7.holds Tryz.pinned (.plain (OpenSpec.ofChange shapeTurnsSpec)) shapeTurnsCard

/-- THE SECOND FORM's CARD OF 'godownlaw16.ShapeTells'. -/
def shapeTellsUptoCard : Claim7 := { stood := { row := shapeTellsUptoRow, standIns := [], harness := (true, "78264901b05fbf5491b93fd2b539cda28b447c81c0a5b15194c6fe56ffa85c49"), looks := false }, kinds := [], alts := [], laidByText := true, laidKinds := [.data, .pinned], laidTests := true, laidLooks := .later }
def ShapeTellsUptoCardSaid : Prop := Claim7.holds Tryz.pinned (.plain (OpenSpec.upto shapeTellsSpec)) shapeTellsUptoCard

/-- THE SECOND FORM's CARD OF 'godownlaw16.ShapeBack'. -/
def shapeBackUptoCard : Claim7 := { stood := { row := shapeBackUptoRow, standIns := [], harness := (true, "78264901b05fbf5491b93fd2b539cda28b447c81c0a5b15194c6fe56ffa85c49"), looks := false }, kinds := [], alts := [], laidByText := true, laidKinds := [.data, .pinned], laidTests := true, laidLooks := .later }
def ShapeBackUptoCardSaid : Prop := Claim7.holds Tryz.pinned (.plain (OpenSpec.upto shapeBackSpec)) shapeBackUptoCard

/-- THE SECOND FORM's CARD OF 'godownlaw16.ShapeMay'. -/
def shapeMayUptoCard : Claim7 := { stood := { row := shapeMayUptoRow, standIns := [], harness := (true, "78264901b05fbf5491b93fd2b539cda28b447c81c0a5b15194c6fe56ffa85c49"), looks := false }, kinds := [], alts := [], laidByText := true, laidKinds := [.data, .pinned], laidTests := true, laidLooks := .later }
def ShapeMayUptoCardSaid : Prop := Claim7.holds Tryz.pinned (.plain (OpenSpec.upto shapeMaySpec)) shapeMayUptoCard

/-- THE SECOND FORM's CARD OF 'godownlaw16.ShapeTurns'. -/
def shapeTurnsUptoCard : Claim7 := { stood := { row := shapeTurnsUptoRow, standIns := [], harness := (true, "78264901b05fbf5491b93fd2b539cda28b447c81c0a5b15194c6fe56ffa85c49"), looks := false }, kinds := [], alts := [], laidByText := true, laidKinds := [.data, .pinned], laidTests := true, laidLooks := .later }
def ShapeTurnsUptoCardSaid : Prop := Claim7.holds Tryz.pinned (.plain (OpenSpec.upto shapeTurnsSpec)) shapeTurnsUptoCard
end Rows
end Go.Proofs.YteafdncnnamakaaGreatDoor
