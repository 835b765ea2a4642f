/-
  DERIVED. GIVEN WITH THE SEED: THE CARDS: each row of YtiojfffgiejibaaGreatDoorRows.lean that lists a variable, with what it lists TIED to the program's text (the seventh form; the later family's looks); each row that meets fmt, with fmt's text TOLD by the authors' own Lean function (tested against real Go, not proved from fmt's source: count such statements apart). THE CARD IS WHAT COUNTS. Prove the row's statement (the work); the ties are given (YtiojfffgiejibaaGreatDoorTie.lean); close each card by the builder's one call (the guide's Derived/Test/ToyasCard.lean, 'card_holds'). Laid BY PROGRAM, IN A SANDBOX (cutbox-door.mjs). By AI agents, Wed Nov 11 2026. No macro, syntax, notation, axiom, sorry.
-/
import Derived.Test.YtiojfffgiejibaaGreatDoorRows
import GoSem.ClaimSeven
namespace Go.Proofs.YtiojfffgiejibaaGreatDoor
namespace Rows

/-- THE TIED CARD OF 'godownlaw16.ShapeTells'. -/
def shapeTellsCard : Claim7 := { stood := { row := shapeTellsRow, standIns := [], harness := (true, "66411053103a3afca76fee880d7519cf9a0bab288985f39f95f40476dc1c3538"), looks := false }, kinds := [], alts := [], laidByText := true, laidKinds := [.data, .pinned], laidTests := true, laidLooks := .later }
def ShapeTellsCardSaid : Prop := Claim7.holds Tryz.pinned (.plain (OpenSpec.ofChange shapeTellsSpec)) shapeTellsCard

/-- THE TIED CARD OF 'godownlaw17.SnapsOwn'. -/
def snapsOwnCard : Claim7 := { stood := { row := snapsOwnRow, standIns := [], harness := (true, "66411053103a3afca76fee880d7519cf9a0bab288985f39f95f40476dc1c3538"), looks := false }, kinds := [], alts := [], laidByText := true, laidKinds := [.data, .pinned], laidTests := true, laidLooks := .later }
def SnapsOwnCardSaid : Prop := Claim7.holds Tryz.pinned (.plain (OpenSpec.ofChange snapsOwnSpec)) snapsOwnCard

/-- THE TIED CARD OF 'godownlaw17.SnapsTells'. -/
def snapsTellsCard : Claim7 := { stood := { row := snapsTellsRow, standIns := [], harness := (true, "66411053103a3afca76fee880d7519cf9a0bab288985f39f95f40476dc1c3538"), looks := false }, kinds := [], alts := [], laidByText := true, laidKinds := [.data, .pinned], laidTests := true, laidLooks := .later }
def SnapsTellsCardSaid : Prop := Claim7.holds Tryz.pinned (.plain (OpenSpec.ofChange snapsTellsSpec)) snapsTellsCard

/-- THE TIED CARD OF 'godownlaw18.HoldsTells'. -/
def holdsTellsCard : Claim7 := { stood := { row := holdsTellsRow, standIns := [], harness := (true, "66411053103a3afca76fee880d7519cf9a0bab288985f39f95f40476dc1c3538"), looks := false }, kinds := [], alts := [], laidByText := true, laidKinds := [.data, .pinned], laidTests := true, laidLooks := .later }
def HoldsTellsCardSaid : Prop := Claim7.holds Tryz.pinned (.plain (OpenSpec.ofChange holdsTellsSpec)) holdsTellsCard

/-- THE SECOND FORM's CARD OF 'godownlaw16.ShapeTells'. -/
def shapeTellsUptoCard : Claim7 := { stood := { row := shapeTellsUptoRow, standIns := [], harness := (true, "66411053103a3afca76fee880d7519cf9a0bab288985f39f95f40476dc1c3538"), looks := false }, kinds := [], alts := [], laidByText := true, laidKinds := [.data, .pinned], laidTests := true, laidLooks := .later }
def ShapeTellsUptoCardSaid : Prop := Claim7.holds Tryz.pinned (.plain (OpenSpec.upto shapeTellsSpec)) shapeTellsUptoCard

/-- THE SECOND FORM's CARD OF 'godownlaw17.SnapsOwn'. -/
def snapsOwnUptoCard : Claim7 := { stood := { row := snapsOwnUptoRow, standIns := [], harness := (true, "66411053103a3afca76fee880d7519cf9a0bab288985f39f95f40476dc1c3538"), looks := false }, kinds := [], alts := [], laidByText := true, laidKinds := [.data, .pinned], laidTests := true, laidLooks := .later }
def SnapsOwnUptoCardSaid : Prop := Claim7.holds Tryz.pinned (.plain (OpenSpec.upto snapsOwnSpec)) snapsOwnUptoCard

/-- THE SECOND FORM's CARD OF 'godownlaw17.SnapsTells'. -/
def snapsTellsUptoCard : Claim7 := { stood := { row := snapsTellsUptoRow, standIns := [], harness := (true, "66411053103a3afca76fee880d7519cf9a0bab288985f39f95f40476dc1c3538"), looks := false }, kinds := [], alts := [], laidByText := true, laidKinds := [.data, .pinned], laidTests := true, laidLooks := .later }
def SnapsTellsUptoCardSaid : Prop := Claim7.holds Tryz.pinned (.plain (OpenSpec.upto snapsTellsSpec)) snapsTellsUptoCard

/-- THE SECOND FORM's CARD OF 'godownlaw18.HoldsTells'. -/
def holdsTellsUptoCard : Claim7 := { stood := { row := holdsTellsUptoRow, standIns := [], harness := (true, "66411053103a3afca76fee880d7519cf9a0bab288985f39f95f40476dc1c3538"), looks := false }, kinds := [], alts := [], laidByText := true, laidKinds := [.data, .pinned], laidTests := true, laidLooks := .later }
def HoldsTellsUptoCardSaid : Prop := Claim7.holds Tryz.pinned (.plain (OpenSpec.upto holdsTellsSpec)) holdsTellsUptoCard
end Rows
end Go.Proofs.YtiojfffgiejibaaGreatDoor
