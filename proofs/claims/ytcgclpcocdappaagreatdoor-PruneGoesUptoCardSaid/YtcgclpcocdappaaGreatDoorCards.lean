/-
  DERIVED. GIVEN WITH THE SEED: THE CARDS: each row of YtcgclpcocdappaaGreatDoorRows.lean that lists a variable, with what it lists TIED to the program's text (the seventh form; the later family's looks); each row that meets fmt, with fmt's text TOLD by the authors' own Lean function (tested against real Go, not proved from fmt's source: count such statements apart). THE CARD IS WHAT COUNTS. Prove the row's statement (the work); the ties are given (YtcgclpcocdappaaGreatDoorTie.lean); close each card by the builder's one call (the guide's Derived/Test/ToyasCard.lean, 'card_holds'). Laid BY PROGRAM, IN A SANDBOX (cutbox-door.mjs). By AI agents, Wed Nov 11 2026. No macro, syntax, notation, axiom, sorry.
-/
import Derived.Test.YtcgclpcocdappaaGreatDoorRows
import GoSem.ClaimSeven
namespace Go.Proofs.YtcgclpcocdappaaGreatDoor
namespace Rows

/-- THE TIED CARD OF 'godownlaw17.SnapsBack'. -/
def snapsBackCard : Claim7 := { stood := { row := snapsBackRow, standIns := [], harness := (true, "55cef5bbd77e127f376dd8ed5c5db2f8e63c0e04bb13cdf60e1f2c2f0b171cf9"), looks := false }, kinds := [], alts := [], laidByText := true, laidKinds := [.data, .pinned], laidTests := true, laidLooks := .later }
def SnapsBackCardSaid : Prop := Claim7.holds Tryz.pinned (.plain (OpenSpec.ofChange snapsBackSpec)) snapsBackCard

/-- THE TIED CARD OF 'godownlaw39.PruneGoes'. -/
def pruneGoesCard : Claim7 := { stood := { row := pruneGoesRow, standIns := [], harness := (true, "55cef5bbd77e127f376dd8ed5c5db2f8e63c0e04bb13cdf60e1f2c2f0b171cf9"), looks := false }, kinds := [], alts := [], laidByText := true, laidKinds := [.data, .pinned], laidTests := true, laidLooks := .later }
def PruneGoesCardSaid : Prop := Claim7.holds Tryz.pinned (.plain (OpenSpec.ofChange pruneGoesSpec)) pruneGoesCard

/-- THE TIED CARD OF 'godownlaw17.SnapsClones'. -/
def snapsClonesCard : Claim7 := { stood := { row := snapsClonesRow, standIns := [], harness := (true, "55cef5bbd77e127f376dd8ed5c5db2f8e63c0e04bb13cdf60e1f2c2f0b171cf9"), looks := false }, kinds := [], alts := [], laidByText := true, laidKinds := [.data, .pinned], laidTests := true, laidLooks := .later }
def SnapsClonesCardSaid : Prop := Claim7.holds Tryz.pinned (.plain (OpenSpec.ofChange snapsClonesSpec)) snapsClonesCard

/-- THE TIED CARD OF 'godownlaw16.ShapeTurns'. -/
def shapeTurnsCard : Claim7 := { stood := { row := shapeTurnsRow, standIns := [], harness := (true, "55cef5bbd77e127f376dd8ed5c5db2f8e63c0e04bb13cdf60e1f2c2f0b171cf9"), looks := false }, kinds := [], alts := [], laidByText := true, laidKinds := [.data, .pinned], laidTests := true, laidLooks := .later }
def ShapeTurnsCardSaid : Prop := Claim7.holds Tryz.pinned (.plain (OpenSpec.ofChange shapeTurnsSpec)) shapeTurnsCard

/-- THE TIED CARD OF 'godownlaw18.HoldsKeeps'. -/
def holdsKeepsCard : Claim7 := { stood := { row := holdsKeepsRow, standIns := [], harness := (true, "55cef5bbd77e127f376dd8ed5c5db2f8e63c0e04bb13cdf60e1f2c2f0b171cf9"), looks := false }, kinds := [], alts := [], laidByText := true, laidKinds := [.data, .pinned], laidTests := true, laidLooks := .later }
def HoldsKeepsCardSaid : Prop := Claim7.holds Tryz.pinned (.plain (OpenSpec.ofChange holdsKeepsSpec)) holdsKeepsCard

/-- THE SECOND FORM's CARD OF 'godownlaw17.SnapsBack'. -/
def snapsBackUptoCard : Claim7 := { stood := { row := snapsBackUptoRow, standIns := [], harness := (true, "55cef5bbd77e127f376dd8ed5c5db2f8e63c0e04bb13cdf60e1f2c2f0b171cf9"), looks := false }, kinds := [], alts := [], laidByText := true, laidKinds := [.data, .pinned], laidTests := true, laidLooks := .later }
def SnapsBackUptoCardSaid : Prop := Claim7.holds Tryz.pinned (.plain (OpenSpec.upto snapsBackSpec)) snapsBackUptoCard

/-- THE SECOND FORM's CARD OF 'godownlaw39.PruneGoes'. -/
def pruneGoesUptoCard : Claim7 := { stood := { row := pruneGoesUptoRow, standIns := [], harness := (true, "55cef5bbd77e127f376dd8ed5c5db2f8e63c0e04bb13cdf60e1f2c2f0b171cf9"), looks := false }, kinds := [], alts := [], laidByText := true, laidKinds := [.data, .pinned], laidTests := true, laidLooks := .later }
def PruneGoesUptoCardSaid : Prop := Claim7.holds Tryz.pinned (.plain (OpenSpec.upto pruneGoesSpec)) pruneGoesUptoCard

/-- THE SECOND FORM's CARD OF 'godownlaw17.SnapsClones'. -/
def snapsClonesUptoCard : Claim7 := { stood := { row := snapsClonesUptoRow, standIns := [], harness := (true, "55cef5bbd77e127f376dd8ed5c5db2f8e63c0e04bb13cdf60e1f2c2f0b171cf9"), looks := false }, kinds := [], alts := [], laidByText := true, laidKinds := [.data, .pinned], laidTests := true, laidLooks := .later }
def SnapsClonesUptoCardSaid : Prop := Claim7.holds Tryz.pinned (.plain (OpenSpec.upto snapsClonesSpec)) snapsClonesUptoCard

/-- THE SECOND FORM's CARD OF 'godownlaw16.ShapeTurns'. -/
def shapeTurnsUptoCard : Claim7 := { stood := { row := shapeTurnsUptoRow, standIns := [], harness := (true, "55cef5bbd77e127f376dd8ed5c5db2f8e63c0e04bb13cdf60e1f2c2f0b171cf9"), looks := false }, kinds := [], alts := [], laidByText := true, laidKinds := [.data, .pinned], laidTests := true, laidLooks := .later }
def ShapeTurnsUptoCardSaid : Prop := Claim7.holds Tryz.pinned (.plain (OpenSpec.upto shapeTurnsSpec)) shapeTurnsUptoCard

/-- THE SECOND FORM's CARD OF 'godownlaw18.HoldsKeeps'. -/
def holdsKeepsUptoCard : Claim7 := { stood := { row := holdsKeepsUptoRow, standIns := [], harness := (true, "55cef5bbd77e127f376dd8ed5c5db2f8e63c0e04bb13cdf60e1f2c2f0b171cf9"), looks := false }, kinds := [], alts := [], laidByText := true, laidKinds := [.data, .pinned], laidTests := true, laidLooks := .later }
def HoldsKeepsUptoCardSaid : Prop := Claim7.holds Tryz.pinned (.plain (OpenSpec.upto holdsKeepsSpec)) holdsKeepsUptoCard
end Rows
end Go.Proofs.YtcgclpcocdappaaGreatDoor
