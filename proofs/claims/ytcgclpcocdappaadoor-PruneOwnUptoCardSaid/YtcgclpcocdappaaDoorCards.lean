/-
  DERIVED. GIVEN WITH THE SEED: THE CARDS: each row of YtcgclpcocdappaaDoorRows.lean that lists a variable, with what it lists TIED to the program's text (the seventh form; the later family's looks); each row that meets fmt, with fmt's text TOLD by the authors' own Lean function (tested against real Go, not proved from fmt's source: count such statements apart). THE CARD IS WHAT COUNTS. Prove the row's statement (the work); the ties are given (YtcgclpcocdappaaDoorTie.lean); close each card by the builder's one call (the guide's Derived/Test/ToyasCard.lean, 'card_holds'). Laid BY PROGRAM, IN A SANDBOX (cutbox-door.mjs). By AI agents, Wed Nov 11 2026. No macro, syntax, notation, axiom, sorry.
-/
import Derived.Test.YtcgclpcocdappaaDoorRows
import GoSem.ClaimSeven
namespace Go.Proofs.YtcgclpcocdappaaDoor
namespace Rows

/-- THE TIED CARD OF 'godownlaw39.PruneOwn'. -/
def pruneOwnCard : Claim7 := { stood := { row := pruneOwnRow, standIns := [], harness := (true, "0c732fdf096e2c6bee2e1adf01b87e1bb142034f23b603807fd28bfe25e371ae"), looks := false }, kinds := [], alts := [], laidByText := true, laidKinds := [.data, .pinned], laidTests := true, laidLooks := .later }
def PruneOwnCardSaid : Prop := Claim7.holds Tryd.pinned (.plain (OpenSpec.ofChange pruneOwnSpec)) pruneOwnCard

/-- THE SECOND FORM's CARD OF 'godownlaw39.PruneOwn'. -/
def pruneOwnUptoCard : Claim7 := { stood := { row := pruneOwnUptoRow, standIns := [], harness := (true, "0c732fdf096e2c6bee2e1adf01b87e1bb142034f23b603807fd28bfe25e371ae"), looks := false }, kinds := [], alts := [], laidByText := true, laidKinds := [.data, .pinned], laidTests := true, laidLooks := .later }
def PruneOwnUptoCardSaid : Prop := Claim7.holds Tryd.pinned (.plain (OpenSpec.upto pruneOwnSpec)) pruneOwnUptoCard
end Rows
end Go.Proofs.YtcgclpcocdappaaDoor
