/-
  DERIVED. GIVEN WITH THE SEED: THE CARDS: each row of YtjdebhemoeojiaaDoorRows.lean that lists a variable, with what it lists TIED to the program's text (the seventh form; the later family's looks); each row that meets fmt, with fmt's text TOLD by the authors' own Lean function (tested against real Go, not proved from fmt's source: count such statements apart). THE CARD IS WHAT COUNTS. Prove the row's statement (the work); the ties are given (YtjdebhemoeojiaaDoorTie.lean); close each card by the builder's one call (the guide's Derived/Test/ToyasCard.lean, 'card_holds'). Laid BY PROGRAM, IN A SANDBOX (cutbox-door.mjs). By AI agents, Wed Nov 11 2026. No macro, syntax, notation, axiom, sorry.
-/
import Derived.Test.YtjdebhemoeojiaaDoorRows
import GoSem.ClaimSeven
namespace Go.Proofs.YtjdebhemoeojiaaDoor
namespace Rows

/-- THE TIED CARD OF 'godownlaw27.SessionOwn'. -/
def sessionOwnCard : Claim7 := { stood := { row := sessionOwnRow, standIns := [], harness := (true, "de72f5bfaf07b418764f28be5af429a057affaac6071b9b5bb53da6e82430227"), looks := false }, kinds := [], alts := [], laidByText := true, laidKinds := [.data, .pinned], laidTests := true, laidLooks := .later }
def SessionOwnCardSaid : Prop := Claim7.holds Tryd.pinned (.plain (OpenSpec.ofChange sessionOwnSpec)) sessionOwnCard

/-- THE TIED CARD OF 'godownlaw27.SessionOthers'. -/
def sessionOthersCard : Claim7 := { stood := { row := sessionOthersRow, standIns := [], harness := (true, "de72f5bfaf07b418764f28be5af429a057affaac6071b9b5bb53da6e82430227"), looks := false }, kinds := [], alts := [], laidByText := true, laidKinds := [.data, .pinned], laidTests := true, laidLooks := .later }
def SessionOthersCardSaid : Prop := Claim7.holds Tryd.pinned (.plain (OpenSpec.ofChange sessionOthersSpec)) sessionOthersCard

/-- THE TIED CARD OF 'godownlaw27.SessionMay'. -/
def sessionMayCard : Claim7 := { stood := { row := sessionMayRow, standIns := [], harness := (true, "de72f5bfaf07b418764f28be5af429a057affaac6071b9b5bb53da6e82430227"), looks := false }, kinds := [], alts := [], laidByText := true, laidKinds := [.data, .pinned], laidTests := true, laidLooks := .later }
def SessionMayCardSaid : Prop := Claim7.holds Tryd.pinned (.plain (OpenSpec.ofChange sessionMaySpec)) sessionMayCard

/-- THE TIED CARD OF 'godownlaw23.TokenTells'. -/
def tokenTellsCard : Claim7 := { stood := { row := tokenTellsRow, standIns := [], harness := (true, "de72f5bfaf07b418764f28be5af429a057affaac6071b9b5bb53da6e82430227"), looks := false }, kinds := [], alts := [], laidByText := true, laidKinds := [.data, .pinned], laidTests := true, laidLooks := .later }
def TokenTellsCardSaid : Prop := Claim7.holds Tryd.pinned (.plain (OpenSpec.ofChange tokenTellsSpec)) tokenTellsCard

/-- THE TIED CARD OF 'godownlaw23.TokenBack'. -/
def tokenBackCard : Claim7 := { stood := { row := tokenBackRow, standIns := [], harness := (true, "de72f5bfaf07b418764f28be5af429a057affaac6071b9b5bb53da6e82430227"), looks := false }, kinds := [], alts := [], laidByText := true, laidKinds := [.data, .pinned], laidTests := true, laidLooks := .later }
def TokenBackCardSaid : Prop := Claim7.holds Tryd.pinned (.plain (OpenSpec.ofChange tokenBackSpec)) tokenBackCard

/-- THE SECOND FORM's CARD OF 'godownlaw27.SessionOwn'. -/
def sessionOwnUptoCard : Claim7 := { stood := { row := sessionOwnUptoRow, standIns := [], harness := (true, "de72f5bfaf07b418764f28be5af429a057affaac6071b9b5bb53da6e82430227"), looks := false }, kinds := [], alts := [], laidByText := true, laidKinds := [.data, .pinned], laidTests := true, laidLooks := .later }
def SessionOwnUptoCardSaid : Prop := Claim7.holds Tryd.pinned (.plain (OpenSpec.upto sessionOwnSpec)) sessionOwnUptoCard

/-- THE SECOND FORM's CARD OF 'godownlaw27.SessionOthers'. -/
def sessionOthersUptoCard : Claim7 := { stood := { row := sessionOthersUptoRow, standIns := [], harness := (true, "de72f5bfaf07b418764f28be5af429a057affaac6071b9b5bb53da6e82430227"), looks := false }, kinds := [], alts := [], laidByText := true, laidKinds := [.data, .pinned], laidTests := true, laidLooks := .later }
def SessionOthersUptoCardSaid : Prop := Claim7.holds Tryd.pinned (.plain (OpenSpec.upto sessionOthersSpec)) sessionOthersUptoCard

/-- THE SECOND FORM's CARD OF 'godownlaw27.SessionMay'. -/
def sessionMayUptoCard : Claim7 := { stood := { row := sessionMayUptoRow, standIns := [], harness := (true, "de72f5bfaf07b418764f28be5af429a057affaac6071b9b5bb53da6e82430227"), looks := false }, kinds := [], alts := [], laidByText := true, laidKinds := [.data, .pinned], laidTests := true, laidLooks := .later }
def SessionMayUptoCardSaid : Prop := Claim7.holds Tryd.pinned (.plain (OpenSpec.upto sessionMaySpec)) sessionMayUptoCard

/-- THE SECOND FORM's CARD OF 'godownlaw23.TokenTells'. -/
def tokenTellsUptoCard : Claim7 := { stood := { row := tokenTellsUptoRow, standIns := [], harness := (true, "de72f5bfaf07b418764f28be5af429a057affaac6071b9b5bb53da6e82430227"), looks := false }, kinds := [], alts := [], laidByText := true, laidKinds := [.data, .pinned], laidTests := true, laidLooks := .later }
def TokenTellsUptoCardSaid : Prop := Claim7.holds Tryd.pinned (.plain (OpenSpec.upto tokenTellsSpec)) tokenTellsUptoCard

/-- THE SECOND FORM's CARD OF 'godownlaw23.TokenBack'. -/
def tokenBackUptoCard : Claim7 := { stood := { row := tokenBackUptoRow, standIns := [], harness := (true, "de72f5bfaf07b418764f28be5af429a057affaac6071b9b5bb53da6e82430227"), looks := false }, kinds := [], alts := [], laidByText := true, laidKinds := [.data, .pinned], laidTests := true, laidLooks := .later }
def TokenBackUptoCardSaid : Prop := Claim7.holds Tryd.pinned (.plain (OpenSpec.upto tokenBackSpec)) tokenBackUptoCard
end Rows
end Go.Proofs.YtjdebhemoeojiaaDoor
