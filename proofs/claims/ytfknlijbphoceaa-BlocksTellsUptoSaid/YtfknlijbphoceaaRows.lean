/-
  No cell of these rows narrows 'for every input' (looked for: loops, veiled, ifaces, maps, wideKeys, modest, calm, conditions, laid).
  DERIVED. THE GIVEN ROWS OF THIS SEAT. 5 by the template 'for every input the law returns true; each argument reads behind the call as it read before'; 0 by the template 'total and deterministic' (their statements: YtfknlijbphoceaaTotals.lean).
  GIVEN WITH THE SEED: the statements are not yours to turn. If you find one false, say at which input.
  Laid BY PROGRAM, IN A SANDBOX (cutbox-rows.mjs): the forced cells as the released guide's own fill.sh prints them over the translation 0f35cab0472aea4a… (all of the seat's roots in one cut). By AI agents, Wed Nov 11 2026. No macro, syntax, notation, axiom, sorry.
-/
import Derived.Test.YtfknlijbphoceaaChecked
import GoSem.Claim
import GoSem.ClaimJoined
import GoSem.ClaimMapViews
import Derived.JoinedTies
import Derived.KernelRfl
namespace Go.Proofs.Ytfknlijbphoceaa
/- THE CELL 'sum', in the pinned program and in every row, IS THE sha256 OF THE DUMP (.gsa) THAT YtfknlijbphoceaaProg.lean LOADS. Nothing in Lean hashes anything: it is a label: what it is worth is what the hold of that sum in a sandbox is worth. -/
noncomputable def Try.pinned : Pinned := { name := "ytfknlijbphoceaa", sum := "0f35cab0472aea4a04de6c3cc54bdf7ccd2d75ff744af6e4280eadaa38bb71f9", checked := Try.checked }
namespace Rows
def none {H : Type} : Left H := { results := [], args := [] }

/-- 'godownlaw11.BlocksOwn': WHATEVER THE INPUT: true; the input reads as it did. -/
def blocksOwnSpec : ChangeSpec := { name := "blocksOwn", fn := fun _ => fun
  | [d1, d2, d3] => { results := [.lit (.bool true)], args := [d1, d2, d3] }
  | _ => none }
def blocksOwnRow : OpenClaim := { program := "ytfknlijbphoceaa", sum := "0f35cab0472aea4a04de6c3cc54bdf7ccd2d75ff744af6e4280eadaa38bb71f9", func := "godown/godownlaw11.BlocksOwn", spec := "blocksOwn", inPlace := ["slices.overlaps[godown/api.Block]"], unfollowed := true, recurses := true, apart := false }
def BlocksOwnSaid : Prop := blocksOwnRow.holds Try.pinned (OpenSpec.ofChange blocksOwnSpec)

/-- ITS FALSE NEIGHBOUR: 'it returns false'. Refute it at one input. -/
def blocksOwnWrong : ChangeSpec := { name := "blocksOwn", fn := fun _ => fun
  | [d1, d2, d3] => { results := [.lit (.bool false)], args := [d1, d2, d3] }
  | _ => none }
def BlocksOwnWrongFalsely : Prop := blocksOwnRow.holds Try.pinned (OpenSpec.ofChange blocksOwnWrong)

/-- 'godownlaw11.BlocksDiff': WHATEVER THE INPUT: true; the input reads as it did. -/
def blocksDiffSpec : ChangeSpec := { name := "blocksDiff", fn := fun _ => fun
  | [d1, d2] => { results := [.lit (.bool true)], args := [d1, d2] }
  | _ => none }
def blocksDiffRow : OpenClaim := { program := "ytfknlijbphoceaa", sum := "0f35cab0472aea4a04de6c3cc54bdf7ccd2d75ff744af6e4280eadaa38bb71f9", func := "godown/godownlaw11.BlocksDiff", spec := "blocksDiff", inPlace := ["slices.overlaps[godown/api.Block]"], unfollowed := true, recurses := true, apart := false }
def BlocksDiffSaid : Prop := blocksDiffRow.holds Try.pinned (OpenSpec.ofChange blocksDiffSpec)

/-- ITS FALSE NEIGHBOUR: 'it returns false'. Refute it at one input. -/
def blocksDiffWrong : ChangeSpec := { name := "blocksDiff", fn := fun _ => fun
  | [d1, d2] => { results := [.lit (.bool false)], args := [d1, d2] }
  | _ => none }
def BlocksDiffWrongFalsely : Prop := blocksDiffRow.holds Try.pinned (OpenSpec.ofChange blocksDiffWrong)

/-- 'godownlaw11.BlocksApply': WHATEVER THE INPUT: true; the input reads as it did. -/
def blocksApplySpec : ChangeSpec := { name := "blocksApply", fn := fun _ => fun
  | [d1, d2] => { results := [.lit (.bool true)], args := [d1, d2] }
  | _ => none }
def blocksApplyRow : OpenClaim := { program := "ytfknlijbphoceaa", sum := "0f35cab0472aea4a04de6c3cc54bdf7ccd2d75ff744af6e4280eadaa38bb71f9", func := "godown/godownlaw11.BlocksApply", spec := "blocksApply", inPlace := ["slices.overlaps[godown/api.Block]"], unfollowed := true, recurses := true, apart := false }
def BlocksApplySaid : Prop := blocksApplyRow.holds Try.pinned (OpenSpec.ofChange blocksApplySpec)

/-- ITS FALSE NEIGHBOUR: 'it returns false'. Refute it at one input. -/
def blocksApplyWrong : ChangeSpec := { name := "blocksApply", fn := fun _ => fun
  | [d1, d2] => { results := [.lit (.bool false)], args := [d1, d2] }
  | _ => none }
def BlocksApplyWrongFalsely : Prop := blocksApplyRow.holds Try.pinned (OpenSpec.ofChange blocksApplyWrong)

/-- 'godownlaw11.BlocksBack': WHATEVER THE INPUT: true; the input reads as it did. -/
def blocksBackSpec : ChangeSpec := { name := "blocksBack", fn := fun _ => fun
  | [d1, d2] => { results := [.lit (.bool true)], args := [d1, d2] }
  | _ => none }
def blocksBackRow : OpenClaim := { program := "ytfknlijbphoceaa", sum := "0f35cab0472aea4a04de6c3cc54bdf7ccd2d75ff744af6e4280eadaa38bb71f9", func := "godown/godownlaw11.BlocksBack", spec := "blocksBack", inPlace := ["slices.overlaps[godown/api.Block]"], unfollowed := true, recurses := true, apart := false }
def BlocksBackSaid : Prop := blocksBackRow.holds Try.pinned (OpenSpec.ofChange blocksBackSpec)

/-- ITS FALSE NEIGHBOUR: 'it returns false'. Refute it at one input. -/
def blocksBackWrong : ChangeSpec := { name := "blocksBack", fn := fun _ => fun
  | [d1, d2] => { results := [.lit (.bool false)], args := [d1, d2] }
  | _ => none }
def BlocksBackWrongFalsely : Prop := blocksBackRow.holds Try.pinned (OpenSpec.ofChange blocksBackWrong)

/-- 'godownlaw11.BlocksTells': WHATEVER THE INPUT: true; the input reads as it did. -/
def blocksTellsSpec : ChangeSpec := { name := "blocksTells", fn := fun _ => fun
  | [d1, d2, d3, d4, d5] => { results := [.lit (.bool true)], args := [d1, d2, d3, d4, d5] }
  | _ => none }
def blocksTellsRow : OpenClaim := { program := "ytfknlijbphoceaa", sum := "0f35cab0472aea4a04de6c3cc54bdf7ccd2d75ff744af6e4280eadaa38bb71f9", func := "godown/godownlaw11.BlocksTells", spec := "blocksTells", inPlace := ["slices.overlaps[godown/api.Block]"], unfollowed := true, recurses := true, apart := false }
def BlocksTellsSaid : Prop := blocksTellsRow.holds Try.pinned (OpenSpec.ofChange blocksTellsSpec)

/-- ITS FALSE NEIGHBOUR: 'it returns false'. Refute it at one input. -/
def blocksTellsWrong : ChangeSpec := { name := "blocksTells", fn := fun _ => fun
  | [d1, d2, d3, d4, d5] => { results := [.lit (.bool false)], args := [d1, d2, d3, d4, d5] }
  | _ => none }
def BlocksTellsWrongFalsely : Prop := blocksTellsRow.holds Try.pinned (OpenSpec.ofChange blocksTellsWrong)

/- THE SECOND FORM. 'bulk': how many values and letters a reading holds, each counted each time it is reached (what is shared counts as often as it is met; a slice's spare places count too). A statement '..UptoSaid' is the law's where the arguments, and the package variables that the reading takes, are together of bulk at most 1048576: NARROWER than '..Said'. Prove '..Said' where nothing that the law and all that it calls make is longer than what came in: it says more and counts as full. Else prove '..UptoSaid'. A law counts once. -/
mutual
def uptoBulk {H : Type} : DataW H → Nat
  | .lit (.string bytes) => bytes.length + 1
  | .lit _ => 1
  | .nil => 1
  | .ptr d => uptoBulk d + 1
  | .slice elems spare => uptoBulkAll elems + uptoBulkAll spare + 1
  | .agg parts => uptoBulkAll parts + 1
  | .iface _ d => uptoBulk d + 1
  | .map entries => uptoBulkEntries entries + 1
  | .held _ => 1
def uptoBulkAll {H : Type} : List (DataW H) → Nat
  | [] => 0
  | d :: r => uptoBulk d + uptoBulkAll r
def uptoBulkEntries {H : Type} : List (Lit × DataW H) → Nat
  | [] => 0
  | x :: r => uptoBulkEntry x + uptoBulkEntries r
def uptoBulkEntry {H : Type} : Lit × DataW H → Nat
  | (.string bytes, d) => bytes.length + uptoBulk d + 1
  | (_, d) => uptoBulk d + 1
 end
def uptoSmall : (H : Type) → List (DataW H) → Bool := fun _ ds => decide (uptoBulkAll ds ≤ 1048576)
def OpenSpec.upto (s : _root_.Go.ChangeSpec) : _root_.Go.OpenSpec := { _root_.Go.OpenSpec.ofChange s with cond := some uptoSmall }

/-- 'godownlaw11.BlocksOwn', WHERE WHAT IT READS IS OF BULK AT MOST 1048576: true; the input reads as it did. -/
def blocksOwnUptoRow : OpenClaim := { program := "ytfknlijbphoceaa", sum := "0f35cab0472aea4a04de6c3cc54bdf7ccd2d75ff744af6e4280eadaa38bb71f9", func := "godown/godownlaw11.BlocksOwn", spec := "blocksOwn", inPlace := ["slices.overlaps[godown/api.Block]"], unfollowed := true, recurses := true, apart := false, narrowed := true }
def BlocksOwnUptoSaid : Prop := blocksOwnUptoRow.holds Try.pinned (OpenSpec.upto blocksOwnSpec)

/-- 'godownlaw11.BlocksDiff', WHERE WHAT IT READS IS OF BULK AT MOST 1048576: true; the input reads as it did. -/
def blocksDiffUptoRow : OpenClaim := { program := "ytfknlijbphoceaa", sum := "0f35cab0472aea4a04de6c3cc54bdf7ccd2d75ff744af6e4280eadaa38bb71f9", func := "godown/godownlaw11.BlocksDiff", spec := "blocksDiff", inPlace := ["slices.overlaps[godown/api.Block]"], unfollowed := true, recurses := true, apart := false, narrowed := true }
def BlocksDiffUptoSaid : Prop := blocksDiffUptoRow.holds Try.pinned (OpenSpec.upto blocksDiffSpec)

/-- 'godownlaw11.BlocksApply', WHERE WHAT IT READS IS OF BULK AT MOST 1048576: true; the input reads as it did. -/
def blocksApplyUptoRow : OpenClaim := { program := "ytfknlijbphoceaa", sum := "0f35cab0472aea4a04de6c3cc54bdf7ccd2d75ff744af6e4280eadaa38bb71f9", func := "godown/godownlaw11.BlocksApply", spec := "blocksApply", inPlace := ["slices.overlaps[godown/api.Block]"], unfollowed := true, recurses := true, apart := false, narrowed := true }
def BlocksApplyUptoSaid : Prop := blocksApplyUptoRow.holds Try.pinned (OpenSpec.upto blocksApplySpec)

/-- 'godownlaw11.BlocksBack', WHERE WHAT IT READS IS OF BULK AT MOST 1048576: true; the input reads as it did. -/
def blocksBackUptoRow : OpenClaim := { program := "ytfknlijbphoceaa", sum := "0f35cab0472aea4a04de6c3cc54bdf7ccd2d75ff744af6e4280eadaa38bb71f9", func := "godown/godownlaw11.BlocksBack", spec := "blocksBack", inPlace := ["slices.overlaps[godown/api.Block]"], unfollowed := true, recurses := true, apart := false, narrowed := true }
def BlocksBackUptoSaid : Prop := blocksBackUptoRow.holds Try.pinned (OpenSpec.upto blocksBackSpec)

/-- 'godownlaw11.BlocksTells', WHERE WHAT IT READS IS OF BULK AT MOST 1048576: true; the input reads as it did. -/
def blocksTellsUptoRow : OpenClaim := { program := "ytfknlijbphoceaa", sum := "0f35cab0472aea4a04de6c3cc54bdf7ccd2d75ff744af6e4280eadaa38bb71f9", func := "godown/godownlaw11.BlocksTells", spec := "blocksTells", inPlace := ["slices.overlaps[godown/api.Block]"], unfollowed := true, recurses := true, apart := false, narrowed := true }
def BlocksTellsUptoSaid : Prop := blocksTellsUptoRow.holds Try.pinned (OpenSpec.upto blocksTellsSpec)

end Rows
end Go.Proofs.Ytfknlijbphoceaa
