/-
  NARROWER THAN 'FOR EVERY INPUT', by the rows' own cells (each row's printed sentence says how): SnapsBack: laid · PruneGoes: laid · SnapsClones: laid · ShapeTurns: laid · HoldsKeeps: laid.
  DERIVED. THE GIVEN ROWS OF THIS SEAT. 5 by the template 'for every input the law returns true; each argument reads behind the call as it read before'; 0 by the template 'total and deterministic' (their statements: YtcgclpcocdappaaGreatDoorTotals.lean).
  GIVEN WITH THE SEED: the statements are not yours to turn. If you find one false, say at which input.
  Laid BY PROGRAM, IN A SANDBOX (cutbox-rows.mjs): the forced cells as the released guide's own fill.sh prints them over the translation a6ee57f12142795d… (all of the seat's roots in one cut). By AI agents, Wed Nov 11 2026. No macro, syntax, notation, axiom, sorry.
-/
import Derived.Test.YtcgclpcocdappaaGreatDoorChecked
import GoSem.PinnedTables
import GoSem.Claim
import GoSem.ClaimJoined
import GoSem.ClaimMapViews
import Derived.JoinedTies
import Derived.KernelRfl
namespace Go.Proofs.YtcgclpcocdappaaGreatDoor
/- THE CELL 'sum', in the pinned program and in every row, IS THE sha256 OF THE DUMP (.gsa) THAT YtcgclpcocdappaaGreatDoorProg.lean LOADS. Nothing in Lean hashes anything: it is a label: what it is worth is what the hold of that sum in a sandbox is worth. -/
noncomputable def Tryz.pinned : Pinned := { name := "ytcgclpcocdappaagreatdoor", sum := "a6ee57f12142795dbfc877b5958c6599332e681b6e668079e162adb6d823076c", checked := Tryz.checked }
namespace Rows
def none {H : Type} : Left H := { results := [], args := [] }

/- WHAT THE LISTED PACKAGE-LEVEL VARIABLES READ AS WHEN THE CALL BEGINS. Each datum BY PROGRAM (the guide's laid-datum.mjs) off the statement by which the dump's own 'gosem.cut.vars' lays the variable. In a bare row this is a premise. The card (YtcgclpcocdappaaGreatDoorCards.lean) ties it to the program's text. -/
def laid_unicode_utf8_acceptRanges {H : Type} : DataW H := .agg [.agg [.lit (.int .u8 128), .lit (.int .u8 191)], .agg [.lit (.int .u8 160), .lit (.int .u8 191)], .agg [.lit (.int .u8 128), .lit (.int .u8 159)], .agg [.lit (.int .u8 144), .lit (.int .u8 191)], .agg [.lit (.int .u8 128), .lit (.int .u8 143)], .agg [.lit (.int .u8 0), .lit (.int .u8 0)], .agg [.lit (.int .u8 0), .lit (.int .u8 0)], .agg [.lit (.int .u8 0), .lit (.int .u8 0)], .agg [.lit (.int .u8 0), .lit (.int .u8 0)], .agg [.lit (.int .u8 0), .lit (.int .u8 0)], .agg [.lit (.int .u8 0), .lit (.int .u8 0)], .agg [.lit (.int .u8 0), .lit (.int .u8 0)], .agg [.lit (.int .u8 0), .lit (.int .u8 0)], .agg [.lit (.int .u8 0), .lit (.int .u8 0)], .agg [.lit (.int .u8 0), .lit (.int .u8 0)], .agg [.lit (.int .u8 0), .lit (.int .u8 0)]]
/-- One of Go's own tables, pinned by name: the form's constant. -/
def laid_unicode_utf8_first : DataW Unit := Go.Pinned.utf8First

/-- 'godownlaw17.SnapsBack': WHATEVER THE INPUT: true; the input reads as it did. -/
def snapsBackSpec : ChangeSpec := { name := "snapsBack", fn := fun _ => fun
  | [d1, d2, d3, d4, d5] => { results := [.lit (.bool true)], args := [d1, d2, d3, d4, d5] }
  | _ => none }
def snapsBackRow : OpenClaim := { program := "ytcgclpcocdappaagreatdoor", sum := "a6ee57f12142795dbfc877b5958c6599332e681b6e668079e162adb6d823076c", func := "godown/godownlaw17.SnapsBack", spec := "snapsBack", inPlace := ["internal/bytealg.CountString", "internal/bytealg.IndexByteString", "internal/bytealg.IndexString"], unfollowed := true, recurses := true, named := ["unicode/utf8.first", "unicode/utf8.acceptRanges", "internal/bytealg.MaxLen"], apart := false, laid := [("unicode/utf8.acceptRanges", laid_unicode_utf8_acceptRanges), ("unicode/utf8.first", laid_unicode_utf8_first)] }
def SnapsBackSaid : Prop := snapsBackRow.holds Tryz.pinned (OpenSpec.ofChange snapsBackSpec)

/-- ITS FALSE NEIGHBOUR: 'it returns false'. Refute it at one input. -/
def snapsBackWrong : ChangeSpec := { name := "snapsBack", fn := fun _ => fun
  | [d1, d2, d3, d4, d5] => { results := [.lit (.bool false)], args := [d1, d2, d3, d4, d5] }
  | _ => none }
def SnapsBackWrongFalsely : Prop := snapsBackRow.holds Tryz.pinned (OpenSpec.ofChange snapsBackWrong)

/-- 'godownlaw39.PruneGoes': WHATEVER THE INPUT: true; the input reads as it did. -/
def pruneGoesSpec : ChangeSpec := { name := "pruneGoes", fn := fun _ => fun
  | [d1, d2, d3] => { results := [.lit (.bool true)], args := [d1, d2, d3] }
  | _ => none }
def pruneGoesRow : OpenClaim := { program := "ytcgclpcocdappaagreatdoor", sum := "a6ee57f12142795dbfc877b5958c6599332e681b6e668079e162adb6d823076c", func := "godown/godownlaw39.PruneGoes", spec := "pruneGoes", inPlace := ["internal/bytealg.CountString", "internal/bytealg.IndexByteString", "internal/bytealg.IndexString"], unfollowed := true, recurses := true, named := ["unicode/utf8.first", "unicode/utf8.acceptRanges", "internal/bytealg.MaxLen"], apart := false, laid := [("unicode/utf8.acceptRanges", laid_unicode_utf8_acceptRanges), ("unicode/utf8.first", laid_unicode_utf8_first)] }
def PruneGoesSaid : Prop := pruneGoesRow.holds Tryz.pinned (OpenSpec.ofChange pruneGoesSpec)

/-- ITS FALSE NEIGHBOUR: 'it returns false'. Refute it at one input. -/
def pruneGoesWrong : ChangeSpec := { name := "pruneGoes", fn := fun _ => fun
  | [d1, d2, d3] => { results := [.lit (.bool false)], args := [d1, d2, d3] }
  | _ => none }
def PruneGoesWrongFalsely : Prop := pruneGoesRow.holds Tryz.pinned (OpenSpec.ofChange pruneGoesWrong)

/-- 'godownlaw17.SnapsClones': WHATEVER THE INPUT: true; the input reads as it did. -/
def snapsClonesSpec : ChangeSpec := { name := "snapsClones", fn := fun _ => fun
  | [d1, d2, d3, d4, d5] => { results := [.lit (.bool true)], args := [d1, d2, d3, d4, d5] }
  | _ => none }
def snapsClonesRow : OpenClaim := { program := "ytcgclpcocdappaagreatdoor", sum := "a6ee57f12142795dbfc877b5958c6599332e681b6e668079e162adb6d823076c", func := "godown/godownlaw17.SnapsClones", spec := "snapsClones", inPlace := ["internal/bytealg.CountString", "internal/bytealg.IndexByteString", "internal/bytealg.IndexString", "slices.overlaps[godown/api.Set]"], unfollowed := true, recurses := true, named := ["unicode/utf8.first", "unicode/utf8.acceptRanges", "internal/bytealg.MaxLen"], apart := false, laid := [("unicode/utf8.acceptRanges", laid_unicode_utf8_acceptRanges), ("unicode/utf8.first", laid_unicode_utf8_first)] }
def SnapsClonesSaid : Prop := snapsClonesRow.holds Tryz.pinned (OpenSpec.ofChange snapsClonesSpec)

/-- ITS FALSE NEIGHBOUR: 'it returns false'. Refute it at one input. -/
def snapsClonesWrong : ChangeSpec := { name := "snapsClones", fn := fun _ => fun
  | [d1, d2, d3, d4, d5] => { results := [.lit (.bool false)], args := [d1, d2, d3, d4, d5] }
  | _ => none }
def SnapsClonesWrongFalsely : Prop := snapsClonesRow.holds Tryz.pinned (OpenSpec.ofChange snapsClonesWrong)

/-- 'godownlaw16.ShapeTurns': WHATEVER THE INPUT: true; the input reads as it did. -/
def shapeTurnsSpec : ChangeSpec := { name := "shapeTurns", fn := fun _ => fun
  | [d1, d2, d3, d4, d5, d6] => { results := [.lit (.bool true)], args := [d1, d2, d3, d4, d5, d6] }
  | _ => none }
def shapeTurnsRow : OpenClaim := { program := "ytcgclpcocdappaagreatdoor", sum := "a6ee57f12142795dbfc877b5958c6599332e681b6e668079e162adb6d823076c", func := "godown/godownlaw16.ShapeTurns", spec := "shapeTurns", inPlace := ["slices.overlaps[godown/api.Block]", "internal/bytealg.CountString", "internal/bytealg.IndexByteString", "internal/bytealg.IndexString", "slices.overlaps[godown/api.Prop]", "slices.overlaps[godown/api.Set]"], unfollowed := true, recurses := true, named := ["unicode/utf8.first", "unicode/utf8.acceptRanges", "internal/bytealg.MaxLen"], apart := false, laid := [("unicode/utf8.acceptRanges", laid_unicode_utf8_acceptRanges), ("unicode/utf8.first", laid_unicode_utf8_first)] }
def ShapeTurnsSaid : Prop := shapeTurnsRow.holds Tryz.pinned (OpenSpec.ofChange shapeTurnsSpec)

/-- ITS FALSE NEIGHBOUR: 'it returns false'. Refute it at one input. -/
def shapeTurnsWrong : ChangeSpec := { name := "shapeTurns", fn := fun _ => fun
  | [d1, d2, d3, d4, d5, d6] => { results := [.lit (.bool false)], args := [d1, d2, d3, d4, d5, d6] }
  | _ => none }
def ShapeTurnsWrongFalsely : Prop := shapeTurnsRow.holds Tryz.pinned (OpenSpec.ofChange shapeTurnsWrong)

/-- 'godownlaw18.HoldsKeeps': WHATEVER THE INPUT: true; the input reads as it did. -/
def holdsKeepsSpec : ChangeSpec := { name := "holdsKeeps", fn := fun _ => fun
  | [d1, d2, d3, d4] => { results := [.lit (.bool true)], args := [d1, d2, d3, d4] }
  | _ => none }
def holdsKeepsRow : OpenClaim := { program := "ytcgclpcocdappaagreatdoor", sum := "a6ee57f12142795dbfc877b5958c6599332e681b6e668079e162adb6d823076c", func := "godown/godownlaw18.HoldsKeeps", spec := "holdsKeeps", inPlace := ["internal/bytealg.CountString", "internal/bytealg.IndexByteString", "internal/bytealg.IndexString", "slices.overlaps[string]"], unfollowed := true, recurses := true, named := ["unicode/utf8.first", "unicode/utf8.acceptRanges", "internal/bytealg.MaxLen"], apart := false, laid := [("unicode/utf8.acceptRanges", laid_unicode_utf8_acceptRanges), ("unicode/utf8.first", laid_unicode_utf8_first)] }
def HoldsKeepsSaid : Prop := holdsKeepsRow.holds Tryz.pinned (OpenSpec.ofChange holdsKeepsSpec)

/-- ITS FALSE NEIGHBOUR: 'it returns false'. Refute it at one input. -/
def holdsKeepsWrong : ChangeSpec := { name := "holdsKeeps", fn := fun _ => fun
  | [d1, d2, d3, d4] => { results := [.lit (.bool false)], args := [d1, d2, d3, d4] }
  | _ => none }
def HoldsKeepsWrongFalsely : Prop := holdsKeepsRow.holds Tryz.pinned (OpenSpec.ofChange holdsKeepsWrong)

/- THE SECOND FORM. 'bulk': how many values and letters a reading holds, each counted each time it is reached (what is shared counts as often as it is met; a slice's spare places count too). A statement '..UptoSaid' is the law's where the arguments, and the package variables that the reading takes, are together of bulk at most 1048576: NARROWER than '..Said'. Prove '..Said' where nothing that the law and all that it calls make is longer than what came in: it says more and counts as full. Else prove '..UptoSaid'. A law counts once. -/
mutual
def uptoBulk {H : Type} : DataW H → Nat
  | .lit (.string bytes) => bytes.length + 1
  | .lit _ => 1
  | .nil => 1
  | .ptr d => uptoBulk d + 1
  | .slice elems spare => uptoBulkAll elems + uptoBulkAll spare + 1
  | .agg parts => uptoBulkAll parts + 1
  | .iface _ d => uptoBulk d + 1
  | .map entries => uptoBulkEntries entries + 1
  | .held _ => 1
def uptoBulkAll {H : Type} : List (DataW H) → Nat
  | [] => 0
  | d :: r => uptoBulk d + uptoBulkAll r
def uptoBulkEntries {H : Type} : List (Lit × DataW H) → Nat
  | [] => 0
  | x :: r => uptoBulkEntry x + uptoBulkEntries r
def uptoBulkEntry {H : Type} : Lit × DataW H → Nat
  | (.string bytes, d) => bytes.length + uptoBulk d + 1
  | (_, d) => uptoBulk d + 1
 end
def uptoSmall : (H : Type) → List (DataW H) → Bool := fun _ ds => decide (uptoBulkAll ds ≤ 1048576)
def OpenSpec.upto (s : _root_.Go.ChangeSpec) : _root_.Go.OpenSpec := { _root_.Go.OpenSpec.ofChange s with cond := some uptoSmall }

/-- 'godownlaw17.SnapsBack', WHERE WHAT IT READS IS OF BULK AT MOST 1048576: true; the input reads as it did. -/
def snapsBackUptoRow : OpenClaim := { program := "ytcgclpcocdappaagreatdoor", sum := "a6ee57f12142795dbfc877b5958c6599332e681b6e668079e162adb6d823076c", func := "godown/godownlaw17.SnapsBack", spec := "snapsBack", inPlace := ["internal/bytealg.CountString", "internal/bytealg.IndexByteString", "internal/bytealg.IndexString"], unfollowed := true, recurses := true, named := ["unicode/utf8.first", "unicode/utf8.acceptRanges", "internal/bytealg.MaxLen"], apart := false, laid := [("unicode/utf8.acceptRanges", laid_unicode_utf8_acceptRanges), ("unicode/utf8.first", laid_unicode_utf8_first)], narrowed := true }
def SnapsBackUptoSaid : Prop := snapsBackUptoRow.holds Tryz.pinned (OpenSpec.upto snapsBackSpec)

/-- 'godownlaw39.PruneGoes', WHERE WHAT IT READS IS OF BULK AT MOST 1048576: true; the input reads as it did. -/
def pruneGoesUptoRow : OpenClaim := { program := "ytcgclpcocdappaagreatdoor", sum := "a6ee57f12142795dbfc877b5958c6599332e681b6e668079e162adb6d823076c", func := "godown/godownlaw39.PruneGoes", spec := "pruneGoes", inPlace := ["internal/bytealg.CountString", "internal/bytealg.IndexByteString", "internal/bytealg.IndexString"], unfollowed := true, recurses := true, named := ["unicode/utf8.first", "unicode/utf8.acceptRanges", "internal/bytealg.MaxLen"], apart := false, laid := [("unicode/utf8.acceptRanges", laid_unicode_utf8_acceptRanges), ("unicode/utf8.first", laid_unicode_utf8_first)], narrowed := true }
def PruneGoesUptoSaid : Prop := pruneGoesUptoRow.holds Tryz.pinned (OpenSpec.upto pruneGoesSpec)

/-- 'godownlaw17.SnapsClones', WHERE WHAT IT READS IS OF BULK AT MOST 1048576: true; the input reads as it did. -/
def snapsClonesUptoRow : OpenClaim := { program := "ytcgclpcocdappaagreatdoor", sum := "a6ee57f12142795dbfc877b5958c6599332e681b6e668079e162adb6d823076c", func := "godown/godownlaw17.SnapsClones", spec := "snapsClones", inPlace := ["internal/bytealg.CountString", "internal/bytealg.IndexByteString", "internal/bytealg.IndexString", "slices.overlaps[godown/api.Set]"], unfollowed := true, recurses := true, named := ["unicode/utf8.first", "unicode/utf8.acceptRanges", "internal/bytealg.MaxLen"], apart := false, laid := [("unicode/utf8.acceptRanges", laid_unicode_utf8_acceptRanges), ("unicode/utf8.first", laid_unicode_utf8_first)], narrowed := true }
def SnapsClonesUptoSaid : Prop := snapsClonesUptoRow.holds Tryz.pinned (OpenSpec.upto snapsClonesSpec)

/-- 'godownlaw16.ShapeTurns', WHERE WHAT IT READS IS OF BULK AT MOST 1048576: true; the input reads as it did. -/
def shapeTurnsUptoRow : OpenClaim := { program := "ytcgclpcocdappaagreatdoor", sum := "a6ee57f12142795dbfc877b5958c6599332e681b6e668079e162adb6d823076c", func := "godown/godownlaw16.ShapeTurns", spec := "shapeTurns", inPlace := ["slices.overlaps[godown/api.Block]", "internal/bytealg.CountString", "internal/bytealg.IndexByteString", "internal/bytealg.IndexString", "slices.overlaps[godown/api.Prop]", "slices.overlaps[godown/api.Set]"], unfollowed := true, recurses := true, named := ["unicode/utf8.first", "unicode/utf8.acceptRanges", "internal/bytealg.MaxLen"], apart := false, laid := [("unicode/utf8.acceptRanges", laid_unicode_utf8_acceptRanges), ("unicode/utf8.first", laid_unicode_utf8_first)], narrowed := true }
def ShapeTurnsUptoSaid : Prop := shapeTurnsUptoRow.holds Tryz.pinned (OpenSpec.upto shapeTurnsSpec)

/-- 'godownlaw18.HoldsKeeps', WHERE WHAT IT READS IS OF BULK AT MOST 1048576: true; the input reads as it did. -/
def holdsKeepsUptoRow : OpenClaim := { program := "ytcgclpcocdappaagreatdoor", sum := "a6ee57f12142795dbfc877b5958c6599332e681b6e668079e162adb6d823076c", func := "godown/godownlaw18.HoldsKeeps", spec := "holdsKeeps", inPlace := ["internal/bytealg.CountString", "internal/bytealg.IndexByteString", "internal/bytealg.IndexString", "slices.overlaps[string]"], unfollowed := true, recurses := true, named := ["unicode/utf8.first", "unicode/utf8.acceptRanges", "internal/bytealg.MaxLen"], apart := false, laid := [("unicode/utf8.acceptRanges", laid_unicode_utf8_acceptRanges), ("unicode/utf8.first", laid_unicode_utf8_first)], narrowed := true }
def HoldsKeepsUptoSaid : Prop := holdsKeepsUptoRow.holds Tryz.pinned (OpenSpec.upto holdsKeepsSpec)

end Rows
end Go.Proofs.YtcgclpcocdappaaGreatDoor
