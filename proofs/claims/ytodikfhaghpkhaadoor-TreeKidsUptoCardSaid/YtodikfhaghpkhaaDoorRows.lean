/-
  NARROWER THAN 'FOR EVERY INPUT', by the rows' own cells (each row's printed sentence says how): TreeKids: laid · PermsGives: laid · PermsOwner: laid · PermsTakes: laid · PruneOwn: laid.
  DERIVED. THE GIVEN ROWS OF THIS SEAT. 5 by the template 'for every input the law returns true; each argument reads behind the call as it read before'; 0 by the template 'total and deterministic' (their statements: YtodikfhaghpkhaaDoorTotals.lean).
  GIVEN WITH THE SEED: the statements are not yours to turn. If you find one false, say at which input.
  Laid BY PROGRAM, IN A SANDBOX (cutbox-rows.mjs): the forced cells as the released guide's own fill.sh prints them over the translation 691a5bad23915ee2… (all of the seat's roots in one cut). By AI agents, Wed Nov 11 2026. No macro, syntax, notation, axiom, sorry.
-/
import Derived.Test.YtodikfhaghpkhaaDoorChecked
import GoSem.PinnedTables
import GoSem.Claim
import GoSem.ClaimJoined
import GoSem.ClaimMapViews
import Derived.JoinedTies
import Derived.KernelRfl
namespace Go.Proofs.YtodikfhaghpkhaaDoor
/- THE CELL 'sum', in the pinned program and in every row, IS THE sha256 OF THE DUMP (.gsa) THAT YtodikfhaghpkhaaDoorProg.lean LOADS. Nothing in Lean hashes anything: it is a label: what it is worth is what the hold of that sum in a sandbox is worth. -/
noncomputable def Tryd.pinned : Pinned := { name := "ytodikfhaghpkhaadoor", sum := "691a5bad23915ee23eec028aff6f3ac1e1ac1e636038fbd4043669f103fbb80d", checked := Tryd.checked }
namespace Rows
def none {H : Type} : Left H := { results := [], args := [] }

/- WHAT THE LISTED PACKAGE-LEVEL VARIABLES READ AS WHEN THE CALL BEGINS. Each datum BY PROGRAM (the guide's laid-datum.mjs) off the statement by which the dump's own 'gosem.cut.vars' lays the variable. In a bare row this is a premise. The card (YtodikfhaghpkhaaDoorCards.lean) ties it to the program's text. -/
def laid_unicode_utf8_acceptRanges {H : Type} : DataW H := .agg [.agg [.lit (.int .u8 128), .lit (.int .u8 191)], .agg [.lit (.int .u8 160), .lit (.int .u8 191)], .agg [.lit (.int .u8 128), .lit (.int .u8 159)], .agg [.lit (.int .u8 144), .lit (.int .u8 191)], .agg [.lit (.int .u8 128), .lit (.int .u8 143)], .agg [.lit (.int .u8 0), .lit (.int .u8 0)], .agg [.lit (.int .u8 0), .lit (.int .u8 0)], .agg [.lit (.int .u8 0), .lit (.int .u8 0)], .agg [.lit (.int .u8 0), .lit (.int .u8 0)], .agg [.lit (.int .u8 0), .lit (.int .u8 0)], .agg [.lit (.int .u8 0), .lit (.int .u8 0)], .agg [.lit (.int .u8 0), .lit (.int .u8 0)], .agg [.lit (.int .u8 0), .lit (.int .u8 0)], .agg [.lit (.int .u8 0), .lit (.int .u8 0)], .agg [.lit (.int .u8 0), .lit (.int .u8 0)], .agg [.lit (.int .u8 0), .lit (.int .u8 0)]]
/-- One of Go's own tables, pinned by name: the form's constant. -/
def laid_unicode_utf8_first : DataW Unit := Go.Pinned.utf8First

/-- 'godownlaw14.TreeKids': WHATEVER THE INPUT: true; the input reads as it did. -/
def treeKidsSpec : ChangeSpec := { name := "treeKids", fn := fun _ => fun
  | [d] => { results := [.lit (.bool true)], args := [d] }
  | _ => none }
def treeKidsRow : OpenClaim := { program := "ytodikfhaghpkhaadoor", sum := "691a5bad23915ee23eec028aff6f3ac1e1ac1e636038fbd4043669f103fbb80d", func := "godown/godownlaw14.TreeKids", spec := "treeKids", inPlace := ["internal/bytealg.CountString", "internal/bytealg.IndexByteString", "internal/bytealg.IndexString"], unfollowed := true, recurses := true, named := ["unicode/utf8.first", "unicode/utf8.acceptRanges", "internal/bytealg.MaxLen"], apart := false, laid := [("unicode/utf8.acceptRanges", laid_unicode_utf8_acceptRanges), ("unicode/utf8.first", laid_unicode_utf8_first)] }
def TreeKidsSaid : Prop := treeKidsRow.holds Tryd.pinned (OpenSpec.ofChange treeKidsSpec)

/-- ITS FALSE NEIGHBOUR: 'it returns false'. Refute it at one input. -/
def treeKidsWrong : ChangeSpec := { name := "treeKids", fn := fun _ => fun
  | [d] => { results := [.lit (.bool false)], args := [d] }
  | _ => none }
def TreeKidsWrongFalsely : Prop := treeKidsRow.holds Tryd.pinned (OpenSpec.ofChange treeKidsWrong)

/-- 'godownlaw13.PermsGives': WHATEVER THE INPUT: true; the input reads as it did. -/
def permsGivesSpec : ChangeSpec := { name := "permsGives", fn := fun _ => fun
  | [d1, d2, d3, d4, d5, d6] => { results := [.lit (.bool true)], args := [d1, d2, d3, d4, d5, d6] }
  | _ => none }
def permsGivesRow : OpenClaim := { program := "ytodikfhaghpkhaadoor", sum := "691a5bad23915ee23eec028aff6f3ac1e1ac1e636038fbd4043669f103fbb80d", func := "godown/godownlaw13.PermsGives", spec := "permsGives", inPlace := ["internal/bytealg.CountString", "internal/bytealg.IndexByteString", "internal/bytealg.IndexString", "slices.overlaps[godown/api.Grant]"], unfollowed := true, recurses := true, named := ["unicode/utf8.first", "unicode/utf8.acceptRanges", "internal/bytealg.MaxLen"], apart := false, laid := [("unicode/utf8.acceptRanges", laid_unicode_utf8_acceptRanges), ("unicode/utf8.first", laid_unicode_utf8_first)] }
def PermsGivesSaid : Prop := permsGivesRow.holds Tryd.pinned (OpenSpec.ofChange permsGivesSpec)

/-- ITS FALSE NEIGHBOUR: 'it returns false'. Refute it at one input. -/
def permsGivesWrong : ChangeSpec := { name := "permsGives", fn := fun _ => fun
  | [d1, d2, d3, d4, d5, d6] => { results := [.lit (.bool false)], args := [d1, d2, d3, d4, d5, d6] }
  | _ => none }
def PermsGivesWrongFalsely : Prop := permsGivesRow.holds Tryd.pinned (OpenSpec.ofChange permsGivesWrong)

/-- 'godownlaw13.PermsOwner': WHATEVER THE INPUT: true; the input reads as it did. -/
def permsOwnerSpec : ChangeSpec := { name := "permsOwner", fn := fun _ => fun
  | [d1, d2, d3, d4] => { results := [.lit (.bool true)], args := [d1, d2, d3, d4] }
  | _ => none }
def permsOwnerRow : OpenClaim := { program := "ytodikfhaghpkhaadoor", sum := "691a5bad23915ee23eec028aff6f3ac1e1ac1e636038fbd4043669f103fbb80d", func := "godown/godownlaw13.PermsOwner", spec := "permsOwner", inPlace := ["internal/bytealg.CountString", "internal/bytealg.IndexByteString", "internal/bytealg.IndexString", "slices.overlaps[godown/api.Grant]"], unfollowed := true, recurses := true, named := ["unicode/utf8.first", "unicode/utf8.acceptRanges", "internal/bytealg.MaxLen"], apart := false, laid := [("unicode/utf8.acceptRanges", laid_unicode_utf8_acceptRanges), ("unicode/utf8.first", laid_unicode_utf8_first)] }
def PermsOwnerSaid : Prop := permsOwnerRow.holds Tryd.pinned (OpenSpec.ofChange permsOwnerSpec)

/-- ITS FALSE NEIGHBOUR: 'it returns false'. Refute it at one input. -/
def permsOwnerWrong : ChangeSpec := { name := "permsOwner", fn := fun _ => fun
  | [d1, d2, d3, d4] => { results := [.lit (.bool false)], args := [d1, d2, d3, d4] }
  | _ => none }
def PermsOwnerWrongFalsely : Prop := permsOwnerRow.holds Tryd.pinned (OpenSpec.ofChange permsOwnerWrong)

/-- 'godownlaw13.PermsTakes': WHATEVER THE INPUT: true; the input reads as it did. -/
def permsTakesSpec : ChangeSpec := { name := "permsTakes", fn := fun _ => fun
  | [d1, d2, d3, d4] => { results := [.lit (.bool true)], args := [d1, d2, d3, d4] }
  | _ => none }
def permsTakesRow : OpenClaim := { program := "ytodikfhaghpkhaadoor", sum := "691a5bad23915ee23eec028aff6f3ac1e1ac1e636038fbd4043669f103fbb80d", func := "godown/godownlaw13.PermsTakes", spec := "permsTakes", inPlace := ["internal/bytealg.CountString", "internal/bytealg.IndexByteString", "internal/bytealg.IndexString", "slices.overlaps[godown/api.Grant]"], unfollowed := true, recurses := true, named := ["unicode/utf8.first", "unicode/utf8.acceptRanges", "internal/bytealg.MaxLen"], apart := false, laid := [("unicode/utf8.acceptRanges", laid_unicode_utf8_acceptRanges), ("unicode/utf8.first", laid_unicode_utf8_first)] }
def PermsTakesSaid : Prop := permsTakesRow.holds Tryd.pinned (OpenSpec.ofChange permsTakesSpec)

/-- ITS FALSE NEIGHBOUR: 'it returns false'. Refute it at one input. -/
def permsTakesWrong : ChangeSpec := { name := "permsTakes", fn := fun _ => fun
  | [d1, d2, d3, d4] => { results := [.lit (.bool false)], args := [d1, d2, d3, d4] }
  | _ => none }
def PermsTakesWrongFalsely : Prop := permsTakesRow.holds Tryd.pinned (OpenSpec.ofChange permsTakesWrong)

/-- 'godownlaw39.PruneOwn': WHATEVER THE INPUT: true; the input reads as it did. -/
def pruneOwnSpec : ChangeSpec := { name := "pruneOwn", fn := fun _ => fun
  | [d1, d2, d3] => { results := [.lit (.bool true)], args := [d1, d2, d3] }
  | _ => none }
def pruneOwnRow : OpenClaim := { program := "ytodikfhaghpkhaadoor", sum := "691a5bad23915ee23eec028aff6f3ac1e1ac1e636038fbd4043669f103fbb80d", func := "godown/godownlaw39.PruneOwn", spec := "pruneOwn", inPlace := ["internal/bytealg.CountString", "internal/bytealg.IndexByteString", "internal/bytealg.IndexString"], unfollowed := true, recurses := true, named := ["unicode/utf8.first", "unicode/utf8.acceptRanges", "internal/bytealg.MaxLen"], apart := false, laid := [("unicode/utf8.acceptRanges", laid_unicode_utf8_acceptRanges), ("unicode/utf8.first", laid_unicode_utf8_first)] }
def PruneOwnSaid : Prop := pruneOwnRow.holds Tryd.pinned (OpenSpec.ofChange pruneOwnSpec)

/-- ITS FALSE NEIGHBOUR: 'it returns false'. Refute it at one input. -/
def pruneOwnWrong : ChangeSpec := { name := "pruneOwn", fn := fun _ => fun
  | [d1, d2, d3] => { results := [.lit (.bool false)], args := [d1, d2, d3] }
  | _ => none }
def PruneOwnWrongFalsely : Prop := pruneOwnRow.holds Tryd.pinned (OpenSpec.ofChange pruneOwnWrong)

/- THE SECOND FORM. 'bulk': how many values and letters a reading holds, each counted each time it is reached (what is shared counts as often as it is met; a slice's spare places count too). A statement '..UptoSaid' is the law's where the arguments, and the package variables that the reading takes, are together of bulk at most 1048576: NARROWER than '..Said'. Prove '..Said' where nothing that the law and all that it calls make is longer than what came in: it says more and counts as full. Else prove '..UptoSaid'. A law counts once. -/
mutual
def uptoBulk {H : Type} : DataW H → Nat
  | .lit (.string bytes) => bytes.length + 1
  | .lit _ => 1
  | .nil => 1
  | .ptr d => uptoBulk d + 1
  | .slice elems spare => uptoBulkAll elems + uptoBulkAll spare + 1
  | .agg parts => uptoBulkAll parts + 1
  | .iface _ d => uptoBulk d + 1
  | .map entries => uptoBulkEntries entries + 1
  | .held _ => 1
def uptoBulkAll {H : Type} : List (DataW H) → Nat
  | [] => 0
  | d :: r => uptoBulk d + uptoBulkAll r
def uptoBulkEntries {H : Type} : List (Lit × DataW H) → Nat
  | [] => 0
  | x :: r => uptoBulkEntry x + uptoBulkEntries r
def uptoBulkEntry {H : Type} : Lit × DataW H → Nat
  | (.string bytes, d) => bytes.length + uptoBulk d + 1
  | (_, d) => uptoBulk d + 1
 end
def uptoSmall : (H : Type) → List (DataW H) → Bool := fun _ ds => decide (uptoBulkAll ds ≤ 1048576)
def OpenSpec.upto (s : _root_.Go.ChangeSpec) : _root_.Go.OpenSpec := { _root_.Go.OpenSpec.ofChange s with cond := some uptoSmall }

/-- 'godownlaw14.TreeKids', WHERE WHAT IT READS IS OF BULK AT MOST 1048576: true; the input reads as it did. -/
def treeKidsUptoRow : OpenClaim := { program := "ytodikfhaghpkhaadoor", sum := "691a5bad23915ee23eec028aff6f3ac1e1ac1e636038fbd4043669f103fbb80d", func := "godown/godownlaw14.TreeKids", spec := "treeKids", inPlace := ["internal/bytealg.CountString", "internal/bytealg.IndexByteString", "internal/bytealg.IndexString"], unfollowed := true, recurses := true, named := ["unicode/utf8.first", "unicode/utf8.acceptRanges", "internal/bytealg.MaxLen"], apart := false, laid := [("unicode/utf8.acceptRanges", laid_unicode_utf8_acceptRanges), ("unicode/utf8.first", laid_unicode_utf8_first)], narrowed := true }
def TreeKidsUptoSaid : Prop := treeKidsUptoRow.holds Tryd.pinned (OpenSpec.upto treeKidsSpec)

/-- 'godownlaw13.PermsGives', WHERE WHAT IT READS IS OF BULK AT MOST 1048576: true; the input reads as it did. -/
def permsGivesUptoRow : OpenClaim := { program := "ytodikfhaghpkhaadoor", sum := "691a5bad23915ee23eec028aff6f3ac1e1ac1e636038fbd4043669f103fbb80d", func := "godown/godownlaw13.PermsGives", spec := "permsGives", inPlace := ["internal/bytealg.CountString", "internal/bytealg.IndexByteString", "internal/bytealg.IndexString", "slices.overlaps[godown/api.Grant]"], unfollowed := true, recurses := true, named := ["unicode/utf8.first", "unicode/utf8.acceptRanges", "internal/bytealg.MaxLen"], apart := false, laid := [("unicode/utf8.acceptRanges", laid_unicode_utf8_acceptRanges), ("unicode/utf8.first", laid_unicode_utf8_first)], narrowed := true }
def PermsGivesUptoSaid : Prop := permsGivesUptoRow.holds Tryd.pinned (OpenSpec.upto permsGivesSpec)

/-- 'godownlaw13.PermsOwner', WHERE WHAT IT READS IS OF BULK AT MOST 1048576: true; the input reads as it did. -/
def permsOwnerUptoRow : OpenClaim := { program := "ytodikfhaghpkhaadoor", sum := "691a5bad23915ee23eec028aff6f3ac1e1ac1e636038fbd4043669f103fbb80d", func := "godown/godownlaw13.PermsOwner", spec := "permsOwner", inPlace := ["internal/bytealg.CountString", "internal/bytealg.IndexByteString", "internal/bytealg.IndexString", "slices.overlaps[godown/api.Grant]"], unfollowed := true, recurses := true, named := ["unicode/utf8.first", "unicode/utf8.acceptRanges", "internal/bytealg.MaxLen"], apart := false, laid := [("unicode/utf8.acceptRanges", laid_unicode_utf8_acceptRanges), ("unicode/utf8.first", laid_unicode_utf8_first)], narrowed := true }
def PermsOwnerUptoSaid : Prop := permsOwnerUptoRow.holds Tryd.pinned (OpenSpec.upto permsOwnerSpec)

/-- 'godownlaw13.PermsTakes', WHERE WHAT IT READS IS OF BULK AT MOST 1048576: true; the input reads as it did. -/
def permsTakesUptoRow : OpenClaim := { program := "ytodikfhaghpkhaadoor", sum := "691a5bad23915ee23eec028aff6f3ac1e1ac1e636038fbd4043669f103fbb80d", func := "godown/godownlaw13.PermsTakes", spec := "permsTakes", inPlace := ["internal/bytealg.CountString", "internal/bytealg.IndexByteString", "internal/bytealg.IndexString", "slices.overlaps[godown/api.Grant]"], unfollowed := true, recurses := true, named := ["unicode/utf8.first", "unicode/utf8.acceptRanges", "internal/bytealg.MaxLen"], apart := false, laid := [("unicode/utf8.acceptRanges", laid_unicode_utf8_acceptRanges), ("unicode/utf8.first", laid_unicode_utf8_first)], narrowed := true }
def PermsTakesUptoSaid : Prop := permsTakesUptoRow.holds Tryd.pinned (OpenSpec.upto permsTakesSpec)

/-- 'godownlaw39.PruneOwn', WHERE WHAT IT READS IS OF BULK AT MOST 1048576: true; the input reads as it did. -/
def pruneOwnUptoRow : OpenClaim := { program := "ytodikfhaghpkhaadoor", sum := "691a5bad23915ee23eec028aff6f3ac1e1ac1e636038fbd4043669f103fbb80d", func := "godown/godownlaw39.PruneOwn", spec := "pruneOwn", inPlace := ["internal/bytealg.CountString", "internal/bytealg.IndexByteString", "internal/bytealg.IndexString"], unfollowed := true, recurses := true, named := ["unicode/utf8.first", "unicode/utf8.acceptRanges", "internal/bytealg.MaxLen"], apart := false, laid := [("unicode/utf8.acceptRanges", laid_unicode_utf8_acceptRanges), ("unicode/utf8.first", laid_unicode_utf8_first)], narrowed := true }
def PruneOwnUptoSaid : Prop := pruneOwnUptoRow.holds Tryd.pinned (OpenSpec.upto pruneOwnSpec)

end Rows
end Go.Proofs.YtodikfhaghpkhaaDoor
