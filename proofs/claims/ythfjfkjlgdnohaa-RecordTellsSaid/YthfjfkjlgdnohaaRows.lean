/-
  No cell of these rows narrows 'for every input' (looked for: loops, veiled, ifaces, maps, wideKeys, modest, calm, conditions, laid).
  DERIVED. THE GIVEN ROWS OF THIS SEAT. 11 by the template 'for every input the law returns true; each argument reads behind the call as it read before'; 0 by the template 'total and deterministic' (their statements: YthfjfkjlgdnohaaTotals.lean).
  GIVEN WITH THE SEED: the statements are not yours to turn. If you find one false, say at which input.
  Laid BY PROGRAM, IN A SANDBOX (cutbox-rows.mjs): the forced cells as the released guide's own fill.sh prints them over the translation 4c162d3ade6eee58… (all of the seat's roots in one cut). By AI agents, Wed Nov 11 2026. No macro, syntax, notation, axiom, sorry.
-/
import Derived.Test.YthfjfkjlgdnohaaChecked
import GoSem.Claim
import GoSem.ClaimJoined
import GoSem.ClaimMapViews
import Derived.JoinedTies
import Derived.KernelRfl
namespace Go.Proofs.Ythfjfkjlgdnohaa
/- THE CELL 'sum', in the pinned program and in every row, IS THE sha256 OF THE DUMP (.gsa) THAT YthfjfkjlgdnohaaProg.lean LOADS. Nothing in Lean hashes anything: it is a label: what it is worth is what the hold of that sum in a sandbox is worth. -/
noncomputable def Try.pinned : Pinned := { name := "ythfjfkjlgdnohaa", sum := "4c162d3ade6eee58e9cfa40d1712c4bae8775fbe94f5e6c3cdbe94b034983c1c", checked := Try.checked }
namespace Rows
def none {H : Type} : Left H := { results := [], args := [] }

/-- 'godownlaw19.RecordTells': WHATEVER THE INPUT: true; the input reads as it did. -/
def recordTellsSpec : ChangeSpec := { name := "recordTells", fn := fun _ => fun
  | [d1, d2, d3] => { results := [.lit (.bool true)], args := [d1, d2, d3] }
  | _ => none }
def recordTellsRow : OpenClaim := { program := "ythfjfkjlgdnohaa", sum := "4c162d3ade6eee58e9cfa40d1712c4bae8775fbe94f5e6c3cdbe94b034983c1c", func := "godown/godownlaw19.RecordTells", spec := "recordTells", unfollowed := true, recurses := true, apart := false }
def RecordTellsSaid : Prop := recordTellsRow.holds Try.pinned (OpenSpec.ofChange recordTellsSpec)

/-- ITS FALSE NEIGHBOUR: 'it returns false'. Refute it at one input. -/
def recordTellsWrong : ChangeSpec := { name := "recordTells", fn := fun _ => fun
  | [d1, d2, d3] => { results := [.lit (.bool false)], args := [d1, d2, d3] }
  | _ => none }
def RecordTellsWrongFalsely : Prop := recordTellsRow.holds Try.pinned (OpenSpec.ofChange recordTellsWrong)

/-- 'godownlaw19.RecordBack': WHATEVER THE INPUT: true; the input reads as it did. -/
def recordBackSpec : ChangeSpec := { name := "recordBack", fn := fun _ => fun
  | [d1, d2] => { results := [.lit (.bool true)], args := [d1, d2] }
  | _ => none }
def recordBackRow : OpenClaim := { program := "ythfjfkjlgdnohaa", sum := "4c162d3ade6eee58e9cfa40d1712c4bae8775fbe94f5e6c3cdbe94b034983c1c", func := "godown/godownlaw19.RecordBack", spec := "recordBack", unfollowed := true, recurses := true, apart := false }
def RecordBackSaid : Prop := recordBackRow.holds Try.pinned (OpenSpec.ofChange recordBackSpec)

/-- ITS FALSE NEIGHBOUR: 'it returns false'. Refute it at one input. -/
def recordBackWrong : ChangeSpec := { name := "recordBack", fn := fun _ => fun
  | [d1, d2] => { results := [.lit (.bool false)], args := [d1, d2] }
  | _ => none }
def RecordBackWrongFalsely : Prop := recordBackRow.holds Try.pinned (OpenSpec.ofChange recordBackWrong)

/-- 'godownlaw19.RecordOctets': WHATEVER THE INPUT: true; the input reads as it did. -/
def recordOctetsSpec : ChangeSpec := { name := "recordOctets", fn := fun _ => fun
  | [d] => { results := [.lit (.bool true)], args := [d] }
  | _ => none }
def recordOctetsRow : OpenClaim := { program := "ythfjfkjlgdnohaa", sum := "4c162d3ade6eee58e9cfa40d1712c4bae8775fbe94f5e6c3cdbe94b034983c1c", func := "godown/godownlaw19.RecordOctets", spec := "recordOctets", unfollowed := true, recurses := true, apart := false }
def RecordOctetsSaid : Prop := recordOctetsRow.holds Try.pinned (OpenSpec.ofChange recordOctetsSpec)

/-- ITS FALSE NEIGHBOUR: 'it returns false'. Refute it at one input. -/
def recordOctetsWrong : ChangeSpec := { name := "recordOctets", fn := fun _ => fun
  | [d] => { results := [.lit (.bool false)], args := [d] }
  | _ => none }
def RecordOctetsWrongFalsely : Prop := recordOctetsRow.holds Try.pinned (OpenSpec.ofChange recordOctetsWrong)

/-- 'godownlaw19.RecordCuts': WHATEVER THE INPUT: true; the input reads as it did. -/
def recordCutsSpec : ChangeSpec := { name := "recordCuts", fn := fun _ => fun
  | [d1, d2] => { results := [.lit (.bool true)], args := [d1, d2] }
  | _ => none }
def recordCutsRow : OpenClaim := { program := "ythfjfkjlgdnohaa", sum := "4c162d3ade6eee58e9cfa40d1712c4bae8775fbe94f5e6c3cdbe94b034983c1c", func := "godown/godownlaw19.RecordCuts", spec := "recordCuts", unfollowed := true, recurses := true, apart := false }
def RecordCutsSaid : Prop := recordCutsRow.holds Try.pinned (OpenSpec.ofChange recordCutsSpec)

/-- ITS FALSE NEIGHBOUR: 'it returns false'. Refute it at one input. -/
def recordCutsWrong : ChangeSpec := { name := "recordCuts", fn := fun _ => fun
  | [d1, d2] => { results := [.lit (.bool false)], args := [d1, d2] }
  | _ => none }
def RecordCutsWrongFalsely : Prop := recordCutsRow.holds Try.pinned (OpenSpec.ofChange recordCutsWrong)

/-- 'godownlaw12.PropsOver': WHATEVER THE INPUT: true; the input reads as it did. -/
def propsOverSpec : ChangeSpec := { name := "propsOver", fn := fun _ => fun
  | [d1, d2, d3] => { results := [.lit (.bool true)], args := [d1, d2, d3] }
  | _ => none }
def propsOverRow : OpenClaim := { program := "ythfjfkjlgdnohaa", sum := "4c162d3ade6eee58e9cfa40d1712c4bae8775fbe94f5e6c3cdbe94b034983c1c", func := "godown/godownlaw12.PropsOver", spec := "propsOver", unfollowed := true, recurses := true, apart := false }
def PropsOverSaid : Prop := propsOverRow.holds Try.pinned (OpenSpec.ofChange propsOverSpec)

/-- ITS FALSE NEIGHBOUR: 'it returns false'. Refute it at one input. -/
def propsOverWrong : ChangeSpec := { name := "propsOver", fn := fun _ => fun
  | [d1, d2, d3] => { results := [.lit (.bool false)], args := [d1, d2, d3] }
  | _ => none }
def PropsOverWrongFalsely : Prop := propsOverRow.holds Try.pinned (OpenSpec.ofChange propsOverWrong)

/-- 'godownlaw07.SpaceTells': WHATEVER THE INPUT: true; the input reads as it did. -/
def spaceTellsSpec : ChangeSpec := { name := "spaceTells", fn := fun _ => fun
  | [d1, d2, d3] => { results := [.lit (.bool true)], args := [d1, d2, d3] }
  | _ => none }
def spaceTellsRow : OpenClaim := { program := "ythfjfkjlgdnohaa", sum := "4c162d3ade6eee58e9cfa40d1712c4bae8775fbe94f5e6c3cdbe94b034983c1c", func := "godown/godownlaw07.SpaceTells", spec := "spaceTells", unfollowed := true, recurses := true, apart := false }
def SpaceTellsSaid : Prop := spaceTellsRow.holds Try.pinned (OpenSpec.ofChange spaceTellsSpec)

/-- ITS FALSE NEIGHBOUR: 'it returns false'. Refute it at one input. -/
def spaceTellsWrong : ChangeSpec := { name := "spaceTells", fn := fun _ => fun
  | [d1, d2, d3] => { results := [.lit (.bool false)], args := [d1, d2, d3] }
  | _ => none }
def SpaceTellsWrongFalsely : Prop := spaceTellsRow.holds Try.pinned (OpenSpec.ofChange spaceTellsWrong)

/-- 'godownlaw07.SpaceUnion': WHATEVER THE INPUT: true; the input reads as it did. -/
def spaceUnionSpec : ChangeSpec := { name := "spaceUnion", fn := fun _ => fun
  | [d1, d2] => { results := [.lit (.bool true)], args := [d1, d2] }
  | _ => none }
def spaceUnionRow : OpenClaim := { program := "ythfjfkjlgdnohaa", sum := "4c162d3ade6eee58e9cfa40d1712c4bae8775fbe94f5e6c3cdbe94b034983c1c", func := "godown/godownlaw07.SpaceUnion", spec := "spaceUnion", unfollowed := true, recurses := true, apart := false }
def SpaceUnionSaid : Prop := spaceUnionRow.holds Try.pinned (OpenSpec.ofChange spaceUnionSpec)

/-- ITS FALSE NEIGHBOUR: 'it returns false'. Refute it at one input. -/
def spaceUnionWrong : ChangeSpec := { name := "spaceUnion", fn := fun _ => fun
  | [d1, d2] => { results := [.lit (.bool false)], args := [d1, d2] }
  | _ => none }
def SpaceUnionWrongFalsely : Prop := spaceUnionRow.holds Try.pinned (OpenSpec.ofChange spaceUnionWrong)

/-- 'godownlaw07.SpaceTaken': WHATEVER THE INPUT: true; the input reads as it did. -/
def spaceTakenSpec : ChangeSpec := { name := "spaceTaken", fn := fun _ => fun
  | [d1, d2, d3, d4] => { results := [.lit (.bool true)], args := [d1, d2, d3, d4] }
  | _ => none }
def spaceTakenRow : OpenClaim := { program := "ythfjfkjlgdnohaa", sum := "4c162d3ade6eee58e9cfa40d1712c4bae8775fbe94f5e6c3cdbe94b034983c1c", func := "godown/godownlaw07.SpaceTaken", spec := "spaceTaken", unfollowed := true, recurses := true, apart := false }
def SpaceTakenSaid : Prop := spaceTakenRow.holds Try.pinned (OpenSpec.ofChange spaceTakenSpec)

/-- ITS FALSE NEIGHBOUR: 'it returns false'. Refute it at one input. -/
def spaceTakenWrong : ChangeSpec := { name := "spaceTaken", fn := fun _ => fun
  | [d1, d2, d3, d4] => { results := [.lit (.bool false)], args := [d1, d2, d3, d4] }
  | _ => none }
def SpaceTakenWrongFalsely : Prop := spaceTakenRow.holds Try.pinned (OpenSpec.ofChange spaceTakenWrong)

/-- 'godownlaw12.PropsForce': WHATEVER THE INPUT: true; the input reads as it did. -/
def propsForceSpec : ChangeSpec := { name := "propsForce", fn := fun _ => fun
  | [d1, d2, d3] => { results := [.lit (.bool true)], args := [d1, d2, d3] }
  | _ => none }
def propsForceRow : OpenClaim := { program := "ythfjfkjlgdnohaa", sum := "4c162d3ade6eee58e9cfa40d1712c4bae8775fbe94f5e6c3cdbe94b034983c1c", func := "godown/godownlaw12.PropsForce", spec := "propsForce", unfollowed := true, recurses := true, apart := false }
def PropsForceSaid : Prop := propsForceRow.holds Try.pinned (OpenSpec.ofChange propsForceSpec)

/-- ITS FALSE NEIGHBOUR: 'it returns false'. Refute it at one input. -/
def propsForceWrong : ChangeSpec := { name := "propsForce", fn := fun _ => fun
  | [d1, d2, d3] => { results := [.lit (.bool false)], args := [d1, d2, d3] }
  | _ => none }
def PropsForceWrongFalsely : Prop := propsForceRow.holds Try.pinned (OpenSpec.ofChange propsForceWrong)

/-- 'godownlaw12.PropsBack': WHATEVER THE INPUT: true; the input reads as it did. -/
def propsBackSpec : ChangeSpec := { name := "propsBack", fn := fun _ => fun
  | [d1, d2] => { results := [.lit (.bool true)], args := [d1, d2] }
  | _ => none }
def propsBackRow : OpenClaim := { program := "ythfjfkjlgdnohaa", sum := "4c162d3ade6eee58e9cfa40d1712c4bae8775fbe94f5e6c3cdbe94b034983c1c", func := "godown/godownlaw12.PropsBack", spec := "propsBack", unfollowed := true, recurses := true, apart := false }
def PropsBackSaid : Prop := propsBackRow.holds Try.pinned (OpenSpec.ofChange propsBackSpec)

/-- ITS FALSE NEIGHBOUR: 'it returns false'. Refute it at one input. -/
def propsBackWrong : ChangeSpec := { name := "propsBack", fn := fun _ => fun
  | [d1, d2] => { results := [.lit (.bool false)], args := [d1, d2] }
  | _ => none }
def PropsBackWrongFalsely : Prop := propsBackRow.holds Try.pinned (OpenSpec.ofChange propsBackWrong)

/-- 'godownlaw12.PropsTells': WHATEVER THE INPUT: true; the input reads as it did. -/
def propsTellsSpec : ChangeSpec := { name := "propsTells", fn := fun _ => fun
  | [d1, d2, d3] => { results := [.lit (.bool true)], args := [d1, d2, d3] }
  | _ => none }
def propsTellsRow : OpenClaim := { program := "ythfjfkjlgdnohaa", sum := "4c162d3ade6eee58e9cfa40d1712c4bae8775fbe94f5e6c3cdbe94b034983c1c", func := "godown/godownlaw12.PropsTells", spec := "propsTells", inPlace := ["slices.overlaps[godown/api.Prop]"], unfollowed := true, recurses := true, apart := false }
def PropsTellsSaid : Prop := propsTellsRow.holds Try.pinned (OpenSpec.ofChange propsTellsSpec)

/-- ITS FALSE NEIGHBOUR: 'it returns false'. Refute it at one input. -/
def propsTellsWrong : ChangeSpec := { name := "propsTells", fn := fun _ => fun
  | [d1, d2, d3] => { results := [.lit (.bool false)], args := [d1, d2, d3] }
  | _ => none }
def PropsTellsWrongFalsely : Prop := propsTellsRow.holds Try.pinned (OpenSpec.ofChange propsTellsWrong)

/- THE SECOND FORM. 'bulk': how many values and letters a reading holds, each counted each time it is reached (what is shared counts as often as it is met; a slice's spare places count too). A statement '..UptoSaid' is the law's where the arguments, and the package variables that the reading takes, are together of bulk at most 1048576: NARROWER than '..Said'. Prove '..Said' where nothing that the law and all that it calls make is longer than what came in: it says more and counts as full. Else prove '..UptoSaid'. A law counts once. -/
mutual
def uptoBulk {H : Type} : DataW H → Nat
  | .lit (.string bytes) => bytes.length + 1
  | .lit _ => 1
  | .nil => 1
  | .ptr d => uptoBulk d + 1
  | .slice elems spare => uptoBulkAll elems + uptoBulkAll spare + 1
  | .agg parts => uptoBulkAll parts + 1
  | .iface _ d => uptoBulk d + 1
  | .map entries => uptoBulkEntries entries + 1
  | .held _ => 1
def uptoBulkAll {H : Type} : List (DataW H) → Nat
  | [] => 0
  | d :: r => uptoBulk d + uptoBulkAll r
def uptoBulkEntries {H : Type} : List (Lit × DataW H) → Nat
  | [] => 0
  | x :: r => uptoBulkEntry x + uptoBulkEntries r
def uptoBulkEntry {H : Type} : Lit × DataW H → Nat
  | (.string bytes, d) => bytes.length + uptoBulk d + 1
  | (_, d) => uptoBulk d + 1
 end
def uptoSmall : (H : Type) → List (DataW H) → Bool := fun _ ds => decide (uptoBulkAll ds ≤ 1048576)
def OpenSpec.upto (s : _root_.Go.ChangeSpec) : _root_.Go.OpenSpec := { _root_.Go.OpenSpec.ofChange s with cond := some uptoSmall }

/-- 'godownlaw19.RecordTells', WHERE WHAT IT READS IS OF BULK AT MOST 1048576: true; the input reads as it did. -/
def recordTellsUptoRow : OpenClaim := { program := "ythfjfkjlgdnohaa", sum := "4c162d3ade6eee58e9cfa40d1712c4bae8775fbe94f5e6c3cdbe94b034983c1c", func := "godown/godownlaw19.RecordTells", spec := "recordTells", unfollowed := true, recurses := true, apart := false, narrowed := true }
def RecordTellsUptoSaid : Prop := recordTellsUptoRow.holds Try.pinned (OpenSpec.upto recordTellsSpec)

/-- 'godownlaw19.RecordBack', WHERE WHAT IT READS IS OF BULK AT MOST 1048576: true; the input reads as it did. -/
def recordBackUptoRow : OpenClaim := { program := "ythfjfkjlgdnohaa", sum := "4c162d3ade6eee58e9cfa40d1712c4bae8775fbe94f5e6c3cdbe94b034983c1c", func := "godown/godownlaw19.RecordBack", spec := "recordBack", unfollowed := true, recurses := true, apart := false, narrowed := true }
def RecordBackUptoSaid : Prop := recordBackUptoRow.holds Try.pinned (OpenSpec.upto recordBackSpec)

/-- 'godownlaw19.RecordOctets', WHERE WHAT IT READS IS OF BULK AT MOST 1048576: true; the input reads as it did. -/
def recordOctetsUptoRow : OpenClaim := { program := "ythfjfkjlgdnohaa", sum := "4c162d3ade6eee58e9cfa40d1712c4bae8775fbe94f5e6c3cdbe94b034983c1c", func := "godown/godownlaw19.RecordOctets", spec := "recordOctets", unfollowed := true, recurses := true, apart := false, narrowed := true }
def RecordOctetsUptoSaid : Prop := recordOctetsUptoRow.holds Try.pinned (OpenSpec.upto recordOctetsSpec)

/-- 'godownlaw19.RecordCuts', WHERE WHAT IT READS IS OF BULK AT MOST 1048576: true; the input reads as it did. -/
def recordCutsUptoRow : OpenClaim := { program := "ythfjfkjlgdnohaa", sum := "4c162d3ade6eee58e9cfa40d1712c4bae8775fbe94f5e6c3cdbe94b034983c1c", func := "godown/godownlaw19.RecordCuts", spec := "recordCuts", unfollowed := true, recurses := true, apart := false, narrowed := true }
def RecordCutsUptoSaid : Prop := recordCutsUptoRow.holds Try.pinned (OpenSpec.upto recordCutsSpec)

/-- 'godownlaw12.PropsOver', WHERE WHAT IT READS IS OF BULK AT MOST 1048576: true; the input reads as it did. -/
def propsOverUptoRow : OpenClaim := { program := "ythfjfkjlgdnohaa", sum := "4c162d3ade6eee58e9cfa40d1712c4bae8775fbe94f5e6c3cdbe94b034983c1c", func := "godown/godownlaw12.PropsOver", spec := "propsOver", unfollowed := true, recurses := true, apart := false, narrowed := true }
def PropsOverUptoSaid : Prop := propsOverUptoRow.holds Try.pinned (OpenSpec.upto propsOverSpec)

/-- 'godownlaw07.SpaceTells', WHERE WHAT IT READS IS OF BULK AT MOST 1048576: true; the input reads as it did. -/
def spaceTellsUptoRow : OpenClaim := { program := "ythfjfkjlgdnohaa", sum := "4c162d3ade6eee58e9cfa40d1712c4bae8775fbe94f5e6c3cdbe94b034983c1c", func := "godown/godownlaw07.SpaceTells", spec := "spaceTells", unfollowed := true, recurses := true, apart := false, narrowed := true }
def SpaceTellsUptoSaid : Prop := spaceTellsUptoRow.holds Try.pinned (OpenSpec.upto spaceTellsSpec)

/-- 'godownlaw07.SpaceUnion', WHERE WHAT IT READS IS OF BULK AT MOST 1048576: true; the input reads as it did. -/
def spaceUnionUptoRow : OpenClaim := { program := "ythfjfkjlgdnohaa", sum := "4c162d3ade6eee58e9cfa40d1712c4bae8775fbe94f5e6c3cdbe94b034983c1c", func := "godown/godownlaw07.SpaceUnion", spec := "spaceUnion", unfollowed := true, recurses := true, apart := false, narrowed := true }
def SpaceUnionUptoSaid : Prop := spaceUnionUptoRow.holds Try.pinned (OpenSpec.upto spaceUnionSpec)

/-- 'godownlaw07.SpaceTaken', WHERE WHAT IT READS IS OF BULK AT MOST 1048576: true; the input reads as it did. -/
def spaceTakenUptoRow : OpenClaim := { program := "ythfjfkjlgdnohaa", sum := "4c162d3ade6eee58e9cfa40d1712c4bae8775fbe94f5e6c3cdbe94b034983c1c", func := "godown/godownlaw07.SpaceTaken", spec := "spaceTaken", unfollowed := true, recurses := true, apart := false, narrowed := true }
def SpaceTakenUptoSaid : Prop := spaceTakenUptoRow.holds Try.pinned (OpenSpec.upto spaceTakenSpec)

/-- 'godownlaw12.PropsForce', WHERE WHAT IT READS IS OF BULK AT MOST 1048576: true; the input reads as it did. -/
def propsForceUptoRow : OpenClaim := { program := "ythfjfkjlgdnohaa", sum := "4c162d3ade6eee58e9cfa40d1712c4bae8775fbe94f5e6c3cdbe94b034983c1c", func := "godown/godownlaw12.PropsForce", spec := "propsForce", unfollowed := true, recurses := true, apart := false, narrowed := true }
def PropsForceUptoSaid : Prop := propsForceUptoRow.holds Try.pinned (OpenSpec.upto propsForceSpec)

/-- 'godownlaw12.PropsBack', WHERE WHAT IT READS IS OF BULK AT MOST 1048576: true; the input reads as it did. -/
def propsBackUptoRow : OpenClaim := { program := "ythfjfkjlgdnohaa", sum := "4c162d3ade6eee58e9cfa40d1712c4bae8775fbe94f5e6c3cdbe94b034983c1c", func := "godown/godownlaw12.PropsBack", spec := "propsBack", unfollowed := true, recurses := true, apart := false, narrowed := true }
def PropsBackUptoSaid : Prop := propsBackUptoRow.holds Try.pinned (OpenSpec.upto propsBackSpec)

/-- 'godownlaw12.PropsTells', WHERE WHAT IT READS IS OF BULK AT MOST 1048576: true; the input reads as it did. -/
def propsTellsUptoRow : OpenClaim := { program := "ythfjfkjlgdnohaa", sum := "4c162d3ade6eee58e9cfa40d1712c4bae8775fbe94f5e6c3cdbe94b034983c1c", func := "godown/godownlaw12.PropsTells", spec := "propsTells", inPlace := ["slices.overlaps[godown/api.Prop]"], unfollowed := true, recurses := true, apart := false, narrowed := true }
def PropsTellsUptoSaid : Prop := propsTellsUptoRow.holds Try.pinned (OpenSpec.upto propsTellsSpec)

end Rows
end Go.Proofs.Ythfjfkjlgdnohaa
