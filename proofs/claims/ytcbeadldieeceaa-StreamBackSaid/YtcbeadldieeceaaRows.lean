/-
  No cell of these rows narrows 'for every input' (looked for: loops, veiled, ifaces, maps, wideKeys, modest, calm, conditions, laid).
  DERIVED. THE GIVEN ROWS OF THIS SEAT. 4 by the template 'for every input the law returns true; each argument reads behind the call as it read before'; 0 by the template 'total and deterministic' (their statements: YtcbeadldieeceaaTotals.lean).
  GIVEN WITH THE SEED: the statements are not yours to turn. If you find one false, say at which input.
  Laid BY PROGRAM, IN A SANDBOX (cutbox-rows.mjs): the forced cells as the released guide's own fill.sh prints them over the translation e75a356075852ab5… (all of the seat's roots in one cut). By AI agents, Wed Nov 11 2026. No macro, syntax, notation, axiom, sorry.
-/
import Derived.Test.YtcbeadldieeceaaChecked
import GoSem.Claim
import GoSem.ClaimJoined
import GoSem.ClaimMapViews
import Derived.JoinedTies
import Derived.KernelRfl
namespace Go.Proofs.Ytcbeadldieeceaa
/- THE CELL 'sum', in the pinned program and in every row, IS THE sha256 OF THE DUMP (.gsa) THAT YtcbeadldieeceaaProg.lean LOADS. Nothing in Lean hashes anything: it is a label: what it is worth is what the hold of that sum in a sandbox is worth. -/
noncomputable def Try.pinned : Pinned := { name := "ytcbeadldieeceaa", sum := "e75a356075852ab573401d76652067effca947426bd20dbd51ff17efd83286a8", checked := Try.checked }
namespace Rows
def none {H : Type} : Left H := { results := [], args := [] }

/-- 'godownlaw21.StreamMakes': WHATEVER THE INPUT: true; the input reads as it did. -/
def streamMakesSpec : ChangeSpec := { name := "streamMakes", fn := fun _ => fun
  | [d1, d2, d3] => { results := [.lit (.bool true)], args := [d1, d2, d3] }
  | _ => none }
def streamMakesRow : OpenClaim := { program := "ytcbeadldieeceaa", sum := "e75a356075852ab573401d76652067effca947426bd20dbd51ff17efd83286a8", func := "godown/godownlaw21.StreamMakes", spec := "streamMakes", unfollowed := true, recurses := true, apart := false }
def StreamMakesSaid : Prop := streamMakesRow.holds Try.pinned (OpenSpec.ofChange streamMakesSpec)

/-- ITS FALSE NEIGHBOUR: 'it returns false'. Refute it at one input. -/
def streamMakesWrong : ChangeSpec := { name := "streamMakes", fn := fun _ => fun
  | [d1, d2, d3] => { results := [.lit (.bool false)], args := [d1, d2, d3] }
  | _ => none }
def StreamMakesWrongFalsely : Prop := streamMakesRow.holds Try.pinned (OpenSpec.ofChange streamMakesWrong)

/-- 'godownlaw21.StreamSpoilt': WHATEVER THE INPUT: true; the input reads as it did. -/
def streamSpoiltSpec : ChangeSpec := { name := "streamSpoilt", fn := fun _ => fun
  | [d1, d2, d3, d4, d5] => { results := [.lit (.bool true)], args := [d1, d2, d3, d4, d5] }
  | _ => none }
def streamSpoiltRow : OpenClaim := { program := "ytcbeadldieeceaa", sum := "e75a356075852ab573401d76652067effca947426bd20dbd51ff17efd83286a8", func := "godown/godownlaw21.StreamSpoilt", spec := "streamSpoilt", unfollowed := true, recurses := true, apart := false }
def StreamSpoiltSaid : Prop := streamSpoiltRow.holds Try.pinned (OpenSpec.ofChange streamSpoiltSpec)

/-- ITS FALSE NEIGHBOUR: 'it returns false'. Refute it at one input. -/
def streamSpoiltWrong : ChangeSpec := { name := "streamSpoilt", fn := fun _ => fun
  | [d1, d2, d3, d4, d5] => { results := [.lit (.bool false)], args := [d1, d2, d3, d4, d5] }
  | _ => none }
def StreamSpoiltWrongFalsely : Prop := streamSpoiltRow.holds Try.pinned (OpenSpec.ofChange streamSpoiltWrong)

/-- 'godownlaw21.StreamSums': WHATEVER THE INPUT: true; the input reads as it did. -/
def streamSumsSpec : ChangeSpec := { name := "streamSums", fn := fun _ => fun
  | [d] => { results := [.lit (.bool true)], args := [d] }
  | _ => none }
def streamSumsRow : OpenClaim := { program := "ytcbeadldieeceaa", sum := "e75a356075852ab573401d76652067effca947426bd20dbd51ff17efd83286a8", func := "godown/godownlaw21.StreamSums", spec := "streamSums", unfollowed := true, recurses := true, apart := false }
def StreamSumsSaid : Prop := streamSumsRow.holds Try.pinned (OpenSpec.ofChange streamSumsSpec)

/-- ITS FALSE NEIGHBOUR: 'it returns false'. Refute it at one input. -/
def streamSumsWrong : ChangeSpec := { name := "streamSums", fn := fun _ => fun
  | [d] => { results := [.lit (.bool false)], args := [d] }
  | _ => none }
def StreamSumsWrongFalsely : Prop := streamSumsRow.holds Try.pinned (OpenSpec.ofChange streamSumsWrong)

/-- 'godownlaw21.StreamBack': WHATEVER THE INPUT: true; the input reads as it did. -/
def streamBackSpec : ChangeSpec := { name := "streamBack", fn := fun _ => fun
  | [d1, d2, d3] => { results := [.lit (.bool true)], args := [d1, d2, d3] }
  | _ => none }
def streamBackRow : OpenClaim := { program := "ytcbeadldieeceaa", sum := "e75a356075852ab573401d76652067effca947426bd20dbd51ff17efd83286a8", func := "godown/godownlaw21.StreamBack", spec := "streamBack", inPlace := ["slices.overlaps[godown/api.Block]"], unfollowed := true, recurses := true, apart := false }
def StreamBackSaid : Prop := streamBackRow.holds Try.pinned (OpenSpec.ofChange streamBackSpec)

/-- ITS FALSE NEIGHBOUR: 'it returns false'. Refute it at one input. -/
def streamBackWrong : ChangeSpec := { name := "streamBack", fn := fun _ => fun
  | [d1, d2, d3] => { results := [.lit (.bool false)], args := [d1, d2, d3] }
  | _ => none }
def StreamBackWrongFalsely : Prop := streamBackRow.holds Try.pinned (OpenSpec.ofChange streamBackWrong)

/- THE SECOND FORM. 'bulk': how many values and letters a reading holds, each counted each time it is reached (what is shared counts as often as it is met; a slice's spare places count too). A statement '..UptoSaid' is the law's where the arguments, and the package variables that the reading takes, are together of bulk at most 1048576: NARROWER than '..Said'. Prove '..Said' where nothing that the law and all that it calls make is longer than what came in: it says more and counts as full. Else prove '..UptoSaid'. A law counts once. -/
mutual
def uptoBulk {H : Type} : DataW H → Nat
  | .lit (.string bytes) => bytes.length + 1
  | .lit _ => 1
  | .nil => 1
  | .ptr d => uptoBulk d + 1
  | .slice elems spare => uptoBulkAll elems + uptoBulkAll spare + 1
  | .agg parts => uptoBulkAll parts + 1
  | .iface _ d => uptoBulk d + 1
  | .map entries => uptoBulkEntries entries + 1
  | .held _ => 1
def uptoBulkAll {H : Type} : List (DataW H) → Nat
  | [] => 0
  | d :: r => uptoBulk d + uptoBulkAll r
def uptoBulkEntries {H : Type} : List (Lit × DataW H) → Nat
  | [] => 0
  | x :: r => uptoBulkEntry x + uptoBulkEntries r
def uptoBulkEntry {H : Type} : Lit × DataW H → Nat
  | (.string bytes, d) => bytes.length + uptoBulk d + 1
  | (_, d) => uptoBulk d + 1
 end
def uptoSmall : (H : Type) → List (DataW H) → Bool := fun _ ds => decide (uptoBulkAll ds ≤ 1048576)
def OpenSpec.upto (s : _root_.Go.ChangeSpec) : _root_.Go.OpenSpec := { _root_.Go.OpenSpec.ofChange s with cond := some uptoSmall }

/-- 'godownlaw21.StreamMakes', WHERE WHAT IT READS IS OF BULK AT MOST 1048576: true; the input reads as it did. -/
def streamMakesUptoRow : OpenClaim := { program := "ytcbeadldieeceaa", sum := "e75a356075852ab573401d76652067effca947426bd20dbd51ff17efd83286a8", func := "godown/godownlaw21.StreamMakes", spec := "streamMakes", unfollowed := true, recurses := true, apart := false, narrowed := true }
def StreamMakesUptoSaid : Prop := streamMakesUptoRow.holds Try.pinned (OpenSpec.upto streamMakesSpec)

/-- 'godownlaw21.StreamSpoilt', WHERE WHAT IT READS IS OF BULK AT MOST 1048576: true; the input reads as it did. -/
def streamSpoiltUptoRow : OpenClaim := { program := "ytcbeadldieeceaa", sum := "e75a356075852ab573401d76652067effca947426bd20dbd51ff17efd83286a8", func := "godown/godownlaw21.StreamSpoilt", spec := "streamSpoilt", unfollowed := true, recurses := true, apart := false, narrowed := true }
def StreamSpoiltUptoSaid : Prop := streamSpoiltUptoRow.holds Try.pinned (OpenSpec.upto streamSpoiltSpec)

/-- 'godownlaw21.StreamSums', WHERE WHAT IT READS IS OF BULK AT MOST 1048576: true; the input reads as it did. -/
def streamSumsUptoRow : OpenClaim := { program := "ytcbeadldieeceaa", sum := "e75a356075852ab573401d76652067effca947426bd20dbd51ff17efd83286a8", func := "godown/godownlaw21.StreamSums", spec := "streamSums", unfollowed := true, recurses := true, apart := false, narrowed := true }
def StreamSumsUptoSaid : Prop := streamSumsUptoRow.holds Try.pinned (OpenSpec.upto streamSumsSpec)

/-- 'godownlaw21.StreamBack', WHERE WHAT IT READS IS OF BULK AT MOST 1048576: true; the input reads as it did. -/
def streamBackUptoRow : OpenClaim := { program := "ytcbeadldieeceaa", sum := "e75a356075852ab573401d76652067effca947426bd20dbd51ff17efd83286a8", func := "godown/godownlaw21.StreamBack", spec := "streamBack", inPlace := ["slices.overlaps[godown/api.Block]"], unfollowed := true, recurses := true, apart := false, narrowed := true }
def StreamBackUptoSaid : Prop := streamBackUptoRow.holds Try.pinned (OpenSpec.upto streamBackSpec)

end Rows
end Go.Proofs.Ytcbeadldieeceaa
