/-
  No cell of these rows narrows 'for every input' (looked for: loops, veiled, ifaces, maps, wideKeys, modest, calm, conditions, laid).
  DERIVED. THE GIVEN ROWS OF THIS SEAT. 14 by the template 'for every input the law returns true; each argument reads behind the call as it read before'; 0 by the template 'total and deterministic' (their statements: YtcchnoadclidcaaTotals.lean).
  GIVEN WITH THE SEED: the statements are not yours to turn. If you find one false, say at which input.
  Laid BY PROGRAM, IN A SANDBOX (cutbox-rows.mjs): the forced cells as the released guide's own fill.sh prints them over the translation 9ed2f55ce326b89d… (all of the seat's roots in one cut). By AI agents, Wed Nov 11 2026. No macro, syntax, notation, axiom, sorry.
-/
import Derived.Test.YtcchnoadclidcaaChecked
import GoSem.Claim
import GoSem.ClaimJoined
import GoSem.ClaimMapViews
import Derived.JoinedTies
import Derived.KernelRfl
namespace Go.Proofs.Ytcchnoadclidcaa
/- THE CELL 'sum', in the pinned program and in every row, IS THE sha256 OF THE DUMP (.gsa) THAT YtcchnoadclidcaaProg.lean LOADS. Nothing in Lean hashes anything: it is a label: what it is worth is what the hold of that sum in a sandbox is worth. -/
noncomputable def Try.pinned : Pinned := { name := "ytcchnoadclidcaa", sum := "9ed2f55ce326b89dac8f43fec9295fd61d6cb1c14d49bb13044b59fbe8a72ccf", checked := Try.checked }
namespace Rows
def none {H : Type} : Left H := { results := [], args := [] }

/-- 'godownlaw04.FletchParts': WHATEVER THE INPUT: true; the input reads as it did. -/
def fletchPartsSpec : ChangeSpec := { name := "fletchParts", fn := fun _ => fun
  | [d1, d2, d3] => { results := [.lit (.bool true)], args := [d1, d2, d3] }
  | _ => none }
def fletchPartsRow : OpenClaim := { program := "ytcchnoadclidcaa", sum := "9ed2f55ce326b89dac8f43fec9295fd61d6cb1c14d49bb13044b59fbe8a72ccf", func := "godown/godownlaw04.FletchParts", spec := "fletchParts", apart := false }
def FletchPartsSaid : Prop := fletchPartsRow.holds Try.pinned (OpenSpec.ofChange fletchPartsSpec)

/-- ITS FALSE NEIGHBOUR: 'it returns false'. Refute it at one input. -/
def fletchPartsWrong : ChangeSpec := { name := "fletchParts", fn := fun _ => fun
  | [d1, d2, d3] => { results := [.lit (.bool false)], args := [d1, d2, d3] }
  | _ => none }
def FletchPartsWrongFalsely : Prop := fletchPartsRow.holds Try.pinned (OpenSpec.ofChange fletchPartsWrong)

/-- 'godownlaw04.FletchOne': WHATEVER THE INPUT: true; the input reads as it did. -/
def fletchOneSpec : ChangeSpec := { name := "fletchOne", fn := fun _ => fun
  | [d1, d2, d3, d4] => { results := [.lit (.bool true)], args := [d1, d2, d3, d4] }
  | _ => none }
def fletchOneRow : OpenClaim := { program := "ytcchnoadclidcaa", sum := "9ed2f55ce326b89dac8f43fec9295fd61d6cb1c14d49bb13044b59fbe8a72ccf", func := "godown/godownlaw04.FletchOne", spec := "fletchOne", apart := false }
def FletchOneSaid : Prop := fletchOneRow.holds Try.pinned (OpenSpec.ofChange fletchOneSpec)

/-- ITS FALSE NEIGHBOUR: 'it returns false'. Refute it at one input. -/
def fletchOneWrong : ChangeSpec := { name := "fletchOne", fn := fun _ => fun
  | [d1, d2, d3, d4] => { results := [.lit (.bool false)], args := [d1, d2, d3, d4] }
  | _ => none }
def FletchOneWrongFalsely : Prop := fletchOneRow.holds Try.pinned (OpenSpec.ofChange fletchOneWrong)

/-- 'godownlaw01.OctetsBack': WHATEVER THE INPUT: true; the input reads as it did. -/
def octetsBackSpec : ChangeSpec := { name := "octetsBack", fn := fun _ => fun
  | [d1, d2] => { results := [.lit (.bool true)], args := [d1, d2] }
  | _ => none }
def octetsBackRow : OpenClaim := { program := "ytcchnoadclidcaa", sum := "9ed2f55ce326b89dac8f43fec9295fd61d6cb1c14d49bb13044b59fbe8a72ccf", func := "godown/godownlaw01.OctetsBack", spec := "octetsBack", inPlace := ["internal/abi.NoEscape", "internal/bytealg.IndexByteString"], unfollowed := true, recurses := true, apart := false }
def OctetsBackSaid : Prop := octetsBackRow.holds Try.pinned (OpenSpec.ofChange octetsBackSpec)

/-- ITS FALSE NEIGHBOUR: 'it returns false'. Refute it at one input. -/
def octetsBackWrong : ChangeSpec := { name := "octetsBack", fn := fun _ => fun
  | [d1, d2] => { results := [.lit (.bool false)], args := [d1, d2] }
  | _ => none }
def OctetsBackWrongFalsely : Prop := octetsBackRow.holds Try.pinned (OpenSpec.ofChange octetsBackWrong)

/-- 'godownlaw04.FletchTells': WHATEVER THE INPUT: true; the input reads as it did. -/
def fletchTellsSpec : ChangeSpec := { name := "fletchTells", fn := fun _ => fun
  | [d1, d2] => { results := [.lit (.bool true)], args := [d1, d2] }
  | _ => none }
def fletchTellsRow : OpenClaim := { program := "ytcchnoadclidcaa", sum := "9ed2f55ce326b89dac8f43fec9295fd61d6cb1c14d49bb13044b59fbe8a72ccf", func := "godown/godownlaw04.FletchTells", spec := "fletchTells", unfollowed := true, recurses := true, apart := false }
def FletchTellsSaid : Prop := fletchTellsRow.holds Try.pinned (OpenSpec.ofChange fletchTellsSpec)

/-- ITS FALSE NEIGHBOUR: 'it returns false'. Refute it at one input. -/
def fletchTellsWrong : ChangeSpec := { name := "fletchTells", fn := fun _ => fun
  | [d1, d2] => { results := [.lit (.bool false)], args := [d1, d2] }
  | _ => none }
def FletchTellsWrongFalsely : Prop := fletchTellsRow.holds Try.pinned (OpenSpec.ofChange fletchTellsWrong)

/-- 'godownlaw04.FletchBack': WHATEVER THE INPUT: true; the input reads as it did. -/
def fletchBackSpec : ChangeSpec := { name := "fletchBack", fn := fun _ => fun
  | [d] => { results := [.lit (.bool true)], args := [d] }
  | _ => none }
def fletchBackRow : OpenClaim := { program := "ytcchnoadclidcaa", sum := "9ed2f55ce326b89dac8f43fec9295fd61d6cb1c14d49bb13044b59fbe8a72ccf", func := "godown/godownlaw04.FletchBack", spec := "fletchBack", unfollowed := true, recurses := true, apart := false }
def FletchBackSaid : Prop := fletchBackRow.holds Try.pinned (OpenSpec.ofChange fletchBackSpec)

/-- ITS FALSE NEIGHBOUR: 'it returns false'. Refute it at one input. -/
def fletchBackWrong : ChangeSpec := { name := "fletchBack", fn := fun _ => fun
  | [d] => { results := [.lit (.bool false)], args := [d] }
  | _ => none }
def FletchBackWrongFalsely : Prop := fletchBackRow.holds Try.pinned (OpenSpec.ofChange fletchBackWrong)

/-- 'godownlaw01.OctetsOwn': WHATEVER THE INPUT: true; the input reads as it did. -/
def octetsOwnSpec : ChangeSpec := { name := "octetsOwn", fn := fun _ => fun
  | [d1, d2] => { results := [.lit (.bool true)], args := [d1, d2] }
  | _ => none }
def octetsOwnRow : OpenClaim := { program := "ytcchnoadclidcaa", sum := "9ed2f55ce326b89dac8f43fec9295fd61d6cb1c14d49bb13044b59fbe8a72ccf", func := "godown/godownlaw01.OctetsOwn", spec := "octetsOwn", inPlace := ["internal/abi.NoEscape"], unfollowed := true, recurses := true, apart := false }
def OctetsOwnSaid : Prop := octetsOwnRow.holds Try.pinned (OpenSpec.ofChange octetsOwnSpec)

/-- ITS FALSE NEIGHBOUR: 'it returns false'. Refute it at one input. -/
def octetsOwnWrong : ChangeSpec := { name := "octetsOwn", fn := fun _ => fun
  | [d1, d2] => { results := [.lit (.bool false)], args := [d1, d2] }
  | _ => none }
def OctetsOwnWrongFalsely : Prop := octetsOwnRow.holds Try.pinned (OpenSpec.ofChange octetsOwnWrong)

/-- 'godownlaw08.UberTells': WHATEVER THE INPUT: true; the input reads as it did. -/
def uberTellsSpec : ChangeSpec := { name := "uberTells", fn := fun _ => fun
  | [d1, d2] => { results := [.lit (.bool true)], args := [d1, d2] }
  | _ => none }
def uberTellsRow : OpenClaim := { program := "ytcchnoadclidcaa", sum := "9ed2f55ce326b89dac8f43fec9295fd61d6cb1c14d49bb13044b59fbe8a72ccf", func := "godown/godownlaw08.UberTells", spec := "uberTells", unfollowed := true, recurses := true, apart := false }
def UberTellsSaid : Prop := uberTellsRow.holds Try.pinned (OpenSpec.ofChange uberTellsSpec)

/-- ITS FALSE NEIGHBOUR: 'it returns false'. Refute it at one input. -/
def uberTellsWrong : ChangeSpec := { name := "uberTells", fn := fun _ => fun
  | [d1, d2] => { results := [.lit (.bool false)], args := [d1, d2] }
  | _ => none }
def UberTellsWrongFalsely : Prop := uberTellsRow.holds Try.pinned (OpenSpec.ofChange uberTellsWrong)

/-- 'godownlaw08.UberBack': WHATEVER THE INPUT: true; the input reads as it did. -/
def uberBackSpec : ChangeSpec := { name := "uberBack", fn := fun _ => fun
  | [d1, d2] => { results := [.lit (.bool true)], args := [d1, d2] }
  | _ => none }
def uberBackRow : OpenClaim := { program := "ytcchnoadclidcaa", sum := "9ed2f55ce326b89dac8f43fec9295fd61d6cb1c14d49bb13044b59fbe8a72ccf", func := "godown/godownlaw08.UberBack", spec := "uberBack", unfollowed := true, recurses := true, apart := false }
def UberBackSaid : Prop := uberBackRow.holds Try.pinned (OpenSpec.ofChange uberBackSpec)

/-- ITS FALSE NEIGHBOUR: 'it returns false'. Refute it at one input. -/
def uberBackWrong : ChangeSpec := { name := "uberBack", fn := fun _ => fun
  | [d1, d2] => { results := [.lit (.bool false)], args := [d1, d2] }
  | _ => none }
def UberBackWrongFalsely : Prop := uberBackRow.holds Try.pinned (OpenSpec.ofChange uberBackWrong)

/-- 'godownlaw08.UberSpoilt': WHATEVER THE INPUT: true; the input reads as it did. -/
def uberSpoiltSpec : ChangeSpec := { name := "uberSpoilt", fn := fun _ => fun
  | [d1, d2, d3] => { results := [.lit (.bool true)], args := [d1, d2, d3] }
  | _ => none }
def uberSpoiltRow : OpenClaim := { program := "ytcchnoadclidcaa", sum := "9ed2f55ce326b89dac8f43fec9295fd61d6cb1c14d49bb13044b59fbe8a72ccf", func := "godown/godownlaw08.UberSpoilt", spec := "uberSpoilt", unfollowed := true, recurses := true, apart := false }
def UberSpoiltSaid : Prop := uberSpoiltRow.holds Try.pinned (OpenSpec.ofChange uberSpoiltSpec)

/-- ITS FALSE NEIGHBOUR: 'it returns false'. Refute it at one input. -/
def uberSpoiltWrong : ChangeSpec := { name := "uberSpoilt", fn := fun _ => fun
  | [d1, d2, d3] => { results := [.lit (.bool false)], args := [d1, d2, d3] }
  | _ => none }
def UberSpoiltWrongFalsely : Prop := uberSpoiltRow.holds Try.pinned (OpenSpec.ofChange uberSpoiltWrong)

/-- 'godownlaw08.UberNewest': WHATEVER THE INPUT: true; the input reads as it did. -/
def uberNewestSpec : ChangeSpec := { name := "uberNewest", fn := fun _ => fun
  | [d1, d2] => { results := [.lit (.bool true)], args := [d1, d2] }
  | _ => none }
def uberNewestRow : OpenClaim := { program := "ytcchnoadclidcaa", sum := "9ed2f55ce326b89dac8f43fec9295fd61d6cb1c14d49bb13044b59fbe8a72ccf", func := "godown/godownlaw08.UberNewest", spec := "uberNewest", unfollowed := true, recurses := true, apart := false }
def UberNewestSaid : Prop := uberNewestRow.holds Try.pinned (OpenSpec.ofChange uberNewestSpec)

/-- ITS FALSE NEIGHBOUR: 'it returns false'. Refute it at one input. -/
def uberNewestWrong : ChangeSpec := { name := "uberNewest", fn := fun _ => fun
  | [d1, d2] => { results := [.lit (.bool false)], args := [d1, d2] }
  | _ => none }
def UberNewestWrongFalsely : Prop := uberNewestRow.holds Try.pinned (OpenSpec.ofChange uberNewestWrong)

/-- 'godownlaw09.PagesTells': WHATEVER THE INPUT: true; the input reads as it did. -/
def pagesTellsSpec : ChangeSpec := { name := "pagesTells", fn := fun _ => fun
  | [d1, d2, d3, d4] => { results := [.lit (.bool true)], args := [d1, d2, d3, d4] }
  | _ => none }
def pagesTellsRow : OpenClaim := { program := "ytcchnoadclidcaa", sum := "9ed2f55ce326b89dac8f43fec9295fd61d6cb1c14d49bb13044b59fbe8a72ccf", func := "godown/godownlaw09.PagesTells", spec := "pagesTells", unfollowed := true, recurses := true, apart := false }
def PagesTellsSaid : Prop := pagesTellsRow.holds Try.pinned (OpenSpec.ofChange pagesTellsSpec)

/-- ITS FALSE NEIGHBOUR: 'it returns false'. Refute it at one input. -/
def pagesTellsWrong : ChangeSpec := { name := "pagesTells", fn := fun _ => fun
  | [d1, d2, d3, d4] => { results := [.lit (.bool false)], args := [d1, d2, d3, d4] }
  | _ => none }
def PagesTellsWrongFalsely : Prop := pagesTellsRow.holds Try.pinned (OpenSpec.ofChange pagesTellsWrong)

/-- 'godownlaw09.PagesBack': WHATEVER THE INPUT: true; the input reads as it did. -/
def pagesBackSpec : ChangeSpec := { name := "pagesBack", fn := fun _ => fun
  | [d1, d2] => { results := [.lit (.bool true)], args := [d1, d2] }
  | _ => none }
def pagesBackRow : OpenClaim := { program := "ytcchnoadclidcaa", sum := "9ed2f55ce326b89dac8f43fec9295fd61d6cb1c14d49bb13044b59fbe8a72ccf", func := "godown/godownlaw09.PagesBack", spec := "pagesBack", unfollowed := true, recurses := true, apart := false }
def PagesBackSaid : Prop := pagesBackRow.holds Try.pinned (OpenSpec.ofChange pagesBackSpec)

/-- ITS FALSE NEIGHBOUR: 'it returns false'. Refute it at one input. -/
def pagesBackWrong : ChangeSpec := { name := "pagesBack", fn := fun _ => fun
  | [d1, d2] => { results := [.lit (.bool false)], args := [d1, d2] }
  | _ => none }
def PagesBackWrongFalsely : Prop := pagesBackRow.holds Try.pinned (OpenSpec.ofChange pagesBackWrong)

/-- 'godownlaw09.PagesSpoilt': WHATEVER THE INPUT: true; the input reads as it did. -/
def pagesSpoiltSpec : ChangeSpec := { name := "pagesSpoilt", fn := fun _ => fun
  | [d1, d2, d3, d4] => { results := [.lit (.bool true)], args := [d1, d2, d3, d4] }
  | _ => none }
def pagesSpoiltRow : OpenClaim := { program := "ytcchnoadclidcaa", sum := "9ed2f55ce326b89dac8f43fec9295fd61d6cb1c14d49bb13044b59fbe8a72ccf", func := "godown/godownlaw09.PagesSpoilt", spec := "pagesSpoilt", unfollowed := true, recurses := true, apart := false }
def PagesSpoiltSaid : Prop := pagesSpoiltRow.holds Try.pinned (OpenSpec.ofChange pagesSpoiltSpec)

/-- ITS FALSE NEIGHBOUR: 'it returns false'. Refute it at one input. -/
def pagesSpoiltWrong : ChangeSpec := { name := "pagesSpoilt", fn := fun _ => fun
  | [d1, d2, d3, d4] => { results := [.lit (.bool false)], args := [d1, d2, d3, d4] }
  | _ => none }
def PagesSpoiltWrongFalsely : Prop := pagesSpoiltRow.holds Try.pinned (OpenSpec.ofChange pagesSpoiltWrong)

/-- 'godownlaw09.PagesOwn': WHATEVER THE INPUT: true; the input reads as it did. -/
def pagesOwnSpec : ChangeSpec := { name := "pagesOwn", fn := fun _ => fun
  | [d] => { results := [.lit (.bool true)], args := [d] }
  | _ => none }
def pagesOwnRow : OpenClaim := { program := "ytcchnoadclidcaa", sum := "9ed2f55ce326b89dac8f43fec9295fd61d6cb1c14d49bb13044b59fbe8a72ccf", func := "godown/godownlaw09.PagesOwn", spec := "pagesOwn", unfollowed := true, recurses := true, apart := false }
def PagesOwnSaid : Prop := pagesOwnRow.holds Try.pinned (OpenSpec.ofChange pagesOwnSpec)

/-- ITS FALSE NEIGHBOUR: 'it returns false'. Refute it at one input. -/
def pagesOwnWrong : ChangeSpec := { name := "pagesOwn", fn := fun _ => fun
  | [d] => { results := [.lit (.bool false)], args := [d] }
  | _ => none }
def PagesOwnWrongFalsely : Prop := pagesOwnRow.holds Try.pinned (OpenSpec.ofChange pagesOwnWrong)

/- THE SECOND FORM. 'bulk': how many values and letters a reading holds, each counted each time it is reached (what is shared counts as often as it is met; a slice's spare places count too). A statement '..UptoSaid' is the law's where the arguments, and the package variables that the reading takes, are together of bulk at most 1048576: NARROWER than '..Said'. Prove '..Said' where nothing that the law and all that it calls make is longer than what came in: it says more and counts as full. Else prove '..UptoSaid'. A law counts once. -/
mutual
def uptoBulk {H : Type} : DataW H → Nat
  | .lit (.string bytes) => bytes.length + 1
  | .lit _ => 1
  | .nil => 1
  | .ptr d => uptoBulk d + 1
  | .slice elems spare => uptoBulkAll elems + uptoBulkAll spare + 1
  | .agg parts => uptoBulkAll parts + 1
  | .iface _ d => uptoBulk d + 1
  | .map entries => uptoBulkEntries entries + 1
  | .held _ => 1
def uptoBulkAll {H : Type} : List (DataW H) → Nat
  | [] => 0
  | d :: r => uptoBulk d + uptoBulkAll r
def uptoBulkEntries {H : Type} : List (Lit × DataW H) → Nat
  | [] => 0
  | x :: r => uptoBulkEntry x + uptoBulkEntries r
def uptoBulkEntry {H : Type} : Lit × DataW H → Nat
  | (.string bytes, d) => bytes.length + uptoBulk d + 1
  | (_, d) => uptoBulk d + 1
 end
def uptoSmall : (H : Type) → List (DataW H) → Bool := fun _ ds => decide (uptoBulkAll ds ≤ 1048576)
def OpenSpec.upto (s : _root_.Go.ChangeSpec) : _root_.Go.OpenSpec := { _root_.Go.OpenSpec.ofChange s with cond := some uptoSmall }

/-- 'godownlaw04.FletchParts', WHERE WHAT IT READS IS OF BULK AT MOST 1048576: true; the input reads as it did. -/
def fletchPartsUptoRow : OpenClaim := { program := "ytcchnoadclidcaa", sum := "9ed2f55ce326b89dac8f43fec9295fd61d6cb1c14d49bb13044b59fbe8a72ccf", func := "godown/godownlaw04.FletchParts", spec := "fletchParts", apart := false, narrowed := true }
def FletchPartsUptoSaid : Prop := fletchPartsUptoRow.holds Try.pinned (OpenSpec.upto fletchPartsSpec)

/-- 'godownlaw04.FletchOne', WHERE WHAT IT READS IS OF BULK AT MOST 1048576: true; the input reads as it did. -/
def fletchOneUptoRow : OpenClaim := { program := "ytcchnoadclidcaa", sum := "9ed2f55ce326b89dac8f43fec9295fd61d6cb1c14d49bb13044b59fbe8a72ccf", func := "godown/godownlaw04.FletchOne", spec := "fletchOne", apart := false, narrowed := true }
def FletchOneUptoSaid : Prop := fletchOneUptoRow.holds Try.pinned (OpenSpec.upto fletchOneSpec)

/-- 'godownlaw01.OctetsBack', WHERE WHAT IT READS IS OF BULK AT MOST 1048576: true; the input reads as it did. -/
def octetsBackUptoRow : OpenClaim := { program := "ytcchnoadclidcaa", sum := "9ed2f55ce326b89dac8f43fec9295fd61d6cb1c14d49bb13044b59fbe8a72ccf", func := "godown/godownlaw01.OctetsBack", spec := "octetsBack", inPlace := ["internal/abi.NoEscape", "internal/bytealg.IndexByteString"], unfollowed := true, recurses := true, apart := false, narrowed := true }
def OctetsBackUptoSaid : Prop := octetsBackUptoRow.holds Try.pinned (OpenSpec.upto octetsBackSpec)

/-- 'godownlaw04.FletchTells', WHERE WHAT IT READS IS OF BULK AT MOST 1048576: true; the input reads as it did. -/
def fletchTellsUptoRow : OpenClaim := { program := "ytcchnoadclidcaa", sum := "9ed2f55ce326b89dac8f43fec9295fd61d6cb1c14d49bb13044b59fbe8a72ccf", func := "godown/godownlaw04.FletchTells", spec := "fletchTells", unfollowed := true, recurses := true, apart := false, narrowed := true }
def FletchTellsUptoSaid : Prop := fletchTellsUptoRow.holds Try.pinned (OpenSpec.upto fletchTellsSpec)

/-- 'godownlaw04.FletchBack', WHERE WHAT IT READS IS OF BULK AT MOST 1048576: true; the input reads as it did. -/
def fletchBackUptoRow : OpenClaim := { program := "ytcchnoadclidcaa", sum := "9ed2f55ce326b89dac8f43fec9295fd61d6cb1c14d49bb13044b59fbe8a72ccf", func := "godown/godownlaw04.FletchBack", spec := "fletchBack", unfollowed := true, recurses := true, apart := false, narrowed := true }
def FletchBackUptoSaid : Prop := fletchBackUptoRow.holds Try.pinned (OpenSpec.upto fletchBackSpec)

/-- 'godownlaw01.OctetsOwn', WHERE WHAT IT READS IS OF BULK AT MOST 1048576: true; the input reads as it did. -/
def octetsOwnUptoRow : OpenClaim := { program := "ytcchnoadclidcaa", sum := "9ed2f55ce326b89dac8f43fec9295fd61d6cb1c14d49bb13044b59fbe8a72ccf", func := "godown/godownlaw01.OctetsOwn", spec := "octetsOwn", inPlace := ["internal/abi.NoEscape"], unfollowed := true, recurses := true, apart := false, narrowed := true }
def OctetsOwnUptoSaid : Prop := octetsOwnUptoRow.holds Try.pinned (OpenSpec.upto octetsOwnSpec)

/-- 'godownlaw08.UberTells', WHERE WHAT IT READS IS OF BULK AT MOST 1048576: true; the input reads as it did. -/
def uberTellsUptoRow : OpenClaim := { program := "ytcchnoadclidcaa", sum := "9ed2f55ce326b89dac8f43fec9295fd61d6cb1c14d49bb13044b59fbe8a72ccf", func := "godown/godownlaw08.UberTells", spec := "uberTells", unfollowed := true, recurses := true, apart := false, narrowed := true }
def UberTellsUptoSaid : Prop := uberTellsUptoRow.holds Try.pinned (OpenSpec.upto uberTellsSpec)

/-- 'godownlaw08.UberBack', WHERE WHAT IT READS IS OF BULK AT MOST 1048576: true; the input reads as it did. -/
def uberBackUptoRow : OpenClaim := { program := "ytcchnoadclidcaa", sum := "9ed2f55ce326b89dac8f43fec9295fd61d6cb1c14d49bb13044b59fbe8a72ccf", func := "godown/godownlaw08.UberBack", spec := "uberBack", unfollowed := true, recurses := true, apart := false, narrowed := true }
def UberBackUptoSaid : Prop := uberBackUptoRow.holds Try.pinned (OpenSpec.upto uberBackSpec)

/-- 'godownlaw08.UberSpoilt', WHERE WHAT IT READS IS OF BULK AT MOST 1048576: true; the input reads as it did. -/
def uberSpoiltUptoRow : OpenClaim := { program := "ytcchnoadclidcaa", sum := "9ed2f55ce326b89dac8f43fec9295fd61d6cb1c14d49bb13044b59fbe8a72ccf", func := "godown/godownlaw08.UberSpoilt", spec := "uberSpoilt", unfollowed := true, recurses := true, apart := false, narrowed := true }
def UberSpoiltUptoSaid : Prop := uberSpoiltUptoRow.holds Try.pinned (OpenSpec.upto uberSpoiltSpec)

/-- 'godownlaw08.UberNewest', WHERE WHAT IT READS IS OF BULK AT MOST 1048576: true; the input reads as it did. -/
def uberNewestUptoRow : OpenClaim := { program := "ytcchnoadclidcaa", sum := "9ed2f55ce326b89dac8f43fec9295fd61d6cb1c14d49bb13044b59fbe8a72ccf", func := "godown/godownlaw08.UberNewest", spec := "uberNewest", unfollowed := true, recurses := true, apart := false, narrowed := true }
def UberNewestUptoSaid : Prop := uberNewestUptoRow.holds Try.pinned (OpenSpec.upto uberNewestSpec)

/-- 'godownlaw09.PagesTells', WHERE WHAT IT READS IS OF BULK AT MOST 1048576: true; the input reads as it did. -/
def pagesTellsUptoRow : OpenClaim := { program := "ytcchnoadclidcaa", sum := "9ed2f55ce326b89dac8f43fec9295fd61d6cb1c14d49bb13044b59fbe8a72ccf", func := "godown/godownlaw09.PagesTells", spec := "pagesTells", unfollowed := true, recurses := true, apart := false, narrowed := true }
def PagesTellsUptoSaid : Prop := pagesTellsUptoRow.holds Try.pinned (OpenSpec.upto pagesTellsSpec)

/-- 'godownlaw09.PagesBack', WHERE WHAT IT READS IS OF BULK AT MOST 1048576: true; the input reads as it did. -/
def pagesBackUptoRow : OpenClaim := { program := "ytcchnoadclidcaa", sum := "9ed2f55ce326b89dac8f43fec9295fd61d6cb1c14d49bb13044b59fbe8a72ccf", func := "godown/godownlaw09.PagesBack", spec := "pagesBack", unfollowed := true, recurses := true, apart := false, narrowed := true }
def PagesBackUptoSaid : Prop := pagesBackUptoRow.holds Try.pinned (OpenSpec.upto pagesBackSpec)

/-- 'godownlaw09.PagesSpoilt', WHERE WHAT IT READS IS OF BULK AT MOST 1048576: true; the input reads as it did. -/
def pagesSpoiltUptoRow : OpenClaim := { program := "ytcchnoadclidcaa", sum := "9ed2f55ce326b89dac8f43fec9295fd61d6cb1c14d49bb13044b59fbe8a72ccf", func := "godown/godownlaw09.PagesSpoilt", spec := "pagesSpoilt", unfollowed := true, recurses := true, apart := false, narrowed := true }
def PagesSpoiltUptoSaid : Prop := pagesSpoiltUptoRow.holds Try.pinned (OpenSpec.upto pagesSpoiltSpec)

/-- 'godownlaw09.PagesOwn', WHERE WHAT IT READS IS OF BULK AT MOST 1048576: true; the input reads as it did. -/
def pagesOwnUptoRow : OpenClaim := { program := "ytcchnoadclidcaa", sum := "9ed2f55ce326b89dac8f43fec9295fd61d6cb1c14d49bb13044b59fbe8a72ccf", func := "godown/godownlaw09.PagesOwn", spec := "pagesOwn", unfollowed := true, recurses := true, apart := false, narrowed := true }
def PagesOwnUptoSaid : Prop := pagesOwnUptoRow.holds Try.pinned (OpenSpec.upto pagesOwnSpec)

end Rows
end Go.Proofs.Ytcchnoadclidcaa
