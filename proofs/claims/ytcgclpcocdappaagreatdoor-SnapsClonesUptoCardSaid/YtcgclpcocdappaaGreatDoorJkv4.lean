/-
  What a function tells that answers by a tenant and an error; sizes by content. Drawn regions with guards: when an operation is wanted.
-/
import Derived.WalkKit
import Derived.WalkSpells
import Derived.Below
import Derived.Laws.OwnMore
import Derived.Deep.AppendLies
import Derived.Deep.Draws
import Derived.Laws.Rows
import Derived.Maps.AppendAt
import Derived.RegionTactic
import Derived.OwnWalk
import Derived.Deep.QuietTactic
import Derived.BigQuiet
import Derived.Lib.Hide
import Derived.Laws.CopyOwn
import Derived.IntWalk
import Derived.Test.YtcgclpcocdappaaGreatDoorRows
import Derived.Handy
import Derived.Deep.Quiet
import Derived.ProofKit
import Derived.OpenShut
import Derived.ShutString
import Derived.ChangeOld
import Derived.Carry
import Derived.SizedLaws
import Derived.JoinedCond
import Derived.Deep.CondSized
import Derived.Deep.Slices
import Derived.Deep.Fields
import Derived.Lib.SmallJoins
import Derived.Orders
import Derived.Lib.SplitLaws
import Derived.Lib.LastIndexByte
import Derived.Lib.Strings
import Derived.Sort.Walk0
import Derived.Sort.KeysCollected
import Derived.Deep.MidRow
import Derived.Shelf.Strings.Search1
import Derived.Shelf.Strings.Search2
import Derived.Shelf.Strings.Search3
import Derived.Shelf.Strings.Cut
import Derived.Shelf.Strings.Count
import Derived.Shelf.LaysM
import Derived.Shelf.Strings.Shaped
import Derived.Shelf.Strings.LastIndex
import Derived.Shelf.Strings.Split
import Derived.Shelf.Strings.SplitShaped
import Derived.Shelf.Unicode.Decode
import Derived.Shelf.Strings.RuneCount
import Derived.Shelf.Strings.Explode
import Derived.Shelf.Unicode.DecodeSlow
import Derived.Test.YtcgclpcocdappaaGreatDoorProg
import Derived.Laws.BytesString
import Derived.Laws.IdiomStrings
import Derived.Lib.ConvBytes
import Derived.Deep.DeepCutAuto
import Derived.Great.BuildSlice
import Derived.Test.YtcgclpcocdappaaGreatDoorJ0
import Derived.Test.YtcgclpcocdappaaGreatDoorJbkv3
import Derived.Test.YtcgclpcocdappaaGreatDoorJbkv4
import Derived.Test.YtcgclpcocdappaaGreatDoorJbkv10
import Derived.Test.YtcgclpcocdappaaGreatDoorJbkv15
import Derived.Test.YtcgclpcocdappaaGreatDoorJbkv20
namespace Go.Proofs.YtcgclpcocdappaaGreatDoor
open Go.RowKit
/-! ### sizes, by content -/
section
variable {w:World} {B:Nat}
end
/-! ### what is told -/
/-! ### what stands under a set, its clones, what is held -/
/-- what is told, in one form: a tenant (the zero one beside an error) -/
theorem TenPost.one {w w':World} {c:Int×TenC} {e:Ending} (h:TenPost w c e w'):∃ y:TenR,e=.returned (.tuple #[y.val,.int .i64 c.1])∧Below w.heap.size w w'∧(c.1=0→TenO w' w.heap.size y∧y.con=c.2):=by
 obtain ⟨v,rfl,hb,h⟩:=h
 rcases h with ⟨h1,rfl⟩ | ⟨h1,y,rfl,h2,h3⟩
 ·exact ⟨⟨[],0,0,⟨none,0,0,[]⟩,⟨none,0,0,[]⟩,⟨none,0,0,[]⟩,⟨none,0,0,[]⟩⟩,rfl,hb,fun h=>absurd h h1⟩
 ·exact ⟨y,rfl,hb,fun _=>⟨h2,h3⟩⟩
end Go.Proofs.YtcgclpcocdappaaGreatDoor
namespace Go.Proofs.YtcgclpcocdappaaGreatDoor
open Go.RowKit
theorem wanted_of {ops:Array Oper} {o:Oper} {A:Act} {g k:Nat} {b:Bool} (hg:o.guard=some (g,b)) (hd:(ops[g]?).bind (·.dst)=some k) (h:A.tmps[k]?.getD undef=.bool b):Region.wanted o (yielded ops A.tmps)=true:=by
 have h1:A.tmps[k]?=some (.bool b):=by
  cases hk:A.tmps[k]? with
  | none=>rw [hk] at h;cases h
  | some x=>rw [hk] at h;exact congrArg some h
 simp [Region.wanted,hg,yielded,hd,h1]
end Go.Proofs.YtcgclpcocdappaaGreatDoor
