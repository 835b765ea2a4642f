/-
  A world for the witness: the settled one, utf8's two tables holding what their initialisers lay. HoldsKeeps, the plain law: a held snapshot may not go, and releasing gives the tenant back. slices.IndexFunc and slices.DeleteFunc at elements of 2 cells, by their contracts.
-/
import Derived.Test.YtiojfffgiejibaaGreatDoorTtM1
import Derived.Test.YtiojfffgiejibaaGreatDoorCards
import Derived.Test.YtiojfffgiejibaaGreatDoorTie
import Derived.Deep.DeepHandedRow
import Derived.Lib.LaidTab
import Derived.WalkKit
import Derived.WalkSpells
import Derived.Below
import Derived.Laws.OwnMore
import Derived.Deep.AppendLies
import Derived.Deep.Draws
import Derived.Laws.Rows
import Derived.Maps.AppendAt
import Derived.RegionTactic
import Derived.OwnWalk
import Derived.Deep.QuietTactic
import Derived.BigQuiet
import Derived.Lib.Hide
import Derived.Laws.CopyOwn
import Derived.IntWalk
import Derived.Test.YtiojfffgiejibaaGreatDoorRows
import Derived.ProofKit
import Derived.OpenShut
import Derived.ShutString
import Derived.ChangeOld
import Derived.Carry
import Derived.SizedLaws
import Derived.JoinedCond
import Derived.Deep.CondSized
import Derived.Deep.Slices
import Derived.Deep.Fields
import Derived.Lib.SmallJoins
import Derived.Handy
import Derived.Lib.AppendZeros
import Derived.Deep.Quiet
import Derived.Orders
import Derived.Lib.SplitLaws
import Derived.Lib.LastIndexByte
import Derived.Lib.Strings
import Derived.Deep.RegionLaw
import Derived.Sort.Walk0
import Derived.Sort.KeysCollected
import Derived.Shelf.SlIter.Nil
import Derived.Shelf.SortM.Plain
import Derived.Shelf.SortM.SortNone
import Derived.Maps.OwnSet
import Derived.Maps.StringElems
import Derived.Deep.MidRow
import Derived.Shelf.Strings.Search1
import Derived.Shelf.Strings.Search2
import Derived.Shelf.Strings.Search3
import Derived.Shelf.Strings.Cut
import Derived.Shelf.Strings.Count
import Derived.Shelf.LaysM
import Derived.Shelf.Strings.Shaped
import Derived.Shelf.Strings.LastIndex
import Derived.Shelf.Strings.Split
import Derived.Shelf.Strings.SplitShaped
import Derived.Shelf.Unicode.Decode
import Derived.Shelf.Strings.RuneCount
import Derived.Shelf.Strings.Explode
import Derived.Shelf.Unicode.DecodeSlow
import Derived.Shelf.Slices.Turned
import Derived.Test.YtiojfffgiejibaaGreatDoorProg
import Derived.Lib.Overlaps
import Derived.Lib.AppendZerosOnto
import Derived.Laws.BytesString
import Derived.Laws.IdiomStrings
import Derived.Lib.ConvBytes
import Derived.Deep.DeepCutAuto
import Derived.Great.BuildSlice
import Derived.Test.YtiojfffgiejibaaGreatDoorT0
import Derived.Test.YtiojfffgiejibaaGreatDoorTt1
import Derived.Test.YtiojfffgiejibaaGreatDoorTt5
import Derived.Test.YtiojfffgiejibaaGreatDoorTt7
import Derived.Test.YtiojfffgiejibaaGreatDoorTt16
import Derived.Test.YtiojfffgiejibaaGreatDoorTt21
import Derived.Test.YtiojfffgiejibaaGreatDoorTt24
import Derived.Test.YtiojfffgiejibaaGreatDoorTt32
import Derived.Test.YtiojfffgiejibaaGreatDoorTt34
namespace Go.Proofs.YtiojfffgiejibaaGreatDoor
def u8s (l:List Nat):Array Value:=(l.map fun (n:Nat)=>Value.int .u8 (Int.ofNat n)).toArray
def layCells (c:Array Value):Obj→Obj
 | .cells _ t frozen=>.cells c t frozen
 | o=>o
noncomputable def laidWorld (os:Os):World :=
 { World.holding Tryz.prog os ⟨#[],#[],[]⟩ with heap:=((World.holding Tryz.prog os ⟨#[],#[],[]⟩).heap.modify 2 (layCells (u8s ([128,191,160,191,128,159,144,191,128,143]++List.replicate 22 0)))).modify 1 (layCells (u8s Go.Pinned.utf8FirstZ)) }
end Go.Proofs.YtiojfffgiejibaaGreatDoor
namespace Go.Proofs.YtiojfffgiejibaaGreatDoor
open Go.RowKit
theorem SnapsOk.tagged {l:List SnapC} (h:SnapsOk l) (i:Nat) (hi:i<l.length) (tl:List BS) (ht:snapOk ((l[i]'hi).tagged tl).r=true):SnapsOk (l.set i ((l[i]'hi).tagged tl)):=by
 have hg:(l.set i ((l[i]'hi).tagged tl)).map SnapC.gd=l.map SnapC.gd:=by
  rw [List.map_set,show ((l[i]'hi).tagged tl).gd=(l[i]'hi).gd from rfl,← List.getElem_map SnapC.gd (h:=by rw [List.length_map];exact hi),List.set_getElem_self]
 have hn:(l.set i ((l[i]'hi).tagged tl)).map SnapC.nm=l.map SnapC.nm:=by
  rw [List.map_set,show ((l[i]'hi).tagged tl).nm=(l[i]'hi).nm from rfl,← List.getElem_map SnapC.nm (h:=by rw [List.length_map];exact hi),List.set_getElem_self]
 refine ⟨by rw [List.length_set];exact h.len,fun x hx=>?_,?_,by rw [hn];exact h.nodup⟩
 ·rcases List.mem_or_eq_of_mem_set hx with hx | rfl
  ·exact h.each x hx
  ·exact ⟨ht,(h.each _ (List.getElem_mem hi)).2⟩
 ·have:=List.pairwise_map (f:=SnapC.gd) (l:=l) (R:=fun a b=>a<b)
  have h4:=this.2 h.asc
  rw [← hg] at h4
  exact List.pairwise_map.1 h4
end Go.Proofs.YtiojfffgiejibaaGreatDoor
namespace Go.Proofs.YtiojfffgiejibaaGreatDoor
open Go.RowKit
/-! ### DeleteFunc -/
/-- between two rounds: what stays lies at the beginning, what has not been looked at as it was -/
structure DelI {α:Type} (p:α→Bool) (l L:List α) (i j:Nat):Prop where
 len:L.length=l.length
 le:i≤j
 jl:j≤l.length
 pre:L.take i=(l.take j).filter fun x=>!p x
 suf:L.drop j=l.drop j
theorem DelI.keep {α:Type} {p:α→Bool} {l L:List α} {i j:Nat} {x:α} (h:DelI p l L i j) (hlt:i<j) (hx:l[j]?=some x) (hp:p x=false):DelI p l (L.set i x) (i+1) (j+1):=by
 have hj:=(List.getElem?_eq_some_iff.1 hx).1
 refine ⟨by rw [List.length_set];exact h.len,by omega,by omega,?_,?_⟩
 ·rw [List.take_succ_eq_append_getElem hj,List.filter_append,← h.pre,(List.getElem?_eq_some_iff.1 hx).2]
  rw [List.take_succ_eq_append_getElem (by rw [List.length_set,h.len];omega),List.take_set_of_le (Nat.le_refl _),List.getElem_set_self]
  simp [hp]
 ·rw [List.drop_set_of_lt tZ1]
  have:=congrArg (List.drop 1) h.suf
  simpa using this
end Go.Proofs.YtiojfffgiejibaaGreatDoor
