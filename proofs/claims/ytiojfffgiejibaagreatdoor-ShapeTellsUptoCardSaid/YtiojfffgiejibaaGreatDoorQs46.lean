/-
  A world for the witness: the settled one, utf8's two tables holding what their initialisers lay. A tenant of one's own of which the snapshots of one set are changed, when no two sets have one row of snapshots.
-/
import Derived.Test.YtiojfffgiejibaaGreatDoorQsM1
import Derived.Test.YtiojfffgiejibaaGreatDoorCards
import Derived.Test.YtiojfffgiejibaaGreatDoorTie
import Derived.Deep.DeepHandedRow
import Derived.Lib.LaidTab
import Derived.WalkKit
import Derived.WalkSpells
import Derived.Below
import Derived.Laws.OwnMore
import Derived.Deep.AppendLies
import Derived.Deep.Draws
import Derived.Laws.Rows
import Derived.Maps.AppendAt
import Derived.RegionTactic
import Derived.OwnWalk
import Derived.Deep.QuietTactic
import Derived.BigQuiet
import Derived.Lib.Hide
import Derived.Laws.CopyOwn
import Derived.IntWalk
import Derived.Test.YtiojfffgiejibaaGreatDoorRows
import Derived.ProofKit
import Derived.OpenShut
import Derived.ShutString
import Derived.ChangeOld
import Derived.Carry
import Derived.SizedLaws
import Derived.JoinedCond
import Derived.Deep.CondSized
import Derived.Deep.Slices
import Derived.Deep.Fields
import Derived.Lib.SmallJoins
import Derived.Handy
import Derived.Deep.Quiet
import Derived.Orders
import Derived.Lib.SplitLaws
import Derived.Lib.LastIndexByte
import Derived.Lib.Strings
import Derived.Sort.Walk0
import Derived.Sort.KeysCollected
import Derived.Shelf.Strings.Search1
import Derived.Shelf.Strings.Search2
import Derived.Shelf.Strings.Search3
import Derived.Shelf.Strings.Cut
import Derived.Shelf.Strings.Count
import Derived.Shelf.LaysM
import Derived.Shelf.Strings.Shaped
import Derived.Shelf.Strings.LastIndex
import Derived.Shelf.Strings.Split
import Derived.Shelf.Strings.SplitShaped
import Derived.Shelf.Unicode.Decode
import Derived.Shelf.Strings.RuneCount
import Derived.Shelf.Strings.Explode
import Derived.Shelf.Unicode.DecodeSlow
import Derived.Shelf.Slices.Turned
import Derived.Test.YtiojfffgiejibaaGreatDoorProg
import Derived.Laws.BytesString
import Derived.Laws.IdiomStrings
import Derived.Lib.ConvBytes
import Derived.Deep.DeepCutAuto
import Derived.Deep.MidRow
import Derived.Great.BuildSlice
import Derived.Test.YtiojfffgiejibaaGreatDoorQ0
import Derived.Test.YtiojfffgiejibaaGreatDoorQs1
import Derived.Test.YtiojfffgiejibaaGreatDoorQs5
import Derived.Test.YtiojfffgiejibaaGreatDoorQs7
import Derived.Test.YtiojfffgiejibaaGreatDoorQs10
import Derived.Test.YtiojfffgiejibaaGreatDoorQs16
import Derived.Test.YtiojfffgiejibaaGreatDoorQs20
import Derived.Test.YtiojfffgiejibaaGreatDoorQs26
import Derived.Test.YtiojfffgiejibaaGreatDoorQs27
namespace Go.Proofs.YtiojfffgiejibaaGreatDoor
def u8s (l:List Nat):Array Value:=(l.map fun (n:Nat)=>Value.int .u8 (Int.ofNat n)).toArray
def layCells (c:Array Value):Obj→Obj
 | .cells _ t frozen=>.cells c t frozen
 | o=>o
noncomputable def laidWorld (os:Os):World :=
 { World.holding Tryz.prog os ⟨#[],#[],[]⟩ with heap:=((World.holding Tryz.prog os ⟨#[],#[],[]⟩).heap.modify 2 (layCells (u8s ([128,191,160,191,128,159,144,191,128,143]++List.replicate 22 0)))).modify 1 (layCells (u8s Go.Pinned.utf8FirstZ)) }
end Go.Proofs.YtiojfffgiejibaaGreatDoor
namespace Go.Proofs.YtiojfffgiejibaaGreatDoor
open Go.RowKit
def SetR.withSn (x:SetR) (s:FS SnapR):SetR:=⟨x.path,x.org,x.body,s,x.own⟩
def SetC.withSn (x:SetC) (l:List SnapC):SetC:=⟨x.path,x.org,x.body,l,x.own⟩
section
variable {w w1:World} {base:Nat}
/-- what stays when only the row of one set's snapshots is changed -/
structure Aside (w1:World) (base:Nat) (t:TenR) (k:Nat) (hk:k<t.sets.l.length):Prop where
 sets:t.sets.own w1 base 56 5 encSet
 others:∀ j (hj:j<t.sets.l.length),j≠k→SetO w1 base (t.sets.l[j]'hj)
 body:(t.sets.l[k]'hk).body.own w1 base 97 2 encB
 own:(t.sets.l[k]'hk).own.own w1 base 100 2 encP
 olds:∀ y∈(t.sets.l[k]'hk).snaps.l,SnapO w1 base y
 grants:t.grants.own w1 base 104 3 encG
 stages:t.stages.own w1 base 77 21 encStage
 eachG:∀ y∈t.stages.l,StageO w1 base y
 log:t.log.own w1 base 106 4 encEntry
theorem mem_set_at {α:Type} {l:List α} {k:Nat} {x y:α} (h:y∈l.set k x):y=x∨∃ j,∃ hj:j<l.length,j≠k∧y=l[j]'hj:=by
 obtain ⟨j,hj,rfl⟩:=List.mem_iff_getElem.1 h
 rw [List.length_set] at hj
 by_cases hjk:k=j
 ·subst hjk
  exact .inl (List.getElem_set_self ..)
 ·exact .inr ⟨j,hj,fun e=>hjk e.symm,List.getElem_set_ne hjk ..⟩
/-- the row is another one, and its address is stored -/
theorem Aside.store {t:TenR} {k:Nat} {hk:k<t.sets.l.length} (h:Aside w1 base t k hk) (s':FS SnapR) (hs:s'.own w1 base 58 5 encSnap) (hm:∀ y∈s'.l,SnapO w1 base y) {gS:Nat} (hA:t.sets.A=some ⟨gS,0,none⟩) :
  TenO (w1.setCell ⟨gS,k*5+3,none⟩ s'.val) base (t.putS k ((t.sets.l[k]'hk).withSn s'))∧w1.grownBy (w1.setCell ⟨gS,k*5+3,none⟩ s'.val) (some gS):=by
 obtain ⟨g,cs,hA2,_,hbk⟩:=h.sets.blk (by have:=h.sets.1;omega)
 rw [hA] at hA2
 injection hA2 with hA2
 injection hA2 with hA2
 subst hA2
 obtain ⟨h1,h2⟩:=h.sets.field (fun _=>rfl) hA k 3 tZ4 ((t.sets.l[k]'hk).withSn s') s'.val (fun z hz=>by rw [List.getElem?_eq_getElem hk] at hz;cases hz;rfl)
 have hx:SetO w1 base ((t.sets.l[k]'hk).withSn s'):=⟨h.body,hs,hm,h.own⟩
 refine ⟨⟨h1,fun y hy=>?_,h.grants.keptT h2 hbk tZ4,h.stages.keptT h2 hbk tZ4,fun y hy=>(h.eachG y hy).keptS h2 hbk,h.log.keptT h2 hbk tZ4⟩,h2⟩
 rcases mem_set_at (show y∈t.sets.l.set k _ from hy) with rfl | ⟨j,hj,hne,rfl⟩
 ·exact hx.keptS h2 hbk
 ·exact (h.others j hj hne).keptS h2 hbk
end
end Go.Proofs.YtiojfffgiejibaaGreatDoor
