/-
  blocks.Put, by its contract. A tenant of one's own of which the row of tags of one snapshot is changed in place, when no two snapshots have one row of tags. The plain law of contents' changes: going along two contents, and asking index by index, make the same records. props.Over, by its contract. The page's tags by content: what its loop makes is the list with a tag more, or less.
-/
import Derived.Test.YtiojfffgiejibaaGreatDoorTtM1
import Derived.Test.YtiojfffgiejibaaGreatDoorRows
import Derived.Handy
import Derived.WalkKit
import Derived.WalkSpells
import Derived.Below
import Derived.Laws.OwnMore
import Derived.Deep.AppendLies
import Derived.Deep.Draws
import Derived.Laws.Rows
import Derived.Maps.AppendAt
import Derived.RegionTactic
import Derived.OwnWalk
import Derived.Deep.QuietTactic
import Derived.BigQuiet
import Derived.Lib.Hide
import Derived.Laws.CopyOwn
import Derived.IntWalk
import Derived.Lib.AppendZeros
import Derived.ProofKit
import Derived.Lib.Overlaps
import Derived.Lib.AppendZerosOnto
import Derived.Deep.RegionLaw
import Derived.Deep.Quiet
import Derived.OpenShut
import Derived.ShutString
import Derived.ChangeOld
import Derived.Carry
import Derived.SizedLaws
import Derived.JoinedCond
import Derived.Deep.CondSized
import Derived.Deep.Slices
import Derived.Deep.Fields
import Derived.Lib.SmallJoins
import Derived.Orders
import Derived.Lib.SplitLaws
import Derived.Lib.LastIndexByte
import Derived.Lib.Strings
import Derived.Sort.Walk0
import Derived.Sort.KeysCollected
import Derived.Shelf.Strings.Search1
import Derived.Shelf.Strings.Search2
import Derived.Shelf.Strings.Search3
import Derived.Shelf.Strings.Cut
import Derived.Shelf.Strings.Count
import Derived.Shelf.LaysM
import Derived.Shelf.Strings.Shaped
import Derived.Shelf.Strings.LastIndex
import Derived.Shelf.Strings.Split
import Derived.Shelf.Strings.SplitShaped
import Derived.Shelf.Unicode.Decode
import Derived.Shelf.Strings.RuneCount
import Derived.Shelf.Strings.Explode
import Derived.Shelf.Unicode.DecodeSlow
import Derived.Shelf.Slices.Turned
import Derived.Test.YtiojfffgiejibaaGreatDoorProg
import Derived.Laws.BytesString
import Derived.Laws.IdiomStrings
import Derived.Lib.ConvBytes
import Derived.Deep.DeepCutAuto
import Derived.Deep.MidRow
import Derived.Great.BuildSlice
import Derived.Shelf.SlIter.Nil
import Derived.Shelf.SortM.Plain
import Derived.Shelf.SortM.SortNone
import Derived.Maps.OwnSet
import Derived.Maps.StringElems
import Derived.Test.YtiojfffgiejibaaGreatDoorT0
import Derived.Test.YtiojfffgiejibaaGreatDoorTt1
import Derived.Test.YtiojfffgiejibaaGreatDoorTt3
import Derived.Test.YtiojfffgiejibaaGreatDoorTt5
import Derived.Test.YtiojfffgiejibaaGreatDoorTt6
import Derived.Test.YtiojfffgiejibaaGreatDoorTt7
import Derived.Test.YtiojfffgiejibaaGreatDoorTt10
import Derived.Test.YtiojfffgiejibaaGreatDoorTt12
import Derived.Test.YtiojfffgiejibaaGreatDoorTt16
import Derived.Test.YtiojfffgiejibaaGreatDoorTt20
import Derived.Test.YtiojfffgiejibaaGreatDoorTt21
import Derived.Test.YtiojfffgiejibaaGreatDoorTt23
import Derived.Test.YtiojfffgiejibaaGreatDoorTt24
import Derived.Test.YtiojfffgiejibaaGreatDoorTt25
import Derived.Test.YtiojfffgiejibaaGreatDoorTt34
namespace Go.Proofs.YtiojfffgiejibaaGreatDoor
open Go.RowKit
def cmpI (x y:Int):Int:=if x<y then -1 else if y<x then 1 else 0
theorem cmpI_neg (x y:Int):cmpI x y<0↔x<y:=tZ113
theorem cmpI_zero (x y:Int):cmpI x y=0↔x=y:=tZ113
/-! ### the plain law's words -/
def Asc (l:BL):Prop:=∀ (i j:Nat) (x y:Int×List UInt8),i<j→l[i]?=some x→l[j]?=some y→x.1<y.1
def cfB (t:Int):Int×List UInt8→Int:=fun x=>cmpI x.1 t
def putL11 (l:BL) (i:Int) (d:List UInt8):BL:=l.take (posF (cfB i) l)++[(i,d)]++l.drop (posF (cfB i) l+if atF (cfB i) l=true then 1 else 0)
end Go.Proofs.YtiojfffgiejibaaGreatDoor
namespace Go.Proofs.YtiojfffgiejibaaGreatDoor
open Go.RowKit
section
variable {w w1:World} {base:Nat}
/-- a row of another type stays, and one of another block -/
theorem own_asideT {T T':TypeId} {k n m sz:Nat} {v u:Value} {xs ys:List Value} (hs:w.ownsRow base T' sz u m ys) (hg:w.grownBy w1 u.ownBlock) (hT:T≠T') (hr:w.ownsRow base T k v n xs):w1.ownsRow base T k v n xs:=by
 cases he:u.ownBlock with
 | none=>rw [he] at hg;exact hr.kept hg (by cases v.ownBlock <;> simp)
 | some g =>
  rw [he] at hg
  refine hr.kept hg (.inr ?_)
  rcases hs.2 with ⟨e,_⟩ | ⟨g',cap,cur,e,_,hh,_⟩
  ·rw [e] at he;simp [Value.ownBlock] at he
  ·rw [e] at he
   have he:g'=g:=tZ99
   subst he
   exact own_blk_ne hr (show Blk w g' T' cur from hh) hT
theorem own_asideG {T:TypeId} {k n:Nat} {v u:Value} {xs:List Value} (hg:w.grownBy w1 u.ownBlock) (hA:∀ g,v.ownBlock=some g→u.ownBlock≠some g) (hr:w.ownsRow base T k v n xs):w1.ownsRow base T k v n xs:=by
 cases he:u.ownBlock with
 | none=>rw [he] at hg;exact hr.kept hg (by cases v.ownBlock <;> simp)
 | some g =>
  rw [he] at hg
  exact hr.kept hg (.inr fun e=>hA g e he)
/-- what stays when only the row of one snapshot's tags is changed -/
structure TAside (w1:World) (base:Nat) (t:TenR) (k:Nat) (hk:k<t.sets.l.length) (i:Nat) (hi:i<(t.sets.l[k]'hk).snaps.l.length):Prop where
 sets:t.sets.own w1 base 56 5 encSet
 others:∀ j (hj:j<t.sets.l.length),j≠k→SetO w1 base (t.sets.l[j]'hj)
 body:(t.sets.l[k]'hk).body.own w1 base 97 2 encB
 own:(t.sets.l[k]'hk).own.own w1 base 100 2 encP
 snaps:(t.sets.l[k]'hk).snaps.own w1 base 58 5 encSnap
 olds:∀ q (hq:q<(t.sets.l[k]'hk).snaps.l.length),q≠i→SnapO w1 base ((t.sets.l[k]'hk).snaps.l[q]'hq)
 sbody:((t.sets.l[k]'hk).snaps.l[i]'hi).body.own w1 base 97 2 encB
 sown:((t.sets.l[k]'hk).snaps.l[i]'hi).own.own w1 base 100 2 encP
 grants:t.grants.own w1 base 104 3 encG
 stages:t.stages.own w1 base 77 21 encStage
 eachG:∀ y∈t.stages.l,StageO w1 base y
 log:t.log.own w1 base 106 4 encEntry
theorem ApartT.symm {x y:SnapR} (h:ApartT x y):ApartT y x:=fun g h1 h2=>h g h2 h1
theorem TenO.asideT {t:TenR} (h:TenO w base t) (hp:t.sets.l.Pairwise ApartU) (hq:∀ x∈t.sets.l,x.snaps.l.Pairwise ApartT) (k:Nat) (hk:k<t.sets.l.length) (i:Nat) (hi:i<(t.sets.l[k]'hk).snaps.l.length) (hg:w.grownBy w1 ((t.sets.l[k]'hk).snaps.l[i]'hi).tags.val.ownBlock):TAside w1 base t k hk i hi:=by
 have hx:=h.eachS _ (List.getElem_mem hk)
 have hz:=hx.each _ (List.getElem_mem hi)
 have a:∀ {T:TypeId} {k n:Nat} {v:Value} {xs:List Value},T≠9→w.ownsRow base T k v n xs→w1.ownsRow base T k v n xs:=fun hT hr=>own_asideT hz.tags.2 hg hT hr
 have aS:∀ y,ApartT y ((t.sets.l[k]'hk).snaps.l[i]'hi)→SnapO w base y→SnapO w1 base y:=fun y hA hy=>⟨⟨hy.body.1,a tZ3 hy.body.2⟩,⟨hy.tags.1,own_asideG hg hA hy.tags.2⟩,⟨hy.own.1,a tZ3 hy.own.2⟩⟩
 refine ⟨⟨h.sets.1,a tZ3 h.sets.2⟩,fun j hj hne=>?_,⟨hx.body.1,a tZ3 hx.body.2⟩,⟨hx.own.1,a tZ3 hx.own.2⟩,⟨hx.snaps.1,a tZ3 hx.snaps.2⟩,fun q hq2 hne=>?_,⟨hz.body.1,a tZ3 hz.body.2⟩,⟨hz.own.1,a tZ3 hz.own.2⟩,⟨h.grants.1,a tZ3 h.grants.2⟩,⟨h.stages.1,a tZ3 h.stages.2⟩,fun y hy=>⟨⟨(h.eachG y hy).own.1,a tZ3 (h.eachG y hy).own.2⟩,⟨(h.eachG y hy).body.1,a tZ3 (h.eachG y hy).body.2⟩⟩,⟨h.log.1,a tZ3 h.log.2⟩⟩
 ·have hy:=h.eachS _ (List.getElem_mem hj)
  refine ⟨⟨hy.body.1,a tZ3 hy.body.2⟩,⟨hy.snaps.1,a tZ3 hy.snaps.2⟩,fun z hz=>aS z ?_ (hy.each z hz),⟨hy.own.1,a tZ3 hy.own.2⟩⟩
  rcases Nat.lt_or_gt_of_ne hne with h1 | h1
  ·exact (List.pairwise_iff_getElem.1 hp j k hj hk h1).2 _ hz _ (List.getElem_mem hi)
  ·exact ((List.pairwise_iff_getElem.1 hp k j hk hj h1).2 _ (List.getElem_mem hi) _ hz).symm
 ·refine aS _ ?_ (hx.each _ (List.getElem_mem hq2))
  have hP:=hq _ (List.getElem_mem hk)
  rcases Nat.lt_or_gt_of_ne hne with h1 | h1
  ·exact List.pairwise_iff_getElem.1 hP q i hq2 hi h1
  ·exact (List.pairwise_iff_getElem.1 hP i q hi hq2 h1).symm
theorem SnapO.keptN {x:SnapR} {g:Nat} {cs:Array Value} (h:SnapO w base x) (hg:w.grownBy w1 (some g)) (hb:Blk w g 58 cs):SnapO w1 base x :=
 ⟨h.body.keptT hg hb tZ3,h.tags.keptT hg hb tZ3,h.own.keptT hg hb tZ3⟩
/-- the row's new value is stored in the snapshot -/
theorem TAside.store {t:TenR} {k i:Nat} {hk:k<t.sets.l.length} {hi:i<(t.sets.l[k]'hk).snaps.l.length} (h:TAside w1 base t k hk i hi) (hp:t.sets.l.Pairwise ApartU) (s':FS BS) (hs:s'.own w1 base 9 1 encS) {gZ:Nat} (hA:(t.sets.l[k]'hk).snaps.A=some ⟨gZ,0,none⟩) :
  TenO (w1.setCell ⟨gZ,i*5+3,none⟩ s'.val) base (t.putS k ((t.sets.l[k]'hk).withSn ⟨(t.sets.l[k]'hk).snaps.A,(t.sets.l[k]'hk).snaps.n,(t.sets.l[k]'hk).snaps.c,(t.sets.l[k]'hk).snaps.l.set i ⟨((t.sets.l[k]'hk).snaps.l[i]'hi).nm,((t.sets.l[k]'hk).snaps.l[i]'hi).gd,((t.sets.l[k]'hk).snaps.l[i]'hi).body,s',((t.sets.l[k]'hk).snaps.l[i]'hi).own⟩⟩))∧w1.grownBy (w1.setCell ⟨gZ,i*5+3,none⟩ s'.val) (some gZ):=by
 obtain ⟨g,cs,hA2,_,hbk⟩:=h.snaps.blk (by have:=h.snaps.1;omega)
 rw [hA] at hA2
 injection hA2 with hA2
 injection hA2 with hA2
 subst hA2
 obtain ⟨h1,h2⟩:=h.snaps.field (fun _=>rfl) hA i 3 tZ3 (⟨((t.sets.l[k]'hk).snaps.l[i]'hi).nm,((t.sets.l[k]'hk).snaps.l[i]'hi).gd,((t.sets.l[k]'hk).snaps.l[i]'hi).body,s',((t.sets.l[k]'hk).snaps.l[i]'hi).own⟩:SnapR) s'.val (fun z hz=>by rw [List.getElem?_eq_getElem hi] at hz;cases hz;rfl)
 have he:cellsK encSet (t.sets.l.set k ((t.sets.l[k]'hk).withSn ⟨(t.sets.l[k]'hk).snaps.A,(t.sets.l[k]'hk).snaps.n,(t.sets.l[k]'hk).snaps.c,(t.sets.l[k]'hk).snaps.l.set i ⟨((t.sets.l[k]'hk).snaps.l[i]'hi).nm,((t.sets.l[k]'hk).snaps.l[i]'hi).gd,((t.sets.l[k]'hk).snaps.l[i]'hi).body,s',((t.sets.l[k]'hk).snaps.l[i]'hi).own⟩⟩))=cellsK encSet t.sets.l:=by
  unfold cellsK
  rw [List.flatMap_def,List.flatMap_def,List.map_set]
  congr 1
  have:encSet ((t.sets.l[k]'hk).withSn ⟨(t.sets.l[k]'hk).snaps.A,(t.sets.l[k]'hk).snaps.n,(t.sets.l[k]'hk).snaps.c,(t.sets.l[k]'hk).snaps.l.set i ⟨((t.sets.l[k]'hk).snaps.l[i]'hi).nm,((t.sets.l[k]'hk).snaps.l[i]'hi).gd,((t.sets.l[k]'hk).snaps.l[i]'hi).body,s',((t.sets.l[k]'hk).snaps.l[i]'hi).own⟩⟩)=(t.sets.l.map encSet)[k]'tZ157:=by
   rw [List.getElem_map]
   rfl
  rw [this,List.set_getElem_self]
 have hse:t.sets.own (w1.setCell ⟨gZ,i*5+3,none⟩ s'.val) base 56 5 encSet:=h.sets.keptT h2 hbk tZ3
 have aS:∀ y,SnapO w1 base y→SnapO (w1.setCell ⟨gZ,i*5+3,none⟩ s'.val) base y:=fun y hy=>hy.keptN h2 hbk
 refine ⟨⟨⟨?_,?_⟩,fun y hy=>?_,h.grants.keptT h2 hbk tZ3,h.stages.keptT h2 hbk tZ3,fun y hy=>⟨(h.eachG y hy).own.keptT h2 hbk tZ3,(h.eachG y hy).body.keptT h2 hbk tZ3⟩,h.log.keptT h2 hbk tZ3⟩,h2⟩
 ·show t.sets.n=(t.sets.l.set k _).length
  rw [List.length_set]
  exact hse.1
 ·show World.ownsRow _ _ _ _ _ _ (cellsK encSet (t.sets.l.set k _))
  rw [he]
  exact hse.2
 ·rcases mem_set_at (show y∈t.sets.l.set k _ from hy) with rfl | ⟨j,hj,hne,rfl⟩
  ·refine ⟨h.body.keptT h2 hbk tZ3,h1,fun z hz=>?_,h.own.keptT h2 hbk tZ3⟩
   rcases mem_set_at (show z∈(t.sets.l[k]'hk).snaps.l.set i _ from hz) with rfl | ⟨q,hq,hne,rfl⟩
   ·exact ⟨h.sbody.keptT h2 hbk tZ3,hs.keptT h2 hbk tZ3,h.sown.keptT h2 hbk tZ3⟩
   ·exact aS _ (h.olds q hq hne)
  ·have ho:=h.others j hj hne
   refine ⟨ho.body.keptT h2 hbk tZ3,⟨ho.snaps.1,ho.snaps.2.kept h2 (.inr fun e=>?_)⟩,fun z hz=>aS z (ho.each z hz),ho.own.keptT h2 hbk tZ3⟩
   have e2:(t.sets.l[k]'hk).snaps.val.ownBlock=some gZ:=by show (Value.slice (t.sets.l[k]'hk).snaps.A _ _).ownBlock=_;rw [hA];rfl
   rcases Nat.lt_or_gt_of_ne hne with h3 | h3
   ·exact (List.pairwise_iff_getElem.1 hp j k hj hk h3).1 gZ e e2
   ·exact (List.pairwise_iff_getElem.1 hp k j hk hj h3).1 gZ e2 e
theorem TenO.retagged {t:TenR} (h:TenO w base t) (hp:t.sets.l.Pairwise ApartU) (hq:∀ x∈t.sets.l,x.snaps.l.Pairwise ApartT) (k:Nat) (hk:k<t.sets.l.length) (x:SetR) (hx:x=t.sets.l[k]'hk) (i:Nat) (hi:i<x.snaps.l.length) (z:SnapR) (hz:z=x.snaps.l[i]'hi) (hg:w.grownBy w1 z.tags.val.ownBlock) (s':FS BS) (hs:s'.own w1 base 9 1 encS) {gZ:Nat} (hA:x.snaps.A=some ⟨gZ,0,none⟩) :
  (TenO (w1.setCell ⟨gZ,i*5+3,none⟩ s'.val) base (t.putS k (x.withSn ⟨x.snaps.A,x.snaps.n,x.snaps.c,x.snaps.l.set i ⟨z.nm,z.gd,z.body,s',z.own⟩⟩))∧w1.grownBy (w1.setCell ⟨gZ,i*5+3,none⟩ s'.val) (some gZ))∧w1.frozen? ⟨gZ,i*5+3,none⟩=false∧∃ v,w1.cell? ⟨gZ,i*5+3,none⟩=some v:=by
 subst hx
 subst hz
 have a:=h.asideT hp hq k hk i hi hg
 have hn:i<(t.sets.l[k]'hk).snaps.n:=by have:=a.snaps.1;omega
 refine ⟨a.store hp s' hs hA,?_,?_⟩
 ·obtain ⟨g,cs,hA2,_,hbk⟩:=a.snaps.blk tZ1
  rw [hA] at hA2
  injection hA2 with hA2
  injection hA2 with hA2
  subst hA2
  exact hbk.frozen _
 ·obtain ⟨az,hza,-,-,-,-,f3,-⟩:=snap_at a.snaps.rd.2.2 a.snaps.1 hn
  rw [hA] at hza
  injection hza with hza
  subst hza
  rw [addr_add0] at f3
  exact ⟨_,f3⟩
end
end Go.Proofs.YtiojfffgiejibaaGreatDoor
namespace Go.Proofs.YtiojfffgiejibaaGreatDoor
open Go.RowKit
/-- a record of a change: kind, index, count, data -/
abbrev RL:=List (Int×Int×Int×List UInt8)
def bumpR (o:RL):RL:=match o.getLast? with
 | some r=>o.dropLast++[(r.1,r.2.1,r.2.2.1+1,r.2.2.2)]
 | none=>o
def putS (s:RL×Int) (x:Int×List UInt8):RL×Int:=(s.1++[(2,x.1,0,x.2)],s.2)
def refStep (a b:BL) (i:Int) (s:RL×Bool):RL×Bool :=
 (if (hasL a i && !hasL b i) && s.2 then bumpR s.1 else if hasL a i && !hasL b i then s.1++[(3,i,1,[])]
  else if hasL b i && (!hasL a i || getL a i != getL b i) then s.1++[(2,i,0,getL b i)] else s.1,hasL a i && !hasL b i)
def runFrom (a b:BL):Nat→Int→RL×Bool→RL×Bool
 | 0,_,s=>s
 | m+1,k,s=>runFrom a b m (k+1) (refStep a b k s)
theorem hasL_cons (x:Int×List UInt8) (l:BL) (j:Int):hasL (x :: l) j=(x.1 == j || hasL l j):=rfl
theorem getL_cons_eq (x:Int×List UInt8) (l:BL):getL (x :: l) x.1=x.2:=by simp [getL]
theorem getL_cons_ne (x:Int×List UInt8) (l:BL) (j:Int) (h:x.1≠j):getL (x :: l) j=getL l j:=by
 unfold getL
 rw [List.find?_cons_of_neg tZ63]
theorem hasL_above (l:BL) (j:Int) (h:∀ x∈l,j<x.1):hasL l j=false:=by
 unfold hasL
 rw [List.any_eq_false]
 intro x hx
 have:=h x hx
 simp
 omega
theorem Asc.tail {x:Int×List UInt8} {l:BL} (h:Asc (x :: l)):Asc l∧∀ y∈l,x.1<y.1:=by
 refine ⟨fun i j a b hij ha hb=>h (i+1) (j+1) a b tZ1 (by simpa using ha) (by simpa using hb),fun y hy=>?_⟩
 obtain ⟨i,hi⟩:=List.mem_iff_getElem?.1 hy
 exact h 0 (i+1) x y tZ1 rfl tZ119
/-- what stands of a content from an index on -/
structure Rest (a la:BL) (k:Int):Prop where
 asc:Asc la
 from_:∀ x∈la,k≤x.1∧x.1<1024
 has:∀ j,k≤j→hasL a j=hasL la j∧getL a j=getL la j
theorem Rest.next {a la:BL} {k:Int} (h:Rest a la k) (hn:∀ x∈la,x.1≠k):Rest a la (k+1)∧hasL a k=false :=
 ⟨⟨h.asc,fun x hx=>⟨by have:=(h.from_ x hx).1;have:=hn x hx;omega,(h.from_ x hx).2⟩,fun j hj=>h.has j tZ1⟩,
  by rw [(h.has k (Int.le_refl _)).1];exact hasL_above la k (fun x hx=>by have:=(h.from_ x hx).1;have:=hn x hx;omega)⟩
theorem Rest.take {a la:BL} {x:Int×List UInt8} {k:Int} (h:Rest a (x :: la) k) (hx:x.1=k):Rest a la (k+1)∧hasL a k=true∧getL a k=x.2:=by
 have ht:=h.asc.tail
 refine ⟨⟨ht.1,fun y hy=>⟨by have:=ht.2 y hy;omega,(h.from_ y (List.mem_cons_of_mem _ hy)).2⟩,fun j hj=>?_⟩,?_,?_⟩
 ·have:=h.has j tZ1
  rw [this.1,this.2,hasL_cons,getL_cons_ne _ _ _ tZ1]
  simp
  intro e
  omega
 ·rw [(h.has k (Int.le_refl _)).1,hasL_cons];simp [hx]
 ·rw [(h.has k (Int.le_refl _)).2]
  subst hx
  exact getL_cons_eq x la
end Go.Proofs.YtiojfffgiejibaaGreatDoor
namespace Go.Proofs.YtiojfffgiejibaaGreatDoor
open Go.RowKit Go.Maps Go.Sort Go.Shelf
/-! ### a map that reads as a list of properties -/
structure MapIs (D:DataW Unit) (F:PL):Prop where
 has:∀ n:BS,Maps.has D (.string n)=(getP F n).isSome
 at_:∀ (n v:BS),getP F n=some v→∀ z,D.atKey (.string n) z=.lit (.string v)
theorem isKey_str (x:BS):WideAt.IsKeyLit (.string x):=tZ18
theorem MapIs.nil:MapIs (.map []) []:=⟨fun _=>rfl,fun _ _ h=>by cases h⟩
theorem MapIs.put {D:DataW Unit} {F:PL} (h:MapIs D F) (hD:IsMap D) (hF:SortP F) (p:BS×BS):MapIs (D.put (.string p.1) (.lit (.string p.2))) (putP p F):=by
 refine ⟨fun n=>?_,fun n v hv z=>?_⟩
 ·rw [getP_putP p F hF]
  by_cases hn:p.1=n
  ·subst hn
   rw [if_pos rfl,has_put_same hD (isKey_str _)]
   rfl
  ·rw [if_neg hn,has_put_other (by intro e;exact hn (by simpa using e.symm)),h.has]
 ·rw [getP_putP p F hF] at hv
  by_cases hn:p.1=n
  ·subst hn
   rw [if_pos rfl] at hv
   injection hv with hv
   subst hv
   exact atKey_put_same hD (isKey_str _) _ z
  ·rw [if_neg hn] at hv
   rw [atKey_put_other (by intro e;exact hn (by simpa using e.symm))]
   exact h.at_ n v hv z
/-! ### slices.Sorted(maps.Keys(m)) -/
/-! ### Over -/
def strOk (l:PL):Prop:=∀ x∈l,x.1.length≤140737488351232∧x.2.length≤140737488351232
structure PropsIn (w:World) (B:Nat) (v:Value) (l:PL):Prop where
 ex:∃ A n c,v=.slice A n c∧n=l.length∧n≤5000000000000∧Reads w B 2 A n (pcells l)
 ok:strOk l
theorem PropsIn.below {w W:World} {B:Nat} {v:Value} {l:PL} (h:PropsIn w B v l) (hb:Below B w W):PropsIn W B v l:=by
 obtain ⟨A,n,c,rfl,hn,hm,hr⟩:=h.ex
 exact ⟨⟨A,n,c,rfl,hn,hm,hr.below hb⟩,h.ok⟩
end Go.Proofs.YtiojfffgiejibaaGreatDoor
namespace Go.Proofs.YtiojfffgiejibaaGreatDoor
open Go.RowKit
/-- a step of the page's loop over the tags: what is made, whether the tag was there, whether it stands -/
def tagStep (g:BS) (s:List BS×Bool×Bool) (x:BS):List BS×Bool×Bool :=
 ((if s.2.2=false∧Op.bytesLess g x=true then s.1++[g] else s.1)++(if x=g then [] else [x]),if x=g then true else s.2.1,if s.2.2=false∧Op.bytesLess g x=true then true else s.2.2)
def tagRun (g:BS) (put:Bool) (l:List BS):List BS×Bool×Bool:=l.foldl (tagStep g) ([],false,!put)
def tagEnd (g:BS) (s:List BS×Bool×Bool):List BS:=if s.2.2=false then s.1++[g] else s.1
theorem tagRun_succ (g:BS) (put:Bool) (l:List BS) (k:Nat) (h:k<l.length):tagRun g put (l.take (k+1))=tagStep g (tagRun g put (l.take k)) (l[k]'h):=by
 unfold tagRun
 rw [List.take_succ_eq_append_getElem h,List.foldl_append]
 rfl
theorem blt_asymm {a b:BS} (h:Op.bytesLess a b=true):Op.bytesLess b a=false:=by
 cases hb:Op.bytesLess b a with
 | false=>rfl
 | true =>
  have:=bl_trans h hb
  exact mZ32
theorem blt_ne {a b:BS} (h:Op.bytesLess a b=true):a≠b:=by
 rintro rfl
 rw [bl_irrefl] at h
 cases h
/-- tags ahead of it stay as they are -/
theorem tagRun_below (g:BS) (b c:Bool) (A:List BS) (h:∀ x∈A,Op.bytesLess x g=true):∀ m:List BS,A.foldl (tagStep g) (m,b,c)=(m++A,b,c):=by
 induction A with
 | nil=>intro m;simp
 | cons x r ih =>
  intro m
  have h1:=h x List.mem_cons_self
  rw [List.foldl_cons]
  have e:tagStep g (m,b,c) x=(m++[x],b,c):=by
   unfold tagStep
   simp [blt_asymm h1,blt_ne h1]
  rw [e,ih (fun y hy=>h y (List.mem_cons_of_mem _ hy))]
  simp
/-- tags that are not it, behind its place, stay -/
theorem tagRun_above (g:BS) (b:Bool) (B:List BS) (h:∀ x∈B,x≠g):∀ m:List BS,B.foldl (tagStep g) (m,b,true)=(m++B,b,true):=by
 induction B with
 | nil=>intro m;simp
 | cons x r ih =>
  intro m
  have h1:=h x List.mem_cons_self
  rw [List.foldl_cons]
  have e:tagStep g (m,b,true) x=(m++[x],b,true):=by
   unfold tagStep
   simp [h1]
  rw [e,ih (fun y hy=>h y (List.mem_cons_of_mem _ hy))]
  simp
theorem above_ne {g:BS} {l A B:List BS} (h:TagsOk l) (e:l=A++B) (h3:∀ b B',B=b :: B'→Op.bytesLess b g=false) (b:BS) (B':List BS) (hB:B=b :: B'):∀ x∈B',x≠g:=by
 intro x hx
 have hasc:=h.asc
 rw [e,hB,List.pairwise_append] at hasc
 have h1:=(List.pairwise_cons.1 hasc.2.1).1 x hx
 rintro rfl
 rw [h3 b B' hB] at h1
 cases h1
/-- whether it is there -/
theorem tagRun_is (g:BS) (l:List BS) (h:TagsOk l) (put:Bool):(tagRun g put l).2.1=isT g l:=by
 have hgen:∀ (l:List BS) (s:List BS×Bool×Bool),(l.foldl (tagStep g) s).2.1=(s.2.1 || l.contains g):=by
  intro l
  induction l with
  | nil=>intro s;simp
  | cons x r ih =>
   intro s
   rw [List.foldl_cons,ih]
   unfold tagStep
   by_cases hx:x=g
   ·subst hx
    simp
   ·have:¬ g=x:=fun e=>hx e.symm
    simp [hx,this]
 unfold tagRun
 rw [hgen]
 obtain ⟨A,B,e,h1,h2,h3,h4⟩:=tags_split g l
 rw [h4]
 simp only [Bool.false_or]
 have hA:¬ g∈A:=fun hg=>by
  have:=h2 g hg
  exact mZ32
 cases hB:B with
 | nil =>
  rw [e,hB]
  simpa using hA
 | cons b B' =>
  have h5:=above_ne h e h3 b B' hB
  have h6:¬ g∈B':=fun hg=>h5 g hg rfl
  rw [e,hB]
  by_cases hb:b=g
  ·subst hb
   simp [(cmpS_zero b b).2 rfl]
  ·have h7:cmpS b g≠0:=fun h=>hb ((cmpS_zero _ _).1 h)
   have h8:¬ g=b:=fun h=>hb h.symm
   simp [h7,hA,h6,h8]
/-- with a tag more -/
theorem tagRun_ins (g:BS) (l:List BS) (hi:isT g l=false) (h:TagsOk l):tagEnd g (tagRun g true l)=insT g l:=by
 obtain ⟨A,B,e,h1,h2,h3,h4⟩:=tags_split g l
 unfold insT tagRun
 rw [h1]
 rw [e,List.take_left' rfl,List.drop_left' rfl,List.foldl_append]
 rw [show ([],false,!true)=(([]:List BS),false,false) from rfl,tagRun_below g false false A h2,List.nil_append]
 cases hB:B with
 | nil=>simp [tagEnd]
 | cons b B' =>
  have h5:=above_ne h e h3 b B' hB
  have h6:b≠g:=by
   rintro rfl
   rw [hB] at h4
   rw [h4] at hi
   simp [(cmpS_zero b b).2 rfl] at hi
  have h7:Op.bytesLess g b=true:=bl_tri _ _ (h3 b B' hB) h6
  rw [List.foldl_cons]
  have e2:tagStep g (A,false,false) b=(A++[g]++[b],false,true):=by
   unfold tagStep
   simp [h7,h6]
  rw [e2,tagRun_above g false B' h5]
  simp [tagEnd]
/-- with a tag less -/
theorem tagRun_del (g:BS) (l:List BS) (hi:isT g l=true) (h:TagsOk l):tagEnd g (tagRun g false l)=delT g l:=by
 obtain ⟨A,B,e,h1,h2,h3,h4⟩:=tags_split g l
 unfold delT tagRun
 rw [h1]
 rw [← List.drop_drop]
 rw [e,List.take_left' rfl,List.drop_left' rfl,List.foldl_append]
 rw [show ([],false,!false)=(([]:List BS),false,true) from rfl,tagRun_below g false true A h2,List.nil_append]
 cases hB:B with
 | nil =>
  rw [hB] at h4
  rw [h4] at hi
  cases hi
 | cons b B' =>
  have h5:=above_ne h e h3 b B' hB
  rw [hB] at h4
  have h6:b=g:=by
   rw [h4] at hi
   simpa [cmpS_zero] using hi
  subst h6
  rw [List.foldl_cons]
  have e2:tagStep b (A,false,true) b=(A,true,true):=by
   unfold tagStep
   simp
  rw [e2,tagRun_above b true B' h5]
  simp [tagEnd]
/-- a tag more (put) or less -/
def TenC.tag (c:TenC) (p n g:BS) (put:Bool):Int×TenC:=if put=true then c.hold p n g else c.release p n g
section
variable {c:TenC} {p n g:BS} {a k' E:Int} {k i:Nat} {s:SetC} {y:SnapC} {put:Bool}
theorem tag_bad (h:c.foundS p n (!nameB g)=(a,k',E)) (hE:E≠0):c.tag p n g put=(E,c):=by
 unfold TenC.tag
 rw [hold_bad h hE,release_bad h hE]
 simp
theorem tag_at (h:c.foundS p n (!nameB g)=((k:Int),(i:Int),0)) (hs:c.sets[k]?=some s) (hy:s.snaps[i]?=some y) (ht:TagsOk y.tags) :
  c.tag p n g put=if put=true∧(tagRun g put y.tags).2.1=true then (6,c) else if put=true∧y.tags.length=4 then (3,c) else if put=false∧(tagRun g put y.tags).2.1=false then (71,c) else (0,c.putS k (s.retag i y (tagEnd g (tagRun g put y.tags)))):=by
 unfold TenC.tag
 rw [hold_at h hs hy,release_at h hs hy,tagRun_is g _ ht]
 cases put with
 | true =>
  simp only [if_true,true_and]
  cases hi:isT g y.tags with
  | true=>simp
  | false =>
   rw [tagRun_ins g _ hi ht]
   simp
 | false =>
  cases hi:isT g y.tags with
  | true =>
   rw [tagRun_del g _ hi ht]
   simp
  | false=>simp
end
end Go.Proofs.YtiojfffgiejibaaGreatDoor
