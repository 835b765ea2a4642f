/-
  The page's SameSnap, SameSet at equal contents: they answer true. The page's Same at tenants of one content: it answers true. Tenants that lie in memory of their own.
-/
import Derived.WalkKit
import Derived.WalkSpells
import Derived.Below
import Derived.Laws.OwnMore
import Derived.Deep.AppendLies
import Derived.Deep.Draws
import Derived.Laws.Rows
import Derived.Maps.AppendAt
import Derived.RegionTactic
import Derived.OwnWalk
import Derived.Deep.QuietTactic
import Derived.BigQuiet
import Derived.Lib.Hide
import Derived.Laws.CopyOwn
import Derived.IntWalk
import Derived.Test.YtcgclpcocdappaaGreatDoorRows
import Derived.Handy
import Derived.Deep.Quiet
import Derived.Orders
import Derived.Sort.Walk0
import Derived.Sort.KeysCollected
import Derived.Laws.BytesString
import Derived.Laws.IdiomStrings
import Derived.Lib.ConvBytes
import Derived.Lib.Strings
import Derived.Lib.SplitLaws
import Derived.Lib.LastIndexByte
import Derived.ShutString
import Derived.Shelf.Strings.Search1
import Derived.Shelf.Strings.Search2
import Derived.Shelf.Strings.Search3
import Derived.Shelf.Strings.Cut
import Derived.Shelf.Strings.Count
import Derived.Shelf.LaysM
import Derived.Shelf.Strings.Shaped
import Derived.Shelf.Strings.LastIndex
import Derived.Shelf.Strings.Split
import Derived.Shelf.Strings.SplitShaped
import Derived.Shelf.Unicode.Decode
import Derived.Shelf.Strings.RuneCount
import Derived.Shelf.Strings.Explode
import Derived.Shelf.Unicode.DecodeSlow
import Derived.Test.YtcgclpcocdappaaGreatDoorProg
import Derived.Deep.MidRow
import Derived.Test.YtcgclpcocdappaaGreatDoorJ0
import Derived.Test.YtcgclpcocdappaaGreatDoorJbkv1
import Derived.Test.YtcgclpcocdappaaGreatDoorJbkv4
import Derived.Test.YtcgclpcocdappaaGreatDoorJbkv5
import Derived.Test.YtcgclpcocdappaaGreatDoorJbkv8
import Derived.Test.YtcgclpcocdappaaGreatDoorJbkv14
namespace Go.Proofs.YtcgclpcocdappaaGreatDoor
open Go.RowKit
theorem rsameT_any (l:List BlkT) (n:Nat) (hn:n=l.length) (A A':Option Addr) (c c':Nat) (w:World) (B:Nat) (hr:Reads w B 2 A n (bcells l)) (hr':Reads w B 2 A' n (bcells l)) (hm:n≤1000000000000) :
  Calls Tryz.prog 13 #[.slice A n c,.slice A' n c'] w fun e w'=>e=.returned (.bool true)∧Below w.heap.size w w':=by
 refine (bksame_any l l n n hn hn A A' c c' w B B hr hr' (by omega)).mono ?_
 rintro e w1 ⟨rfl,q,rfl⟩
 exact ⟨by simp,below_drewN (Below.refl _ _) q⟩
/-- snapshots of one content -/
structure SnapR.eqv (x y:SnapR):Prop where
 nm:x.nm=y.nm
 gd:x.gd=y.gd
 body:x.body.l=y.body.l
 tags:x.tags.l=y.tags.l
 own:x.own.l=y.own.l
/-- sets of one content -/
structure SetR.eqv (x y:SetR):Prop where
 path:x.path=y.path
 org:x.org=y.org
 body:x.body.l=y.body.l
 len:x.snaps.l.length=y.snaps.l.length
 each:∀ i (h:i<x.snaps.l.length) (h':i<y.snaps.l.length),(x.snaps.l[i]'h).eqv (y.snaps.l[i]'h')
 own:x.own.l=y.own.l
end Go.Proofs.YtcgclpcocdappaaGreatDoor
namespace Go.Proofs.YtcgclpcocdappaaGreatDoor
open Go.RowKit
/-- stages of one content -/
structure StageR.eqv (x y:StageR):Prop where
 into:x.into=y.into
 kind:x.kind=y.kind
 nm:x.nm=y.nm
 frm:x.frm=y.frm
 gd:x.gd=y.gd
 own:x.own.l=y.own.l
 ix:x.ix=y.ix
 ct:x.ct=y.ct
 dt:x.dt=y.dt
 sm:x.sm=y.sm
 body:x.body.l=y.body.l
 at_:x.at_=y.at_
 nx:x.nx=y.nx
 sum:x.sum=y.sum
 done:x.done=y.done
/-- tenants of one content -/
structure TenR.eqv (x y:TenR):Prop where
 nm:x.nm=y.nm
 quota:x.quota=y.quota
 next:x.next=y.next
 lenS:x.sets.l.length=y.sets.l.length
 eachS:∀ i (h:i<x.sets.l.length) (h':i<y.sets.l.length),(x.sets.l[i]'h).eqv (y.sets.l[i]'h')
 grants:x.grants.l=y.grants.l
 lenT:x.stages.l.length=y.stages.l.length
 eachT:∀ i (h:i<x.stages.l.length) (h':i<y.stages.l.length),(x.stages.l[i]'h).eqv (y.stages.l[i]'h')
 log:x.log.l=y.log.l
end Go.Proofs.YtcgclpcocdappaaGreatDoor
namespace Go.Proofs.YtcgclpcocdappaaGreatDoor
open Go.RowKit
structure SnapO (w:World) (base:Nat) (x:SnapR):Prop where
 body:x.body.own w base 75 2 encB
 tags:x.tags.own w base 9 1 encS
 own:x.own.own w base 78 2 encP
structure SetO (w:World) (base:Nat) (x:SetR):Prop where
 body:x.body.own w base 75 2 encB
 snaps:x.snaps.own w base 57 5 encSnap
 each:∀ y∈x.snaps.l,SnapO w base y
 own:x.own.own w base 78 2 encP
structure StageO (w:World) (base:Nat) (x:StageR):Prop where
 own:x.own.own w base 78 2 encP
 body:x.body.own w base 75 2 encB
structure TenO (w:World) (base:Nat) (t:TenR):Prop where
 sets:t.sets.own w base 42 5 encSet
 eachS:∀ y∈t.sets.l,SetO w base y
 grants:t.grants.own w base 147 3 encG
 stages:t.stages.own w base 103 21 encStage
 eachG:∀ y∈t.stages.l,StageO w base y
 log:t.log.own w base 106 4 encEntry
section
variable {w w':World} {base base' g:Nat}
theorem SnapO.kept {x:SnapR} (h:SnapO w base x) (hg:w.grownBy w' (some g)) (hb:g<base):SnapO w' base x:=⟨h.body.kept hg hb,h.tags.kept hg hb,h.own.kept hg hb⟩
theorem SnapO.below {x:SnapR} (h:SnapO w base x) (hb:Below w.heap.size w w'):SnapO w' base x:=⟨h.body.below hb,h.tags.below hb,h.own.below hb⟩
theorem SnapO.mono {x:SnapR} (h:SnapO w base x) (hb:base'≤base):SnapO w base' x:=⟨h.body.mono hb,h.tags.mono hb,h.own.mono hb⟩
theorem SnapO.rd {x:SnapR} (h:SnapO w base x):x.rd w w.heap.size:=⟨h.body.rd,h.tags.rd,h.own.rd⟩
theorem SetO.kept {x:SetR} (h:SetO w base x) (hg:w.grownBy w' (some g)) (hb:g<base):SetO w' base x:=⟨h.body.kept hg hb,h.snaps.kept hg hb,fun y hy=>(h.each y hy).kept hg hb,h.own.kept hg hb⟩
theorem SetO.below {x:SetR} (h:SetO w base x) (hb:Below w.heap.size w w'):SetO w' base x:=⟨h.body.below hb,h.snaps.below hb,fun y hy=>(h.each y hy).below hb,h.own.below hb⟩
theorem SetO.mono {x:SetR} (h:SetO w base x) (hb:base'≤base):SetO w base' x:=⟨h.body.mono hb,h.snaps.mono hb,fun y hy=>(h.each y hy).mono hb,h.own.mono hb⟩
theorem SetO.rd {x:SetR} (h:SetO w base x):x.rd w w.heap.size:=⟨h.body.rd,h.snaps.rd,fun y hy=>(h.each y hy).rd,h.own.rd⟩
theorem StageO.kept {x:StageR} (h:StageO w base x) (hg:w.grownBy w' (some g)) (hb:g<base):StageO w' base x:=⟨h.own.kept hg hb,h.body.kept hg hb⟩
theorem StageO.below {x:StageR} (h:StageO w base x) (hb:Below w.heap.size w w'):StageO w' base x:=⟨h.own.below hb,h.body.below hb⟩
theorem StageO.mono {x:StageR} (h:StageO w base x) (hb:base'≤base):StageO w base' x:=⟨h.own.mono hb,h.body.mono hb⟩
theorem StageO.rd {x:StageR} (h:StageO w base x):x.rd w w.heap.size:=⟨h.own.rd,h.body.rd⟩
theorem TenO.kept {x:TenR} (h:TenO w base x) (hg:w.grownBy w' (some g)) (hb:g<base):TenO w' base x:=⟨h.sets.kept hg hb,fun y hy=>(h.eachS y hy).kept hg hb,h.grants.kept hg hb,h.stages.kept hg hb,fun y hy=>(h.eachG y hy).kept hg hb,h.log.kept hg hb⟩
theorem TenO.below {x:TenR} (h:TenO w base x) (hb:Below w.heap.size w w'):TenO w' base x:=⟨h.sets.below hb,fun y hy=>(h.eachS y hy).below hb,h.grants.below hb,h.stages.below hb,fun y hy=>(h.eachG y hy).below hb,h.log.below hb⟩
theorem TenO.mono {x:TenR} (h:TenO w base x) (hb:base'≤base):TenO w base' x:=⟨h.sets.mono hb,fun y hy=>(h.eachS y hy).mono hb,h.grants.mono hb,h.stages.mono hb,fun y hy=>(h.eachG y hy).mono hb,h.log.mono hb⟩
theorem TenO.rd {x:TenR} (h:TenO w base x):x.rd w w.heap.size:=⟨h.sets.rd,fun y hy=>(h.eachS y hy).rd,h.grants.rd,h.stages.rd,fun y hy=>(h.eachG y hy).rd,h.log.rd⟩
end
/-- lists that stand in a relation, place by place -/
def EachR {α:Type} (r:α→α→Prop) (l l':List α):Prop:=l.length=l'.length∧∀ i (h:i<l.length) (h':i<l'.length),r (l[i]'h) (l'[i]'h')
theorem EachR.nil {α:Type} {r:α→α→Prop}:EachR r [] []:=⟨rfl,fun i h=>absurd h (by simp)⟩
theorem EachR.snoc {α:Type} {r:α→α→Prop} {l l':List α} {a b:α} (h:EachR r l l') (hr:r a b):EachR r (l++[a]) (l'++[b]):=by
 refine ⟨by simp [h.1],fun i h1 h2=>?_⟩
 by_cases hi:i<l.length
 ·rw [List.getElem_append_left hi,List.getElem_append_left (by rw [← h.1];exact hi)]
  exact h.2 i hi _
 ·have:i=l.length:=by simp at h1;omega
  subst this
  simp [h.1]
  simpa [h.1] using hr
theorem EachR.refl {α:Type} {r:α→α→Prop} (hr:∀ a,r a a) (l:List α):EachR r l l:=⟨rfl,fun _ _ _=>hr _⟩
theorem EachR.symm {α:Type} {r:α→α→Prop} (hr:∀ a b,r a b→r b a) {l l':List α} (h:EachR r l l'):EachR r l' l:=⟨h.1.symm,fun i a b=>hr _ _ (h.2 i b a)⟩
theorem EachR.trans {α:Type} {r:α→α→Prop} (hr:∀ a b c,r a b→r b c→r a c) {l l' l'':List α} (h:EachR r l l') (h2:EachR r l' l''):EachR r l l'':=⟨h.1.trans h2.1,fun i a b=>hr _ _ _ (h.2 i a (by rw [← h.1];exact a)) (h2.2 i _ b)⟩
theorem SnapR.eqv.refl (x:SnapR):x.eqv x:=⟨rfl,rfl,rfl,rfl,rfl⟩
theorem SnapR.eqv.symm {x y:SnapR} (h:x.eqv y):y.eqv x:=⟨h.nm.symm,h.gd.symm,h.body.symm,h.tags.symm,h.own.symm⟩
theorem SnapR.eqv.trans {x y z:SnapR} (h:x.eqv y) (k:y.eqv z):x.eqv z:=⟨h.nm.trans k.nm,h.gd.trans k.gd,h.body.trans k.body,h.tags.trans k.tags,h.own.trans k.own⟩
theorem SetR.eqv.refl (x:SetR):x.eqv x:=⟨rfl,rfl,rfl,rfl,fun _ _ _=>SnapR.eqv.refl _,rfl⟩
theorem SetR.eqv.symm {x y:SetR} (h:x.eqv y):y.eqv x:=⟨h.path.symm,h.org.symm,h.body.symm,h.len.symm,fun i a b=>(h.each i b a).symm,h.own.symm⟩
theorem SetR.eqv.trans {x y z:SetR} (h:x.eqv y) (k:y.eqv z):x.eqv z:=⟨h.path.trans k.path,h.org.trans k.org,h.body.trans k.body,h.len.trans k.len,fun i a b=>(h.each i a (by rw [← h.len];exact a)).trans (k.each i _ b),h.own.trans k.own⟩
theorem StageR.eqv.refl (x:StageR):x.eqv x:=⟨rfl,rfl,rfl,rfl,rfl,rfl,rfl,rfl,rfl,rfl,rfl,rfl,rfl,rfl,rfl⟩
theorem StageR.eqv.symm {x y:StageR} (h:x.eqv y):y.eqv x:=⟨h.1.symm,h.2.symm,h.3.symm,h.4.symm,h.5.symm,h.6.symm,h.7.symm,h.8.symm,h.9.symm,h.10.symm,h.11.symm,h.12.symm,h.13.symm,h.14.symm,h.15.symm⟩
theorem StageR.eqv.trans {x y z:StageR} (h:x.eqv y) (k:y.eqv z):x.eqv z:=⟨h.1.trans k.1,h.2.trans k.2,h.3.trans k.3,h.4.trans k.4,h.5.trans k.5,h.6.trans k.6,h.7.trans k.7,h.8.trans k.8,h.9.trans k.9,h.10.trans k.10,h.11.trans k.11,h.12.trans k.12,h.13.trans k.13,h.14.trans k.14,h.15.trans k.15⟩
theorem TenR.eqv.refl (x:TenR):x.eqv x:=⟨rfl,rfl,rfl,rfl,fun _ _ _=>SetR.eqv.refl _,rfl,rfl,fun _ _ _=>StageR.eqv.refl _,rfl⟩
theorem TenR.eqv.symm {x y:TenR} (h:x.eqv y):y.eqv x:=⟨h.nm.symm,h.quota.symm,h.next.symm,h.lenS.symm,fun i a b=>(h.eachS i b a).symm,h.grants.symm,h.lenT.symm,fun i a b=>(h.eachT i b a).symm,h.log.symm⟩
theorem TenR.eqv.trans {x y z:TenR} (h:x.eqv y) (k:y.eqv z):x.eqv z:=⟨h.nm.trans k.nm,h.quota.trans k.quota,h.next.trans k.next,h.lenS.trans k.lenS,fun i a b=>(h.eachS i a (by rw [← h.lenS];exact a)).trans (k.eachS i _ b),h.grants.trans k.grants,h.lenT.trans k.lenT,fun i a b=>(h.eachT i a (by rw [← h.lenT];exact a)).trans (k.eachT i _ b),h.log.trans k.log⟩
/-! ### sizes hang on the content alone -/
theorem SnapR.eqv.sz {x y:SnapR} (h:x.eqv y) (hx:x.sz) (hb:y.body.n=x.body.n) (ht:y.tags.n=x.tags.n) (ho:y.own.n=x.own.n):y.sz:=⟨by rw [← h.nm];exact hx.nm,by rw [hb];exact hx.body,by rw [ht];exact hx.tags,by rw [← h.tags];exact hx.each,by rw [ho];exact hx.own,by rw [← h.own];exact hx.props⟩
end Go.Proofs.YtcgclpcocdappaaGreatDoor
