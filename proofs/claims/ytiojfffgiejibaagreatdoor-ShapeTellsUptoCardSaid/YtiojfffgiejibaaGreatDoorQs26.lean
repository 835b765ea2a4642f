/-
  tree.Copy: a copy is of one content with the tenant, in memory of its own. shape.Settle: a changed tenant, if it may be and if it fits. A row of one's own of which one field of one element is stored: the element is another one, the rest stays. A tenant of one's own of which one field of one set is stored.
-/
import Derived.Test.YtiojfffgiejibaaGreatDoorQsM1
import Derived.WalkKit
import Derived.WalkSpells
import Derived.Below
import Derived.Laws.OwnMore
import Derived.Deep.AppendLies
import Derived.Deep.Draws
import Derived.Laws.Rows
import Derived.Maps.AppendAt
import Derived.RegionTactic
import Derived.OwnWalk
import Derived.Deep.QuietTactic
import Derived.BigQuiet
import Derived.Lib.Hide
import Derived.Laws.CopyOwn
import Derived.IntWalk
import Derived.Test.YtiojfffgiejibaaGreatDoorRows
import Derived.Handy
import Derived.Deep.Quiet
import Derived.ProofKit
import Derived.OpenShut
import Derived.ShutString
import Derived.ChangeOld
import Derived.Carry
import Derived.SizedLaws
import Derived.JoinedCond
import Derived.Deep.CondSized
import Derived.Deep.Slices
import Derived.Deep.Fields
import Derived.Lib.SmallJoins
import Derived.Orders
import Derived.Lib.SplitLaws
import Derived.Lib.LastIndexByte
import Derived.Lib.Strings
import Derived.Sort.Walk0
import Derived.Sort.KeysCollected
import Derived.Shelf.Strings.Search1
import Derived.Shelf.Strings.Search2
import Derived.Shelf.Strings.Search3
import Derived.Shelf.Strings.Cut
import Derived.Shelf.Strings.Count
import Derived.Shelf.LaysM
import Derived.Shelf.Strings.Shaped
import Derived.Shelf.Strings.LastIndex
import Derived.Shelf.Strings.Split
import Derived.Shelf.Strings.SplitShaped
import Derived.Shelf.Unicode.Decode
import Derived.Shelf.Strings.RuneCount
import Derived.Shelf.Strings.Explode
import Derived.Shelf.Unicode.DecodeSlow
import Derived.Shelf.Slices.Turned
import Derived.Test.YtiojfffgiejibaaGreatDoorProg
import Derived.Laws.BytesString
import Derived.Laws.IdiomStrings
import Derived.Lib.ConvBytes
import Derived.Deep.DeepCutAuto
import Derived.Deep.MidRow
import Derived.Great.BuildSlice
import Derived.Test.YtiojfffgiejibaaGreatDoorQ0
import Derived.Test.YtiojfffgiejibaaGreatDoorQs1
import Derived.Test.YtiojfffgiejibaaGreatDoorQs5
import Derived.Test.YtiojfffgiejibaaGreatDoorQs7
import Derived.Test.YtiojfffgiejibaaGreatDoorQs10
import Derived.Test.YtiojfffgiejibaaGreatDoorQs11
import Derived.Test.YtiojfffgiejibaaGreatDoorQs15
import Derived.Test.YtiojfffgiejibaaGreatDoorQs16
import Derived.Test.YtiojfffgiejibaaGreatDoorQs17
import Derived.Test.YtiojfffgiejibaaGreatDoorQs18
import Derived.Test.YtiojfffgiejibaaGreatDoorQs19
import Derived.Test.YtiojfffgiejibaaGreatDoorQs20
import Derived.Test.YtiojfffgiejibaaGreatDoorQs21
import Derived.Test.YtiojfffgiejibaaGreatDoorQs22
import Derived.Test.YtiojfffgiejibaaGreatDoorQs23
import Derived.Test.YtiojfffgiejibaaGreatDoorQs27
namespace Go.Proofs.YtiojfffgiejibaaGreatDoor
open Go.RowKit
theorem keptSnap:Kept (fun b w (y:SnapR)=>SnapO w b y):=⟨fun _ _ _ _ h hb=>h.below hb,fun _ _ _ _ _ h hg hl=>h.kept hg hl,fun _ _ _ _ h hb=>h.mono hb⟩
theorem keptStage:Kept (fun b w (y:StageR)=>StageO w b y):=⟨fun _ _ _ _ h hb=>h.below hb,fun _ _ _ _ _ h hg hl=>h.kept hg hl,fun _ _ _ _ h hb=>h.mono hb⟩
theorem cells_one {α:Type} {enc:α→List Value} (h:∀ x,∀ u∈enc x,u.oneCell'=true) (l:List α):∀ u∈cellsK enc l,u.oneCell'=true:=by
 intro u hu
 obtain ⟨x,_,hx⟩:=List.mem_flatMap.1 hu
 exact h x u hx
theorem encB_one (x:BlkT):∀ u∈encB x,u.oneCell'=true:=by intro u hu;simp [encB,strV] at hu;rcases hu with rfl | rfl <;> rfl
theorem encP_one (x:BS×BS):∀ u∈encP x,u.oneCell'=true:=by intro u hu;simp [encP,strV] at hu;rcases hu with rfl | rfl <;> rfl
theorem encS_one (x:BS):∀ u∈encS x,u.oneCell'=true:=by intro u hu;simp [encS,strV] at hu;subst hu;rfl
theorem encG_one (x:GT):∀ u∈encG x,u.oneCell'=true:=by intro u hu;simp [encG,strV] at hu;rcases hu with rfl | rfl | rfl <;> rfl
theorem encE_one (x:EntryR):∀ u∈encEntry x,u.oneCell'=true:=by intro u hu;simp [encEntry,strV] at hu;rcases hu with rfl | rfl | rfl | rfl <;> rfl
/-- an owned row is one of a lower base, whatever is done to a box below it -/
theorem own_kept {W W':World} {r:Nat} {base:Nat} {e:TypeId} {k n:Nat} {v:Value} {xs:List Value} (h:W.ownsRow base e k v n xs) (hg:W.grownBy W' (some r)) (hr:r<base):W'.ownsRow base e k v n xs :=
 h.kept hg (.inr fun hh=>by have:=(h.lt _ hh).1;omega)
/-- the rows of tags of two snapshots are not one -/
def ApartT (y z:SnapR):Prop:=∀ g,y.tags.val.ownBlock=some g→z.tags.val.ownBlock≠some g
theorem apartT_of (b b':Nat) (w w':World) (y z:SnapR) (hy:SnapO w b y) (hz:SnapO w' b' z) (h:w.heap.size≤b'):ApartT y z:=fun g h1 h2=>by
 have:=hy.tags.2.lt _ h1
 have:=hz.tags.2.lt _ h2
 omega
/-- a set of one's own of which no two snapshots have one row of tags -/
def SetOT (w:World) (b:Nat) (y:SetR):Prop:=SetO w b y∧y.snaps.l.Pairwise ApartT
theorem keptSetT:Kept (fun b w (y:SetR)=>SetOT w b y):=⟨fun _ _ _ _ h hb=>⟨h.1.below hb,h.2⟩,fun _ _ _ _ _ h hg hl=>⟨h.1.kept hg hl,h.2⟩,fun _ _ _ _ h hb=>⟨h.1.mono hb,h.2⟩⟩
theorem copySnapR_any (x:SnapR) (W:World) (B:Nat) (hB:B≤W.heap.size) (hr:x.rd W B) (hz:x.sz) :
  Calls Tryz.prog 143 #[.agg (encSnap x).toArray] W fun e w'=>∃ y,e=.returned (.agg (encSnap y).toArray)∧SnapO w' W.heap.size y∧x.eqv y∧Below W.heap.size W w':=by
 obtain ⟨nm,gd,⟨b1,bn,b3,bl⟩,⟨t1,tn,t3,tl⟩,⟨o1,on,o3,ol⟩⟩:=x
 refine (copySnap_any nm gd b1 bn b3 t1 tn t3 o1 on o3 _ _ _ W B hB hr.body.2.2 hr.tags.2.2 hr.own.2.2 (cells_one encB_one _) (cells_one encS_one _) (cells_one encP_one _) hz.body hz.tags hz.own).mono ?_
 rintro e w' ⟨Ab,cb,At,ct,Ao,co,rfl,h1,h2,h3,h4⟩
 exact ⟨⟨nm,gd,⟨Ab,bn,cb,bl⟩,⟨At,tn,ct,tl⟩,⟨Ao,on,co,ol⟩⟩,rfl,⟨⟨hr.body.1,h1⟩,⟨hr.tags.1,h2⟩,⟨hr.own.1,h3⟩⟩,⟨rfl,rfl,rfl,rfl,rfl⟩,h4⟩
theorem copySetR_any (x:SetR) (w:World) (B:Nat) (hB:B≤w.heap.size) (hr:x.rd w B) (hz:x.sz) :
  Calls Tryz.prog 99 #[.agg (encSet x).toArray] w fun e w'=>∃ y,e=.returned (.agg (encSet y).toArray)∧SetOT w' w.heap.size y∧x.eqv y∧Below w.heap.size w w':=by
 obtain ⟨pa,og,⟨b1,bn,b3,bl⟩,⟨s1,sn,s3,sl⟩,⟨o1,on,o3,ol⟩⟩:=x
 have hb:=hr.body
 have hs:=hr.snaps
 have ho:=hr.own
 have hb1:bn=bl.length:=hb.1
 have hs1:sn=sl.length:=hs.1
 have ho1:on=ol.length:=ho.1
 refine (copySet_abs pa og b1 bn b3 s1 sn s3 o1 on o3 w
  (fun W v=>W.ownsRow (w.heap.size+2) 97 2 v bn (cellsK encB bl)) (fun W W' v r h hg hl=>own_kept h hg hl) (fun W hW hsz=>?_)
  (fun W v=>W.ownsRow (w.heap.size+2) 100 2 v on (cellsK encP ol)) (fun W W' v r h hg hl=>own_kept h hg hl) (fun W hW hsz=>?_)
  (fun W v=>∃ s:FS SnapR,v=s.val∧s.own W (w.heap.size+2) 58 5 encSnap∧(∀ y∈s.l,SnapO W (w.heap.size+2) y)∧EachR SnapR.eqv sl s.l∧s.l.Pairwise ApartT) (fun W W' v r h hg hl=>?_) (fun W hW hsz=>?_)).mono ?_
 ·exact mZ141
 ·exact mZ140
 ·exact mZ139
 ·refine (eachSnap_any _ keptSnap SnapR.eqv ApartT apartT_of sl sn hs1 s1 s3 W B tZ41 (hs.2.2.below (hW.mono hB)) (by have:=hz.snaps;simp only at this;omega) (fun x hx W2 hW2=>?_)).mono ?_
  ·have hx2:x.rd W2 B:=by
    have:=hr.each x hx
    have hb2:Below B w W2:=(hW.mono hB).trans (hW2.mono tZ41)
    exact ⟨this.body.below hb2,this.tags.below hb2,this.own.below hb2⟩
   exact copySnapR_any x W2 B tZ76 hx2 (hz.each x hx)
  ·rintro e w' ⟨s,rfl,h1,h2,h3,h5,h4⟩
   exact ⟨s.A,s.n,s.c,rfl,⟨s,rfl,h1.mono hsz,fun y hy=>(h2 y hy).mono hsz,h3,h5⟩,h4⟩
 ·rintro e w' ⟨Ab,nb,cb,Ao,no,co,Az,nz,cz,rfl,h1,h2,⟨s,h3,h4,h5,h6,hpw⟩,h7⟩
  obtain ⟨_,_,e1,_⟩:=own_form h1
  injection e1 with _ e1 _
  obtain ⟨_,_,e2,_⟩:=own_form h2
  injection e2 with _ e2 _
  subst e1 e2
  obtain ⟨A',n',c',l'⟩:=s
  injection h3 with e3 e4 e5
  subst e3 e4 e5
  exact ⟨⟨pa,og,⟨Ab,nb,cb,bl⟩,⟨Az,nz,cz,l'⟩,⟨Ao,no,co,ol⟩⟩,rfl,⟨⟨⟨hb1,own_mono h1 tZ1⟩,h4.mono tZ1,fun y hy=>(h5 y hy).mono tZ1,⟨ho1,own_mono h2 tZ1⟩⟩,hpw⟩,⟨rfl,rfl,rfl,h6.1,h6.2,rfl⟩,h7⟩
theorem copyStageR_any (x:StageR) (w:World) (B:Nat) (hB:B≤w.heap.size) (hr:x.rd w B) (hz:x.sz) :
  Calls Tryz.prog 102 #[.agg (encStage x).toArray] w fun e w'=>∃ y,e=.returned (.agg (encStage y).toArray)∧StageO w' w.heap.size y∧x.eqv y∧Below w.heap.size w w':=by
 obtain ⟨into,kind,nm,frm,gd,⟨o1,on,o3,ol⟩,ix,ct,dt,⟨sa,sb,sc,sd⟩,⟨b1,bn,b3,bl⟩,at_,nx,⟨ua,ub,uc,ud⟩,done⟩:=x
 have hb:=hr.body
 have ho:=hr.own
 have hb1:bn=bl.length:=hb.1
 have ho1:on=ol.length:=ho.1
 refine (copyStage_abs into kind nm frm gd o1 on o3 ix ct dt sa sb sc sd b1 bn b3 at_ nx ua ub uc ud done w
  (fun W v=>W.ownsRow (w.heap.size+2) 97 2 v bn (cellsK encB bl)) (fun W W' v r h hg hl=>own_kept h hg hl) (fun W hW hsz=>?_)
  (fun W v=>W.ownsRow (w.heap.size+2) 100 2 v on (cellsK encP ol)) (fun W W' v r h hg hl=>own_kept h hg hl) (fun W hW hsz=>?_)).mono ?_
 ·exact mZ141
 ·exact mZ140
 ·rintro e w' ⟨Ab,nb,cb,Ao,no,co,rfl,h1,h2,h7⟩
  obtain ⟨_,_,e1,_⟩:=own_form h1
  injection e1 with _ e1 _
  obtain ⟨_,_,e2,_⟩:=own_form h2
  injection e2 with _ e2 _
  subst e1 e2
  exact ⟨⟨into,kind,nm,frm,gd,⟨Ao,no,co,ol⟩,ix,ct,dt,⟨sa,sb,sc,sd⟩,⟨Ab,nb,cb,bl⟩,at_,nx,⟨ua,ub,uc,ud⟩,done⟩,rfl,⟨⟨ho1,own_mono h2 tZ1⟩,⟨hb1,own_mono h1 tZ1⟩⟩,⟨rfl,rfl,rfl,rfl,rfl,rfl,rfl,rfl,rfl,rfl,rfl,rfl,rfl,rfl,rfl⟩,h7⟩
/-- the rows of snapshots of two sets are not one -/
def ApartS (y z:SetR):Prop:=∀ g,y.snaps.val.ownBlock=some g→z.snaps.val.ownBlock≠some g
theorem apart_of (b b':Nat) (w w':World) (y z:SetR) (hy:SetO w b y) (hz:SetO w' b' z) (h:w.heap.size≤b'):ApartS y z:=fun g h1 h2=>by
 have:=hy.snaps.2.lt _ h1
 have:=hz.snaps.2.lt _ h2
 omega
/-- two sets have not the same row of snapshots, nor two of their snapshots the same row of tags -/
def ApartU (y z:SetR):Prop:=ApartS y z∧∀ a∈y.snaps.l,∀ b∈z.snaps.l,ApartT a b
theorem apartU_of (b b':Nat) (w w':World) (y z:SetR) (hy:SetOT w b y) (hz:SetOT w' b' z) (h:w.heap.size≤b'):ApartU y z :=
 ⟨apart_of b b' w w' y z hy.1 hz.1 h,fun u hu v hv=>apartT_of b b' w w' u v (hy.1.each u hu) (hz.1.each v hv) h⟩
theorem tcopy3_any (t:TenR) (w:World) (B:Nat) (hB:B≤w.heap.size) (hr:t.rd w B) (hz:t.sz) :
  Calls Tryz.prog 54 #[t.val] w fun e w'=>∃ y:TenR,e=.returned y.val∧TenO w' w.heap.size y∧t.eqv y∧(y.sets.l.Pairwise ApartU∧∀ x∈y.sets.l,x.snaps.l.Pairwise ApartT)∧Below w.heap.size w w':=by
 obtain ⟨nm,qu,nx,⟨s1,sn,s3,sl⟩,⟨g1,gn,g3,gl⟩,⟨t1,tn,t3,tl⟩,⟨l1,ln,l3,ll⟩⟩:=t
 have hs:=hr.sets
 have hg:=hr.grants
 have ht:=hr.stages
 have hl:=hr.log
 have hs1:sn=sl.length:=hs.1
 have hg1:gn=gl.length:=hg.1
 have ht1:tn=tl.length:=ht.1
 have hl1:ln=ll.length:=hl.1
 refine (copyTen_abs nm qu nx s1 sn s3 g1 gn g3 t1 tn t3 l1 ln l3 w
  (fun W v=>∃ s:FS SetR,v=s.val∧s.own W (w.heap.size+2) 56 5 encSet∧(∀ y∈s.l,SetOT W (w.heap.size+2) y)∧EachR SetR.eqv sl s.l∧s.l.Pairwise ApartU) (fun W W' v r h hg hl=>?_) (fun W hW hsz=>?_)
  (fun W v=>W.ownsRow (w.heap.size+2) 104 3 v gn (cellsK encG gl)) (fun W W' v r h hg hl=>own_kept h hg hl) (fun W hW hsz=>?_)
  (fun W v=>∃ s:FS StageR,v=s.val∧s.own W (w.heap.size+2) 77 21 encStage∧(∀ y∈s.l,StageO W (w.heap.size+2) y)∧EachR StageR.eqv tl s.l) (fun W W' v r h hg hl=>?_) (fun W hW hsz=>?_)
  (fun W v=>W.ownsRow (w.heap.size+2) 106 4 v ln (cellsK encEntry ll)) (fun W W' v r h hg hl=>own_kept h hg hl) (fun W hW hsz=>?_)).mono ?_
 ·obtain ⟨s,h1,h2,h3,h4⟩:=h
  exact ⟨s,h1,h2.kept hg hl,fun y hy=>keptSetT.kept _ _ _ _ _ (h3 y hy) hg hl,h4⟩
 ·refine (eachSet_any _ keptSetT SetR.eqv ApartU apartU_of sl sn hs1 s1 s3 W B tZ41 (hs.2.2.below (hW.mono hB)) tZ17 (fun x hx W2 hW2=>?_)).mono ?_
  ·have hb2:Below B w W2:=(hW.mono hB).trans (hW2.mono tZ41)
   have:=hr.eachS x hx
   exact copySetR_any x W2 B tZ76 ⟨this.body.below hb2,this.snaps.below hb2,fun y hy=>⟨(this.each y hy).body.below hb2,(this.each y hy).tags.below hb2,(this.each y hy).own.below hb2⟩,this.own.below hb2⟩ (hz.eachS x hx)
  ·rintro e w' ⟨s,rfl,h1,h2,h3,h5,h4⟩
   exact ⟨s.A,s.n,s.c,rfl,⟨s,rfl,h1.mono hsz,fun y hy=>keptSetT.mono _ _ _ _ (h2 y hy) hsz,h3,h5⟩,h4⟩
 ·refine (cloneG_any _ gn g1 g3 W B (hg.2.2.below (hW.mono hB)) tZ41 (cells_one encG_one _) tZ64).mono ?_
  rintro e w' ⟨v,rfl,h1,h2⟩
  obtain ⟨A,c,rfl,_⟩:=own_form h1
  exact ⟨A,gn,c,rfl,own_mono h1 hsz,h2⟩
 ·exact mZ139
 ·refine (eachStage_any _ keptStage StageR.eqv tl tn ht1 t1 t3 W B tZ41 (ht.2.2.below (hW.mono hB)) tZ104 (fun x hx W2 hW2=>?_)).mono ?_
  ·have hb2:Below B w W2:=(hW.mono hB).trans (hW2.mono tZ41)
   have:=hr.eachG x hx
   exact copyStageR_any x W2 B tZ76 ⟨this.own.below hb2,this.body.below hb2⟩ (hz.eachT x hx)
  ·rintro e w' ⟨s,rfl,h1,h2,h3,h4⟩
   exact ⟨s.A,s.n,s.c,rfl,⟨s,rfl,h1.mono hsz,fun y hy=>(h2 y hy).mono hsz,h3⟩,h4⟩
 ·refine (cloneEn_any _ ln l1 l3 W B (hl.2.2.below (hW.mono hB)) tZ41 (cells_one encE_one _) (by have:=hz.log;simp only at this;omega)).mono ?_
  rintro e w' ⟨v,rfl,h1,h2⟩
  obtain ⟨A,c,rfl,_⟩:=own_form h1
  exact ⟨A,ln,c,rfl,own_mono h1 hsz,h2⟩
 ·rintro e w' ⟨Az,nz,cz,Ag,ng,cg,At,nt,ct,Al,nl,cl,rfl,⟨s,h3,h4,h5,h6,hpw⟩,h1,⟨q,k3,k4,k5,k6⟩,h2,h7⟩
  obtain ⟨_,_,e1,_⟩:=own_form h1
  injection e1 with _ e1 _
  obtain ⟨_,_,e2,_⟩:=own_form h2
  injection e2 with _ e2 _
  subst e1 e2
  obtain ⟨A',n',c',l'⟩:=s
  injection h3 with e3 e4 e5
  subst e3 e4 e5
  obtain ⟨A',n',c',q'⟩:=q
  injection k3 with e3 e4 e5
  subst e3 e4 e5
  exact ⟨⟨nm,qu,nx,⟨Az,nz,cz,l'⟩,⟨Ag,ng,cg,gl⟩,⟨At,nt,ct,q'⟩,⟨Al,nl,cl,ll⟩⟩,rfl,⟨h4.mono tZ1,fun y hy=>(h5 y hy).1.mono tZ1,⟨hg1,own_mono h1 tZ1⟩,k4.mono tZ1,fun y hy=>(k5 y hy).mono tZ1,⟨hl1,own_mono h2 tZ1⟩⟩,⟨rfl,rfl,rfl,h6.1,h6.2,rfl,k6.1,k6.2,rfl⟩,⟨hpw,fun y hy=>(h5 y hy).2⟩,h7⟩
theorem tcopy2_any (t:TenR) (w:World) (B:Nat) (hB:B≤w.heap.size) (hr:t.rd w B) (hz:t.sz) :
  Calls Tryz.prog 54 #[t.val] w fun e w'=>∃ y:TenR,e=.returned y.val∧TenO w' w.heap.size y∧t.eqv y∧y.sets.l.Pairwise ApartS∧Below w.heap.size w w' :=
 (tcopy3_any t w B hB hr hz).mono (by rintro e w' ⟨y,h1,h2,h3,h5,h4⟩;exact ⟨y,h1,h2,h3,h5.1.imp (fun h=>h.1),h4⟩)
theorem tcopy_any (t:TenR) (w:World) (B:Nat) (hB:B≤w.heap.size) (hr:t.rd w B) (hz:t.sz) :
  Calls Tryz.prog 54 #[t.val] w fun e w'=>∃ y:TenR,e=.returned y.val∧TenO w' w.heap.size y∧t.eqv y∧Below w.heap.size w w' :=
 (tcopy2_any t w B hB hr hz).mono (by rintro e w' ⟨y,h1,h2,h3,-,h4⟩;exact ⟨y,h1,h2,h3,h4⟩)
end Go.Proofs.YtiojfffgiejibaaGreatDoor
namespace Go.Proofs.YtiojfffgiejibaaGreatDoor
open Go.RowKit
theorem results_cell_tmp {P:Program} {fn:Func} {tmps:Array Value} {a b:Tmp} {t:TypeId} {ad:Addr} {v u:Value} {w:World} (hr:fn.results=#[.cell a t,.tmp b]) (ha:tmps[a]?.getD undef=.pointer (some ad)) (hl:(loadVar t ad).run P w=.ok v w) (hu:tmps[b]?.getD undef=u:=by rfl):(results fn tmps).run P w=.ok (.tuple #[v,u]) w:=by
 simp [results,hr,ha,hl,hu,asAddr]
theorem grown_cellsS (g:Nat) (cs:List Value):∀ (W:World) (o:Nat),W.grownBy (W.setCells g o cs) (some g):=by
 exact mZ142
theorem sum_le_len {α:Type} (f:α→Int) (c:Int) (l:List α) (h:∀ x∈l,f x≤c):(l.map f).sum≤l.length*c:=by
 induction l with
 | nil=>simp
 | cons x r ih =>
  have h1:=h x List.mem_cons_self
  have h2:=ih (fun y hy=>h y (List.mem_cons_of_mem _ hy))
  simp only [List.map_cons,List.sum_cons,List.length_cons,Int.natCast_add,Int.add_mul,Int.natCast_one,Int.one_mul]
  omega
theorem setSum_small (x:SetR) (hz:x.sz) (h:x.snaps.l.length≤16):setSum x≤20000000000000:=by
 unfold setSum sumB
 rw [List.take_length]
 have h1:=hz.body
 have h2:=sum_le_len (fun y:SnapR=>(y.body.n:Int)+1) 1000000000001 x.snaps.l (fun y hy=>by have:=(hz.each y hy).body;omega)
 omega
/-- what may be is not much -/
theorem tenSum_small (t:TenR) (hz:t.sz) (h:tenE t=0):tenSum t≤4000000000000000000:=by
 unfold tenE at h
 split at h
 ·rename_i hb
  unfold tenB at hb
  simp only [Bool.and_eq_true] at hb
  have hS:=hb.1.1.1.2
  have hG:=hb.1.2
  unfold setsB at hS
  unfold stagesB at hG
  simp only [Bool.and_eq_true,decide_eq_true_eq] at hS hG
  have hx:=((setsFrom_iff _ _ _).1 hS.2).1
  have h1:=sum_le_len setSum 20000000000000 t.sets.l (fun x hm=>by
   have h3:=hx x hm
   unfold setB at h3
   simp only [Bool.and_eq_true] at h3
   have h4:=h3.1.2
   unfold snapsB at h4
   simp only [Bool.and_eq_true,decide_eq_true_eq] at h4
   exact setSum_small x (hz.eachS x hm) h4.1.1)
  have h2:=sum_le_len (fun x:StageR=>(x.body.n:Int)+1) 1000000000001 t.stages.l (fun y hy=>by have:=(hz.eachT y hy).body;omega)
  unfold tenSum sumS sumG
  rw [List.take_length,List.take_length]
  have h5:=hS.1.1
  have h6:=hG.1
  omega
 ·cases h
def ZEROT:Value:=.agg #[.string ⟨#[]⟩,.int .i64 0,.int .i64 0,.slice none 0 0,.slice none 0 0,.slice none 0 0,.slice none 0 0]
def SettlePost (t:TenR) (w:World) (e:Ending) (w':World):Prop:=∃ v E,e=.returned (.tuple #[v,.int .i64 E])∧Below w.heap.size w w' ∧
 ((tenE t=9∧E=9∧v=ZEROT)∨(tenE t=0∧t.quota<tenSum t∧E=42∧v=ZEROT)∨(tenE t=0∧tenSum t≤t.quota∧E=0∧∃ y:TenR,v=y.val∧TenO w' w.heap.size y∧t.eqv y))
theorem tenE_09 (t:TenR):tenE t=0∨tenE t=9:=by unfold tenE;split <;> simp
set_option maxRecDepth 100000 in
set_option maxHeartbeats 4000000 in
theorem settle_any (t:TenR) (w:World) (B:Nat) (hB:B≤w.heap.size) (hr:t.rd w B) (hz:t.sz) (hmx:HasMax w) :
  Calls Tryz.prog 11 #[t.val] w (SettlePost t w):=by
 have h2:=tenE_09 t
 have hsm:=tenSum_small t hz
 obtain ⟨nm,qu,nx,⟨s1,sn,s3,sl⟩,⟨g1,gn,g3,gl⟩,⟨t1,tn,t3,tl⟩,⟨l1,ln,l3,ll⟩⟩:=t
 show Calls Tryz.prog 11 #[.agg #[.string ⟨nm.toArray⟩,.int .i64 qu,.int .i64 nx,.slice s1 sn s3,.slice g1 gn g3,.slice t1 tn t3,.slice l1 ln l3]] w _
 have hb2:=((Below.refl w.heap.size w).alloc (Nat.le_refl _) (.cells #[.string ⟨nm.toArray⟩,.int .i64 qu,.int .i64 nx,.slice s1 sn s3,.slice g1 gn g3,.slice t1 tn t3,.slice l1 ln l3] 27)).alloc tZ3 (.cells #[.string ⟨#[]⟩,.int .i64 0,.int .i64 0,.slice none 0 0,.slice none 0 0,.slice none 0 0,.slice none 0 0] 27)
 have kT:=(Blk.new w 27 #[.string ⟨nm.toArray⟩,.int .i64 qu,.int .i64 nx,.slice s1 sn s3,.slice g1 gn g3,.slice t1 tn t3,.slice l1 ln l3]).alloc (.cells #[.string ⟨#[]⟩,.int .i64 0,.int .i64 0,.slice none 0 0,.slice none 0 0,.slice none 0 0,.slice none 0 0] 27)
 have kZ:=Blk.new (w.alloc (.cells #[.string ⟨nm.toArray⟩,.int .i64 qu,.int .i64 nx,.slice s1 sn s3,.slice g1 gn g3,.slice t1 tn t3,.slice l1 ln l3] 27)) 27 #[.string ⟨#[]⟩,.int .i64 0,.int .i64 0,.slice none 0 0,.slice none 0 0,.slice none 0 0,.slice none 0 0]
 rw [show (w.alloc (.cells #[.string ⟨nm.toArray⟩,.int .i64 qu,.int .i64 nx,.slice s1 sn s3,.slice g1 gn g3,.slice t1 tn t3,.slice l1 ln l3] 27)).heap.size=w.heap.size+1 by simp] at kZ
 obtain ⟨W2,hW2⟩:∃ W,W=(w.alloc (.cells #[.string ⟨nm.toArray⟩,.int .i64 qu,.int .i64 nx,.slice s1 sn s3,.slice g1 gn g3,.slice t1 tn t3,.slice l1 ln l3] 27)).alloc (.cells #[.string ⟨#[]⟩,.int .i64 0,.int .i64 0,.slice none 0 0,.slice none 0 0,.slice none 0 0,.slice none 0 0] 27):=⟨_,rfl⟩
 have hsz:W2.heap.size=w.heap.size+2:=tZ40
 rw [← hW2] at hb2 kT kZ
 have hrw:Hid (∀ W,Below W2.heap.size W2 W→TenR.rd W B ⟨nm,qu,nx,⟨s1,sn,s3,sl⟩,⟨g1,gn,g3,gl⟩,⟨t1,tn,t3,tl⟩,⟨l1,ln,l3,ll⟩⟩∧w.heap.size+2≤W.heap.size∧HasMax W∧Below w.heap.size w W):=by
  show ∀ W,_→_
  intro W h
  have h1:=hb2.trans (h.mono tZ1)
  exact ⟨TenR.rd.below hr (h1.mono hB),by have:=h.size;omega,hmx.below h1,h1⟩
 have hTC:Hid (∀ W,Below W2.heap.size W2 W→Calls Tryz.prog 58 #[.agg #[.string ⟨nm.toArray⟩,.int .i64 qu,.int .i64 nx,.slice s1 sn s3,.slice g1 gn g3,.slice t1 tn t3,.slice l1 ln l3]] W fun e w'=>e=.returned (.int .i64 (tenE ⟨nm,qu,nx,⟨s1,sn,s3,sl⟩,⟨g1,gn,g3,gl⟩,⟨t1,tn,t3,tl⟩,⟨l1,ln,l3,ll⟩⟩))∧Below W.heap.size W w'):=fun W hb =>
  tcheck_any ⟨nm,qu,nx,⟨s1,sn,s3,sl⟩,⟨g1,gn,g3,gl⟩,⟨t1,tn,t3,tl⟩,⟨l1,ln,l3,ll⟩⟩ W B (hrw.out W hb).1 tZ85 hz (hrw.out W hb).2.2.1
 have hFT:Hid (tenE ⟨nm,qu,nx,⟨s1,sn,s3,sl⟩,⟨g1,gn,g3,gl⟩,⟨t1,tn,t3,tl⟩,⟨l1,ln,l3,ll⟩⟩=0→∀ W,Below W2.heap.size W2 W→Calls Tryz.prog 59 #[.agg #[.string ⟨nm.toArray⟩,.int .i64 qu,.int .i64 nx,.slice s1 sn s3,.slice g1 gn g3,.slice t1 tn t3,.slice l1 ln l3]] W fun e w'=>e=.returned (.bool (decide (tenSum ⟨nm,qu,nx,⟨s1,sn,s3,sl⟩,⟨g1,gn,g3,gl⟩,⟨t1,tn,t3,tl⟩,⟨l1,ln,l3,ll⟩⟩≤qu)))∧Below W.heap.size W w'):=fun h0 W hb =>
  fits_any ⟨nm,qu,nx,⟨s1,sn,s3,sl⟩,⟨g1,gn,g3,gl⟩,⟨t1,tn,t3,tl⟩,⟨l1,ln,l3,ll⟩⟩ W B tZ85 (hrw.out W hb).1 hz (hsm h0)
 have hCP:Hid (∀ W,Below W2.heap.size W2 W→Calls Tryz.prog 54 #[.agg #[.string ⟨nm.toArray⟩,.int .i64 qu,.int .i64 nx,.slice s1 sn s3,.slice g1 gn g3,.slice t1 tn t3,.slice l1 ln l3]] W fun e w'=>∃ y:TenR,e=.returned y.val∧TenO w' W.heap.size y∧TenR.eqv ⟨nm,qu,nx,⟨s1,sn,s3,sl⟩,⟨g1,gn,g3,gl⟩,⟨t1,tn,t3,tl⟩,⟨l1,ln,l3,ll⟩⟩ y∧Below W.heap.size W w'):=fun W hb =>
  tcopy_any ⟨nm,qu,nx,⟨s1,sn,s3,sl⟩,⟨g1,gn,g3,gl⟩,⟨t1,tn,t3,tl⟩,⟨l1,ln,l3,ll⟩⟩ W B tZ85 (hrw.out W hb).1 hz
 obtain ⟨E,hE⟩:∃ E,E=tenE ⟨nm,qu,nx,⟨s1,sn,s3,sl⟩,⟨g1,gn,g3,gl⟩,⟨t1,tn,t3,tl⟩,⟨l1,ln,l3,ll⟩⟩:=⟨_,rfl⟩
 obtain ⟨U,hU⟩:∃ U,U=tenSum ⟨nm,qu,nx,⟨s1,sn,s3,sl⟩,⟨g1,gn,g3,gl⟩,⟨t1,tn,t3,tl⟩,⟨l1,ln,l3,ll⟩⟩:=⟨_,rfl⟩
 rw [← hE] at h2 hTC hFT
 rw [← hU] at hFT
 have HE:=Lib.hid hE
 have HU:=Lib.hid hU
 have HSZ:=Lib.hid hsz
 have KT2:=Lib.hid kT
 have KZ2:=Lib.hid kZ
 have hc:=hTC.out W2 (Below.refl _ _)
 obtain ⟨c0,c1,c2,c3,c4,c5,c6⟩:=(⟨kT.cell 0,kT.cell 1,kT.cell 2,kT.cell 3,kT.cell 4,kT.cell 5,kT.cell 6⟩:_∧_∧_∧_∧_∧_∧_)
 simp only [zF,zD,zE] at c0 c1 c2 c3 c4 c5 c6
 clear hb2 kT kZ hr hz hsm hE hU hsz hmx hTC
 go_enter Tryz.func11,Tryz.ntmps11
 go_wp2_with fail
 rw [← hW2]
 clear hW2
 refine hc.mono ?_
 clear hc c0 c1 c2 c3 c4 c5 c6
 rintro e w3 ⟨rfl,hb3⟩
 have HW3:=Lib.hid hb3
 have HB3:=Lib.hid (hrw.out w3 hb3).2.2.2
 have KZ:=Lib.hid (KZ2.out.below hb3 KZ2.out.lt)
 have KT:=Lib.hid (KT2.out.below hb3 KT2.out.lt)
 clear hb3 KZ2 KT2
 rcases h2 with rfl | rfl
 ·have hc:=hFT.out rfl w3 HW3.out
  obtain ⟨c0,c1,c2,c3,c4,c5,c6⟩:=(⟨KT.out.cell 0,KT.out.cell 1,KT.out.cell 2,KT.out.cell 3,KT.out.cell 4,KT.out.cell 5,KT.out.cell 6⟩:_∧_∧_∧_∧_∧_∧_)
  simp only [zF,zD,zE] at c0 c1 c2 c3 c4 c5 c6
  clear hFT
  go_wp2_with fail
  refine hc.mono ?_
  clear hc c0 c1 c2 c3 c4 c5 c6
  rintro e w4 ⟨rfl,hb4⟩
  have HW4:=Lib.hid (HW3.out.trans (hb4.mono HW3.out.size))
  have HB4:=Lib.hid (HB3.out.trans (hb4.mono HB3.out.size))
  have KZ:=Lib.hid (KZ.out.below hb4 KZ.out.lt)
  have KT:=Lib.hid (KT.out.below hb4 KT.out.lt)
  clear hb4 HB3 HW3
  by_cases hq:U≤qu
  ·rw [decide_eq_true hq]
   have HQ:=Lib.hid hq
   have hc:=hCP.out w4 HW4.out
   obtain ⟨c0,c1,c2,c3,c4,c5,c6⟩:=(⟨KT.out.cell 0,KT.out.cell 1,KT.out.cell 2,KT.out.cell 3,KT.out.cell 4,KT.out.cell 5,KT.out.cell 6⟩:_∧_∧_∧_∧_∧_∧_)
   simp only [zF,zD,zE] at c0 c1 c2 c3 c4 c5 c6
   clear hCP hq
   go_wp2_with fail
   refine hc.mono ?_
   clear hc c0 c1 c2 c3 c4 c5 c6
   rintro e w5 ⟨y,rfl,ho5,he5,hb5⟩
   have HE5:=Lib.hid he5
   have HO5:=Lib.hid (ho5.mono (hrw.out w4 HW4.out).2.1)
   have HB5:=Lib.hid (HB4.out.trans (hb5.mono HB4.out.size))
   have KZ:=Lib.hid (KZ.out.below hb5 KZ.out.lt)
   clear he5 ho5 hb5 HB4 KT HW4 hrw
   obtain ⟨mm,mq,mx,⟨m1,m2,m3,ml⟩,⟨n1,n2,n3,nl⟩,⟨p1,p2,p3,pl⟩,⟨q1,q2,q3,ql⟩⟩:=y
   simp only [TenR.val,TenR.cells,FS.val,strV]
   have hth:=Lib.hid (KZ.out.there 7 tZ4)
   have k4:=Blk.setCells (g:=(w.heap.size+1)) [.string ⟨mm.toArray⟩,.int .i64 mq,.int .i64 mx,.slice m1 m2 m3,.slice n1 n2 n3,.slice p1 p2 p3,.slice q1 q2 q3] w5 [] [.string ⟨#[]⟩,.int .i64 0,.int .i64 0,.slice none 0 0,.slice none 0 0,.slice none 0 0,.slice none 0 0] rfl KZ.out
   simp only [List.length_nil,List.nil_append] at k4
   have hbw:=below_setCells (g:=(w.heap.size+1)) tZ1 [.string ⟨mm.toArray⟩,.int .i64 mq,.int .i64 mx,.slice m1 m2 m3,.slice n1 n2 n3,.slice p1 p2 p3,.slice q1 q2 q3] w5 0 HB5.out
   have hoo:=TenO.kept HO5.out (grown_cellsS (w.heap.size+1) [.string ⟨mm.toArray⟩,.int .i64 mq,.int .i64 mx,.slice m1 m2 m3,.slice n1 n2 n3,.slice p1 p2 p3,.slice q1 q2 q3] w5 0) tZ1
   obtain ⟨W4,hW4⟩:∃ W,W=w5.setCells (w.heap.size+1) 0 (#[.string ⟨mm.toArray⟩,.int .i64 mq,.int .i64 mx,.slice m1 m2 m3,.slice n1 n2 n3,.slice p1 p2 p3,.slice q1 q2 q3]:Array Value).toList:=⟨_,rfl⟩
   rw [show ([.string ⟨mm.toArray⟩,.int .i64 mq,.int .i64 mx,.slice m1 m2 m3,.slice n1 n2 n3,.slice p1 p2 p3,.slice q1 q2 q3]:List Value)=(#[.string ⟨mm.toArray⟩,.int .i64 mq,.int .i64 mx,.slice m1 m2 m3,.slice n1 n2 n3,.slice p1 p2 p3,.slice q1 q2 q3]:Array Value).toList from rfl,← hW4] at k4 hbw hoo
   have HL:Hid ((loadVar 27 ⟨(w.heap.size+1),0,none⟩).run Tryz.prog W4=.ok (.agg #[.string ⟨mm.toArray⟩,.int .i64 mq,.int .i64 mx,.slice m1 m2 m3,.slice n1 n2 n3,.slice p1 p2 p3,.slice q1 q2 q3]) W4):=run_loadVar_at W4 ⟨(w.heap.size+1),0,none⟩ 27 [.string ⟨mm.toArray⟩,.int .i64 mq,.int .i64 mx,.slice m1 m2 m3,.slice n1 n2 n3,.slice p1 p2 p3,.slice q1 q2 q3] _ (fun j v hv=>by rw [addr_add0,k4.cell j,zF];exact hv) Tryz.underlying27 rfl tZ2
   have HBW:=Lib.hid hbw
   have HOO:=Lib.hid (hoo.mono (base':=w.heap.size) tZ1)
   clear k4 hbw hoo HO5 HB5 KZ
   go_wp2_with (refine wpList_store_mid rfl 27 (.tmp 2) (.tmp 16) rfl (w.heap.size+1) 0 #[.string ⟨mm.toArray⟩,.int .i64 mq,.int .i64 mx,.slice m1 m2 m3,.slice n1 n2 n3,.slice p1 p2 p3,.slice q1 q2 q3] rfl rfl hth.out tZ2 tZ5 ?_;rw [← hW4];clear hW4)
   exact bodyPost_ret (v:=.tuple #[.agg #[.string ⟨mm.toArray⟩,.int .i64 mq,.int .i64 mx,.slice m1 m2 m3,.slice n1 n2 n3,.slice p1 p2 p3,.slice q1 q2 q3],.int .i64 0]) (results_cell_tmp rfl rfl HL.out) rfl ⟨_,_,rfl,HBW.out,.inr (.inr ⟨HE.out.symm,by rw [← HU.out];exact HQ.out,rfl,⟨mm,mq,mx,⟨m1,m2,m3,ml⟩,⟨n1,n2,n3,nl⟩,⟨p1,p2,p3,pl⟩,⟨q1,q2,q3,ql⟩⟩,rfl,HOO.out,HE5.out⟩)⟩
  ·rw [decide_eq_false hq]
   have HQ:=Lib.hid (show qu<U by omega)
   clear hCP hq
   have hth:=Lib.hid (KZ.out.there 7 tZ4)
   have k4:=Blk.setCells (g:=(w.heap.size+1)) [.string ⟨#[]⟩,.int .i64 0,.int .i64 0,.slice none 0 0,.slice none 0 0,.slice none 0 0,.slice none 0 0] w4 [] [.string ⟨#[]⟩,.int .i64 0,.int .i64 0,.slice none 0 0,.slice none 0 0,.slice none 0 0,.slice none 0 0] rfl KZ.out
   simp only [List.length_nil,List.nil_append] at k4
   have hbw:=below_setCells (g:=(w.heap.size+1)) tZ1 [.string ⟨#[]⟩,.int .i64 0,.int .i64 0,.slice none 0 0,.slice none 0 0,.slice none 0 0,.slice none 0 0] w4 0 HB4.out
   obtain ⟨W4,hW4⟩:∃ W,W=w4.setCells (w.heap.size+1) 0 (#[.string ⟨#[]⟩,.int .i64 0,.int .i64 0,.slice none 0 0,.slice none 0 0,.slice none 0 0,.slice none 0 0]:Array Value).toList:=⟨_,rfl⟩
   rw [show ([.string ⟨#[]⟩,.int .i64 0,.int .i64 0,.slice none 0 0,.slice none 0 0,.slice none 0 0,.slice none 0 0]:List Value)=(#[.string ⟨#[]⟩,.int .i64 0,.int .i64 0,.slice none 0 0,.slice none 0 0,.slice none 0 0,.slice none 0 0]:Array Value).toList from rfl,← hW4] at k4 hbw
   have HL:Hid ((loadVar 27 ⟨(w.heap.size+1),0,none⟩).run Tryz.prog W4=.ok (.agg #[.string ⟨#[]⟩,.int .i64 0,.int .i64 0,.slice none 0 0,.slice none 0 0,.slice none 0 0,.slice none 0 0]) W4):=run_loadVar_at W4 ⟨(w.heap.size+1),0,none⟩ 27 [.string ⟨#[]⟩,.int .i64 0,.int .i64 0,.slice none 0 0,.slice none 0 0,.slice none 0 0,.slice none 0 0] _ (fun j v hv=>by rw [addr_add0,k4.cell j,zF];exact hv) Tryz.underlying27 rfl tZ2
   have HBW:=Lib.hid hbw
   clear k4 hbw HW4 KT
   go_wp2_with (refine wpList_store_mid rfl 27 (.tmp 2) (.tmp 14) rfl (w.heap.size+1) 0 #[.string ⟨#[]⟩,.int .i64 0,.int .i64 0,.slice none 0 0,.slice none 0 0,.slice none 0 0,.slice none 0 0] rfl rfl hth.out tZ2 tZ5 ?_;rw [← hW4];clear hW4)
   exact bodyPost_ret (v:=.tuple #[.agg #[.string ⟨#[]⟩,.int .i64 0,.int .i64 0,.slice none 0 0,.slice none 0 0,.slice none 0 0,.slice none 0 0],.int .i64 42]) (results_cell_tmp rfl rfl HL.out) rfl ⟨_,_,rfl,HBW.out,.inr (.inl ⟨HE.out.symm,by rw [← HU.out];exact HQ.out,rfl,rfl⟩)⟩
 ·clear hFT hCP
  have hth:=Lib.hid (KZ.out.there 7 tZ4)
  have k4:=Blk.setCells (g:=(w.heap.size+1)) [.string ⟨#[]⟩,.int .i64 0,.int .i64 0,.slice none 0 0,.slice none 0 0,.slice none 0 0,.slice none 0 0] w3 [] [.string ⟨#[]⟩,.int .i64 0,.int .i64 0,.slice none 0 0,.slice none 0 0,.slice none 0 0,.slice none 0 0] rfl KZ.out
  simp only [List.length_nil,List.nil_append] at k4
  have hbw:=below_setCells (g:=(w.heap.size+1)) tZ1 [.string ⟨#[]⟩,.int .i64 0,.int .i64 0,.slice none 0 0,.slice none 0 0,.slice none 0 0,.slice none 0 0] w3 0 HB3.out
  obtain ⟨W4,hW4⟩:∃ W,W=w3.setCells (w.heap.size+1) 0 (#[.string ⟨#[]⟩,.int .i64 0,.int .i64 0,.slice none 0 0,.slice none 0 0,.slice none 0 0,.slice none 0 0]:Array Value).toList:=⟨_,rfl⟩
  rw [show ([.string ⟨#[]⟩,.int .i64 0,.int .i64 0,.slice none 0 0,.slice none 0 0,.slice none 0 0,.slice none 0 0]:List Value)=(#[.string ⟨#[]⟩,.int .i64 0,.int .i64 0,.slice none 0 0,.slice none 0 0,.slice none 0 0,.slice none 0 0]:Array Value).toList from rfl,← hW4] at k4 hbw
  have HL:Hid ((loadVar 27 ⟨(w.heap.size+1),0,none⟩).run Tryz.prog W4=.ok (.agg #[.string ⟨#[]⟩,.int .i64 0,.int .i64 0,.slice none 0 0,.slice none 0 0,.slice none 0 0,.slice none 0 0]) W4):=run_loadVar_at W4 ⟨(w.heap.size+1),0,none⟩ 27 [.string ⟨#[]⟩,.int .i64 0,.int .i64 0,.slice none 0 0,.slice none 0 0,.slice none 0 0,.slice none 0 0] _ (fun j v hv=>by rw [addr_add0,k4.cell j,zF];exact hv) Tryz.underlying27 rfl tZ2
  have HBW:=Lib.hid hbw
  clear k4 hbw HW3 KT
  go_wp2_with (refine wpList_store_mid rfl 27 (.tmp 2) (.tmp 9) rfl (w.heap.size+1) 0 #[.string ⟨#[]⟩,.int .i64 0,.int .i64 0,.slice none 0 0,.slice none 0 0,.slice none 0 0,.slice none 0 0] rfl rfl hth.out tZ2 tZ5 ?_;rw [← hW4];clear hW4)
  exact bodyPost_ret (v:=.tuple #[.agg #[.string ⟨#[]⟩,.int .i64 0,.int .i64 0,.slice none 0 0,.slice none 0 0,.slice none 0 0,.slice none 0 0],.int .i64 9]) (results_cell_tmp rfl rfl HL.out) rfl ⟨_,_,rfl,HBW.out,.inl ⟨HE.out.symm,rfl,rfl⟩⟩
end Go.Proofs.YtiojfffgiejibaaGreatDoor
namespace Go.Proofs.YtiojfffgiejibaaGreatDoor
open Go.RowKit
theorem cellsK_setF {α:Type} {enc:α→List Value} {k:Nat} (hk:∀ x,(enc x).length=k) (l:List α) (i j:Nat) (hj:j<k) (x':α) (u:Value) (he:∀ x,l[i]?=some x→enc x'=(enc x).set j u) :
  cellsK enc (l.set i x')=(cellsK enc l).set (i*k+j) u:=by
 induction l generalizing i with
 | nil=>simp [cellsK]
 | cons x l ih =>
  cases i with
  | zero =>
   show enc x'++cellsK enc l=(enc x++cellsK enc l).set (0*k+j) u
   rw [he x rfl,Nat.zero_mul,Nat.zero_add,List.set_append_left _ _ (by rw [hk];exact hj)]
  | succ i =>
   show enc x++cellsK enc (l.set i x')=(enc x++cellsK enc l).set ((i+1)*k+j) u
   rw [ih i (fun y hy=>he y hy),Nat.succ_mul,List.set_append_right _ _ (by rw [hk];omega),hk]
   congr 2
   omega
section
variable {α:Type} {w w':World} {base k g:Nat} {t T:TypeId} {enc:α→List Value} {s:FS α}
/-- one field of one element stored -/
theorem FS.own.field (h:s.own w base t k enc) (hk:∀ x,(enc x).length=k) (hA:s.A=some ⟨g,0,none⟩) (i j:Nat) (hj:j<k) (x':α) (u:Value) (he:∀ x,s.l[i]?=some x→enc x'=(enc x).set j u) :
  FS.own (w.setCell ⟨g,i*k+j,none⟩ u) base t k enc ⟨s.A,s.n,s.c,s.l.set i x'⟩∧w.grownBy (w.setCell ⟨g,i*k+j,none⟩ u) (some g):=by
 obtain ⟨A,n,c,l⟩:=s
 simp only at hA
 subst hA
 have h2:=World.ownsRow.stored h.2 (i*k+j) u
 refine ⟨⟨by rw [List.length_set];exact h.1,?_⟩,h2.2⟩
 show World.ownsRow _ base t k _ n (cellsK enc (l.set i x'))
 rw [cellsK_setF hk l i j hj x' u he]
 exact h2.1
/-- a row that is not empty is a block of its own -/
theorem FS.own.blk (h:s.own w base t k enc) (h0:0<s.n):∃ g cs,s.A=some ⟨g,0,none⟩∧base≤g∧Blk w g t cs:=by
 obtain ⟨A,n,c,l⟩:=s
 rcases h.2.2 with ⟨e,e0⟩ | ⟨g,cap,cur,e,hb,hg,_⟩
 ·simp only at h0 e0
  omega
 ·unfold FS.val at e
  injection e with e1 e2 e3
  exact ⟨g,cur,e1,hb,hg⟩
/-- what is grown in a block of another element type keeps a row -/
theorem FS.own.keptT {cs:Array Value} (h:s.own w base t k enc) (hg:w.grownBy w' (some g)) (hb:Blk w g T cs) (hne:t≠T):s.own w' base t k enc :=
 ⟨h.1,h.2.kept hg (.inr (own_blk_ne h.2 hb hne))⟩
end
end Go.Proofs.YtiojfffgiejibaaGreatDoor
namespace Go.Proofs.YtiojfffgiejibaaGreatDoor
open Go.RowKit
/-- the tenant with another set at a place -/
def TenR.putS (t:TenR) (i:Nat) (x:SetR):TenR:=⟨t.nm,t.quota,t.next,⟨t.sets.A,t.sets.n,t.sets.c,t.sets.l.set i x⟩,t.grants,t.stages,t.log⟩
def TenC.putS (t:TenC) (i:Nat) (x:SetC):TenC:=⟨t.nm,t.quota,t.next,t.sets.set i x,t.grants,t.stages,t.log⟩
section
variable {w w':World} {base g:Nat} {cs:Array Value}
theorem SnapO.keptS {x:SnapR} (h:SnapO w base x) (hg:w.grownBy w' (some g)) (hb:Blk w g 56 cs):SnapO w' base x :=
 ⟨h.body.keptT hg hb tZ4,h.tags.keptT hg hb tZ4,h.own.keptT hg hb tZ4⟩
theorem SetO.keptS {x:SetR} (h:SetO w base x) (hg:w.grownBy w' (some g)) (hb:Blk w g 56 cs):SetO w' base x :=
 ⟨h.body.keptT hg hb tZ4,h.snaps.keptT hg hb tZ4,fun y hy=>(h.each y hy).keptS hg hb,h.own.keptT hg hb tZ4⟩
theorem StageO.keptS {x:StageR} (h:StageO w base x) (hg:w.grownBy w' (some g)) (hb:Blk w g 56 cs):StageO w' base x :=
 ⟨h.own.keptT hg hb tZ4,h.body.keptT hg hb tZ4⟩
/-- a tenant whose row of sets is another one of one's own, when only that row's block was changed -/
theorem TenO.setsO {t:TenR} (h:TenO w base t) (s':FS SetR) (hg:w.grownBy w' t.sets.val.ownBlock) (hs:s'.own w' base 56 5 encSet) (hm:∀ y∈s'.l,SetO w' base y) :
  TenO w' base ⟨t.nm,t.quota,t.next,s',t.grants,t.stages,t.log⟩:=by
 have hk:∀ {T:TypeId} {k n:Nat} {v:Value} {xs:List Value},T≠56→w.ownsRow base T k v n xs→w'.ownsRow base T k v n xs:=by
  intro T k n v xs hT hr
  cases he:t.sets.val.ownBlock with
  | none=>rw [he] at hg;exact hr.kept hg (by cases v.ownBlock <;> simp)
  | some g =>
   rw [he] at hg
   refine hr.kept hg (.inr ?_)
   rcases h.sets.2.2 with ⟨e,_⟩ | ⟨g',cap,cur,e,_,hh,_⟩
   ·rw [e] at he;simp [Value.ownBlock] at he
   ·rw [e] at he
    have he:g'=g:=tZ60
    subst he
    exact own_blk_ne hr (show Blk w g' 56 cur from hh) hT
 exact ⟨hs,hm,⟨h.grants.1,hk tZ4 h.grants.2⟩,⟨h.stages.1,hk tZ4 h.stages.2⟩,fun y hy=>⟨⟨(h.eachG y hy).own.1,hk tZ4 (h.eachG y hy).own.2⟩,⟨(h.eachG y hy).body.1,hk tZ4 (h.eachG y hy).body.2⟩⟩,⟨h.log.1,hk tZ4 h.log.2⟩⟩
end
end Go.Proofs.YtiojfffgiejibaaGreatDoor
