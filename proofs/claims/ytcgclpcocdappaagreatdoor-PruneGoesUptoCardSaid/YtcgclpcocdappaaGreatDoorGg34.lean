/-
  tree.Copy: a copy is of one content with the tenant, in memory of its own. A tenant of one's own of which the snapshots of one set are changed, when no two sets have one row of snapshots.
-/
import Derived.WalkKit
import Derived.WalkSpells
import Derived.Below
import Derived.Laws.OwnMore
import Derived.Deep.AppendLies
import Derived.Deep.Draws
import Derived.Laws.Rows
import Derived.Maps.AppendAt
import Derived.RegionTactic
import Derived.OwnWalk
import Derived.Deep.QuietTactic
import Derived.BigQuiet
import Derived.Lib.Hide
import Derived.Laws.CopyOwn
import Derived.IntWalk
import Derived.Test.YtcgclpcocdappaaGreatDoorRows
import Derived.Handy
import Derived.Deep.Quiet
import Derived.ProofKit
import Derived.OpenShut
import Derived.ShutString
import Derived.ChangeOld
import Derived.Carry
import Derived.SizedLaws
import Derived.JoinedCond
import Derived.Deep.CondSized
import Derived.Deep.Slices
import Derived.Deep.Fields
import Derived.Lib.SmallJoins
import Derived.Orders
import Derived.Lib.SplitLaws
import Derived.Lib.LastIndexByte
import Derived.Lib.Strings
import Derived.Sort.Walk0
import Derived.Sort.KeysCollected
import Derived.Shelf.Strings.Search1
import Derived.Shelf.Strings.Search2
import Derived.Shelf.Strings.Search3
import Derived.Shelf.Strings.Cut
import Derived.Shelf.Strings.Count
import Derived.Shelf.LaysM
import Derived.Shelf.Strings.Shaped
import Derived.Shelf.Strings.LastIndex
import Derived.Shelf.Strings.Split
import Derived.Shelf.Strings.SplitShaped
import Derived.Shelf.Unicode.Decode
import Derived.Shelf.Strings.RuneCount
import Derived.Shelf.Strings.Explode
import Derived.Shelf.Unicode.DecodeSlow
import Derived.Test.YtcgclpcocdappaaGreatDoorProg
import Derived.Laws.BytesString
import Derived.Laws.IdiomStrings
import Derived.Lib.ConvBytes
import Derived.Deep.DeepCutAuto
import Derived.Deep.MidRow
import Derived.Great.BuildSlice
import Derived.Test.YtcgclpcocdappaaGreatDoorG0
import Derived.Test.YtcgclpcocdappaaGreatDoorGg1
import Derived.Test.YtcgclpcocdappaaGreatDoorGg5
import Derived.Test.YtcgclpcocdappaaGreatDoorGg7
import Derived.Test.YtcgclpcocdappaaGreatDoorGg9
import Derived.Test.YtcgclpcocdappaaGreatDoorGg13
import Derived.Test.YtcgclpcocdappaaGreatDoorGg17
import Derived.Test.YtcgclpcocdappaaGreatDoorGg19
import Derived.Test.YtcgclpcocdappaaGreatDoorGg20
import Derived.Test.YtcgclpcocdappaaGreatDoorGg22
import Derived.Test.YtcgclpcocdappaaGreatDoorGg23
import Derived.Test.YtcgclpcocdappaaGreatDoorGg27
import Derived.Test.YtcgclpcocdappaaGreatDoorGg28
import Derived.Test.YtcgclpcocdappaaGreatDoorGg29
import Derived.Test.YtcgclpcocdappaaGreatDoorGg30
namespace Go.Proofs.YtcgclpcocdappaaGreatDoor
open Go.RowKit
theorem keptSnap:Kept (fun b w (y:SnapR)=>SnapO w b y):=⟨fun _ _ _ _ h hb=>h.below hb,fun _ _ _ _ _ h hg hl=>h.kept hg hl,fun _ _ _ _ h hb=>h.mono hb⟩
theorem keptStage:Kept (fun b w (y:StageR)=>StageO w b y):=⟨fun _ _ _ _ h hb=>h.below hb,fun _ _ _ _ _ h hg hl=>h.kept hg hl,fun _ _ _ _ h hb=>h.mono hb⟩
theorem cells_one {α:Type} {enc:α→List Value} (h:∀ x,∀ u∈enc x,u.oneCell'=true) (l:List α):∀ u∈cellsK enc l,u.oneCell'=true:=by
 intro u hu
 obtain ⟨x,_,hx⟩:=List.mem_flatMap.1 hu
 exact h x u hx
theorem encB_one (x:BlkT):∀ u∈encB x,u.oneCell'=true:=by intro u hu;simp [encB,strV] at hu;rcases hu with rfl | rfl <;> rfl
theorem encP_one (x:BS×BS):∀ u∈encP x,u.oneCell'=true:=by intro u hu;simp [encP,strV] at hu;rcases hu with rfl | rfl <;> rfl
theorem encS_one (x:BS):∀ u∈encS x,u.oneCell'=true:=by intro u hu;simp [encS,strV] at hu;subst hu;rfl
theorem encG_one (x:GT):∀ u∈encG x,u.oneCell'=true:=by intro u hu;simp [encG,strV] at hu;rcases hu with rfl | rfl | rfl <;> rfl
theorem encE_one (x:EntryR):∀ u∈encEntry x,u.oneCell'=true:=by intro u hu;simp [encEntry,strV] at hu;rcases hu with rfl | rfl | rfl | rfl <;> rfl
/-- an owned row is one of a lower base, whatever is done to a box below it -/
theorem own_kept {W W':World} {r:Nat} {base:Nat} {e:TypeId} {k n:Nat} {v:Value} {xs:List Value} (h:W.ownsRow base e k v n xs) (hg:W.grownBy W' (some r)) (hr:r<base):W'.ownsRow base e k v n xs :=
 h.kept hg (.inr fun hh=>by have:=(h.lt _ hh).1;omega)
/-- the rows of tags of two snapshots are not one -/
def ApartT (y z:SnapR):Prop:=∀ g,y.tags.val.ownBlock=some g→z.tags.val.ownBlock≠some g
theorem apartT_of (b b':Nat) (w w':World) (y z:SnapR) (hy:SnapO w b y) (hz:SnapO w' b' z) (h:w.heap.size≤b'):ApartT y z:=fun g h1 h2=>by
 have:=hy.tags.2.lt _ h1
 have:=hz.tags.2.lt _ h2
 omega
/-- a set of one's own of which no two snapshots have one row of tags -/
def SetOT (w:World) (b:Nat) (y:SetR):Prop:=SetO w b y∧y.snaps.l.Pairwise ApartT
theorem keptSetT:Kept (fun b w (y:SetR)=>SetOT w b y):=⟨fun _ _ _ _ h hb=>⟨h.1.below hb,h.2⟩,fun _ _ _ _ _ h hg hl=>⟨h.1.kept hg hl,h.2⟩,fun _ _ _ _ h hb=>⟨h.1.mono hb,h.2⟩⟩
theorem copySnapR_any (x:SnapR) (W:World) (B:Nat) (hB:B≤W.heap.size) (hr:x.rd W B) (hz:x.sz) :
  Calls Tryz.prog 174 #[.agg (encSnap x).toArray] W fun e w'=>∃ y,e=.returned (.agg (encSnap y).toArray)∧SnapO w' W.heap.size y∧x.eqv y∧Below W.heap.size W w':=by
 obtain ⟨nm,gd,⟨b1,bn,b3,bl⟩,⟨t1,tn,t3,tl⟩,⟨o1,on,o3,ol⟩⟩:=x
 refine (copySnap_any nm gd b1 bn b3 t1 tn t3 o1 on o3 _ _ _ W B hB hr.body.2.2 hr.tags.2.2 hr.own.2.2 (cells_one encB_one _) (cells_one encS_one _) (cells_one encP_one _) hz.body hz.tags hz.own).mono ?_
 rintro e w' ⟨Ab,cb,At,ct,Ao,co,rfl,h1,h2,h3,h4⟩
 exact ⟨⟨nm,gd,⟨Ab,bn,cb,bl⟩,⟨At,tn,ct,tl⟩,⟨Ao,on,co,ol⟩⟩,rfl,⟨⟨hr.body.1,h1⟩,⟨hr.tags.1,h2⟩,⟨hr.own.1,h3⟩⟩,⟨rfl,rfl,rfl,rfl,rfl⟩,h4⟩
theorem copySetR_any (x:SetR) (w:World) (B:Nat) (hB:B≤w.heap.size) (hr:x.rd w B) (hz:x.sz) :
  Calls Tryz.prog 109 #[.agg (encSet x).toArray] w fun e w'=>∃ y,e=.returned (.agg (encSet y).toArray)∧SetOT w' w.heap.size y∧x.eqv y∧Below w.heap.size w w':=by
 obtain ⟨pa,og,⟨b1,bn,b3,bl⟩,⟨s1,sn,s3,sl⟩,⟨o1,on,o3,ol⟩⟩:=x
 have hb:=hr.body
 have hs:=hr.snaps
 have ho:=hr.own
 have hb1:bn=bl.length:=hb.1
 have hs1:sn=sl.length:=hs.1
 have ho1:on=ol.length:=ho.1
 refine (copySet_abs pa og b1 bn b3 s1 sn s3 o1 on o3 w
  (fun W v=>W.ownsRow (w.heap.size+2) 75 2 v bn (cellsK encB bl)) (fun W W' v r h hg hl=>own_kept h hg hl) (fun W hW hsz=>?_)
  (fun W v=>W.ownsRow (w.heap.size+2) 78 2 v on (cellsK encP ol)) (fun W W' v r h hg hl=>own_kept h hg hl) (fun W hW hsz=>?_)
  (fun W v=>∃ s:FS SnapR,v=s.val∧s.own W (w.heap.size+2) 57 5 encSnap∧(∀ y∈s.l,SnapO W (w.heap.size+2) y)∧EachR SnapR.eqv sl s.l∧s.l.Pairwise ApartT) (fun W W' v r h hg hl=>?_) (fun W hW hsz=>?_)).mono ?_
 ·refine (cloneBl_any _ bn b1 b3 W B (hb.2.2.below (hW.mono hB)) (by have:=hW.size;omega) (cells_one encB_one _) (by have:=hz.body;simp only at this;omega)).mono ?_
  rintro e w' ⟨v,rfl,h1,h2⟩
  obtain ⟨A,c,rfl,_⟩:=own_form h1
  exact ⟨A,bn,c,rfl,own_mono h1 hsz,h2⟩
 ·refine (clonePr_any _ on o1 o3 W B (ho.2.2.below (hW.mono hB)) (by have:=hW.size;omega) (cells_one encP_one _) (by have:=hz.own;simp only at this;omega)).mono ?_
  rintro e w' ⟨v,rfl,h1,h2⟩
  obtain ⟨A,c,rfl,_⟩:=own_form h1
  exact ⟨A,on,c,rfl,own_mono h1 hsz,h2⟩
 ·obtain ⟨s,h1,h2,h3,h4⟩:=h
  exact ⟨s,h1,h2.kept hg hl,fun y hy=>(h3 y hy).kept hg hl,h4⟩
 ·refine (eachSnap_any _ keptSnap SnapR.eqv ApartT apartT_of sl sn hs1 s1 s3 W B (by have:=hW.size;omega) (hs.2.2.below (hW.mono hB)) (by have:=hz.snaps;simp only at this;omega) (fun x hx W2 hW2=>?_)).mono ?_
  ·have hx2:x.rd W2 B:=by
    have:=hr.each x hx
    have hb2:Below B w W2:=(hW.mono hB).trans (hW2.mono (by have:=hW.size;omega))
    exact ⟨this.body.below hb2,this.tags.below hb2,this.own.below hb2⟩
   exact copySnapR_any x W2 B (by have:=hW.size;have:=hW2.size;omega) hx2 (hz.each x hx)
  ·rintro e w' ⟨s,rfl,h1,h2,h3,h5,h4⟩
   exact ⟨s.A,s.n,s.c,rfl,⟨s,rfl,h1.mono hsz,fun y hy=>(h2 y hy).mono hsz,h3,h5⟩,h4⟩
 ·rintro e w' ⟨Ab,nb,cb,Ao,no,co,Az,nz,cz,rfl,h1,h2,⟨s,h3,h4,h5,h6,hpw⟩,h7⟩
  obtain ⟨_,_,e1,_⟩:=own_form h1
  injection e1 with _ e1 _
  obtain ⟨_,_,e2,_⟩:=own_form h2
  injection e2 with _ e2 _
  subst e1 e2
  obtain ⟨A',n',c',l'⟩:=s
  injection h3 with e3 e4 e5
  subst e3 e4 e5
  exact ⟨⟨pa,og,⟨Ab,nb,cb,bl⟩,⟨Az,nz,cz,l'⟩,⟨Ao,no,co,ol⟩⟩,rfl,⟨⟨⟨hb1,own_mono h1 (by omega)⟩,h4.mono (by omega),fun y hy=>(h5 y hy).mono (by omega),⟨ho1,own_mono h2 (by omega)⟩⟩,hpw⟩,⟨rfl,rfl,rfl,h6.1,h6.2,rfl⟩,h7⟩
theorem copyStageR_any (x:StageR) (w:World) (B:Nat) (hB:B≤w.heap.size) (hr:x.rd w B) (hz:x.sz) :
  Calls Tryz.prog 112 #[.agg (encStage x).toArray] w fun e w'=>∃ y,e=.returned (.agg (encStage y).toArray)∧StageO w' w.heap.size y∧x.eqv y∧Below w.heap.size w w':=by
 obtain ⟨into,kind,nm,frm,gd,⟨o1,on,o3,ol⟩,ix,ct,dt,⟨sa,sb,sc,sd⟩,⟨b1,bn,b3,bl⟩,at_,nx,⟨ua,ub,uc,ud⟩,done⟩:=x
 have hb:=hr.body
 have ho:=hr.own
 have hb1:bn=bl.length:=hb.1
 have ho1:on=ol.length:=ho.1
 refine (copyStage_abs into kind nm frm gd o1 on o3 ix ct dt sa sb sc sd b1 bn b3 at_ nx ua ub uc ud done w
  (fun W v=>W.ownsRow (w.heap.size+2) 75 2 v bn (cellsK encB bl)) (fun W W' v r h hg hl=>own_kept h hg hl) (fun W hW hsz=>?_)
  (fun W v=>W.ownsRow (w.heap.size+2) 78 2 v on (cellsK encP ol)) (fun W W' v r h hg hl=>own_kept h hg hl) (fun W hW hsz=>?_)).mono ?_
 ·refine (cloneBl_any _ bn b1 b3 W B (hb.2.2.below (hW.mono hB)) (by have:=hW.size;omega) (cells_one encB_one _) (by have:=hz.body;simp only at this;omega)).mono ?_
  rintro e w' ⟨v,rfl,h1,h2⟩
  obtain ⟨A,c,rfl,_⟩:=own_form h1
  exact ⟨A,bn,c,rfl,own_mono h1 hsz,h2⟩
 ·refine (clonePr_any _ on o1 o3 W B (ho.2.2.below (hW.mono hB)) (by have:=hW.size;omega) (cells_one encP_one _) (by have:=hz.own;simp only at this;omega)).mono ?_
  rintro e w' ⟨v,rfl,h1,h2⟩
  obtain ⟨A,c,rfl,_⟩:=own_form h1
  exact ⟨A,on,c,rfl,own_mono h1 hsz,h2⟩
 ·rintro e w' ⟨Ab,nb,cb,Ao,no,co,rfl,h1,h2,h7⟩
  obtain ⟨_,_,e1,_⟩:=own_form h1
  injection e1 with _ e1 _
  obtain ⟨_,_,e2,_⟩:=own_form h2
  injection e2 with _ e2 _
  subst e1 e2
  exact ⟨⟨into,kind,nm,frm,gd,⟨Ao,no,co,ol⟩,ix,ct,dt,⟨sa,sb,sc,sd⟩,⟨Ab,nb,cb,bl⟩,at_,nx,⟨ua,ub,uc,ud⟩,done⟩,rfl,⟨⟨ho1,own_mono h2 (by omega)⟩,⟨hb1,own_mono h1 (by omega)⟩⟩,⟨rfl,rfl,rfl,rfl,rfl,rfl,rfl,rfl,rfl,rfl,rfl,rfl,rfl,rfl,rfl⟩,h7⟩
/-- the rows of snapshots of two sets are not one -/
def ApartS (y z:SetR):Prop:=∀ g,y.snaps.val.ownBlock=some g→z.snaps.val.ownBlock≠some g
theorem apart_of (b b':Nat) (w w':World) (y z:SetR) (hy:SetO w b y) (hz:SetO w' b' z) (h:w.heap.size≤b'):ApartS y z:=fun g h1 h2=>by
 have:=hy.snaps.2.lt _ h1
 have:=hz.snaps.2.lt _ h2
 omega
/-- two sets have not the same row of snapshots, nor two of their snapshots the same row of tags -/
def ApartU (y z:SetR):Prop:=ApartS y z∧∀ a∈y.snaps.l,∀ b∈z.snaps.l,ApartT a b
theorem apartU_of (b b':Nat) (w w':World) (y z:SetR) (hy:SetOT w b y) (hz:SetOT w' b' z) (h:w.heap.size≤b'):ApartU y z :=
 ⟨apart_of b b' w w' y z hy.1 hz.1 h,fun u hu v hv=>apartT_of b b' w w' u v (hy.1.each u hu) (hz.1.each v hv) h⟩
theorem tcopy3_any (t:TenR) (w:World) (B:Nat) (hB:B≤w.heap.size) (hr:t.rd w B) (hz:t.sz) :
  Calls Tryz.prog 44 #[t.val] w fun e w'=>∃ y:TenR,e=.returned y.val∧TenO w' w.heap.size y∧t.eqv y∧(y.sets.l.Pairwise ApartU∧∀ x∈y.sets.l,x.snaps.l.Pairwise ApartT)∧Below w.heap.size w w':=by
 obtain ⟨nm,qu,nx,⟨s1,sn,s3,sl⟩,⟨g1,gn,g3,gl⟩,⟨t1,tn,t3,tl⟩,⟨l1,ln,l3,ll⟩⟩:=t
 have hs:=hr.sets
 have hg:=hr.grants
 have ht:=hr.stages
 have hl:=hr.log
 have hs1:sn=sl.length:=hs.1
 have hg1:gn=gl.length:=hg.1
 have ht1:tn=tl.length:=ht.1
 have hl1:ln=ll.length:=hl.1
 refine (copyTen_abs nm qu nx s1 sn s3 g1 gn g3 t1 tn t3 l1 ln l3 w
  (fun W v=>∃ s:FS SetR,v=s.val∧s.own W (w.heap.size+2) 42 5 encSet∧(∀ y∈s.l,SetOT W (w.heap.size+2) y)∧EachR SetR.eqv sl s.l∧s.l.Pairwise ApartU) (fun W W' v r h hg hl=>?_) (fun W hW hsz=>?_)
  (fun W v=>W.ownsRow (w.heap.size+2) 147 3 v gn (cellsK encG gl)) (fun W W' v r h hg hl=>own_kept h hg hl) (fun W hW hsz=>?_)
  (fun W v=>∃ s:FS StageR,v=s.val∧s.own W (w.heap.size+2) 103 21 encStage∧(∀ y∈s.l,StageO W (w.heap.size+2) y)∧EachR StageR.eqv tl s.l) (fun W W' v r h hg hl=>?_) (fun W hW hsz=>?_)
  (fun W v=>W.ownsRow (w.heap.size+2) 106 4 v ln (cellsK encEntry ll)) (fun W W' v r h hg hl=>own_kept h hg hl) (fun W hW hsz=>?_)).mono ?_
 ·obtain ⟨s,h1,h2,h3,h4⟩:=h
  exact ⟨s,h1,h2.kept hg hl,fun y hy=>keptSetT.kept _ _ _ _ _ (h3 y hy) hg hl,h4⟩
 ·refine (eachSet_any _ keptSetT SetR.eqv ApartU apartU_of sl sn hs1 s1 s3 W B (by have:=hW.size;omega) (hs.2.2.below (hW.mono hB)) (by have:=hz.sets;simp only at this;omega) (fun x hx W2 hW2=>?_)).mono ?_
  ·have hb2:Below B w W2:=(hW.mono hB).trans (hW2.mono (by have:=hW.size;omega))
   have:=hr.eachS x hx
   exact copySetR_any x W2 B (by have:=hW.size;have:=hW2.size;omega) ⟨this.body.below hb2,this.snaps.below hb2,fun y hy=>⟨(this.each y hy).body.below hb2,(this.each y hy).tags.below hb2,(this.each y hy).own.below hb2⟩,this.own.below hb2⟩ (hz.eachS x hx)
  ·rintro e w' ⟨s,rfl,h1,h2,h3,h5,h4⟩
   exact ⟨s.A,s.n,s.c,rfl,⟨s,rfl,h1.mono hsz,fun y hy=>keptSetT.mono _ _ _ _ (h2 y hy) hsz,h3,h5⟩,h4⟩
 ·refine (cloneG_any _ gn g1 g3 W B (hg.2.2.below (hW.mono hB)) (by have:=hW.size;omega) (cells_one encG_one _) (by have:=hz.grants;simp only at this;omega)).mono ?_
  rintro e w' ⟨v,rfl,h1,h2⟩
  obtain ⟨A,c,rfl,_⟩:=own_form h1
  exact ⟨A,gn,c,rfl,own_mono h1 hsz,h2⟩
 ·obtain ⟨s,h1,h2,h3,h4⟩:=h
  exact ⟨s,h1,h2.kept hg hl,fun y hy=>(h3 y hy).kept hg hl,h4⟩
 ·refine (eachStage_any _ keptStage StageR.eqv tl tn ht1 t1 t3 W B (by have:=hW.size;omega) (ht.2.2.below (hW.mono hB)) (by have:=hz.stages;simp only at this;omega) (fun x hx W2 hW2=>?_)).mono ?_
  ·have hb2:Below B w W2:=(hW.mono hB).trans (hW2.mono (by have:=hW.size;omega))
   have:=hr.eachG x hx
   exact copyStageR_any x W2 B (by have:=hW.size;have:=hW2.size;omega) ⟨this.own.below hb2,this.body.below hb2⟩ (hz.eachT x hx)
  ·rintro e w' ⟨s,rfl,h1,h2,h3,h4⟩
   exact ⟨s.A,s.n,s.c,rfl,⟨s,rfl,h1.mono hsz,fun y hy=>(h2 y hy).mono hsz,h3⟩,h4⟩
 ·refine (cloneEn_any _ ln l1 l3 W B (hl.2.2.below (hW.mono hB)) (by have:=hW.size;omega) (cells_one encE_one _) (by have:=hz.log;simp only at this;omega)).mono ?_
  rintro e w' ⟨v,rfl,h1,h2⟩
  obtain ⟨A,c,rfl,_⟩:=own_form h1
  exact ⟨A,ln,c,rfl,own_mono h1 hsz,h2⟩
 ·rintro e w' ⟨Az,nz,cz,Ag,ng,cg,At,nt,ct,Al,nl,cl,rfl,⟨s,h3,h4,h5,h6,hpw⟩,h1,⟨q,k3,k4,k5,k6⟩,h2,h7⟩
  obtain ⟨_,_,e1,_⟩:=own_form h1
  injection e1 with _ e1 _
  obtain ⟨_,_,e2,_⟩:=own_form h2
  injection e2 with _ e2 _
  subst e1 e2
  obtain ⟨A',n',c',l'⟩:=s
  injection h3 with e3 e4 e5
  subst e3 e4 e5
  obtain ⟨A',n',c',q'⟩:=q
  injection k3 with e3 e4 e5
  subst e3 e4 e5
  exact ⟨⟨nm,qu,nx,⟨Az,nz,cz,l'⟩,⟨Ag,ng,cg,gl⟩,⟨At,nt,ct,q'⟩,⟨Al,nl,cl,ll⟩⟩,rfl,⟨h4.mono (by omega),fun y hy=>(h5 y hy).1.mono (by omega),⟨hg1,own_mono h1 (by omega)⟩,k4.mono (by omega),fun y hy=>(k5 y hy).mono (by omega),⟨hl1,own_mono h2 (by omega)⟩⟩,⟨rfl,rfl,rfl,h6.1,h6.2,rfl,k6.1,k6.2,rfl⟩,⟨hpw,fun y hy=>(h5 y hy).2⟩,h7⟩
theorem tcopy2_any (t:TenR) (w:World) (B:Nat) (hB:B≤w.heap.size) (hr:t.rd w B) (hz:t.sz) :
  Calls Tryz.prog 44 #[t.val] w fun e w'=>∃ y:TenR,e=.returned y.val∧TenO w' w.heap.size y∧t.eqv y∧y.sets.l.Pairwise ApartS∧Below w.heap.size w w' :=
 (tcopy3_any t w B hB hr hz).mono (by rintro e w' ⟨y,h1,h2,h3,h5,h4⟩;exact ⟨y,h1,h2,h3,h5.1.imp (fun h=>h.1),h4⟩)
end Go.Proofs.YtcgclpcocdappaaGreatDoor
namespace Go.Proofs.YtcgclpcocdappaaGreatDoor
open Go.RowKit
def SetR.withSn (x:SetR) (s:FS SnapR):SetR:=⟨x.path,x.org,x.body,s,x.own⟩
def SetC.withSn (x:SetC) (l:List SnapC):SetC:=⟨x.path,x.org,x.body,l,x.own⟩
theorem withSn_con (x:SetR) (s:FS SnapR):(x.withSn s).con=x.con.withSn (s.l.map SnapR.con):=rfl
section
variable {w w1:World} {base:Nat}
theorem own_aside {T:TypeId} {k n:Nat} {v:Value} {xs:List Value} {s:FS SnapR} (hs:s.own w base 57 5 encSnap) (hg:w.grownBy w1 s.val.ownBlock) (hT:T≠57) (hr:w.ownsRow base T k v n xs):w1.ownsRow base T k v n xs:=by
 cases he:s.val.ownBlock with
 | none=>rw [he] at hg;exact hr.kept hg (by cases v.ownBlock <;> simp)
 | some g =>
  rw [he] at hg
  refine hr.kept hg (.inr ?_)
  rcases hs.2 with h0
  rcases h0.2 with ⟨e,_⟩ | ⟨g',cap,cur,e,_,hh,_⟩
  ·rw [e] at he;simp [Value.ownBlock] at he
  ·rw [e] at he
   have he:g'=g:=by simpa [Value.ownBlock] using he
   subst he
   exact own_blk_ne hr (show Blk w g' 57 cur from hh) hT
/-- what stays when only the row of one set's snapshots is changed -/
structure Aside (w1:World) (base:Nat) (t:TenR) (k:Nat) (hk:k<t.sets.l.length):Prop where
 sets:t.sets.own w1 base 42 5 encSet
 others:∀ j (hj:j<t.sets.l.length),j≠k→SetO w1 base (t.sets.l[j]'hj)
 body:(t.sets.l[k]'hk).body.own w1 base 75 2 encB
 own:(t.sets.l[k]'hk).own.own w1 base 78 2 encP
 olds:∀ y∈(t.sets.l[k]'hk).snaps.l,SnapO w1 base y
 grants:t.grants.own w1 base 147 3 encG
 stages:t.stages.own w1 base 103 21 encStage
 eachG:∀ y∈t.stages.l,StageO w1 base y
 log:t.log.own w1 base 106 4 encEntry
theorem TenO.aside {t:TenR} (h:TenO w base t) (hp:t.sets.l.Pairwise ApartS) (k:Nat) (hk:k<t.sets.l.length) (hg:w.grownBy w1 (t.sets.l[k]'hk).snaps.val.ownBlock):Aside w1 base t k hk:=by
 have hS:=(h.eachS _ (List.getElem_mem hk)).snaps
 have a:∀ {T:TypeId} {k n:Nat} {v:Value} {xs:List Value},T≠57→w.ownsRow base T k v n xs→w1.ownsRow base T k v n xs:=fun hT hr=>own_aside hS hg hT hr
 have aS:∀ y,SnapO w base y→SnapO w1 base y:=fun y hy=>⟨⟨hy.body.1,a (by decide) hy.body.2⟩,⟨hy.tags.1,a (by decide) hy.tags.2⟩,⟨hy.own.1,a (by decide) hy.own.2⟩⟩
 have hx:=h.eachS _ (List.getElem_mem hk)
 refine ⟨⟨h.sets.1,a (by decide) h.sets.2⟩,fun j hj hne=>?_,⟨hx.body.1,a (by decide) hx.body.2⟩,⟨hx.own.1,a (by decide) hx.own.2⟩,fun y hy=>aS y (hx.each y hy),⟨h.grants.1,a (by decide) h.grants.2⟩,⟨h.stages.1,a (by decide) h.stages.2⟩,fun y hy=>⟨⟨(h.eachG y hy).own.1,a (by decide) (h.eachG y hy).own.2⟩,⟨(h.eachG y hy).body.1,a (by decide) (h.eachG y hy).body.2⟩⟩,⟨h.log.1,a (by decide) h.log.2⟩⟩
 have hy:=h.eachS _ (List.getElem_mem hj)
 refine ⟨⟨hy.body.1,a (by decide) hy.body.2⟩,⟨hy.snaps.1,?_⟩,fun z hz=>aS z (hy.each z hz),⟨hy.own.1,a (by decide) hy.own.2⟩⟩
 cases he:(t.sets.l[k]'hk).snaps.val.ownBlock with
 | none=>rw [he] at hg;exact hy.snaps.2.kept hg (by cases (t.sets.l[j]'hj).snaps.val.ownBlock <;> simp)
 | some g =>
  rw [he] at hg
  refine hy.snaps.2.kept hg (.inr fun e=>?_)
  rcases Nat.lt_or_gt_of_ne hne with h1 | h1
  ·exact List.pairwise_iff_getElem.1 hp j k hj hk h1 g e he
  ·exact List.pairwise_iff_getElem.1 hp k j hk hj h1 g he e
theorem mem_set_at {α:Type} {l:List α} {k:Nat} {x y:α} (h:y∈l.set k x):y=x∨∃ j,∃ hj:j<l.length,j≠k∧y=l[j]'hj:=by
 obtain ⟨j,hj,rfl⟩:=List.mem_iff_getElem.1 h
 rw [List.length_set] at hj
 by_cases hjk:k=j
 ·subst hjk
  exact .inl (List.getElem_set_self ..)
 ·exact .inr ⟨j,hj,fun e=>hjk e.symm,List.getElem_set_ne hjk ..⟩
/-- the row is another one, and its address is stored -/
theorem Aside.store {t:TenR} {k:Nat} {hk:k<t.sets.l.length} (h:Aside w1 base t k hk) (s':FS SnapR) (hs:s'.own w1 base 57 5 encSnap) (hm:∀ y∈s'.l,SnapO w1 base y) {gS:Nat} (hA:t.sets.A=some ⟨gS,0,none⟩) :
  TenO (w1.setCell ⟨gS,k*5+3,none⟩ s'.val) base (t.putS k ((t.sets.l[k]'hk).withSn s'))∧w1.grownBy (w1.setCell ⟨gS,k*5+3,none⟩ s'.val) (some gS):=by
 obtain ⟨g,cs,hA2,_,hbk⟩:=h.sets.blk (by have:=h.sets.1;omega)
 rw [hA] at hA2
 injection hA2 with hA2
 injection hA2 with hA2
 subst hA2
 obtain ⟨h1,h2⟩:=h.sets.field (fun _=>rfl) hA k 3 (by decide) ((t.sets.l[k]'hk).withSn s') s'.val (fun z hz=>by rw [List.getElem?_eq_getElem hk] at hz;cases hz;rfl)
 have hx:SetO w1 base ((t.sets.l[k]'hk).withSn s'):=⟨h.body,hs,hm,h.own⟩
 refine ⟨⟨h1,fun y hy=>?_,h.grants.keptT h2 hbk (by decide),h.stages.keptT h2 hbk (by decide),fun y hy=>(h.eachG y hy).keptS h2 hbk,h.log.keptT h2 hbk (by decide)⟩,h2⟩
 rcases mem_set_at (show y∈t.sets.l.set k _ from hy) with rfl | ⟨j,hj,hne,rfl⟩
 ·exact hx.keptS h2 hbk
 ·exact (h.others j hj hne).keptS h2 hbk
end
end Go.Proofs.YtcgclpcocdappaaGreatDoor
