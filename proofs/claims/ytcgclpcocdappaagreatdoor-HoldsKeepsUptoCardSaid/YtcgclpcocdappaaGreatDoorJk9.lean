/-
  The page's Same at tenants of one content: it answers true. holds.Held: has a snapshot a tag? What is held, by content: each of all that are held is a path and a name, and held.
-/
import Derived.WalkKit
import Derived.WalkSpells
import Derived.Below
import Derived.Laws.OwnMore
import Derived.Deep.AppendLies
import Derived.Deep.Draws
import Derived.Laws.Rows
import Derived.Maps.AppendAt
import Derived.RegionTactic
import Derived.OwnWalk
import Derived.Deep.QuietTactic
import Derived.BigQuiet
import Derived.Lib.Hide
import Derived.Laws.CopyOwn
import Derived.IntWalk
import Derived.Test.YtcgclpcocdappaaGreatDoorRows
import Derived.Handy
import Derived.Deep.Quiet
import Derived.Orders
import Derived.Lib.SplitLaws
import Derived.Lib.LastIndexByte
import Derived.Lib.Strings
import Derived.ShutString
import Derived.Sort.Walk0
import Derived.Sort.KeysCollected
import Derived.Shelf.Strings.Search1
import Derived.Shelf.Strings.Search2
import Derived.Shelf.Strings.Search3
import Derived.Shelf.Strings.Cut
import Derived.Shelf.Strings.Count
import Derived.Shelf.LaysM
import Derived.Shelf.Strings.Shaped
import Derived.Shelf.Strings.LastIndex
import Derived.Shelf.Strings.Split
import Derived.Shelf.Strings.SplitShaped
import Derived.Shelf.Unicode.Decode
import Derived.Shelf.Strings.RuneCount
import Derived.Shelf.Strings.Explode
import Derived.Shelf.Unicode.DecodeSlow
import Derived.Test.YtcgclpcocdappaaGreatDoorProg
import Derived.Laws.BytesString
import Derived.Laws.IdiomStrings
import Derived.Lib.ConvBytes
import Derived.Deep.MidRow
import Derived.ProofKit
import Derived.OpenShut
import Derived.ChangeOld
import Derived.Carry
import Derived.SizedLaws
import Derived.JoinedCond
import Derived.Deep.CondSized
import Derived.Deep.Slices
import Derived.Deep.Fields
import Derived.Lib.SmallJoins
import Derived.Deep.RegionLaw
import Derived.Lib.AppendZeros
import Derived.Lib.Overlaps
import Derived.Lib.AppendZerosOnto
import Derived.Deep.DeepCutAuto
import Derived.Great.BuildSlice
import Derived.Test.YtcgclpcocdappaaGreatDoorJ0
import Derived.Test.YtcgclpcocdappaaGreatDoorJbkv1
import Derived.Test.YtcgclpcocdappaaGreatDoorJbkv3
import Derived.Test.YtcgclpcocdappaaGreatDoorJbkv4
import Derived.Test.YtcgclpcocdappaaGreatDoorJbkv5
import Derived.Test.YtcgclpcocdappaaGreatDoorJbkv6
import Derived.Test.YtcgclpcocdappaaGreatDoorJbkv8
import Derived.Test.YtcgclpcocdappaaGreatDoorJbkv14
import Derived.Test.YtcgclpcocdappaaGreatDoorJbkv15
import Derived.Test.YtcgclpcocdappaaGreatDoorJbkv17
import Derived.Test.YtcgclpcocdappaaGreatDoorJbkv20
import Derived.Test.YtcgclpcocdappaaGreatDoorJbkv21
import Derived.Test.YtcgclpcocdappaaGreatDoorJbkv27
import Derived.Test.YtcgclpcocdappaaGreatDoorJk6
import Derived.Test.YtcgclpcocdappaaGreatDoorJk7
namespace Go.Proofs.YtcgclpcocdappaaGreatDoor
open Go.RowKit
theorem sameStageR_any (x y:StageR) (h:x.eqv y) (w:World) (B:Nat) (hB:B≤w.heap.size) (hx:x.rd w B) (hy:y.rd w B) (hz:x.sz) :
  Calls Tryz.prog 75 #[.agg #[.string ⟨x.into.toArray⟩,.int .i64 x.kind,.string ⟨x.nm.toArray⟩,.int .i64 x.frm,.int .i64 x.gd,.slice x.own.A x.own.n x.own.c,.int .i64 x.ix,.int .i64 x.ct,.string ⟨x.dt.toArray⟩,.int .u64 x.sm.a,.int .u64 x.sm.b,.int .u64 x.sm.c,.int .u64 x.sm.d,.slice x.body.A x.body.n x.body.c,.int .i64 x.at_,.int .i64 x.nx,.int .u64 x.sum.a,.int .u64 x.sum.b,.int .u64 x.sum.c,.int .u64 x.sum.d,.bool x.done],.agg #[.string ⟨y.into.toArray⟩,.int .i64 y.kind,.string ⟨y.nm.toArray⟩,.int .i64 y.frm,.int .i64 y.gd,.slice y.own.A y.own.n y.own.c,.int .i64 y.ix,.int .i64 y.ct,.string ⟨y.dt.toArray⟩,.int .u64 y.sm.a,.int .u64 y.sm.b,.int .u64 y.sm.c,.int .u64 y.sm.d,.slice y.body.A y.body.n y.body.c,.int .i64 y.at_,.int .i64 y.nx,.int .u64 y.sum.a,.int .u64 y.sum.b,.int .u64 y.sum.c,.int .u64 y.sum.d,.bool y.done]] w fun e w'=>e=.returned (.bool true)∧Below w.heap.size w w':=by
 obtain ⟨h1,h2,h3,h4,h5,h6,h7,h8,h9,h10,h11,h12,h13,h14,h15⟩:=h
 obtain ⟨into,kind,nm,frm,gd,⟨o1,on,o3,ol⟩,ix,ct,dt,⟨sa,sb,sc,sd⟩,⟨b1,bn,b3,bl⟩,at_,nx,⟨ua,ub,uc,ud⟩,done⟩:=x
 obtain ⟨into',kind',nm',frm',gd',⟨o1',on',o3',ol'⟩,ix',ct',dt',sm',⟨b1',bn',b3',bl'⟩,at_',nx',sum',done'⟩:=y
 simp only at h1 h2 h3 h4 h5 h6 h7 h8 h9 h10 h11 h12 h13 h14 h15
 subst h1 h2 h3 h4 h5 h6 h7 h8 h9 h10 h11 h12 h13 h14 h15
 have e1:bn'=bn:=hy.body.1.trans hx.body.1.symm
 have e3:on'=on:=hy.own.1.trans hx.own.1.symm
 subst e1 e3
 exact sameStageT_any into kind nm frm gd ol o1 o1' on' o3 o3' ix ct dt sa sb sc sd bl b1 b1' bn' b3 b3' at_ nx ua ub uc ud done w B hB hx.own.1 hx.own.2.2 hy.own.2.2 hz.own hx.body.1 hx.body.2.2 hy.body.2.2 hz.body
set_option maxRecDepth 100000 in
set_option maxHeartbeats 8000000 in
theorem sameTenT_any (nm:BS) (quota next:Int) (sl sl':List SetR) (gl:GL) (tl tl':List StageR) (ll:List EntryR) (s1 s1':Option Addr) (sn s3 s3':Nat) (g1 g1':Option Addr) (gn g3 g3':Nat) (t1 t1':Option Addr) (tn t3 t3':Nat) (l1 l1':Option Addr) (ln l3 l3':Nat) (w:World) (B:Nat) (hB:B≤w.heap.size)
  (hx:TenR.rd w B ⟨nm,quota,next,⟨s1,sn,s3,sl⟩,⟨g1,gn,g3,gl⟩,⟨t1,tn,t3,tl⟩,⟨l1,ln,l3,ll⟩⟩) (hy:TenR.rd w B ⟨nm,quota,next,⟨s1',sn,s3',sl'⟩,⟨g1',gn,g3',gl⟩,⟨t1',tn,t3',tl'⟩,⟨l1',ln,l3',ll⟩⟩) (hz:TenR.sz ⟨nm,quota,next,⟨s1,sn,s3,sl⟩,⟨g1,gn,g3,gl⟩,⟨t1,tn,t3,tl⟩,⟨l1,ln,l3,ll⟩⟩)
  (heS:∀ i (h:i<sl.length) (h':i<sl'.length),(sl[i]'h).eqv (sl'[i]'h')) (heT:∀ i (h:i<tl.length) (h':i<tl'.length),(tl[i]'h).eqv (tl'[i]'h')) :
  Calls Tryz.prog 21 #[.agg #[.string ⟨nm.toArray⟩,.int .i64 quota,.int .i64 next,.slice s1 sn s3,.slice g1 gn g3,.slice t1 tn t3,.slice l1 ln l3],.agg #[.string ⟨nm.toArray⟩,.int .i64 quota,.int .i64 next,.slice s1' sn s3',.slice g1' gn g3',.slice t1' tn t3',.slice l1' ln l3']] w fun e w'=>e=.returned (.bool true)∧Below w.heap.size w w':=by
 have hb1:=(Below.refl w.heap.size w).alloc (Nat.le_refl _) (.cells #[.string ⟨nm.toArray⟩,.int .i64 quota,.int .i64 next,.slice s1 sn s3,.slice g1 gn g3,.slice t1 tn t3,.slice l1 ln l3] 27)
 have hb2:=hb1.alloc hb1.size (.cells #[.string ⟨nm.toArray⟩,.int .i64 quota,.int .i64 next,.slice s1' sn s3',.slice g1' gn g3',.slice t1' tn t3',.slice l1' ln l3'] 27)
 have k1:=(Blk.new w 27 #[.string ⟨nm.toArray⟩,.int .i64 quota,.int .i64 next,.slice s1 sn s3,.slice g1 gn g3,.slice t1 tn t3,.slice l1 ln l3]).alloc (.cells #[.string ⟨nm.toArray⟩,.int .i64 quota,.int .i64 next,.slice s1' sn s3',.slice g1' gn g3',.slice t1' tn t3',.slice l1' ln l3'] 27)
 have k2:=Blk.new (w.alloc (.cells #[.string ⟨nm.toArray⟩,.int .i64 quota,.int .i64 next,.slice s1 sn s3,.slice g1 gn g3,.slice t1 tn t3,.slice l1 ln l3] 27)) 27 #[.string ⟨nm.toArray⟩,.int .i64 quota,.int .i64 next,.slice s1' sn s3',.slice g1' gn g3',.slice t1' tn t3',.slice l1' ln l3']
 rw [show (w.alloc (.cells #[.string ⟨nm.toArray⟩,.int .i64 quota,.int .i64 next,.slice s1 sn s3,.slice g1 gn g3,.slice t1 tn t3,.slice l1 ln l3] 27)).heap.size=w.heap.size+1 by simp] at k2
 obtain ⟨W2,hW2⟩:∃ W,W=(w.alloc (.cells #[.string ⟨nm.toArray⟩,.int .i64 quota,.int .i64 next,.slice s1 sn s3,.slice g1 gn g3,.slice t1 tn t3,.slice l1 ln l3] 27)).alloc (.cells #[.string ⟨nm.toArray⟩,.int .i64 quota,.int .i64 next,.slice s1' sn s3',.slice g1' gn g3',.slice t1' tn t3',.slice l1' ln l3'] 27):=⟨_,rfl⟩
 have hsz:W2.heap.size=w.heap.size+2:=by rw [hW2];simp
 rw [← hW2] at hb2 k1 k2
 have hS:=Lib.hid (fun (W':World) (hB':Below W2.heap.size W2 W')=>(⟨(k1.below hB' (by omega)).cell 0,(k1.below hB' (by omega)).cell 1,(k1.below hB' (by omega)).cell 2,(k1.below hB' (by omega)).cell 3,(k1.below hB' (by omega)).cell 4,(k1.below hB' (by omega)).cell 5,(k1.below hB' (by omega)).cell 6,(k2.below hB' (by omega)).cell 0,(k2.below hB' (by omega)).cell 1,(k2.below hB' (by omega)).cell 2,(k2.below hB' (by omega)).cell 3,(k2.below hB' (by omega)).cell 4,(k2.below hB' (by omega)).cell 5,(k2.below hB' (by omega)).cell 6⟩:W'.cell? ⟨w.heap.size,0,none⟩=some (.string ⟨nm.toArray⟩)∧W'.cell? ⟨w.heap.size,1,none⟩=some (.int .i64 quota)∧W'.cell? ⟨w.heap.size,2,none⟩=some (.int .i64 next)∧W'.cell? ⟨w.heap.size,3,none⟩=some (.slice s1 sn s3)∧W'.cell? ⟨w.heap.size,4,none⟩=some (.slice g1 gn g3)∧W'.cell? ⟨w.heap.size,5,none⟩=some (.slice t1 tn t3)∧W'.cell? ⟨w.heap.size,6,none⟩=some (.slice l1 ln l3)∧W'.cell? ⟨w.heap.size+1,0,none⟩=some (.string ⟨nm.toArray⟩)∧W'.cell? ⟨w.heap.size+1,1,none⟩=some (.int .i64 quota)∧W'.cell? ⟨w.heap.size+1,2,none⟩=some (.int .i64 next)∧W'.cell? ⟨w.heap.size+1,3,none⟩=some (.slice s1' sn s3')∧W'.cell? ⟨w.heap.size+1,4,none⟩=some (.slice g1' gn g3')∧W'.cell? ⟨w.heap.size+1,5,none⟩=some (.slice t1' tn t3')∧W'.cell? ⟨w.heap.size+1,6,none⟩=some (.slice l1' ln l3')))
 have HSZ:=Lib.hid hsz
 have HB2:=Lib.hid hb2
 have hmv:∀ W',Below W2.heap.size W2 W'→Below B w W':=fun W' hB'=>(hb2.trans (hB'.mono (by omega))).mono hB
 have hGr:Hid (∀ W,Below W2.heap.size W2 W→Calls Tryz.prog 72 #[.slice g1 gn g3,.slice g1' gn g3'] W fun e W'=>e=.returned (.bool true)∧Below W.heap.size W W'):=fun W h=>sameGT_any gl gn hx.grants.1 g1 g1' g3 g3' W B (hx.grants.2.2.below (hmv W h)) (hy.grants.2.2.below (hmv W h)) hz.grants
 have hLg:Hid (∀ W,Below W2.heap.size W2 W→Calls Tryz.prog 73 #[.slice l1 ln l3,.slice l1' ln l3'] W fun e W'=>e=.returned (.bool true)∧Below W.heap.size W W'):=fun W h=>sameLogT_any ll ln hx.log.1 l1 l1' l3 l3' W B (hx.log.2.2.below (hmv W h)) (hy.log.2.2.below (hmv W h)) hz.log
 have hTs:Hid (∀ W,Below W2.heap.size W2 W→Reads W B 5 s1 sn (cellsK encSet sl)∧Reads W B 5 s1' sn (cellsK encSet sl')∧B≤W.heap.size∧(∀ y∈sl,y.rd W B)∧∀ y∈sl',y.rd W B):=fun W h=>⟨(hx.below (hmv W h)).sets.2.2,(hy.below (hmv W h)).sets.2.2,by have:=h.size;omega,(hx.below (hmv W h)).eachS,(hy.below (hmv W h)).eachS⟩
 have hTt:Hid (∀ W,Below W2.heap.size W2 W→Reads W B 21 t1 tn (cellsK encStage tl)∧Reads W B 21 t1' tn (cellsK encStage tl')∧B≤W.heap.size∧(∀ y∈tl,y.rd W B)∧∀ y∈tl',y.rd W B):=fun W h=>⟨(hx.below (hmv W h)).stages.2.2,(hy.below (hmv W h)).stages.2.2,by have:=h.size;omega,(hx.below (hmv W h)).eachG,(hy.below (hmv W h)).eachG⟩
 have HSN:=Lib.hid (show sn=sl.length from hx.sets.1)
 have HSN':=Lib.hid (show sn=sl'.length from hy.sets.1)
 have HTN:=Lib.hid (show tn=tl.length from hx.stages.1)
 have HTN':=Lib.hid (show tn=tl'.length from hy.stages.1)
 have HEQS:=Lib.hid heS
 have HEQT:=Lib.hid heT
 have HZS:=Lib.hid (show ∀ y∈sl,y.sz from hz.eachS)
 have HZT:=Lib.hid (show ∀ y∈tl,y.sz from hz.eachT)
 have hsm:sn≤1000000000000:=hz.sets
 have htm:tn≤1000000000000:=hz.stages
 clear hb1 hb2 k1 k2 hsz hmv hx hy hz heS heT
 have hW0:=Below.refl W2.heap.size W2
 go_enter Tryz.func21,Tryz.ntmps21
 go_wp2_with fail
 rw [← hW2]
 clear hW2
 refine (hGr.out _ hW0).mono ?_
 rintro e w3 ⟨rfl,hb3⟩
 have hW3:=hW0.trans (hb3.mono hW0.size)
 clear hb3 hGr
 obtain ⟨p0,p1,p2,p3,p4,p5,p6,q0,q1,q2,q3,q4,q5,q6⟩:=hS.out _ hW3
 go_wp2_with fail
 refine (hLg.out _ hW3).mono ?_
 rintro e w4 ⟨rfl,hb4⟩
 have hW4:=hW3.trans (hb4.mono hW3.size)
 clear hb4 hLg p0 p1 p2 p3 p4 p5 p6 q0 q1 q2 q3 q4 q5 q6
 obtain ⟨p0,p1,p2,p3,p4,p5,p6,q0,q1,q2,q3,q4,q5,q6⟩:=hS.out _ hW4
 go_wp2_with fail
 clear p0 p1 p2 p3 p4 p5 p6 q0 q1 q2 q3 q4 q5 q6
 go_loopw [5] (fun j wr=>∃ k:Nat,k≤sn∧j=.int .i64 (k:Int)∧Below W2.heap.size W2 wr) (fun j _=>sn-(intOf j).toNat)
 case atStart=>exact ⟨0,Nat.zero_le _,rfl,hW4⟩
 case round =>
  clear hW4 hW3 hW0
  obtain ⟨k,hk,rfl,hWr⟩:=hrel
  obtain ⟨p0,p1,p2,p3,p4,p5,p6,q0,q1,q2,q3,q4,q5,q6⟩:=hS.out _ hWr
  by_cases hlt:k<sn
  ·have hki:(k:Int)<(sn:Int):=by omega
   obtain ⟨r1,r2,-⟩:=hTs.out _ hWr
   obtain ⟨ad,rfl,-⟩:=set_at r1 HSN.out hlt
   obtain ⟨ad2,rfl,-⟩:=set_at r2 HSN'.out hlt
   have hkl:k<sl.length:=by have:=HSN.out;omega
   have hkl':k<sl'.length:=by have:=HSN'.out;omega
   have hev:=HEQS.out k hkl hkl'
   have hxm:sl[k]'hkl∈sl:=List.getElem_mem _
   have hym:sl'[k]'hkl'∈sl':=List.getElem_mem _
   have hX:Hid (∀ W,Below W2.heap.size W2 W→(W.cell? (ad.add (k*5))=some (.string ⟨(sl[k]'hkl).path.toArray⟩)∧W.cell? ⟨(ad.add (k*5)).block,(ad.add (k*5)).off+1,none⟩=some (.string ⟨(sl[k]'hkl).org.toArray⟩)∧W.cell? ⟨(ad.add (k*5)).block,(ad.add (k*5)).off+2,none⟩=some (.slice (sl[k]'hkl).body.A (sl[k]'hkl).body.n (sl[k]'hkl).body.c)∧W.cell? ⟨(ad.add (k*5)).block,(ad.add (k*5)).off+3,none⟩=some (.slice (sl[k]'hkl).snaps.A (sl[k]'hkl).snaps.n (sl[k]'hkl).snaps.c)∧W.cell? ⟨(ad.add (k*5)).block,(ad.add (k*5)).off+4,none⟩=some (.slice (sl[k]'hkl).own.A (sl[k]'hkl).own.n (sl[k]'hkl).own.c))∧(W.cell? (ad2.add (k*5))=some (.string ⟨(sl'[k]'hkl').path.toArray⟩)∧W.cell? ⟨(ad2.add (k*5)).block,(ad2.add (k*5)).off+1,none⟩=some (.string ⟨(sl'[k]'hkl').org.toArray⟩)∧W.cell? ⟨(ad2.add (k*5)).block,(ad2.add (k*5)).off+2,none⟩=some (.slice (sl'[k]'hkl').body.A (sl'[k]'hkl').body.n (sl'[k]'hkl').body.c)∧W.cell? ⟨(ad2.add (k*5)).block,(ad2.add (k*5)).off+3,none⟩=some (.slice (sl'[k]'hkl').snaps.A (sl'[k]'hkl').snaps.n (sl'[k]'hkl').snaps.c)∧W.cell? ⟨(ad2.add (k*5)).block,(ad2.add (k*5)).off+4,none⟩=some (.slice (sl'[k]'hkl').own.A (sl'[k]'hkl').own.n (sl'[k]'hkl').own.c))):=by
    show ∀ W,_→_
    intro W hb
    obtain ⟨u1,u2,-⟩:=hTs.out _ hb
    obtain ⟨ad3,e3,-,c⟩:=set_at u1 HSN.out hlt
    obtain ⟨ad4,e4,-,d⟩:=set_at u2 HSN'.out hlt
    injection e3 with e3
    injection e4 with e4
    subst e3 e4
    exact ⟨c,d⟩
   have hSS:Hid (∀ W,Below W2.heap.size W2 W→Calls Tryz.prog 74 #[.agg #[.string ⟨(sl[k]'hkl).path.toArray⟩,.string ⟨(sl[k]'hkl).org.toArray⟩,.slice (sl[k]'hkl).body.A (sl[k]'hkl).body.n (sl[k]'hkl).body.c,.slice (sl[k]'hkl).snaps.A (sl[k]'hkl).snaps.n (sl[k]'hkl).snaps.c,.slice (sl[k]'hkl).own.A (sl[k]'hkl).own.n (sl[k]'hkl).own.c],.agg #[.string ⟨(sl'[k]'hkl').path.toArray⟩,.string ⟨(sl'[k]'hkl').org.toArray⟩,.slice (sl'[k]'hkl').body.A (sl'[k]'hkl').body.n (sl'[k]'hkl').body.c,.slice (sl'[k]'hkl').snaps.A (sl'[k]'hkl').snaps.n (sl'[k]'hkl').snaps.c,.slice (sl'[k]'hkl').own.A (sl'[k]'hkl').own.n (sl'[k]'hkl').own.c]] W fun e W'=>e=.returned (.bool true)∧Below W.heap.size W W'):=fun W hb=>by
    obtain ⟨-,-,u3,u4,u5⟩:=hTs.out _ hb
    exact sameSetR_any _ _ hev W B u3 (u4 _ hxm) (u5 _ hym) (HZS.out _ hxm)
   obtain ⟨x,hx⟩:∃ x,x=sl[k]'hkl:=⟨_,rfl⟩
   obtain ⟨y,hy⟩:∃ y,y=sl'[k]'hkl':=⟨_,rfl⟩
   rw [← hx,← hy] at hX hSS
   obtain ⟨xa,xb,⟨f1,f2,f3,fl⟩,⟨h1,h2,h3,hl⟩,⟨u1,u2,u3,ul⟩⟩:=x
   obtain ⟨ya,yb,⟨f1',f2',f3',fl'⟩,⟨h1',h2',h3',hl'⟩,⟨u1',u2',u3',ul'⟩⟩:=y
   simp only at hX hSS
   clear hx hy hev hxm hym r1 r2 hTs HEQS HZS
   go_wp2_with fail
   clear p0 p1 p2 p3 p4 p5 p6 q0 q1 q2 q3 q4 q5 q6
   refine wpC_regionH (fun W'=>Below W2.heap.size W2 W') (hWr.drew) (fun OPS D QQ HO HD HD2 HQQ=>?_)
   clear HO
   refine zX ?_
   refine wpC_readS (v:=?_) rfl rfl (fun W hW=>?_) ?_
   rotate_left
   ·replace hW:=HD.out W hW
    skip
    obtain ⟨-,-,-,p3,-⟩:=hS.out _ hW
    go_simp;try (with_reducible rfl)
   dsimp only [zB,zC]
   iterate 2 refine zX ?_
   refine zM hX.out ?_
   refine zX ?_
   refine wpC_readS (v:=?_) rfl rfl (fun W hW=>?_) ?_
   rotate_left
   ·replace hW:=HD.out W hW
    skip
    obtain ⟨-,-,-,-,-,-,-,-,-,-,q3,-⟩:=hS.out _ hW
    go_simp;try (with_reducible rfl)
   dsimp only [zB,zC]
   iterate 2 refine zX ?_
   refine zM hX.out ?_
   refine zN hSS.out ?_
   refine zX ?_
   refine wpQuiet_nil (HQQ.out _ (fun W hW=>?_))
   skip
   go_wp2_with fail
   go_roundw
   case rel=>exact ⟨k+1,by omega,by go_num,hW⟩
   case measure=>simp [intOf];omega
  ·clear hTs HEQS HZS
   as_aux_lemma =>
    go_wp2_with fail
    clear p0 p1 p2 p3 p4 p5 p6 q0 q1 q2 q3 q4 q5 q6
    go_loopw [6] (fun j wr=>∃ k:Nat,k≤tn∧j=.int .i64 (k:Int)∧Below W2.heap.size W2 wr) (fun j _=>tn-(intOf j).toNat)
    case atStart=>exact ⟨0,Nat.zero_le _,rfl,hWr⟩
    case round =>
     clear hWr
     obtain ⟨k,hk,rfl,hWr⟩:=hrel
     obtain ⟨p0,p1,p2,p3,p4,p5,p6,q0,q1,q2,q3,q4,q5,q6⟩:=hS.out _ hWr
     by_cases hlt:k<tn
     ·have hki:(k:Int)<(tn:Int):=by omega
      obtain ⟨r1,r2,-⟩:=hTt.out _ hWr
      obtain ⟨ad,rfl,-⟩:=Reads.elK (k:=21) (fun _=>rfl) r1 HTN.out hlt
      obtain ⟨ad2,rfl,-⟩:=Reads.elK (k:=21) (fun _=>rfl) r2 HTN'.out hlt
      have hkl:k<tl.length:=by have:=HTN.out;omega
      have hkl':k<tl'.length:=by have:=HTN'.out;omega
      have hev:=HEQT.out k hkl hkl'
      have hxm:tl[k]'hkl∈tl:=List.getElem_mem _
      have hym:tl'[k]'hkl'∈tl':=List.getElem_mem _
      obtain ⟨x,hx⟩:∃ x,x=tl[k]'hkl:=⟨_,rfl⟩
      obtain ⟨y,hy⟩:∃ y,y=tl'[k]'hkl':=⟨_,rfl⟩
      rw [← hx] at hxm hev
      rw [← hy] at hym hev
      have hL1:Hid (∀ W,Below W2.heap.size W2 W→∀ (j:Nat) (v:Value),([.string ⟨x.into.toArray⟩,.int .i64 x.kind,.string ⟨x.nm.toArray⟩,.int .i64 x.frm,.int .i64 x.gd,.slice x.own.A x.own.n x.own.c,.int .i64 x.ix,.int .i64 x.ct,.string ⟨x.dt.toArray⟩,.int .u64 x.sm.a,.int .u64 x.sm.b,.int .u64 x.sm.c,.int .u64 x.sm.d,.slice x.body.A x.body.n x.body.c,.int .i64 x.at_,.int .i64 x.nx,.int .u64 x.sum.a,.int .u64 x.sum.b,.int .u64 x.sum.c,.int .u64 x.sum.d,.bool x.done])[j]?=some v→W.cell? ((ad.add (k*21)).add j)=some v):=by
       show ∀ W,_→∀ j v,_→_
       intro W hb j v hv
       obtain ⟨ad3,e3,-,hce⟩:=Reads.elK (k:=21) (fun _=>rfl) (hTt.out _ hb).1 HTN.out hlt
       injection e3 with e3
       subst e3
       rw [← hx] at hce
       rw [hce j (by have:=(List.getElem?_eq_some_iff.1 hv).1;simpa using this)]
       exact hv
      have hL2:Hid (∀ W,Below W2.heap.size W2 W→∀ (j:Nat) (v:Value),([.string ⟨y.into.toArray⟩,.int .i64 y.kind,.string ⟨y.nm.toArray⟩,.int .i64 y.frm,.int .i64 y.gd,.slice y.own.A y.own.n y.own.c,.int .i64 y.ix,.int .i64 y.ct,.string ⟨y.dt.toArray⟩,.int .u64 y.sm.a,.int .u64 y.sm.b,.int .u64 y.sm.c,.int .u64 y.sm.d,.slice y.body.A y.body.n y.body.c,.int .i64 y.at_,.int .i64 y.nx,.int .u64 y.sum.a,.int .u64 y.sum.b,.int .u64 y.sum.c,.int .u64 y.sum.d,.bool y.done])[j]?=some v→W.cell? ((ad2.add (k*21)).add j)=some v):=by
       show ∀ W,_→∀ j v,_→_
       intro W hb j v hv
       obtain ⟨ad3,e3,-,hce⟩:=Reads.elK (k:=21) (fun _=>rfl) (hTt.out _ hb).2.1 HTN'.out hlt
       injection e3 with e3
       subst e3
       rw [← hy] at hce
       rw [hce j (by have:=(List.getElem?_eq_some_iff.1 hv).1;simpa using this)]
       exact hv
      obtain ⟨G1,hG1⟩:∃ G,G=Value.agg #[.string ⟨x.into.toArray⟩,.int .i64 x.kind,.string ⟨x.nm.toArray⟩,.int .i64 x.frm,.int .i64 x.gd,.slice x.own.A x.own.n x.own.c,.int .i64 x.ix,.int .i64 x.ct,.string ⟨x.dt.toArray⟩,.int .u64 x.sm.a,.int .u64 x.sm.b,.int .u64 x.sm.c,.int .u64 x.sm.d,.slice x.body.A x.body.n x.body.c,.int .i64 x.at_,.int .i64 x.nx,.int .u64 x.sum.a,.int .u64 x.sum.b,.int .u64 x.sum.c,.int .u64 x.sum.d,.bool x.done]:=⟨_,rfl⟩
      obtain ⟨G2,hG2⟩:∃ G,G=Value.agg #[.string ⟨y.into.toArray⟩,.int .i64 y.kind,.string ⟨y.nm.toArray⟩,.int .i64 y.frm,.int .i64 y.gd,.slice y.own.A y.own.n y.own.c,.int .i64 y.ix,.int .i64 y.ct,.string ⟨y.dt.toArray⟩,.int .u64 y.sm.a,.int .u64 y.sm.b,.int .u64 y.sm.c,.int .u64 y.sm.d,.slice y.body.A y.body.n y.body.c,.int .i64 y.at_,.int .i64 y.nx,.int .u64 y.sum.a,.int .u64 y.sum.b,.int .u64 y.sum.c,.int .u64 y.sum.d,.bool y.done]:=⟨_,rfl⟩
      have HG1:=Lib.hid hG1
      have HG2:=Lib.hid hG2
      have hSS:Hid (∀ W,Below W2.heap.size W2 W→Calls Tryz.prog 75 #[G1,G2] W fun e W'=>e=.returned (.bool true)∧Below W.heap.size W W'):=fun W hb=>by
       obtain ⟨-,-,u3,u4,u5⟩:=hTt.out _ hb
       rw [hG1,hG2]
       exact sameStageR_any x y hev W B u3 (u4 _ hxm) (u5 _ hym) (HZT.out _ hxm)
      clear hx hy hev hxm hym r1 r2 hTt HEQT HZT hG1 hG2
      go_wp2_with fail
      clear p0 p1 p2 p3 p4 p5 p6 q0 q1 q2 q3 q4 q5 q6
      refine wpC_regionH (fun W'=>Below W2.heap.size W2 W') (hWr.drew) (fun OPS D QQ HO HD HD2 HQQ=>?_)
      clear HO
      refine zX ?_
      refine wpC_readS (v:=?_) rfl rfl (fun W hW=>?_) ?_
      rotate_left
      ·replace hW:=HD.out W hW
       skip
       obtain ⟨-,-,-,-,-,p5,-⟩:=hS.out _ hW
       go_simp;try (with_reducible rfl)
      dsimp only [zB,zC]
      iterate 2 refine zX ?_
      refine wpC_readS (v:=G1) rfl rfl (fun W hW=>?_) ?_
      ·replace hW:=HD.out W hW
       rw [HG1.out]
       exact quiet_load_at 103 _ rfl (ad.add (k*21)) rfl [.string ⟨x.into.toArray⟩,.int .i64 x.kind,.string ⟨x.nm.toArray⟩,.int .i64 x.frm,.int .i64 x.gd,.slice x.own.A x.own.n x.own.c,.int .i64 x.ix,.int .i64 x.ct,.string ⟨x.dt.toArray⟩,.int .u64 x.sm.a,.int .u64 x.sm.b,.int .u64 x.sm.c,.int .u64 x.sm.d,.slice x.body.A x.body.n x.body.c,.int .i64 x.at_,.int .i64 x.nx,.int .u64 x.sum.a,.int .u64 x.sum.b,.int .u64 x.sum.c,.int .u64 x.sum.d,.bool x.done] _ (hL1.out W hW) Tryz.underlying103 rfl (by kernel_rfl)
      dsimp only [zB,zC]
      refine zX ?_
      refine wpC_readS (v:=?_) rfl rfl (fun W hW=>?_) ?_
      rotate_left
      ·replace hW:=HD.out W hW
       skip
       obtain ⟨-,-,-,-,-,-,-,-,-,-,-,-,q5,-⟩:=hS.out _ hW
       go_simp;try (with_reducible rfl)
      dsimp only [zB,zC]
      iterate 2 refine zX ?_
      refine wpC_readS (v:=G2) rfl rfl (fun W hW=>?_) ?_
      ·replace hW:=HD.out W hW
       rw [HG2.out]
       exact quiet_load_at 103 _ rfl (ad2.add (k*21)) rfl [.string ⟨y.into.toArray⟩,.int .i64 y.kind,.string ⟨y.nm.toArray⟩,.int .i64 y.frm,.int .i64 y.gd,.slice y.own.A y.own.n y.own.c,.int .i64 y.ix,.int .i64 y.ct,.string ⟨y.dt.toArray⟩,.int .u64 y.sm.a,.int .u64 y.sm.b,.int .u64 y.sm.c,.int .u64 y.sm.d,.slice y.body.A y.body.n y.body.c,.int .i64 y.at_,.int .i64 y.nx,.int .u64 y.sum.a,.int .u64 y.sum.b,.int .u64 y.sum.c,.int .u64 y.sum.d,.bool y.done] _ (hL2.out W hW) Tryz.underlying103 rfl (by kernel_rfl)
      dsimp only [zB,zC]
      refine zN hSS.out ?_
      refine zX ?_
      refine wpQuiet_nil (HQQ.out _ (fun W hW=>?_))
      skip
      go_wp2_with fail
      go_roundw
      case rel=>exact ⟨k+1,by omega,by go_num,hW⟩
      case measure=>simp [intOf];omega
     ·clear hTt
      go_wp2_with fail
      go_ret
      exact ⟨rfl,HB2.out.trans (hWr.mono (by have:=HSZ.out;omega))⟩
theorem same14_any (x y:TenR) (h:x.eqv y) (w:World) (B:Nat) (hB:B≤w.heap.size) (hx:x.rd w B) (hy:y.rd w B) (hz:x.sz) :
  Calls Tryz.prog 21 #[x.val,y.val] w fun e w'=>e=.returned (.bool true)∧Below w.heap.size w w':=by
 obtain ⟨h1,h2,h3,h4,h5,h6,h7,h8,h9⟩:=h
 obtain ⟨nm,quota,next,⟨s1,sn,s3,sl⟩,⟨g1,gn,g3,gl⟩,⟨t1,tn,t3,tl⟩,⟨l1,ln,l3,ll⟩⟩:=x
 obtain ⟨nm',quota',next',⟨s1',sn',s3',sl'⟩,⟨g1',gn',g3',gl'⟩,⟨t1',tn',t3',tl'⟩,⟨l1',ln',l3',ll'⟩⟩:=y
 simp only at h1 h2 h3 h4 h5 h6 h7 h8 h9
 subst h1 h2 h3 h6 h9
 have e1:sn'=sn:=by rw [show sn'=sl'.length from hy.sets.1,show sn=sl.length from hx.sets.1,h4]
 have e2:gn'=gn:=hy.grants.1.trans hx.grants.1.symm
 have e3:tn'=tn:=by rw [show tn'=tl'.length from hy.stages.1,show tn=tl.length from hx.stages.1,h7]
 have e4:ln'=ln:=hy.log.1.trans hx.log.1.symm
 subst e1 e2 e3 e4
 exact sameTenT_any nm quota next sl sl' gl tl tl' ll s1 s1' sn' s3 s3' g1 g1' gn' g3 g3' t1 t1' tn' t3 t3' l1 l1' ln' l3 l3' w B hB hx hy hz h5 h8
end Go.Proofs.YtcgclpcocdappaaGreatDoor
namespace Go.Proofs.YtcgclpcocdappaaGreatDoor
open Go.RowKit
def heldB (l:List SetR) (p n:BS):Bool:=match l.find? (fun s=>s.path == p) with
 | none=>false
 | some s=>match s.snaps.l.find? (fun x=>x.nm == n) with
  | none=>false
  | some x=>decide (0<x.tags.n)
set_option maxRecDepth 100000 in
set_option maxHeartbeats 4000000 in
theorem held_any (t:TenR) (p n:BS) (w:World) (B:Nat) (hB:B≤w.heap.size) (hr:t.rd w B) (hz:t.sz) :
  Calls Tryz.prog 39 #[t.val,.string ⟨p.toArray⟩,.string ⟨n.toArray⟩] w fun e w'=>e=.returned (.bool (heldB t.sets.l p n))∧Below w.heap.size w w':=by
 obtain ⟨nm,qu,nx,⟨s1,sn,s3,sl⟩,⟨g1,gn,g3,gl⟩,⟨t1,tn,t3,tl⟩,⟨l1,ln,l3,ll⟩⟩:=t
 show Calls Tryz.prog 39 #[.agg #[.string ⟨nm.toArray⟩,.int .i64 qu,.int .i64 nx,.slice s1 sn s3,.slice g1 gn g3,.slice t1 tn t3,.slice l1 ln l3],.string ⟨p.toArray⟩,.string ⟨n.toArray⟩] w fun e w'=>e=.returned (.bool (heldB sl p n))∧Below w.heap.size w w'
 have hb1:=(Below.refl w.heap.size w).alloc (Nat.le_refl _) (.cells #[.string ⟨nm.toArray⟩,.int .i64 qu,.int .i64 nx,.slice s1 sn s3,.slice g1 gn g3,.slice t1 tn t3,.slice l1 ln l3] 27)
 have kT:=Blk.new w 27 #[.string ⟨nm.toArray⟩,.int .i64 qu,.int .i64 nx,.slice s1 sn s3,.slice g1 gn g3,.slice t1 tn t3,.slice l1 ln l3]
 obtain ⟨W1,hW1⟩:∃ W,W=w.alloc (.cells #[.string ⟨nm.toArray⟩,.int .i64 qu,.int .i64 nx,.slice s1 sn s3,.slice g1 gn g3,.slice t1 tn t3,.slice l1 ln l3] 27):=⟨_,rfl⟩
 have hsz1:W1.heap.size=w.heap.size+1:=by rw [hW1];simp
 rw [← hW1] at hb1 kT
 have hT:=Lib.hid (fun (W':World) (hB':Below W1.heap.size W1 W')=>(⟨(kT.below hB' (by omega)).cell 0,(kT.below hB' (by omega)).cell 1,(kT.below hB' (by omega)).cell 2,(kT.below hB' (by omega)).cell 3,(kT.below hB' (by omega)).cell 4,(kT.below hB' (by omega)).cell 5,(kT.below hB' (by omega)).cell 6⟩:W'.cell? ⟨w.heap.size,0,none⟩=some (.string ⟨nm.toArray⟩)∧W'.cell? ⟨w.heap.size,1,none⟩=some (.int .i64 qu)∧W'.cell? ⟨w.heap.size,2,none⟩=some (.int .i64 nx)∧W'.cell? ⟨w.heap.size,3,none⟩=some (.slice s1 sn s3)∧W'.cell? ⟨w.heap.size,4,none⟩=some (.slice g1 gn g3)∧W'.cell? ⟨w.heap.size,5,none⟩=some (.slice t1 tn t3)∧W'.cell? ⟨w.heap.size,6,none⟩=some (.slice l1 ln l3)))
 have hrw:Hid (∀ W,Below W1.heap.size W1 W→TenR.rd W B ⟨nm,qu,nx,⟨s1,sn,s3,sl⟩,⟨g1,gn,g3,gl⟩,⟨t1,tn,t3,tl⟩,⟨l1,ln,l3,ll⟩⟩∧w.heap.size<W.heap.size):=by
  show ∀ W,_→_
  intro W h
  have h1:=hb1.trans (h.mono (by omega))
  exact ⟨TenR.rd.below hr (h1.mono hB),by have:=h.size;omega⟩
 have HZ:=Lib.hid hz
 have HSN:=Lib.hid (show sn=sl.length from hr.sets.1)
 have hc:Calls Tryz.prog 57 #[.agg #[.string ⟨nm.toArray⟩,.int .i64 qu,.int .i64 nx,.slice s1 sn s3,.slice g1 gn g3,.slice t1 tn t3,.slice l1 ln l3],.string ⟨p.toArray⟩] W1 fun e w'=>e=.returned (.int .i64 (findS sl p))∧Below W1.heap.size W1 w' :=
  find_any _ _ _ _ _ _ sl sn HSN.out s1 s3 p W1 B (hrw.out W1 (Below.refl _ _)).1.sets.2.2 (by omega) (by have:=hz.sets;simp only at this;omega)
 have HB1:=Lib.hid hb1
 have HSZ1:=Lib.hid hsz1
 obtain ⟨c0,c1,c2,c3,c4,c5,c6⟩:=hT.out _ (Below.refl _ _)
 clear hb1 kT hr hz hsz1
 go_enter Tryz.func39,Tryz.ntmps39
 go_wp2_with fail
 rw [← hW1]
 clear hW1
 refine hc.mono ?_
 clear hc c0 c1 c2 c3 c4 c5 c6
 rintro e w5 ⟨rfl,hb5⟩
 have HW5:=Lib.hid hb5
 clear hb5
 rcases firstI_cases (fun s:SetR=>s.path == p) sl with ⟨h1,h2⟩ | ⟨k,hkl,h1,h2⟩
 ·have h1:findS sl p=-1:=h1
  have HH:Hid (heldB sl p n=false):=by show _=_;unfold heldB;rw [h2]
  rw [h1]
  clear h1 h2
  go_wp2_with fail
  go_ret
  exact ⟨by rw [HH.out];rfl,HB1.out.trans (HW5.out.mono (by have:=HSZ1.out;omega))⟩
 ·have h1:findS sl p=(k:Int):=h1
  rw [h1]
  have hk0:¬ (k:Int)<0:=by omega
  have hk00:(0:Int)≤(k:Int):=by omega
  have hks:k<sn:=by have:=HSN.out;omega
  have hki:(k:Int)<(sn:Int):=by omega
  obtain ⟨ad,hsa,-,q0,q1,q2,q3,q4⟩:=set_at (hrw.out w5 HW5.out).1.sets.2.2 HSN.out hks
  simp only at hsa
  subst hsa
  have HX:Hid (∀ W,Below W1.heap.size W1 W→(sl[k]'hkl).rd W B∧W.cell? ⟨(ad.add (k*5)).block,(ad.add (k*5)).off+3,none⟩=some (.slice (sl[k]'hkl).snaps.A (sl[k]'hkl).snaps.n (sl[k]'hkl).snaps.c)):=by
   show ∀ W,_→_
   intro W hW
   obtain ⟨ad',e',-,-,-,-,q',-⟩:=set_at (hrw.out W hW).1.sets.2.2 HSN.out hks
   injection e' with e'
   subst e'
   exact ⟨(hrw.out W hW).1.eachS _ (List.getElem_mem hkl),q'⟩
  have hzx:=HZ.out.eachS _ (List.getElem_mem hkl)
  have HH:Hid (heldB sl p n=match (sl[k]'hkl).snaps.l.find? (fun x=>x.nm == n) with | none=>false | some x=>decide (0<x.tags.n)):=by show _=_;unfold heldB;rw [h2]
  obtain ⟨x,hxx⟩:∃ x,x=sl[k]'hkl:=⟨_,rfl⟩
  rw [← hxx] at q0 q1 q2 q3 q4 HX hzx HH
  clear hxx h1 h2
  have hx:=(HX.out w5 HW5.out).1
  have hc:=snapAt_any (.string ⟨x.path.toArray⟩) (.string ⟨x.org.toArray⟩) (.slice x.body.A x.body.n x.body.c) (.slice x.own.A x.own.n x.own.c) x.snaps.l x.snaps.n hx.snaps.1 x.snaps.A x.snaps.c n w5 B hx.snaps.2.2 (by have:=(hrw.out w5 HW5.out).2;omega) (by have:=hzx.snaps;omega)
  obtain ⟨pa,og,⟨bA,bnn,bc,bl⟩,⟨zA,zn,zc,zl⟩,⟨oA,on,oc,ol⟩⟩:=x
  simp only at q0 q1 q2 q3 q4 hc HH HX
  have HZN:Hid (zn=zl.length):=hx.snaps.1
  obtain ⟨c0,c1,c2,c3,c4,c5,c6⟩:=hT.out _ HW5.out
  clear hx hzx
  go_wp2_with fail
  refine hc.mono ?_
  clear hc c0 c1 c2 c3 c4 c5 c6 q0 q1 q2 q3 q4
  rintro e w6 ⟨rfl,hb6⟩
  have HW6:=Lib.hid (HW5.out.trans (hb6.mono HW5.out.size))
  clear hb6 HW5
  rcases firstI_cases (fun x:SnapR=>x.nm == n) zl with ⟨h1,h2⟩ | ⟨m,hml,h1,h2⟩
  ·have h1:findN zl n=-1:=h1
   have HH2:Hid (heldB sl p n=false):=by show _=_;rw [HH.out,h2]
   rw [h1]
   clear h1 h2 HH
   go_wp2_with fail
   go_ret
   exact ⟨by rw [HH2.out];rfl,HB1.out.trans (HW6.out.mono (by have:=HSZ1.out;omega))⟩
  ·have h1:findN zl n=(m:Int):=h1
   rw [h1]
   have HH2:Hid (heldB sl p n=decide (0<(zl[m]'hml).tags.n)):=by show _=_;rw [HH.out,h2]
   have hm0:(0:Int)≤(m:Int):=by omega
   have hmz:m<zn:=by have:=HZN.out;omega
   have hmi:(m:Int)<(zn:Int):=by omega
   obtain ⟨hx6,q3⟩:=HX.out w6 HW6.out
   obtain ⟨ad2,hsa,-,-,-,-,r3,-⟩:=snap_at hx6.snaps.2.2 HZN.out hmz
   simp only at hsa
   subst hsa
   obtain ⟨tg,htg⟩:∃ v,v=(zl[m]'hml).tags:=⟨_,rfl⟩
   simp only at r3
   rw [← htg] at r3 HH2
   obtain ⟨tA,tgn,tc,tgl⟩:=tg
   simp only at r3 HH2
   obtain ⟨c0,c1,c2,c3,c4,c5,c6⟩:=hT.out _ HW6.out
   clear h1 h2 HH htg hx6 HX
   by_cases htg0:0<tgn
   ·have ht:(0:Int)<(tgn:Int):=by omega
    have HD:Hid (heldB sl p n=true):=by show _=_;rw [HH2.out];exact decide_eq_true htg0
    clear HH2
    go_wp2_with fail
    go_ret
    exact ⟨by rw [HD.out];rfl,HB1.out.trans (HW6.out.mono (by have:=HSZ1.out;omega))⟩
   ·have ht:¬ (0:Int)<(tgn:Int):=by omega
    have HD:Hid (heldB sl p n=false):=by show _=_;rw [HH2.out];exact decide_eq_false htg0
    clear HH2
    go_wp2_with fail
    go_ret
    exact ⟨by rw [HD.out];rfl,HB1.out.trans (HW6.out.mono (by have:=HSZ1.out;omega))⟩
end Go.Proofs.YtcgclpcocdappaaGreatDoor
namespace Go.Proofs.YtcgclpcocdappaaGreatDoor
open Go.RowKit
def TenC.heldC (c:TenC) (p n:BS):Bool:=match c.sets.find? (fun s=>s.path == p) with
 | none=>false
 | some s=>match s.snaps.find? (fun x=>x.nm == n) with
  | none=>false
  | some x=>decide (0<x.tags.length)
theorem held_con (t:TenR) (w:World) (B:Nat) (hr:t.rd w B) (p n:BS):heldB t.sets.l p n=t.con.heldC p n:=by
 unfold heldB TenC.heldC
 rw [show t.con.sets=t.sets.l.map SetR.con from rfl,find_map]
 have e:(t.sets.l.find? fun x:SetR=>(SetR.con x).path == p)=t.sets.l.find? fun x=>x.path == p:=rfl
 rw [e]
 cases h:t.sets.l.find? (fun x=>x.path == p) with
 | none=>rfl
 | some s =>
  have hs:=hr.eachS s (List.mem_of_find?_eq_some h)
  simp only [Option.map_some]
  rw [show s.con.snaps=s.snaps.l.map SnapR.con from rfl,find_map]
  have e:(s.snaps.l.find? fun x:SnapR=>(SnapR.con x).nm == n)=s.snaps.l.find? fun x=>x.nm == n:=rfl
  rw [e]
  cases h2:s.snaps.l.find? (fun x=>x.nm == n) with
  | none=>rfl
  | some x =>
   simp only [Option.map_some]
   rw [(hs.each x (List.mem_of_find?_eq_some h2)).tags.1]
   rfl
theorem find_nodup {l:List SnapC} (h:(l.map SnapC.nm).Nodup) {x:SnapC} (hx:x∈l):l.find? (fun y=>y.nm == x.nm)=some x:=by
 induction l with
 | nil=>cases hx
 | cons y r ih =>
  rw [List.map_cons,List.nodup_cons] at h
  rcases List.mem_cons.1 hx with rfl | hx
  ·rw [List.find?_cons_of_pos (by simp)]
  ·rw [List.find?_cons_of_neg (by
    intro e
    have e:y.nm=x.nm:=by simpa using e
    exact h.1 (by rw [e];exact List.mem_map_of_mem hx))]
   exact ih h.2 hx
end Go.Proofs.YtcgclpcocdappaaGreatDoor
