/-
  The page's Same at tenants of one content: it answers true. An argument that is a tenant. shape.asked, shape.place: a path that may be asked; a set's place.
-/
import Derived.Test.YtcgclpcocdappaaGreatDoorXM1
import Derived.Test.YtcgclpcocdappaaGreatDoorX0
import Derived.Test.YtcgclpcocdappaaGreatDoorX17
import Derived.Test.YtcgclpcocdappaaGreatDoorX4
import Derived.Test.YtcgclpcocdappaaGreatDoorX19
import Derived.Test.YtcgclpcocdappaaGreatDoorX12
import Derived.Test.YtcgclpcocdappaaGreatDoorX3
import Derived.Test.YtcgclpcocdappaaGreatDoorX6
namespace Go.Proofs.YtcgclpcocdappaaGreatDoor
open Go.RowKit
/-- stages of one content -/
structure StageR.eqv (x y:StageR):Prop where
 into:x.into=y.into
 kind:x.kind=y.kind
 nm:x.nm=y.nm
 frm:x.frm=y.frm
 gd:x.gd=y.gd
 own:x.own.l=y.own.l
 ix:x.ix=y.ix
 ct:x.ct=y.ct
 dt:x.dt=y.dt
 sm:x.sm=y.sm
 body:x.body.l=y.body.l
 at_:x.at_=y.at_
 nx:x.nx=y.nx
 sum:x.sum=y.sum
 done:x.done=y.done
theorem sameStageR_any (x y:StageR) (h:x.eqv y) (w:World) (B:Nat) (hB:B≤w.heap.size) (hx:x.rd w B) (hy:y.rd w B) (hz:x.sz) :
  Calls Tryz.prog 75 #[.agg #[.string ⟨x.into.toArray⟩,.int .i64 x.kind,.string ⟨x.nm.toArray⟩,.int .i64 x.frm,.int .i64 x.gd,.slice x.own.A x.own.n x.own.c,.int .i64 x.ix,.int .i64 x.ct,.string ⟨x.dt.toArray⟩,.int .u64 x.sm.a,.int .u64 x.sm.b,.int .u64 x.sm.c,.int .u64 x.sm.d,.slice x.body.A x.body.n x.body.c,.int .i64 x.at_,.int .i64 x.nx,.int .u64 x.sum.a,.int .u64 x.sum.b,.int .u64 x.sum.c,.int .u64 x.sum.d,.bool x.done],.agg #[.string ⟨y.into.toArray⟩,.int .i64 y.kind,.string ⟨y.nm.toArray⟩,.int .i64 y.frm,.int .i64 y.gd,.slice y.own.A y.own.n y.own.c,.int .i64 y.ix,.int .i64 y.ct,.string ⟨y.dt.toArray⟩,.int .u64 y.sm.a,.int .u64 y.sm.b,.int .u64 y.sm.c,.int .u64 y.sm.d,.slice y.body.A y.body.n y.body.c,.int .i64 y.at_,.int .i64 y.nx,.int .u64 y.sum.a,.int .u64 y.sum.b,.int .u64 y.sum.c,.int .u64 y.sum.d,.bool y.done]] w fun e w'=>e=.returned (.bool true)∧Below w.heap.size w w':=by
 obtain ⟨h1,h2,h3,h4,h5,h6,h7,h8,h9,h10,h11,h12,h13,h14,h15⟩:=h
 obtain ⟨into,kind,nm,frm,gd,⟨o1,on,o3,ol⟩,ix,ct,dt,⟨sa,sb,sc,sd⟩,⟨b1,bn,b3,bl⟩,at_,nx,⟨ua,ub,uc,ud⟩,done⟩:=x
 obtain ⟨into',kind',nm',frm',gd',⟨o1',on',o3',ol'⟩,ix',ct',dt',sm',⟨b1',bn',b3',bl'⟩,at_',nx',sum',done'⟩:=y
 simp only at h1 h2 h3 h4 h5 h6 h7 h8 h9 h10 h11 h12 h13 h14 h15
 subst h1 h2 h3 h4 h5 h6 h7 h8 h9 h10 h11 h12 h13 h14 h15
 have e1:bn'=bn:=hy.body.1.trans hx.body.1.symm
 have e3:on'=on:=hy.own.1.trans hx.own.1.symm
 subst e1 e3
 exact sameStageT_any into kind nm frm gd ol o1 o1' on' o3 o3' ix ct dt sa sb sc sd bl b1 b1' bn' b3 b3' at_ nx ua ub uc ud done w B hB hx.own.1 hx.own.2.2 hy.own.2.2 hz.own hx.body.1 hx.body.2.2 hy.body.2.2 hz.body
set_option maxRecDepth 100000 in
set_option maxHeartbeats 8000000 in
theorem sameTenT_any (nm:BS) (quota next:Int) (sl sl':List SetR) (gl:GL) (tl tl':List StageR) (ll:List EntryR) (s1 s1':Option Addr) (sn s3 s3':Nat) (g1 g1':Option Addr) (gn g3 g3':Nat) (t1 t1':Option Addr) (tn t3 t3':Nat) (l1 l1':Option Addr) (ln l3 l3':Nat) (w:World) (B:Nat) (hB:B≤w.heap.size)
  (hx:TenR.rd w B ⟨nm,quota,next,⟨s1,sn,s3,sl⟩,⟨g1,gn,g3,gl⟩,⟨t1,tn,t3,tl⟩,⟨l1,ln,l3,ll⟩⟩) (hy:TenR.rd w B ⟨nm,quota,next,⟨s1',sn,s3',sl'⟩,⟨g1',gn,g3',gl⟩,⟨t1',tn,t3',tl'⟩,⟨l1',ln,l3',ll⟩⟩) (hz:TenR.sz ⟨nm,quota,next,⟨s1,sn,s3,sl⟩,⟨g1,gn,g3,gl⟩,⟨t1,tn,t3,tl⟩,⟨l1,ln,l3,ll⟩⟩)
  (heS:∀ i (h:i<sl.length) (h':i<sl'.length),(sl[i]'h).eqv (sl'[i]'h')) (heT:∀ i (h:i<tl.length) (h':i<tl'.length),(tl[i]'h).eqv (tl'[i]'h')) :
  Calls Tryz.prog 21 #[.agg #[.string ⟨nm.toArray⟩,.int .i64 quota,.int .i64 next,.slice s1 sn s3,.slice g1 gn g3,.slice t1 tn t3,.slice l1 ln l3],.agg #[.string ⟨nm.toArray⟩,.int .i64 quota,.int .i64 next,.slice s1' sn s3',.slice g1' gn g3',.slice t1' tn t3',.slice l1' ln l3']] w fun e w'=>e=.returned (.bool true)∧Below w.heap.size w w':=by
 have hb1:=(Below.refl w.heap.size w).alloc (Nat.le_refl _) (.cells #[.string ⟨nm.toArray⟩,.int .i64 quota,.int .i64 next,.slice s1 sn s3,.slice g1 gn g3,.slice t1 tn t3,.slice l1 ln l3] 27)
 have hb2:=hb1.alloc hb1.size (.cells #[.string ⟨nm.toArray⟩,.int .i64 quota,.int .i64 next,.slice s1' sn s3',.slice g1' gn g3',.slice t1' tn t3',.slice l1' ln l3'] 27)
 have k1:=(Blk.new w 27 #[.string ⟨nm.toArray⟩,.int .i64 quota,.int .i64 next,.slice s1 sn s3,.slice g1 gn g3,.slice t1 tn t3,.slice l1 ln l3]).alloc (.cells #[.string ⟨nm.toArray⟩,.int .i64 quota,.int .i64 next,.slice s1' sn s3',.slice g1' gn g3',.slice t1' tn t3',.slice l1' ln l3'] 27)
 have k2:=Blk.new (w.alloc (.cells #[.string ⟨nm.toArray⟩,.int .i64 quota,.int .i64 next,.slice s1 sn s3,.slice g1 gn g3,.slice t1 tn t3,.slice l1 ln l3] 27)) 27 #[.string ⟨nm.toArray⟩,.int .i64 quota,.int .i64 next,.slice s1' sn s3',.slice g1' gn g3',.slice t1' tn t3',.slice l1' ln l3']
 rw [show (w.alloc (.cells #[.string ⟨nm.toArray⟩,.int .i64 quota,.int .i64 next,.slice s1 sn s3,.slice g1 gn g3,.slice t1 tn t3,.slice l1 ln l3] 27)).heap.size=w.heap.size+1 by simp] at k2
 obtain ⟨W2,hW2⟩:∃ W,W=(w.alloc (.cells #[.string ⟨nm.toArray⟩,.int .i64 quota,.int .i64 next,.slice s1 sn s3,.slice g1 gn g3,.slice t1 tn t3,.slice l1 ln l3] 27)).alloc (.cells #[.string ⟨nm.toArray⟩,.int .i64 quota,.int .i64 next,.slice s1' sn s3',.slice g1' gn g3',.slice t1' tn t3',.slice l1' ln l3'] 27):=⟨_,rfl⟩
 have hsz:W2.heap.size=w.heap.size+2:=tZ53
 rw [← hW2] at hb2 k1 k2
 have hS:=Lib.hid (fun (W':World) (hB':Below W2.heap.size W2 W')=>(⟨(k1.below hB' tZ1).cell 0,(k1.below hB' tZ1).cell 1,(k1.below hB' tZ1).cell 2,(k1.below hB' tZ1).cell 3,(k1.below hB' tZ1).cell 4,(k1.below hB' tZ1).cell 5,(k1.below hB' tZ1).cell 6,(k2.below hB' tZ1).cell 0,(k2.below hB' tZ1).cell 1,(k2.below hB' tZ1).cell 2,(k2.below hB' tZ1).cell 3,(k2.below hB' tZ1).cell 4,(k2.below hB' tZ1).cell 5,(k2.below hB' tZ1).cell 6⟩:W'.cell? ⟨w.heap.size,0,none⟩=some (.string ⟨nm.toArray⟩)∧W'.cell? ⟨w.heap.size,1,none⟩=some (.int .i64 quota)∧W'.cell? ⟨w.heap.size,2,none⟩=some (.int .i64 next)∧W'.cell? ⟨w.heap.size,3,none⟩=some (.slice s1 sn s3)∧W'.cell? ⟨w.heap.size,4,none⟩=some (.slice g1 gn g3)∧W'.cell? ⟨w.heap.size,5,none⟩=some (.slice t1 tn t3)∧W'.cell? ⟨w.heap.size,6,none⟩=some (.slice l1 ln l3)∧W'.cell? ⟨w.heap.size+1,0,none⟩=some (.string ⟨nm.toArray⟩)∧W'.cell? ⟨w.heap.size+1,1,none⟩=some (.int .i64 quota)∧W'.cell? ⟨w.heap.size+1,2,none⟩=some (.int .i64 next)∧W'.cell? ⟨w.heap.size+1,3,none⟩=some (.slice s1' sn s3')∧W'.cell? ⟨w.heap.size+1,4,none⟩=some (.slice g1' gn g3')∧W'.cell? ⟨w.heap.size+1,5,none⟩=some (.slice t1' tn t3')∧W'.cell? ⟨w.heap.size+1,6,none⟩=some (.slice l1' ln l3')))
 have HSZ:=Lib.hid hsz
 have HB2:=Lib.hid hb2
 have hmv:∀ W',Below W2.heap.size W2 W'→Below B w W':=fun W' hB'=>(hb2.trans (hB'.mono tZ1)).mono hB
 have hGr:Hid (∀ W,Below W2.heap.size W2 W→Calls Tryz.prog 72 #[.slice g1 gn g3,.slice g1' gn g3'] W fun e W'=>e=.returned (.bool true)∧Below W.heap.size W W'):=fun W h=>sameGT_any gl gn hx.grants.1 g1 g1' g3 g3' W B (hx.grants.2.2.below (hmv W h)) (hy.grants.2.2.below (hmv W h)) hz.grants
 have hLg:Hid (∀ W,Below W2.heap.size W2 W→Calls Tryz.prog 73 #[.slice l1 ln l3,.slice l1' ln l3'] W fun e W'=>e=.returned (.bool true)∧Below W.heap.size W W'):=fun W h=>sameLogT_any ll ln hx.log.1 l1 l1' l3 l3' W B (hx.log.2.2.below (hmv W h)) (hy.log.2.2.below (hmv W h)) hz.log
 have hTs:Hid (∀ W,Below W2.heap.size W2 W→Reads W B 5 s1 sn (cellsK encSet sl)∧Reads W B 5 s1' sn (cellsK encSet sl')∧B≤W.heap.size∧(∀ y∈sl,y.rd W B)∧∀ y∈sl',y.rd W B):=fun W h=>⟨(hx.below (hmv W h)).sets.2.2,(hy.below (hmv W h)).sets.2.2,by have:=h.size;omega,(hx.below (hmv W h)).eachS,(hy.below (hmv W h)).eachS⟩
 have hTt:Hid (∀ W,Below W2.heap.size W2 W→Reads W B 21 t1 tn (cellsK encStage tl)∧Reads W B 21 t1' tn (cellsK encStage tl')∧B≤W.heap.size∧(∀ y∈tl,y.rd W B)∧∀ y∈tl',y.rd W B):=fun W h=>⟨(hx.below (hmv W h)).stages.2.2,(hy.below (hmv W h)).stages.2.2,by have:=h.size;omega,(hx.below (hmv W h)).eachG,(hy.below (hmv W h)).eachG⟩
 have HSN:=Lib.hid (show sn=sl.length from hx.sets.1)
 have HSN':=Lib.hid (show sn=sl'.length from hy.sets.1)
 have HTN:=Lib.hid (show tn=tl.length from hx.stages.1)
 have HTN':=Lib.hid (show tn=tl'.length from hy.stages.1)
 have HEQS:=Lib.hid heS
 have HEQT:=Lib.hid heT
 have HZS:=Lib.hid (show ∀ y∈sl,y.sz from hz.eachS)
 have HZT:=Lib.hid (show ∀ y∈tl,y.sz from hz.eachT)
 have hsm:sn≤1000000000000:=hz.sets
 have htm:tn≤1000000000000:=hz.stages
 clear hb1 hb2 k1 k2 hsz hmv hx hy hz heS heT
 have hW0:=Below.refl W2.heap.size W2
 go_enter Tryz.func21,Tryz.ntmps21
 go_wp2_with fail
 rw [← hW2]
 clear hW2
 refine (hGr.out _ hW0).mono ?_
 rintro e w3 ⟨rfl,hb3⟩
 have hW3:=hW0.trans (hb3.mono hW0.size)
 clear hb3 hGr
 obtain ⟨p0,p1,p2,p3,p4,p5,p6,q0,q1,q2,q3,q4,q5,q6⟩:=hS.out _ hW3
 go_wp2_with fail
 refine (hLg.out _ hW3).mono ?_
 rintro e w4 ⟨rfl,hb4⟩
 have hW4:=hW3.trans (hb4.mono hW3.size)
 clear hb4 hLg p0 p1 p2 p3 p4 p5 p6 q0 q1 q2 q3 q4 q5 q6
 obtain ⟨p0,p1,p2,p3,p4,p5,p6,q0,q1,q2,q3,q4,q5,q6⟩:=hS.out _ hW4
 go_wp2_with fail
 clear p0 p1 p2 p3 p4 p5 p6 q0 q1 q2 q3 q4 q5 q6
 go_loopw [5] (fun j wr=>∃ k:Nat,k≤sn∧j=.int .i64 (k:Int)∧Below W2.heap.size W2 wr) (fun j _=>sn-(intOf j).toNat)
 case atStart=>exact ⟨0,Nat.zero_le _,rfl,hW4⟩
 case round =>
  clear hW4 hW3 hW0
  obtain ⟨k,hk,rfl,hWr⟩:=hrel
  obtain ⟨p0,p1,p2,p3,p4,p5,p6,q0,q1,q2,q3,q4,q5,q6⟩:=hS.out _ hWr
  by_cases hlt:k<sn
  ·have hki:(k:Int)<(sn:Int):=tZ1
   obtain ⟨r1,r2,-⟩:=hTs.out _ hWr
   obtain ⟨ad,rfl,-⟩:=set_at r1 HSN.out hlt
   obtain ⟨ad2,rfl,-⟩:=set_at r2 HSN'.out hlt
   have hkl:k<sl.length:=tZ113
   have hkl':k<sl'.length:=by have:=HSN'.out;omega
   have hev:=HEQS.out k hkl hkl'
   have hxm:sl[k]'hkl∈sl:=List.getElem_mem _
   have hym:sl'[k]'hkl'∈sl':=List.getElem_mem _
   have hX:Hid (∀ W,Below W2.heap.size W2 W→(W.cell? (ad.add (k*5))=some (.string ⟨(sl[k]'hkl).path.toArray⟩)∧W.cell? ⟨(ad.add (k*5)).block,(ad.add (k*5)).off+1,none⟩=some (.string ⟨(sl[k]'hkl).org.toArray⟩)∧W.cell? ⟨(ad.add (k*5)).block,(ad.add (k*5)).off+2,none⟩=some (.slice (sl[k]'hkl).body.A (sl[k]'hkl).body.n (sl[k]'hkl).body.c)∧W.cell? ⟨(ad.add (k*5)).block,(ad.add (k*5)).off+3,none⟩=some (.slice (sl[k]'hkl).snaps.A (sl[k]'hkl).snaps.n (sl[k]'hkl).snaps.c)∧W.cell? ⟨(ad.add (k*5)).block,(ad.add (k*5)).off+4,none⟩=some (.slice (sl[k]'hkl).own.A (sl[k]'hkl).own.n (sl[k]'hkl).own.c))∧(W.cell? (ad2.add (k*5))=some (.string ⟨(sl'[k]'hkl').path.toArray⟩)∧W.cell? ⟨(ad2.add (k*5)).block,(ad2.add (k*5)).off+1,none⟩=some (.string ⟨(sl'[k]'hkl').org.toArray⟩)∧W.cell? ⟨(ad2.add (k*5)).block,(ad2.add (k*5)).off+2,none⟩=some (.slice (sl'[k]'hkl').body.A (sl'[k]'hkl').body.n (sl'[k]'hkl').body.c)∧W.cell? ⟨(ad2.add (k*5)).block,(ad2.add (k*5)).off+3,none⟩=some (.slice (sl'[k]'hkl').snaps.A (sl'[k]'hkl').snaps.n (sl'[k]'hkl').snaps.c)∧W.cell? ⟨(ad2.add (k*5)).block,(ad2.add (k*5)).off+4,none⟩=some (.slice (sl'[k]'hkl').own.A (sl'[k]'hkl').own.n (sl'[k]'hkl').own.c))):=by
    show ∀ W,_→_
    intro W hb
    obtain ⟨u1,u2,-⟩:=hTs.out _ hb
    obtain ⟨ad3,e3,-,c⟩:=set_at u1 HSN.out hlt
    obtain ⟨ad4,e4,-,d⟩:=set_at u2 HSN'.out hlt
    injection e3 with e3
    injection e4 with e4
    subst e3 e4
    exact ⟨c,d⟩
   have hSS:Hid (∀ W,Below W2.heap.size W2 W→Calls Tryz.prog 74 #[.agg #[.string ⟨(sl[k]'hkl).path.toArray⟩,.string ⟨(sl[k]'hkl).org.toArray⟩,.slice (sl[k]'hkl).body.A (sl[k]'hkl).body.n (sl[k]'hkl).body.c,.slice (sl[k]'hkl).snaps.A (sl[k]'hkl).snaps.n (sl[k]'hkl).snaps.c,.slice (sl[k]'hkl).own.A (sl[k]'hkl).own.n (sl[k]'hkl).own.c],.agg #[.string ⟨(sl'[k]'hkl').path.toArray⟩,.string ⟨(sl'[k]'hkl').org.toArray⟩,.slice (sl'[k]'hkl').body.A (sl'[k]'hkl').body.n (sl'[k]'hkl').body.c,.slice (sl'[k]'hkl').snaps.A (sl'[k]'hkl').snaps.n (sl'[k]'hkl').snaps.c,.slice (sl'[k]'hkl').own.A (sl'[k]'hkl').own.n (sl'[k]'hkl').own.c]] W fun e W'=>e=.returned (.bool true)∧Below W.heap.size W W'):=fun W hb=>by
    obtain ⟨-,-,u3,u4,u5⟩:=hTs.out _ hb
    exact sameSetR_any _ _ hev W B u3 (u4 _ hxm) (u5 _ hym) (HZS.out _ hxm)
   obtain ⟨x,hx⟩:∃ x,x=sl[k]'hkl:=⟨_,rfl⟩
   obtain ⟨y,hy⟩:∃ y,y=sl'[k]'hkl':=⟨_,rfl⟩
   rw [← hx,← hy] at hX hSS
   obtain ⟨xa,xb,⟨f1,f2,f3,fl⟩,⟨h1,h2,h3,hl⟩,⟨u1,u2,u3,ul⟩⟩:=x
   obtain ⟨ya,yb,⟨f1',f2',f3',fl'⟩,⟨h1',h2',h3',hl'⟩,⟨u1',u2',u3',ul'⟩⟩:=y
   simp only at hX hSS
   clear hx hy hev hxm hym r1 r2 hTs HEQS HZS
   go_wp2_with fail
   clear p0 p1 p2 p3 p4 p5 p6 q0 q1 q2 q3 q4 q5 q6
   refine wpC_regionH (fun W'=>Below W2.heap.size W2 W') (hWr.drew) (fun OPS D QQ HO HD HD2 HQQ=>?_)
   clear HO
   refine zX ?_
   refine wpC_readS (v:=?_) rfl rfl (fun W hW=>?_) ?_
   rotate_left
   ·replace hW:=HD.out W hW
    skip
    obtain ⟨-,-,-,p3,-⟩:=hS.out _ hW
    exact mZ131
   dsimp only [zB,zC]
   iterate 2 refine zX ?_
   refine zM hX.out ?_
   refine zX ?_
   refine wpC_readS (v:=?_) rfl rfl (fun W hW=>?_) ?_
   rotate_left
   ·replace hW:=HD.out W hW
    skip
    obtain ⟨-,-,-,-,-,-,-,-,-,-,q3,-⟩:=hS.out _ hW
    exact mZ131
   dsimp only [zB,zC]
   iterate 2 refine zX ?_
   refine zM hX.out ?_
   exact mZ166
  ·clear hTs HEQS HZS
   as_aux_lemma =>
    go_wp2_with fail
    clear p0 p1 p2 p3 p4 p5 p6 q0 q1 q2 q3 q4 q5 q6
    go_loopw [6] (fun j wr=>∃ k:Nat,k≤tn∧j=.int .i64 (k:Int)∧Below W2.heap.size W2 wr) (fun j _=>tn-(intOf j).toNat)
    case atStart=>exact ⟨0,Nat.zero_le _,rfl,hWr⟩
    case round =>
     clear hWr
     obtain ⟨k,hk,rfl,hWr⟩:=hrel
     obtain ⟨p0,p1,p2,p3,p4,p5,p6,q0,q1,q2,q3,q4,q5,q6⟩:=hS.out _ hWr
     by_cases hlt:k<tn
     ·have hki:(k:Int)<(tn:Int):=tZ1
      obtain ⟨r1,r2,-⟩:=hTt.out _ hWr
      obtain ⟨ad,rfl,-⟩:=Reads.elK (k:=21) (fun _=>rfl) r1 HTN.out hlt
      obtain ⟨ad2,rfl,-⟩:=Reads.elK (k:=21) (fun _=>rfl) r2 HTN'.out hlt
      have hkl:k<tl.length:=tZ112
      have hkl':k<tl'.length:=by have:=HTN'.out;omega
      have hev:=HEQT.out k hkl hkl'
      have hxm:tl[k]'hkl∈tl:=List.getElem_mem _
      have hym:tl'[k]'hkl'∈tl':=List.getElem_mem _
      obtain ⟨x,hx⟩:∃ x,x=tl[k]'hkl:=⟨_,rfl⟩
      obtain ⟨y,hy⟩:∃ y,y=tl'[k]'hkl':=⟨_,rfl⟩
      rw [← hx] at hxm hev
      rw [← hy] at hym hev
      have hL1:Hid (∀ W,Below W2.heap.size W2 W→∀ (j:Nat) (v:Value),([.string ⟨x.into.toArray⟩,.int .i64 x.kind,.string ⟨x.nm.toArray⟩,.int .i64 x.frm,.int .i64 x.gd,.slice x.own.A x.own.n x.own.c,.int .i64 x.ix,.int .i64 x.ct,.string ⟨x.dt.toArray⟩,.int .u64 x.sm.a,.int .u64 x.sm.b,.int .u64 x.sm.c,.int .u64 x.sm.d,.slice x.body.A x.body.n x.body.c,.int .i64 x.at_,.int .i64 x.nx,.int .u64 x.sum.a,.int .u64 x.sum.b,.int .u64 x.sum.c,.int .u64 x.sum.d,.bool x.done])[j]?=some v→W.cell? ((ad.add (k*21)).add j)=some v):=by
       show ∀ W,_→∀ j v,_→_
       intro W hb j v hv
       obtain ⟨ad3,e3,-,hce⟩:=Reads.elK (k:=21) (fun _=>rfl) (hTt.out _ hb).1 HTN.out hlt
       injection e3 with e3
       subst e3
       rw [← hx] at hce
       exact mZ159
      have hL2:Hid (∀ W,Below W2.heap.size W2 W→∀ (j:Nat) (v:Value),([.string ⟨y.into.toArray⟩,.int .i64 y.kind,.string ⟨y.nm.toArray⟩,.int .i64 y.frm,.int .i64 y.gd,.slice y.own.A y.own.n y.own.c,.int .i64 y.ix,.int .i64 y.ct,.string ⟨y.dt.toArray⟩,.int .u64 y.sm.a,.int .u64 y.sm.b,.int .u64 y.sm.c,.int .u64 y.sm.d,.slice y.body.A y.body.n y.body.c,.int .i64 y.at_,.int .i64 y.nx,.int .u64 y.sum.a,.int .u64 y.sum.b,.int .u64 y.sum.c,.int .u64 y.sum.d,.bool y.done])[j]?=some v→W.cell? ((ad2.add (k*21)).add j)=some v):=by
       show ∀ W,_→∀ j v,_→_
       intro W hb j v hv
       obtain ⟨ad3,e3,-,hce⟩:=Reads.elK (k:=21) (fun _=>rfl) (hTt.out _ hb).2.1 HTN'.out hlt
       injection e3 with e3
       subst e3
       rw [← hy] at hce
       exact mZ159
      obtain ⟨G1,hG1⟩:∃ G,G=Value.agg #[.string ⟨x.into.toArray⟩,.int .i64 x.kind,.string ⟨x.nm.toArray⟩,.int .i64 x.frm,.int .i64 x.gd,.slice x.own.A x.own.n x.own.c,.int .i64 x.ix,.int .i64 x.ct,.string ⟨x.dt.toArray⟩,.int .u64 x.sm.a,.int .u64 x.sm.b,.int .u64 x.sm.c,.int .u64 x.sm.d,.slice x.body.A x.body.n x.body.c,.int .i64 x.at_,.int .i64 x.nx,.int .u64 x.sum.a,.int .u64 x.sum.b,.int .u64 x.sum.c,.int .u64 x.sum.d,.bool x.done]:=⟨_,rfl⟩
      obtain ⟨G2,hG2⟩:∃ G,G=Value.agg #[.string ⟨y.into.toArray⟩,.int .i64 y.kind,.string ⟨y.nm.toArray⟩,.int .i64 y.frm,.int .i64 y.gd,.slice y.own.A y.own.n y.own.c,.int .i64 y.ix,.int .i64 y.ct,.string ⟨y.dt.toArray⟩,.int .u64 y.sm.a,.int .u64 y.sm.b,.int .u64 y.sm.c,.int .u64 y.sm.d,.slice y.body.A y.body.n y.body.c,.int .i64 y.at_,.int .i64 y.nx,.int .u64 y.sum.a,.int .u64 y.sum.b,.int .u64 y.sum.c,.int .u64 y.sum.d,.bool y.done]:=⟨_,rfl⟩
      have HG1:=Lib.hid hG1
      have HG2:=Lib.hid hG2
      have hSS:Hid (∀ W,Below W2.heap.size W2 W→Calls Tryz.prog 75 #[G1,G2] W fun e W'=>e=.returned (.bool true)∧Below W.heap.size W W'):=fun W hb=>by
       obtain ⟨-,-,u3,u4,u5⟩:=hTt.out _ hb
       rw [hG1,hG2]
       exact sameStageR_any x y hev W B u3 (u4 _ hxm) (u5 _ hym) (HZT.out _ hxm)
      clear hx hy hev hxm hym r1 r2 hTt HEQT HZT hG1 hG2
      go_wp2_with fail
      clear p0 p1 p2 p3 p4 p5 p6 q0 q1 q2 q3 q4 q5 q6
      refine wpC_regionH (fun W'=>Below W2.heap.size W2 W') (hWr.drew) (fun OPS D QQ HO HD HD2 HQQ=>?_)
      clear HO
      refine zX ?_
      refine wpC_readS (v:=?_) rfl rfl (fun W hW=>?_) ?_
      rotate_left
      ·replace hW:=HD.out W hW
       skip
       obtain ⟨-,-,-,-,-,p5,-⟩:=hS.out _ hW
       exact mZ131
      dsimp only [zB,zC]
      iterate 2 refine zX ?_
      refine wpC_readS (v:=G1) rfl rfl (fun W hW=>?_) ?_
      ·replace hW:=HD.out W hW
       rw [HG1.out]
       exact quiet_load_at 103 _ rfl (ad.add (k*21)) rfl [.string ⟨x.into.toArray⟩,.int .i64 x.kind,.string ⟨x.nm.toArray⟩,.int .i64 x.frm,.int .i64 x.gd,.slice x.own.A x.own.n x.own.c,.int .i64 x.ix,.int .i64 x.ct,.string ⟨x.dt.toArray⟩,.int .u64 x.sm.a,.int .u64 x.sm.b,.int .u64 x.sm.c,.int .u64 x.sm.d,.slice x.body.A x.body.n x.body.c,.int .i64 x.at_,.int .i64 x.nx,.int .u64 x.sum.a,.int .u64 x.sum.b,.int .u64 x.sum.c,.int .u64 x.sum.d,.bool x.done] _ (hL1.out W hW) Tryz.underlying103 rfl tZ2
      dsimp only [zB,zC]
      refine zX ?_
      refine wpC_readS (v:=?_) rfl rfl (fun W hW=>?_) ?_
      rotate_left
      ·replace hW:=HD.out W hW
       skip
       obtain ⟨-,-,-,-,-,-,-,-,-,-,-,-,q5,-⟩:=hS.out _ hW
       exact mZ131
      dsimp only [zB,zC]
      iterate 2 refine zX ?_
      refine wpC_readS (v:=G2) rfl rfl (fun W hW=>?_) ?_
      ·replace hW:=HD.out W hW
       rw [HG2.out]
       exact quiet_load_at 103 _ rfl (ad2.add (k*21)) rfl [.string ⟨y.into.toArray⟩,.int .i64 y.kind,.string ⟨y.nm.toArray⟩,.int .i64 y.frm,.int .i64 y.gd,.slice y.own.A y.own.n y.own.c,.int .i64 y.ix,.int .i64 y.ct,.string ⟨y.dt.toArray⟩,.int .u64 y.sm.a,.int .u64 y.sm.b,.int .u64 y.sm.c,.int .u64 y.sm.d,.slice y.body.A y.body.n y.body.c,.int .i64 y.at_,.int .i64 y.nx,.int .u64 y.sum.a,.int .u64 y.sum.b,.int .u64 y.sum.c,.int .u64 y.sum.d,.bool y.done] _ (hL2.out W hW) Tryz.underlying103 rfl tZ2
      dsimp only [zB,zC]
      exact mZ166
     ·clear hTt
      exact mZ165
/-- tenants of one content -/
structure TenR.eqv (x y:TenR):Prop where
 nm:x.nm=y.nm
 quota:x.quota=y.quota
 next:x.next=y.next
 lenS:x.sets.l.length=y.sets.l.length
 eachS:∀ i (h:i<x.sets.l.length) (h':i<y.sets.l.length),(x.sets.l[i]'h).eqv (y.sets.l[i]'h')
 grants:x.grants.l=y.grants.l
 lenT:x.stages.l.length=y.stages.l.length
 eachT:∀ i (h:i<x.stages.l.length) (h':i<y.stages.l.length),(x.stages.l[i]'h).eqv (y.stages.l[i]'h')
 log:x.log.l=y.log.l
theorem same14_any (x y:TenR) (h:x.eqv y) (w:World) (B:Nat) (hB:B≤w.heap.size) (hx:x.rd w B) (hy:y.rd w B) (hz:x.sz) :
  Calls Tryz.prog 21 #[x.val,y.val] w fun e w'=>e=.returned (.bool true)∧Below w.heap.size w w':=by
 obtain ⟨h1,h2,h3,h4,h5,h6,h7,h8,h9⟩:=h
 obtain ⟨nm,quota,next,⟨s1,sn,s3,sl⟩,⟨g1,gn,g3,gl⟩,⟨t1,tn,t3,tl⟩,⟨l1,ln,l3,ll⟩⟩:=x
 obtain ⟨nm',quota',next',⟨s1',sn',s3',sl'⟩,⟨g1',gn',g3',gl'⟩,⟨t1',tn',t3',tl'⟩,⟨l1',ln',l3',ll'⟩⟩:=y
 simp only at h1 h2 h3 h4 h5 h6 h7 h8 h9
 subst h1 h2 h3 h6 h9
 have e1:sn'=sn:=by rw [show sn'=sl'.length from hy.sets.1,show sn=sl.length from hx.sets.1,h4]
 have e2:gn'=gn:=hy.grants.1.trans hx.grants.1.symm
 have e3:tn'=tn:=by rw [show tn'=tl'.length from hy.stages.1,show tn=tl.length from hx.stages.1,h7]
 have e4:ln'=ln:=hy.log.1.trans hx.log.1.symm
 subst e1 e2 e3 e4
 exact sameTenT_any nm quota next sl sl' gl tl tl' ll s1 s1' sn' s3 s3' g1 g1' gn' g3 g3' t1 t1' tn' t3 t3' l1 l1' ln' l3 l3' w B hB hx hy hz h5 h8
end Go.Proofs.YtcgclpcocdappaaGreatDoor
namespace Go.Proofs.YtcgclpcocdappaaGreatDoor
open Go.RowKit Go.ChangeShapes Go.WideShapes Go.ChangeAt
theorem len2 {α:Type} {l:List α} (h:l.length=2):∃ a0 a1,l=[a0,a1]:=by
 match l,h with
 | [a0,a1],_=>exact ⟨a0,a1,rfl⟩
theorem len4 {α:Type} {l:List α} (h:l.length=4):∃ a0 a1 a2 a3,l=[a0,a1,a2,a3]:=by
 match l,h with
 | [a0,a1,a2,a3],_=>exact ⟨a0,a1,a2,a3,rfl⟩
theorem len5 {α:Type} {l:List α} (h:l.length=5):∃ a0 a1 a2 a3 a4,l=[a0,a1,a2,a3,a4]:=by
 match l,h with
 | [a0,a1,a2,a3,a4],_=>exact ⟨a0,a1,a2,a3,a4,rfl⟩
theorem len7 {α:Type} {l:List α} (h:l.length=7):∃ a0 a1 a2 a3 a4 a5 a6,l=[a0,a1,a2,a3,a4,a5,a6]:=by
 match l,h with
 | [a0,a1,a2,a3,a4,a5,a6],_=>exact ⟨a0,a1,a2,a3,a4,a5,a6,rfl⟩
theorem len12 {α:Type} {l:List α} (h:l.length=12):∃ a0 a1 a2 a3 a4 a5 a6 a7 a8 a9 a10 a11,l=[a0,a1,a2,a3,a4,a5,a6,a7,a8,a9,a10,a11]:=by
 match l,h with
 | [a0,a1,a2,a3,a4,a5,a6,a7,a8,a9,a10,a11],_=>exact ⟨a0,a1,a2,a3,a4,a5,a6,a7,a8,a9,a10,a11,rfl⟩
theorem len21 {α:Type} {l:List α} (h:l.length=21):∃ a0 a1 a2 a3 a4 a5 a6 a7 a8 a9 a10 a11 a12 a13 a14 a15 a16 a17 a18 a19 a20,l=[a0,a1,a2,a3,a4,a5,a6,a7,a8,a9,a10,a11,a12,a13,a14,a15,a16,a17,a18,a19,a20]:=by
 match l,h with
 | [a0,a1,a2,a3,a4,a5,a6,a7,a8,a9,a10,a11,a12,a13,a14,a15,a16,a17,a18,a19,a20],_=>exact ⟨a0,a1,a2,a3,a4,a5,a6,a7,a8,a9,a10,a11,a12,a13,a14,a15,a16,a17,a18,a19,a20,rfl⟩
theorem cofT_str:Tryz.prog.cellsOf 9=1:=tZ2
theorem cofT_int:Tryz.prog.cellsOf 3=1:=tZ2
theorem cofT_errno:Tryz.prog.cellsOf 29=1:=tZ2
theorem cofT_bool:Tryz.prog.cellsOf 4=1:=tZ2
theorem cofT_u64:Tryz.prog.cellsOf 97=1:=tZ2
theorem cofT_strs:Tryz.prog.cellsOf 48=1:=tZ2
theorem cofT_blks:Tryz.prog.cellsOf 38=1:=tZ2
theorem cofT_prps:Tryz.prog.cellsOf 40=1:=tZ2
theorem cofT_snaps:Tryz.prog.cellsOf 39=1:=tZ2
theorem cofT_sets:Tryz.prog.cellsOf 22=1:=tZ2
theorem cofT_grants:Tryz.prog.cellsOf 23=1:=tZ2
theorem cofT_stages:Tryz.prog.cellsOf 24=1:=tZ2
theorem cofT_log:Tryz.prog.cellsOf 25=1:=tZ2
theorem cofT_sum:Tryz.prog.cellsOf 99=4:=tZ2
theorem cofT_rec:Tryz.prog.cellsOf 101=12:=tZ2
section
variable {H:Type} {enc:TypeId×Value→H} {W:World} {K:Nat} {cs:List Value} {d:DataW H}
theorem CellsIn.sumT (h:CellsIn enc Tryz.prog W K 99 cs d):∃ s:Sm,cs=smV s:=by
 obtain ⟨hl,hf⟩:=h.fields Tryz.underlying99
 obtain ⟨c0,c1,c2,c3,rfl⟩:=len4 (hl.trans cofT_sum)
 obtain ⟨y0,q0⟩:=hf 0 _ rfl
 obtain ⟨y1,q1⟩:=hf 1 _ rfl
 obtain ⟨y2,q2⟩:=hf 2 _ rfl
 obtain ⟨y3,q3⟩:=hf 3 _ rfl
 obtain ⟨n0,e0,_⟩:=q0.u64 Tryz.underlying97
 obtain ⟨n1,e1,_⟩:=q1.u64 Tryz.underlying97
 obtain ⟨n2,e2,_⟩:=q2.u64 Tryz.underlying97
 obtain ⟨n3,e3,_⟩:=q3.u64 Tryz.underlying97
 simp [cofT_u64] at e0 e1 e2 e3
 exact ⟨⟨n0,n1,n2,n3⟩,by rw [e0,e1,e2,e3];rfl⟩
theorem CellsIn.strT (hK:K≤1048576) (h:CellsIn enc Tryz.prog W K 9 cs d):∃ x:BS,cs=encS x∧x.length≤4000000000:=by
 obtain ⟨s,e,_,b⟩:=h.str Tryz.underlying9
 exact ⟨s,e,by omega⟩
theorem cofT_blk:Tryz.prog.cellsOf 75=2:=tZ2
theorem CellsIn.blkT (_hK:K≤1048576) (h:CellsIn enc Tryz.prog W K 75 cs d):∃ x:BlkT,cs=encB x∧(True):=by
 obtain ⟨hl,hf⟩:=h.fields Tryz.underlying75
 obtain ⟨a0,a1,rfl⟩:=len2 (hl.trans cofT_blk)
 obtain ⟨y0,q0⟩:=hf 0 _ rfl
 obtain ⟨y1,q1⟩:=hf 1 _ rfl
 obtain ⟨s0,e0,_⟩:=q0.i64 Tryz.underlying3
 obtain ⟨s1,e1,_,b1⟩:=q1.str Tryz.underlying9
 simp [cofT_int,cofT_str] at e0 e1
 exact ⟨(s0,s1),by rw [e0,e1];rfl,trivial⟩
theorem cofT_prp:Tryz.prog.cellsOf 78=2:=tZ2
theorem CellsIn.prpT (hK:K≤1048576) (h:CellsIn enc Tryz.prog W K 78 cs d):∃ x:(BS×BS),cs=encP x∧((x.1.length≤4000000000∧x.2.length≤4000000000)):=by
 obtain ⟨hl,hf⟩:=h.fields Tryz.underlying78
 obtain ⟨a0,a1,rfl⟩:=len2 (hl.trans cofT_prp)
 obtain ⟨y0,q0⟩:=hf 0 _ rfl
 obtain ⟨y1,q1⟩:=hf 1 _ rfl
 obtain ⟨s0,e0,_,b0⟩:=q0.str Tryz.underlying9
 obtain ⟨s1,e1,_,b1⟩:=q1.str Tryz.underlying9
 simp [cofT_str] at e0 e1
 exact ⟨(s0,s1),by rw [e0,e1];rfl,by simp only;omega,by simp only;omega⟩
theorem CellsIn.strs (hK:K≤1048576) (h:CellsIn enc Tryz.prog W K 48 cs d):∃ s:FS BS,cs=[s.val]∧s.rd W W.heap.size 1 encS∧s.n≤1000000000000∧∀ x∈s.l,x.length≤4000000000:=by
 obtain ⟨A,l,n,c,hcs,hn,hc,_,_,hK2,hr,hg⟩:=h.list (fun x:BS=>encS x) (fun x=>x.length≤4000000000) (fun _=>rfl) tZ4 cofT_str Tryz.underlying48 (fun _ _ h=>h.strT hK)
 exact mZ192
theorem CellsIn.blks (hK:K≤1048576) (h:CellsIn enc Tryz.prog W K 38 cs d):∃ s:FS BlkT,cs=[s.val]∧s.rd W W.heap.size 2 encB∧s.n≤1000000000000∧∀ x∈s.l,True:=by
 obtain ⟨A,l,n,c,hcs,hn,hc,_,_,hK2,hr,hg⟩:=h.list (fun x:BlkT=>encB x) (fun x=>True) (fun _=>rfl) tZ4 cofT_blk Tryz.underlying38 (fun _ _ h=>h.blkT hK)
 exact mZ192
theorem CellsIn.prps (hK:K≤1048576) (h:CellsIn enc Tryz.prog W K 40 cs d):∃ s:FS (BS×BS),cs=[s.val]∧s.rd W W.heap.size 2 encP∧s.n≤1000000000000∧∀ x∈s.l,(x.1.length≤4000000000∧x.2.length≤4000000000):=by
 obtain ⟨A,l,n,c,hcs,hn,hc,_,_,hK2,hr,hg⟩:=h.list (fun x:(BS×BS)=>encP x) (fun x=>(x.1.length≤4000000000∧x.2.length≤4000000000)) (fun _=>rfl) tZ4 cofT_prp Tryz.underlying40 (fun _ _ h=>h.prpT hK)
 exact mZ192
theorem cofT_snap:Tryz.prog.cellsOf 57=5:=tZ2
theorem CellsIn.snapT (hK:K≤1048576) (h:CellsIn enc Tryz.prog W K 57 cs d):∃ x:SnapR,cs=encSnap x∧(x.rd W W.heap.size∧x.sz):=by
 obtain ⟨hl,hf⟩:=h.fields Tryz.underlying57
 obtain ⟨a0,a1,a2,a3,a4,rfl⟩:=len5 (hl.trans cofT_snap)
 obtain ⟨y0,q0⟩:=hf 0 _ rfl
 obtain ⟨y1,q1⟩:=hf 1 _ rfl
 obtain ⟨y2,q2⟩:=hf 2 _ rfl
 obtain ⟨y3,q3⟩:=hf 3 _ rfl
 obtain ⟨y4,q4⟩:=hf 4 _ rfl
 obtain ⟨s0,e0,_,b0⟩:=q0.str Tryz.underlying9
 obtain ⟨s1,e1,_⟩:=q1.i64 Tryz.underlying3
 obtain ⟨s2,e2,g2⟩:=q2.blks hK
 obtain ⟨s3,e3,g3⟩:=q3.strs hK
 obtain ⟨s4,e4,g4⟩:=q4.prps hK
 simp [cofT_str,cofT_int,cofT_blks,cofT_strs,cofT_prps] at e0 e1 e2 e3 e4
 obtain ⟨r2,n2,_⟩:=g2
 obtain ⟨r3,n3,k3⟩:=g3
 obtain ⟨r4,n4,k4⟩:=g4
 exact ⟨⟨s0,s1,s2,s3,s4⟩,by rw [e0,e1,e2,e3,e4];rfl,⟨r2,r3,r4⟩,⟨by show s0.length≤_;omega,n2,n3,k3,n4,k4⟩⟩
theorem CellsIn.snaps (hK:K≤1048576) (h:CellsIn enc Tryz.prog W K 39 cs d):∃ s:FS SnapR,cs=[s.val]∧s.rd W W.heap.size 5 encSnap∧s.n≤1000000000000∧∀ x∈s.l,(x.rd W W.heap.size∧x.sz):=by
 obtain ⟨A,l,n,c,hcs,hn,hc,_,_,hK2,hr,hg⟩:=h.list (fun x:SnapR=>encSnap x) (fun x=>(x.rd W W.heap.size∧x.sz)) (fun _=>rfl) tZ4 cofT_snap Tryz.underlying39 (fun _ _ h=>h.snapT hK)
 exact mZ192
theorem cofT_set:Tryz.prog.cellsOf 42=5:=tZ2
theorem CellsIn.setT (hK:K≤1048576) (h:CellsIn enc Tryz.prog W K 42 cs d):∃ x:SetR,cs=encSet x∧(x.rd W W.heap.size∧x.sz):=by
 obtain ⟨hl,hf⟩:=h.fields Tryz.underlying42
 obtain ⟨a0,a1,a2,a3,a4,rfl⟩:=len5 (hl.trans cofT_set)
 obtain ⟨y0,q0⟩:=hf 0 _ rfl
 obtain ⟨y1,q1⟩:=hf 1 _ rfl
 obtain ⟨y2,q2⟩:=hf 2 _ rfl
 obtain ⟨y3,q3⟩:=hf 3 _ rfl
 obtain ⟨y4,q4⟩:=hf 4 _ rfl
 obtain ⟨s0,e0,_,b0⟩:=q0.str Tryz.underlying9
 obtain ⟨s1,e1,_,b1⟩:=q1.str Tryz.underlying9
 obtain ⟨s2,e2,g2⟩:=q2.blks hK
 obtain ⟨s3,e3,g3⟩:=q3.snaps hK
 obtain ⟨s4,e4,g4⟩:=q4.prps hK
 simp [cofT_str,cofT_blks,cofT_snaps,cofT_prps] at e0 e1 e2 e3 e4
 obtain ⟨r2,n2,_⟩:=g2
 obtain ⟨r3,n3,k3⟩:=g3
 obtain ⟨r4,n4,k4⟩:=g4
 exact ⟨⟨s0,s1,s2,s3,s4⟩,by rw [e0,e1,e2,e3,e4];rfl,⟨r2,r3,fun y hy=>(k3 y hy).1,r4⟩,⟨by show s0.length≤_;omega,by show s1.length≤_;omega,n2,n3,fun y hy=>(k3 y hy).2,n4,k4⟩⟩
theorem CellsIn.sets (hK:K≤1048576) (h:CellsIn enc Tryz.prog W K 22 cs d):∃ s:FS SetR,cs=[s.val]∧s.rd W W.heap.size 5 encSet∧s.n≤1000000000000∧∀ x∈s.l,(x.rd W W.heap.size∧x.sz):=by
 obtain ⟨A,l,n,c,hcs,hn,hc,_,_,hK2,hr,hg⟩:=h.list (fun x:SetR=>encSet x) (fun x=>(x.rd W W.heap.size∧x.sz)) (fun _=>rfl) tZ4 cofT_set Tryz.underlying22 (fun _ _ h=>h.setT hK)
 exact mZ192
structure RecR where
 kind:Int
 nm:BS
 frm:Int
 gd:Int
 own:FS (BS×BS)
 ix:Int
 ct:Int
 dt:BS
 sm:Sm
def encRec (x:RecR):List Value:=[.int .i64 x.kind,strV x.nm,.int .i64 x.frm,.int .i64 x.gd,x.own.val,.int .i64 x.ix,.int .i64 x.ct,strV x.dt]++smV x.sm
theorem cofT_rec2:Tryz.prog.cellsOf 101=12:=tZ2
theorem CellsIn.recT (hK:K≤1048576) (h:CellsIn enc Tryz.prog W K 101 cs d):∃ x:RecR,cs=encRec x∧(x.own.rd W W.heap.size 2 encP∧x.own.n≤1000000000000∧(∀ p∈x.own.l,p.1.length≤4000000000∧p.2.length≤4000000000)∧x.nm.length≤4000000000∧x.dt.length≤4000000000):=by
 obtain ⟨hl,hf⟩:=h.fields Tryz.underlying101
 obtain ⟨a0,a1,a2,a3,a4,a5,a6,a7,a8,a9,a10,a11,rfl⟩:=len12 (hl.trans cofT_rec2)
 obtain ⟨y0,q0⟩:=hf 0 _ rfl
 obtain ⟨y1,q1⟩:=hf 1 _ rfl
 obtain ⟨y2,q2⟩:=hf 2 _ rfl
 obtain ⟨y3,q3⟩:=hf 3 _ rfl
 obtain ⟨y4,q4⟩:=hf 4 _ rfl
 obtain ⟨y5,q5⟩:=hf 5 _ rfl
 obtain ⟨y6,q6⟩:=hf 6 _ rfl
 obtain ⟨y7,q7⟩:=hf 7 _ rfl
 obtain ⟨y8,q8⟩:=hf 8 _ rfl
 obtain ⟨s0,e0,_⟩:=q0.i64 Tryz.underlying3
 obtain ⟨s1,e1,_,b1⟩:=q1.str Tryz.underlying9
 obtain ⟨s2,e2,_⟩:=q2.i64 Tryz.underlying3
 obtain ⟨s3,e3,_⟩:=q3.i64 Tryz.underlying3
 obtain ⟨s4,e4,g4⟩:=q4.prps hK
 obtain ⟨s5,e5,_⟩:=q5.i64 Tryz.underlying3
 obtain ⟨s6,e6,_⟩:=q6.i64 Tryz.underlying3
 obtain ⟨s7,e7,_,b7⟩:=q7.str Tryz.underlying9
 obtain ⟨s8,e8⟩:=q8.sumT
 simp [cofT_int,cofT_str,cofT_prps,cofT_sum] at e0 e1 e2 e3 e4 e5 e6 e7 e8
 obtain ⟨r4,n4,k4⟩:=g4
 simp [smV] at e8
 obtain ⟨e8,e9,e10,e11⟩:=e8
 exact ⟨⟨s0,s1,s2,s3,s4,s5,s6,s7,s8⟩,by rw [e0,e1,e2,e3,e4,e5,e6,e7,e8,e9,e10,e11];rfl,r4,n4,k4,by show s1.length≤_;omega,by show s7.length≤_;omega⟩
theorem cofT_stage:Tryz.prog.cellsOf 103=21:=tZ2
theorem CellsIn.stageT (hK:K≤1048576) (h:CellsIn enc Tryz.prog W K 103 cs d):∃ x:StageR,cs=encStage x∧(x.rd W W.heap.size∧x.sz):=by
 obtain ⟨hl,hf⟩:=h.fields Tryz.underlying103
 obtain ⟨a0,a1,a2,a3,a4,a5,a6,a7,a8,a9,a10,a11,a12,a13,a14,a15,a16,a17,a18,a19,a20,rfl⟩:=len21 (hl.trans cofT_stage)
 obtain ⟨y0,q0⟩:=hf 0 _ rfl
 obtain ⟨y1,q1⟩:=hf 1 _ rfl
 obtain ⟨y2,q2⟩:=hf 2 _ rfl
 obtain ⟨y3,q3⟩:=hf 3 _ rfl
 obtain ⟨y4,q4⟩:=hf 4 _ rfl
 obtain ⟨y5,q5⟩:=hf 5 _ rfl
 obtain ⟨y6,q6⟩:=hf 6 _ rfl
 obtain ⟨s0,e0,_,b0⟩:=q0.str Tryz.underlying9
 obtain ⟨s1,e1,g1⟩:=q1.recT hK
 obtain ⟨s2,e2,g2⟩:=q2.blks hK
 obtain ⟨s3,e3,_⟩:=q3.i64 Tryz.underlying3
 obtain ⟨s4,e4,_⟩:=q4.i64 Tryz.underlying3
 obtain ⟨s5,e5⟩:=q5.sumT
 obtain ⟨s6,e6⟩:=q6.bool Tryz.underlying4
 simp [cofT_str,cofT_rec,cofT_blks,cofT_int,cofT_sum,cofT_bool] at e0 e1 e2 e3 e4 e5 e6
 obtain ⟨r1,n1,k1,m1,m2⟩:=g1
 obtain ⟨r2,n2,_⟩:=g2
 simp [smV,encRec] at e1 e5
 obtain ⟨f0,f1,f2,f3,f4,f5,f6,f7,f8,f9,f10,f11⟩:=e1
 obtain ⟨h0,h1,h2,h3⟩:=e5
 exact ⟨⟨s0,s1.kind,s1.nm,s1.frm,s1.gd,s1.own,s1.ix,s1.ct,s1.dt,s1.sm,s2,s3,s4,s5,s6⟩,by rw [e0,f0,f1,f2,f3,f4,f5,f6,f7,f8,f9,f10,f11,e2,e3,e4,h0,h1,h2,h3,e6];rfl,⟨r1,r2⟩,⟨by show s0.length≤_;omega,m1,m2,n1,k1,n2⟩⟩
theorem CellsIn.stages (hK:K≤1048576) (h:CellsIn enc Tryz.prog W K 24 cs d):∃ s:FS StageR,cs=[s.val]∧s.rd W W.heap.size 21 encStage∧s.n≤500000000000∧∀ x∈s.l,(x.rd W W.heap.size∧x.sz):=by
 obtain ⟨A,l,n,c,hcs,hn,hc,_,_,hK2,hr,hg⟩:=h.list (fun x:StageR=>encStage x) (fun x=>(x.rd W W.heap.size∧x.sz)) (fun _=>rfl) tZ4 cofT_stage Tryz.underlying24 (fun _ _ h=>h.stageT hK)
 exact mZ192
theorem cofT_entry:Tryz.prog.cellsOf 106=4:=tZ2
theorem CellsIn.entryT (hK:K≤1048576) (h:CellsIn enc Tryz.prog W K 106 cs d):∃ x:EntryR,cs=encEntry x∧(x.sz):=by
 obtain ⟨hl,hf⟩:=h.fields Tryz.underlying106
 obtain ⟨a0,a1,a2,a3,rfl⟩:=len4 (hl.trans cofT_entry)
 obtain ⟨y0,q0⟩:=hf 0 _ rfl
 obtain ⟨y1,q1⟩:=hf 1 _ rfl
 obtain ⟨y2,q2⟩:=hf 2 _ rfl
 obtain ⟨y3,q3⟩:=hf 3 _ rfl
 obtain ⟨s0,e0,_,b0⟩:=q0.str Tryz.underlying9
 obtain ⟨s1,e1,_⟩:=q1.i64 Tryz.underlying3
 obtain ⟨s2,e2,_,b2⟩:=q2.str Tryz.underlying9
 obtain ⟨s3,e3,_⟩:=q3.i64 Tryz.underlying29
 simp [cofT_str,cofT_int,cofT_errno] at e0 e1 e2 e3
 exact ⟨⟨s0,s1,s2,s3⟩,by rw [e0,e1,e2,e3];rfl,⟨by show s0.length≤_;omega,by show s2.length≤_;omega⟩⟩
theorem CellsIn.log (hK:K≤1048576) (h:CellsIn enc Tryz.prog W K 25 cs d):∃ s:FS EntryR,cs=[s.val]∧s.rd W W.heap.size 4 encEntry∧s.n≤1000000000000∧∀ x∈s.l,x.sz:=by
 obtain ⟨A,l,n,c,hcs,hn,hc,_,_,hK2,hr,hg⟩:=h.list (fun x:EntryR=>encEntry x) (fun x=>x.sz) (fun _=>rfl) tZ4 cofT_entry Tryz.underlying25 (fun _ _ h=>h.entryT hK)
 exact mZ192
theorem cofT_grant:Tryz.prog.cellsOf 147=3:=tZ2
theorem len3 {α:Type} {l:List α} (h:l.length=3):∃ a b c,l=[a,b,c]:=by
 match l,h with
 | [a,b,c],_=>exact ⟨a,b,c,rfl⟩
theorem CellsIn.grantT (hK:K≤1048576) (h:CellsIn enc Tryz.prog W K 147 cs d):∃ x:GT,cs=encG x∧(x.1.length≤4000000000∧x.2.1.length≤4000000000):=by
 obtain ⟨hl,hf⟩:=h.fields Tryz.underlying147
 obtain ⟨c0,c1,c2,rfl⟩:=len3 (hl.trans cofT_grant)
 obtain ⟨y0,q0⟩:=hf 0 _ rfl
 obtain ⟨y1,q1⟩:=hf 1 _ rfl
 obtain ⟨y2,q2⟩:=hf 2 _ rfl
 obtain ⟨s0,e0,_,b0⟩:=q0.str Tryz.underlying9
 obtain ⟨s1,e1,_,b1⟩:=q1.str Tryz.underlying9
 obtain ⟨n2,e2,_,_⟩:=q2.i64 Tryz.underlying3
 simp [cofT_str,cofT_int] at e0 e1 e2
 exact ⟨(s0,s1,n2),by rw [e0,e1,e2];rfl,by simp only;omega,by simp only;omega⟩
theorem CellsIn.grantsT (hK:K≤1048576) (h:CellsIn enc Tryz.prog W K 23 cs d):∃ s:FS GT,cs=[s.val]∧s.rd W W.heap.size 3 encG∧s.n≤1000000000000∧∀ x∈s.l,(x.1.length≤4000000000∧x.2.1.length≤4000000000):=by
 obtain ⟨A,l,n,c,hcs,hn,hc,_,_,hK2,hr,hg⟩:=h.list (fun x:GT=>encG x) (fun x=>(x.1.length≤4000000000∧x.2.1.length≤4000000000)) (fun _=>rfl) tZ4 cofT_grant Tryz.underlying23 (fun _ _ h=>h.grantT hK)
 exact mZ192
theorem cofT_ten:Tryz.prog.cellsOf 27=7:=tZ2
theorem CellsIn.tenT (hK:K≤1048576) (h:CellsIn enc Tryz.prog W K 27 cs d):∃ x:TenR,cs=TenR.cells x∧(x.rd W W.heap.size∧x.sz∧x.stages.n≤500000000000):=by
 obtain ⟨hl,hf⟩:=h.fields Tryz.underlying27
 obtain ⟨a0,a1,a2,a3,a4,a5,a6,rfl⟩:=len7 (hl.trans cofT_ten)
 obtain ⟨y0,q0⟩:=hf 0 _ rfl
 obtain ⟨y1,q1⟩:=hf 1 _ rfl
 obtain ⟨y2,q2⟩:=hf 2 _ rfl
 obtain ⟨y3,q3⟩:=hf 3 _ rfl
 obtain ⟨y4,q4⟩:=hf 4 _ rfl
 obtain ⟨y5,q5⟩:=hf 5 _ rfl
 obtain ⟨y6,q6⟩:=hf 6 _ rfl
 obtain ⟨s0,e0,_,b0⟩:=q0.str Tryz.underlying9
 obtain ⟨s1,e1,_⟩:=q1.i64 Tryz.underlying3
 obtain ⟨s2,e2,_⟩:=q2.i64 Tryz.underlying3
 obtain ⟨s3,e3,g3⟩:=q3.sets hK
 obtain ⟨s4,e4,g4⟩:=q4.grantsT hK
 obtain ⟨s5,e5,g5⟩:=q5.stages hK
 obtain ⟨s6,e6,g6⟩:=q6.log hK
 simp [cofT_str,cofT_int,cofT_sets,cofT_grants,cofT_stages,cofT_log] at e0 e1 e2 e3 e4 e5 e6
 obtain ⟨r3,n3,k3⟩:=g3
 obtain ⟨r4,n4,k4⟩:=g4
 obtain ⟨r5,n5,k5⟩:=g5
 obtain ⟨r6,n6,k6⟩:=g6
 exact ⟨⟨s0,s1,s2,s3,s4,s5,s6⟩,by rw [e0,e1,e2,e3,e4,e5,e6];rfl,⟨r3,fun y hy=>(k3 y hy).1,r4,r5,fun y hy=>(k5 y hy).1,r6⟩,⟨by show s0.length≤_;omega,n3,fun y hy=>(k3 y hy).2,n4,k4,Nat.le_trans n5 tZ4,fun y hy=>(k5 y hy).2,n6,k6⟩,n5⟩
/-- the same, the number of stages smaller (a row of them can be made anew) -/
theorem ArgIn.ten2 {v:Value} (hK:Rows.uptoBulk d≤1048576) (h:ArgIn enc Tryz.prog W 27 v d):∃ t:TenR,v=t.val∧t.rd W W.heap.size∧t.sz∧t.stages.n≤500000000000:=by
 obtain ⟨cs,rfl,hc⟩:=h.agg Tryz.underlying27
 obtain ⟨t,hcs,h1,h2,h3⟩:=hc.tenT hK
 refine ⟨t,?_,h1,h2,h3⟩
 show Value.agg _=Value.agg _
 congr 1
 exact Array.toList_inj.1 hcs
end
end Go.Proofs.YtcgclpcocdappaaGreatDoor
namespace Go.Proofs.YtcgclpcocdappaaGreatDoor
open Go.RowKit
theorem tenE_in (t:TenR):tenE t=0∨tenE t=9:=by unfold tenE;split <;> simp
/-- what is asked of a path: its error -/
def askP (t:TenR) (p:BS):Int:=if tenE t=9 then 9 else if pathB p=false then 31 else 0
/-- a set's place, and its error -/
def placeP (t:TenR) (p:BS):Int×Int :=
 if askP t p≠0 then (0,askP t p) else
  match t.sets.l.find? (fun s=>s.path == p) with
  | none=>(0,71)
  | some _=>(findS t.sets.l p,0)
theorem askP_in (t:TenR) (p:BS):askP t p=0∨askP t p=9∨askP t p=31:=by
 unfold askP
 by_cases h:tenE t=9
 ·rw [if_pos h];exact .inr (.inl rfl)
 ·rw [if_neg h]
  cases pathB p
  ·exact .inr (.inr rfl)
  ·exact .inl rfl
set_option maxRecDepth 100000 in
set_option maxHeartbeats 4000000 in
theorem shAsked_any (t:TenR) (p:BS) (w:World) (B:Nat) (hB:B≤w.heap.size) (hr:t.rd w B) (hz:t.sz) (hp:p.length≤4000000000) (hmx:HasMax w) :
  Calls Tryz.prog 164 #[t.val,.string ⟨p.toArray⟩] w fun e w'=>e=.returned (.int .i64 (askP t p))∧Below w.heap.size w w':=by
 have h2:=tenE_in t
 obtain ⟨nm,qu,nx,⟨s1,sn,s3,sl⟩,⟨g1,gn,g3,gl⟩,⟨t1,tn,t3,tl⟩,⟨l1,ln,l3,ll⟩⟩:=t
 show Calls Tryz.prog 164 #[.agg #[.string ⟨nm.toArray⟩,.int .i64 qu,.int .i64 nx,.slice s1 sn s3,.slice g1 gn g3,.slice t1 tn t3,.slice l1 ln l3],.string ⟨p.toArray⟩] w _
 have hb1:=(Below.refl w.heap.size w).alloc (Nat.le_refl _) (.cells #[.string ⟨nm.toArray⟩,.int .i64 qu,.int .i64 nx,.slice s1 sn s3,.slice g1 gn g3,.slice t1 tn t3,.slice l1 ln l3] 27)
 obtain ⟨W1,hW1⟩:∃ W,W=w.alloc (.cells #[.string ⟨nm.toArray⟩,.int .i64 qu,.int .i64 nx,.slice s1 sn s3,.slice g1 gn g3,.slice t1 tn t3,.slice l1 ln l3] 27):=⟨_,rfl⟩
 have hsz1:W1.heap.size=w.heap.size+1:=tZ55
 rw [← hW1] at hb1
 have hc:Calls Tryz.prog 58 #[.agg #[.string ⟨nm.toArray⟩,.int .i64 qu,.int .i64 nx,.slice s1 sn s3,.slice g1 gn g3,.slice t1 tn t3,.slice l1 ln l3]] W1 fun e w'=>e=.returned (.int .i64 (tenE ⟨nm,qu,nx,⟨s1,sn,s3,sl⟩,⟨g1,gn,g3,gl⟩,⟨t1,tn,t3,tl⟩,⟨l1,ln,l3,ll⟩⟩))∧Below W1.heap.size W1 w' :=
  tcheck_any ⟨nm,qu,nx,⟨s1,sn,s3,sl⟩,⟨g1,gn,g3,gl⟩,⟨t1,tn,t3,tl⟩,⟨l1,ln,l3,ll⟩⟩ W1 B (TenR.rd.below hr (hb1.mono hB)) tZ1 hz (hmx.below hb1)
 have hPA:Hid (∀ W,Below W1.heap.size W1 W→Calls Tryz.prog 80 #[.string ⟨p.toArray⟩] W fun e w'=>e=.returned (.bool (pathB p))∧Below W.heap.size W w'):=fun W hb=>path_any ⟨p.toArray⟩ W tZ123 (hmx.below (hb1.trans (hb.mono tZ1)))
 obtain ⟨E,hE⟩:∃ E,E=tenE ⟨nm,qu,nx,⟨s1,sn,s3,sl⟩,⟨g1,gn,g3,gl⟩,⟨t1,tn,t3,tl⟩,⟨l1,ln,l3,ll⟩⟩:=⟨_,rfl⟩
 have HV:Hid (askP ⟨nm,qu,nx,⟨s1,sn,s3,sl⟩,⟨g1,gn,g3,gl⟩,⟨t1,tn,t3,tl⟩,⟨l1,ln,l3,ll⟩⟩ p=if E=9 then 9 else if pathB p=false then 31 else 0):=by show _=_;rw [hE];rfl
 rw [← hE] at h2 hc
 obtain ⟨bp,hbp⟩:∃ b,b=pathB p:=⟨_,rfl⟩
 rw [← hbp] at hPA HV
 have HB1:=Lib.hid hb1
 have HSZ1:=Lib.hid hsz1
 clear hb1 hr hz hsz1 hmx hE hbp
 go_enter Tryz.func164,Tryz.ntmps164
 go_wp2_with fail
 rw [← hW1]
 clear hW1
 refine hc.mono ?_
 clear hc
 rintro e w2 ⟨rfl,hb2⟩
 have HW2:=Lib.hid hb2
 clear hb2
 rcases h2 with rfl | rfl
 ·have hc:=hPA.out w2 HW2.out
  clear hPA
  go_wp2_with fail
  refine hc.mono ?_
  clear hc
  rintro e w3 ⟨rfl,hb3⟩
  have HW3:=Lib.hid (HW2.out.trans (hb3.mono HW2.out.size))
  clear hb3 HW2
  cases bp with
  | false =>
   go_wp2_with fail
   exact bodyPost_ret (v:=.int .i64 31) tZ99 rfl ⟨by rw [HV.out];rfl,HB1.out.trans (HW3.out.mono tZ12)⟩
  | true =>
   go_wp2_with fail
   exact bodyPost_ret (v:=.int .i64 0) tZ99 rfl ⟨by rw [HV.out];rfl,HB1.out.trans (HW3.out.mono tZ12)⟩
 ·go_wp2_with fail
  exact bodyPost_ret (v:=.int .i64 9) tZ99 rfl ⟨by rw [HV.out];rfl,HB1.out.trans (HW2.out.mono tZ12)⟩
set_option maxRecDepth 100000 in
set_option maxHeartbeats 4000000 in
theorem place_any (t:TenR) (p:BS) (w:World) (B:Nat) (hB:B≤w.heap.size) (hr:t.rd w B) (hz:t.sz) (hp:p.length≤4000000000) (hmx:HasMax w) :
  Calls Tryz.prog 100 #[t.val,.string ⟨p.toArray⟩] w fun e w'=>e=.returned (.tuple #[.int .i64 (placeP t p).1,.int .i64 (placeP t p).2])∧Below w.heap.size w w':=by
 have h3:=askP_in t p
 obtain ⟨nm,qu,nx,⟨s1,sn,s3,sl⟩,⟨g1,gn,g3,gl⟩,⟨t1,tn,t3,tl⟩,⟨l1,ln,l3,ll⟩⟩:=t
 show Calls Tryz.prog 100 #[.agg #[.string ⟨nm.toArray⟩,.int .i64 qu,.int .i64 nx,.slice s1 sn s3,.slice g1 gn g3,.slice t1 tn t3,.slice l1 ln l3],.string ⟨p.toArray⟩] w _
 have hb1:=(Below.refl w.heap.size w).alloc (Nat.le_refl _) (.cells #[.string ⟨nm.toArray⟩,.int .i64 qu,.int .i64 nx,.slice s1 sn s3,.slice g1 gn g3,.slice t1 tn t3,.slice l1 ln l3] 27)
 have kT:=Blk.new w 27 #[.string ⟨nm.toArray⟩,.int .i64 qu,.int .i64 nx,.slice s1 sn s3,.slice g1 gn g3,.slice t1 tn t3,.slice l1 ln l3]
 obtain ⟨W1,hW1⟩:∃ W,W=w.alloc (.cells #[.string ⟨nm.toArray⟩,.int .i64 qu,.int .i64 nx,.slice s1 sn s3,.slice g1 gn g3,.slice t1 tn t3,.slice l1 ln l3] 27):=⟨_,rfl⟩
 have hsz1:W1.heap.size=w.heap.size+1:=tZ55
 rw [← hW1] at hb1 kT
 have hT:=Lib.hid (fun (W':World) (hB':Below W1.heap.size W1 W')=>(⟨(kT.below hB' tZ1).cell 0,(kT.below hB' tZ1).cell 1,(kT.below hB' tZ1).cell 2,(kT.below hB' tZ1).cell 3,(kT.below hB' tZ1).cell 4,(kT.below hB' tZ1).cell 5,(kT.below hB' tZ1).cell 6⟩:W'.cell? ⟨w.heap.size,0,none⟩=some (.string ⟨nm.toArray⟩)∧W'.cell? ⟨w.heap.size,1,none⟩=some (.int .i64 qu)∧W'.cell? ⟨w.heap.size,2,none⟩=some (.int .i64 nx)∧W'.cell? ⟨w.heap.size,3,none⟩=some (.slice s1 sn s3)∧W'.cell? ⟨w.heap.size,4,none⟩=some (.slice g1 gn g3)∧W'.cell? ⟨w.heap.size,5,none⟩=some (.slice t1 tn t3)∧W'.cell? ⟨w.heap.size,6,none⟩=some (.slice l1 ln l3)))
 have HSN:=Lib.hid (show sn=sl.length from hr.sets.1)
 have hc:Calls Tryz.prog 164 #[.agg #[.string ⟨nm.toArray⟩,.int .i64 qu,.int .i64 nx,.slice s1 sn s3,.slice g1 gn g3,.slice t1 tn t3,.slice l1 ln l3],.string ⟨p.toArray⟩] W1 _ :=
  shAsked_any ⟨nm,qu,nx,⟨s1,sn,s3,sl⟩,⟨g1,gn,g3,gl⟩,⟨t1,tn,t3,tl⟩,⟨l1,ln,l3,ll⟩⟩ p W1 B tZ1 (TenR.rd.below hr (hb1.mono hB)) hz hp (hmx.below hb1)
 have hFD:Hid (∀ W,Below W1.heap.size W1 W→Calls Tryz.prog 57 #[.agg #[.string ⟨nm.toArray⟩,.int .i64 qu,.int .i64 nx,.slice s1 sn s3,.slice g1 gn g3,.slice t1 tn t3,.slice l1 ln l3],.string ⟨p.toArray⟩] W fun e w'=>e=.returned (.int .i64 (findS sl p))∧Below W.heap.size W w'):=fun W hb =>
  find_any _ _ _ _ _ _ sl sn HSN.out s1 s3 p W B (TenR.rd.below hr ((hb1.trans (hb.mono tZ1)).mono hB)).sets.2.2 tZ13 tZ61
 obtain ⟨E,hE⟩:∃ E,E=askP ⟨nm,qu,nx,⟨s1,sn,s3,sl⟩,⟨g1,gn,g3,gl⟩,⟨t1,tn,t3,tl⟩,⟨l1,ln,l3,ll⟩⟩ p:=⟨_,rfl⟩
 obtain ⟨V,hV⟩:∃ V,V=placeP ⟨nm,qu,nx,⟨s1,sn,s3,sl⟩,⟨g1,gn,g3,gl⟩,⟨t1,tn,t3,tl⟩,⟨l1,ln,l3,ll⟩⟩ p:=⟨_,rfl⟩
 have HV:Hid (V=if E≠0 then (0,E) else match sl.find? (fun s=>s.path == p) with
  | none=>(0,71)
  | some _=>(findS sl p,0)):=by show _=_;rw [hV,hE];rfl
 rw [← hE] at h3 hc
 rw [← hV]
 have HB1:=Lib.hid hb1
 have HSZ1:=Lib.hid hsz1
 clear hb1 kT hr hz hsz1 hmx hE hV
 go_enter Tryz.func100,Tryz.ntmps100
 go_wp2_with fail
 rw [← hW1]
 clear hW1
 refine hc.mono ?_
 clear hc
 rintro e w2 ⟨rfl,hb2⟩
 have HW2:=Lib.hid hb2
 clear hb2
 rcases h3 with rfl | rfl | rfl
 ·have hc:=hFD.out w2 HW2.out
  obtain ⟨c0,c1,c2,c3,c4,c5,c6⟩:=hT.out _ HW2.out
  clear hFD
  go_wp2_with fail
  refine hc.mono ?_
  clear hc c0 c1 c2 c3 c4 c5 c6
  rintro e w3 ⟨rfl,hb3⟩
  have HW3:=Lib.hid (HW2.out.trans (hb3.mono HW2.out.size))
  clear hb3 HW2
  rcases firstI_cases (fun s:SetR=>s.path == p) sl with ⟨h1,h2⟩ | ⟨k,hkl,h1,h2⟩
  ·have h1:findS sl p=-1:=h1
   have HX:Hid (V=(0,71)):=by show _=_;rw [HV.out];simp only [h2];rfl
   clear HV h2
   rw [h1]
   go_wp2_with fail
   exact bodyPost_ret (v:=.tuple #[.int .i64 0,.int .i64 71]) tZ75 rfl ⟨by rw [HX.out],HB1.out.trans (HW3.out.mono tZ12)⟩
  ·have h1:findS sl p=(k:Int):=h1
   have HX:Hid (V=((k:Int),0)):=by show _=_;rw [HV.out];simp only [h2,h1];rfl
   clear HV h2
   rw [h1]
   have hk0:¬ (k:Int)<0:=tZ1
   go_wp2_with fail
   exact bodyPost_ret (v:=.tuple #[.int .i64 (k:Int),.int .i64 0]) tZ75 rfl ⟨by rw [HX.out],HB1.out.trans (HW3.out.mono tZ12)⟩
 ·go_wp2_with fail
  exact bodyPost_ret (v:=.tuple #[.int .i64 0,.int .i64 9]) tZ75 rfl ⟨by rw [HV.out];rfl,HB1.out.trans (HW2.out.mono tZ12)⟩
 ·go_wp2_with fail
  exact bodyPost_ret (v:=.tuple #[.int .i64 0,.int .i64 31]) tZ75 rfl ⟨by rw [HV.out];rfl,HB1.out.trans (HW2.out.mono tZ12)⟩
end Go.Proofs.YtcgclpcocdappaaGreatDoor
