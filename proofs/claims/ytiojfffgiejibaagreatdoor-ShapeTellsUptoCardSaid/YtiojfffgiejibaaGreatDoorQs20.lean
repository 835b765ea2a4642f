/-
  A wide struct's load in a region that is walked by a class of worlds. The page's Same at tenants of one content: it answers true. Tenants that lie in memory of their own.
-/
import Derived.Test.YtiojfffgiejibaaGreatDoorQsM1
import Derived.WalkKit
import Derived.WalkSpells
import Derived.Below
import Derived.Laws.OwnMore
import Derived.Deep.AppendLies
import Derived.Deep.Draws
import Derived.Laws.Rows
import Derived.Maps.AppendAt
import Derived.RegionTactic
import Derived.OwnWalk
import Derived.Deep.QuietTactic
import Derived.BigQuiet
import Derived.Lib.Hide
import Derived.Laws.CopyOwn
import Derived.IntWalk
import Derived.Deep.Quiet
import Derived.Deep.MidRow
import Derived.Test.YtiojfffgiejibaaGreatDoorRows
import Derived.Handy
import Derived.Orders
import Derived.Lib.SplitLaws
import Derived.Lib.LastIndexByte
import Derived.Lib.Strings
import Derived.ShutString
import Derived.Sort.Walk0
import Derived.Sort.KeysCollected
import Derived.Shelf.Strings.Search1
import Derived.Shelf.Strings.Search2
import Derived.Shelf.Strings.Search3
import Derived.Shelf.Strings.Cut
import Derived.Shelf.Strings.Count
import Derived.Shelf.LaysM
import Derived.Shelf.Strings.Shaped
import Derived.Shelf.Strings.LastIndex
import Derived.Shelf.Strings.Split
import Derived.Shelf.Strings.SplitShaped
import Derived.Shelf.Unicode.Decode
import Derived.Shelf.Strings.RuneCount
import Derived.Shelf.Strings.Explode
import Derived.Shelf.Unicode.DecodeSlow
import Derived.Shelf.Slices.Turned
import Derived.Test.YtiojfffgiejibaaGreatDoorProg
import Derived.Laws.BytesString
import Derived.Laws.IdiomStrings
import Derived.Lib.ConvBytes
import Derived.Test.YtiojfffgiejibaaGreatDoorQ0
import Derived.Test.YtiojfffgiejibaaGreatDoorQs1
import Derived.Test.YtiojfffgiejibaaGreatDoorQs4
import Derived.Test.YtiojfffgiejibaaGreatDoorQs5
import Derived.Test.YtiojfffgiejibaaGreatDoorQs7
import Derived.Test.YtiojfffgiejibaaGreatDoorQs10
import Derived.Test.YtiojfffgiejibaaGreatDoorQs11
import Derived.Test.YtiojfffgiejibaaGreatDoorQs12
import Derived.Test.YtiojfffgiejibaaGreatDoorQs15
import Derived.Test.YtiojfffgiejibaaGreatDoorQs17
import Derived.Test.YtiojfffgiejibaaGreatDoorQs19
namespace Go.Proofs.YtiojfffgiejibaaGreatDoor
open Go.RowKit
theorem quiet_load_at {P:Program} {o:Oper} {a:Act} {C:World→Prop} {w:World} (ty:TypeId) (x:Operand) (ho:o.op=.load ty x) (ad:Addr) (hx:a.eval x=.pointer (some ad)) (cs:List Value) (d:TypeDesc)
  (hc:∀ (j:Nat) (v:Value),cs[j]?=some v→w.cell? (ad.add j)=some v) (hu:P.underlying ty=some d) (hd:d.isRow=true) (hi:(P.info? ty).map (·.size)=some cs.length):o.quietAt P a C w (.agg cs.toArray):=by
 unfold Oper.quietAt execOp
 simp only [ho,hx,Instr.loadAt,Instr.sureAddr,Sem.run_bind,Sem.run_pure,Result.andThen_ok,run_loadVar_at w ad ty cs d hc hu hd hi]
 exact ⟨rfl,rfl⟩
end Go.Proofs.YtiojfffgiejibaaGreatDoor
namespace Go.Proofs.YtiojfffgiejibaaGreatDoor
open Go.RowKit
/-- stages of one content -/
structure StageR.eqv (x y:StageR):Prop where
 into:x.into=y.into
 kind:x.kind=y.kind
 nm:x.nm=y.nm
 frm:x.frm=y.frm
 gd:x.gd=y.gd
 own:x.own.l=y.own.l
 ix:x.ix=y.ix
 ct:x.ct=y.ct
 dt:x.dt=y.dt
 sm:x.sm=y.sm
 body:x.body.l=y.body.l
 at_:x.at_=y.at_
 nx:x.nx=y.nx
 sum:x.sum=y.sum
 done:x.done=y.done
theorem sameStageR_any (x y:StageR) (h:x.eqv y) (w:World) (B:Nat) (hB:B≤w.heap.size) (hx:x.rd w B) (hy:y.rd w B) (hz:x.sz) :
  Calls Tryz.prog 64 #[.agg #[.string ⟨x.into.toArray⟩,.int .i64 x.kind,.string ⟨x.nm.toArray⟩,.int .i64 x.frm,.int .i64 x.gd,.slice x.own.A x.own.n x.own.c,.int .i64 x.ix,.int .i64 x.ct,.string ⟨x.dt.toArray⟩,.int .u64 x.sm.a,.int .u64 x.sm.b,.int .u64 x.sm.c,.int .u64 x.sm.d,.slice x.body.A x.body.n x.body.c,.int .i64 x.at_,.int .i64 x.nx,.int .u64 x.sum.a,.int .u64 x.sum.b,.int .u64 x.sum.c,.int .u64 x.sum.d,.bool x.done],.agg #[.string ⟨y.into.toArray⟩,.int .i64 y.kind,.string ⟨y.nm.toArray⟩,.int .i64 y.frm,.int .i64 y.gd,.slice y.own.A y.own.n y.own.c,.int .i64 y.ix,.int .i64 y.ct,.string ⟨y.dt.toArray⟩,.int .u64 y.sm.a,.int .u64 y.sm.b,.int .u64 y.sm.c,.int .u64 y.sm.d,.slice y.body.A y.body.n y.body.c,.int .i64 y.at_,.int .i64 y.nx,.int .u64 y.sum.a,.int .u64 y.sum.b,.int .u64 y.sum.c,.int .u64 y.sum.d,.bool y.done]] w fun e w'=>e=.returned (.bool true)∧Below w.heap.size w w':=by
 obtain ⟨h1,h2,h3,h4,h5,h6,h7,h8,h9,h10,h11,h12,h13,h14,h15⟩:=h
 obtain ⟨into,kind,nm,frm,gd,⟨o1,on,o3,ol⟩,ix,ct,dt,⟨sa,sb,sc,sd⟩,⟨b1,bn,b3,bl⟩,at_,nx,⟨ua,ub,uc,ud⟩,done⟩:=x
 obtain ⟨into',kind',nm',frm',gd',⟨o1',on',o3',ol'⟩,ix',ct',dt',sm',⟨b1',bn',b3',bl'⟩,at_',nx',sum',done'⟩:=y
 simp only at h1 h2 h3 h4 h5 h6 h7 h8 h9 h10 h11 h12 h13 h14 h15
 subst h1 h2 h3 h4 h5 h6 h7 h8 h9 h10 h11 h12 h13 h14 h15
 have e1:bn'=bn:=hy.body.1.trans hx.body.1.symm
 have e3:on'=on:=hy.own.1.trans hx.own.1.symm
 subst e1 e3
 exact sameStageT_any into kind nm frm gd ol o1 o1' on' o3 o3' ix ct dt sa sb sc sd bl b1 b1' bn' b3 b3' at_ nx ua ub uc ud done w B hB hx.own.1 hx.own.2.2 hy.own.2.2 hz.own hx.body.1 hx.body.2.2 hy.body.2.2 hz.body
set_option maxRecDepth 100000 in
set_option maxHeartbeats 8000000 in
theorem sameTenT_any (nm:BS) (quota next:Int) (sl sl':List SetR) (gl:GL) (tl tl':List StageR) (ll:List EntryR) (s1 s1':Option Addr) (sn s3 s3':Nat) (g1 g1':Option Addr) (gn g3 g3':Nat) (t1 t1':Option Addr) (tn t3 t3':Nat) (l1 l1':Option Addr) (ln l3 l3':Nat) (w:World) (B:Nat) (hB:B≤w.heap.size)
  (hx:TenR.rd w B ⟨nm,quota,next,⟨s1,sn,s3,sl⟩,⟨g1,gn,g3,gl⟩,⟨t1,tn,t3,tl⟩,⟨l1,ln,l3,ll⟩⟩) (hy:TenR.rd w B ⟨nm,quota,next,⟨s1',sn,s3',sl'⟩,⟨g1',gn,g3',gl⟩,⟨t1',tn,t3',tl'⟩,⟨l1',ln,l3',ll⟩⟩) (hz:TenR.sz ⟨nm,quota,next,⟨s1,sn,s3,sl⟩,⟨g1,gn,g3,gl⟩,⟨t1,tn,t3,tl⟩,⟨l1,ln,l3,ll⟩⟩)
  (heS:∀ i (h:i<sl.length) (h':i<sl'.length),(sl[i]'h).eqv (sl'[i]'h')) (heT:∀ i (h:i<tl.length) (h':i<tl'.length),(tl[i]'h).eqv (tl'[i]'h')) :
  Calls Tryz.prog 13 #[.agg #[.string ⟨nm.toArray⟩,.int .i64 quota,.int .i64 next,.slice s1 sn s3,.slice g1 gn g3,.slice t1 tn t3,.slice l1 ln l3],.agg #[.string ⟨nm.toArray⟩,.int .i64 quota,.int .i64 next,.slice s1' sn s3',.slice g1' gn g3',.slice t1' tn t3',.slice l1' ln l3']] w fun e w'=>e=.returned (.bool true)∧Below w.heap.size w w':=by
 have hb1:=(Below.refl w.heap.size w).alloc (Nat.le_refl _) (.cells #[.string ⟨nm.toArray⟩,.int .i64 quota,.int .i64 next,.slice s1 sn s3,.slice g1 gn g3,.slice t1 tn t3,.slice l1 ln l3] 27)
 have hb2:=hb1.alloc hb1.size (.cells #[.string ⟨nm.toArray⟩,.int .i64 quota,.int .i64 next,.slice s1' sn s3',.slice g1' gn g3',.slice t1' tn t3',.slice l1' ln l3'] 27)
 have k1:=(Blk.new w 27 #[.string ⟨nm.toArray⟩,.int .i64 quota,.int .i64 next,.slice s1 sn s3,.slice g1 gn g3,.slice t1 tn t3,.slice l1 ln l3]).alloc (.cells #[.string ⟨nm.toArray⟩,.int .i64 quota,.int .i64 next,.slice s1' sn s3',.slice g1' gn g3',.slice t1' tn t3',.slice l1' ln l3'] 27)
 have k2:=Blk.new (w.alloc (.cells #[.string ⟨nm.toArray⟩,.int .i64 quota,.int .i64 next,.slice s1 sn s3,.slice g1 gn g3,.slice t1 tn t3,.slice l1 ln l3] 27)) 27 #[.string ⟨nm.toArray⟩,.int .i64 quota,.int .i64 next,.slice s1' sn s3',.slice g1' gn g3',.slice t1' tn t3',.slice l1' ln l3']
 rw [show (w.alloc (.cells #[.string ⟨nm.toArray⟩,.int .i64 quota,.int .i64 next,.slice s1 sn s3,.slice g1 gn g3,.slice t1 tn t3,.slice l1 ln l3] 27)).heap.size=w.heap.size+1 by simp] at k2
 obtain ⟨W2,hW2⟩:∃ W,W=(w.alloc (.cells #[.string ⟨nm.toArray⟩,.int .i64 quota,.int .i64 next,.slice s1 sn s3,.slice g1 gn g3,.slice t1 tn t3,.slice l1 ln l3] 27)).alloc (.cells #[.string ⟨nm.toArray⟩,.int .i64 quota,.int .i64 next,.slice s1' sn s3',.slice g1' gn g3',.slice t1' tn t3',.slice l1' ln l3'] 27):=⟨_,rfl⟩
 have hsz:W2.heap.size=w.heap.size+2:=tZ40
 rw [← hW2] at hb2 k1 k2
 have hS:=Lib.hid (fun (W':World) (hB':Below W2.heap.size W2 W')=>(⟨(k1.below hB' tZ1).cell 0,(k1.below hB' tZ1).cell 1,(k1.below hB' tZ1).cell 2,(k1.below hB' tZ1).cell 3,(k1.below hB' tZ1).cell 4,(k1.below hB' tZ1).cell 5,(k1.below hB' tZ1).cell 6,(k2.below hB' tZ1).cell 0,(k2.below hB' tZ1).cell 1,(k2.below hB' tZ1).cell 2,(k2.below hB' tZ1).cell 3,(k2.below hB' tZ1).cell 4,(k2.below hB' tZ1).cell 5,(k2.below hB' tZ1).cell 6⟩:W'.cell? ⟨w.heap.size,0,none⟩=some (.string ⟨nm.toArray⟩)∧W'.cell? ⟨w.heap.size,1,none⟩=some (.int .i64 quota)∧W'.cell? ⟨w.heap.size,2,none⟩=some (.int .i64 next)∧W'.cell? ⟨w.heap.size,3,none⟩=some (.slice s1 sn s3)∧W'.cell? ⟨w.heap.size,4,none⟩=some (.slice g1 gn g3)∧W'.cell? ⟨w.heap.size,5,none⟩=some (.slice t1 tn t3)∧W'.cell? ⟨w.heap.size,6,none⟩=some (.slice l1 ln l3)∧W'.cell? ⟨w.heap.size+1,0,none⟩=some (.string ⟨nm.toArray⟩)∧W'.cell? ⟨w.heap.size+1,1,none⟩=some (.int .i64 quota)∧W'.cell? ⟨w.heap.size+1,2,none⟩=some (.int .i64 next)∧W'.cell? ⟨w.heap.size+1,3,none⟩=some (.slice s1' sn s3')∧W'.cell? ⟨w.heap.size+1,4,none⟩=some (.slice g1' gn g3')∧W'.cell? ⟨w.heap.size+1,5,none⟩=some (.slice t1' tn t3')∧W'.cell? ⟨w.heap.size+1,6,none⟩=some (.slice l1' ln l3')))
 have HSZ:=Lib.hid hsz
 have HB2:=Lib.hid hb2
 have hmv:∀ W',Below W2.heap.size W2 W'→Below B w W':=fun W' hB'=>(hb2.trans (hB'.mono tZ1)).mono hB
 have hGr:Hid (∀ W,Below W2.heap.size W2 W→Calls Tryz.prog 61 #[.slice g1 gn g3,.slice g1' gn g3'] W fun e W'=>e=.returned (.bool true)∧Below W.heap.size W W'):=fun W h=>sameGT_any gl gn hx.grants.1 g1 g1' g3 g3' W B (hx.grants.2.2.below (hmv W h)) (hy.grants.2.2.below (hmv W h)) hz.grants
 have hLg:Hid (∀ W,Below W2.heap.size W2 W→Calls Tryz.prog 62 #[.slice l1 ln l3,.slice l1' ln l3'] W fun e W'=>e=.returned (.bool true)∧Below W.heap.size W W'):=fun W h=>sameLogT_any ll ln hx.log.1 l1 l1' l3 l3' W B (hx.log.2.2.below (hmv W h)) (hy.log.2.2.below (hmv W h)) hz.log
 have hTs:Hid (∀ W,Below W2.heap.size W2 W→Reads W B 5 s1 sn (cellsK encSet sl)∧Reads W B 5 s1' sn (cellsK encSet sl')∧B≤W.heap.size∧(∀ y∈sl,y.rd W B)∧∀ y∈sl',y.rd W B):=fun W h=>⟨(hx.below (hmv W h)).sets.2.2,(hy.below (hmv W h)).sets.2.2,by have:=h.size;omega,(hx.below (hmv W h)).eachS,(hy.below (hmv W h)).eachS⟩
 have hTt:Hid (∀ W,Below W2.heap.size W2 W→Reads W B 21 t1 tn (cellsK encStage tl)∧Reads W B 21 t1' tn (cellsK encStage tl')∧B≤W.heap.size∧(∀ y∈tl,y.rd W B)∧∀ y∈tl',y.rd W B):=fun W h=>⟨(hx.below (hmv W h)).stages.2.2,(hy.below (hmv W h)).stages.2.2,by have:=h.size;omega,(hx.below (hmv W h)).eachG,(hy.below (hmv W h)).eachG⟩
 have HSN:=Lib.hid (show sn=sl.length from hx.sets.1)
 have HSN':=Lib.hid (show sn=sl'.length from hy.sets.1)
 have HTN:=Lib.hid (show tn=tl.length from hx.stages.1)
 have HTN':=Lib.hid (show tn=tl'.length from hy.stages.1)
 have HEQS:=Lib.hid heS
 have HEQT:=Lib.hid heT
 have HZS:=Lib.hid (show ∀ y∈sl,y.sz from hz.eachS)
 have HZT:=Lib.hid (show ∀ y∈tl,y.sz from hz.eachT)
 have hsm:sn≤1000000000000:=hz.sets
 have htm:tn≤1000000000000:=hz.stages
 clear hb1 hb2 k1 k2 hsz hmv hx hy hz heS heT
 have hW0:=Below.refl W2.heap.size W2
 go_enter Tryz.func13,Tryz.ntmps13
 go_wp2_with fail
 rw [← hW2]
 clear hW2
 refine (hGr.out _ hW0).mono ?_
 rintro e w3 ⟨rfl,hb3⟩
 have hW3:=hW0.trans (hb3.mono hW0.size)
 clear hb3 hGr
 obtain ⟨p0,p1,p2,p3,p4,p5,p6,q0,q1,q2,q3,q4,q5,q6⟩:=hS.out _ hW3
 go_wp2_with fail
 refine (hLg.out _ hW3).mono ?_
 rintro e w4 ⟨rfl,hb4⟩
 have hW4:=hW3.trans (hb4.mono hW3.size)
 clear hb4 hLg p0 p1 p2 p3 p4 p5 p6 q0 q1 q2 q3 q4 q5 q6
 obtain ⟨p0,p1,p2,p3,p4,p5,p6,q0,q1,q2,q3,q4,q5,q6⟩:=hS.out _ hW4
 go_wp2_with fail
 clear p0 p1 p2 p3 p4 p5 p6 q0 q1 q2 q3 q4 q5 q6
 go_loopw [5] (fun j wr=>∃ k:Nat,k≤sn∧j=.int .i64 (k:Int)∧Below W2.heap.size W2 wr) (fun j _=>sn-(intOf j).toNat)
 case atStart=>exact ⟨0,Nat.zero_le _,rfl,hW4⟩
 case round =>
  clear hW4 hW3 hW0
  obtain ⟨k,hk,rfl,hWr⟩:=hrel
  obtain ⟨p0,p1,p2,p3,p4,p5,p6,q0,q1,q2,q3,q4,q5,q6⟩:=hS.out _ hWr
  by_cases hlt:k<sn
  ·have hki:(k:Int)<(sn:Int):=tZ1
   obtain ⟨r1,r2,-⟩:=hTs.out _ hWr
   obtain ⟨ad,rfl,-⟩:=set_at r1 HSN.out hlt
   obtain ⟨ad2,rfl,-⟩:=set_at r2 HSN'.out hlt
   have hkl:k<sl.length:=tZ79
   have hkl':k<sl'.length:=by have:=HSN'.out;omega
   have hev:=HEQS.out k hkl hkl'
   have hxm:sl[k]'hkl∈sl:=List.getElem_mem _
   have hym:sl'[k]'hkl'∈sl':=List.getElem_mem _
   have hX:Hid (∀ W,Below W2.heap.size W2 W→(W.cell? (ad.add (k*5))=some (.string ⟨(sl[k]'hkl).path.toArray⟩)∧W.cell? ⟨(ad.add (k*5)).block,(ad.add (k*5)).off+1,none⟩=some (.string ⟨(sl[k]'hkl).org.toArray⟩)∧W.cell? ⟨(ad.add (k*5)).block,(ad.add (k*5)).off+2,none⟩=some (.slice (sl[k]'hkl).body.A (sl[k]'hkl).body.n (sl[k]'hkl).body.c)∧W.cell? ⟨(ad.add (k*5)).block,(ad.add (k*5)).off+3,none⟩=some (.slice (sl[k]'hkl).snaps.A (sl[k]'hkl).snaps.n (sl[k]'hkl).snaps.c)∧W.cell? ⟨(ad.add (k*5)).block,(ad.add (k*5)).off+4,none⟩=some (.slice (sl[k]'hkl).own.A (sl[k]'hkl).own.n (sl[k]'hkl).own.c))∧(W.cell? (ad2.add (k*5))=some (.string ⟨(sl'[k]'hkl').path.toArray⟩)∧W.cell? ⟨(ad2.add (k*5)).block,(ad2.add (k*5)).off+1,none⟩=some (.string ⟨(sl'[k]'hkl').org.toArray⟩)∧W.cell? ⟨(ad2.add (k*5)).block,(ad2.add (k*5)).off+2,none⟩=some (.slice (sl'[k]'hkl').body.A (sl'[k]'hkl').body.n (sl'[k]'hkl').body.c)∧W.cell? ⟨(ad2.add (k*5)).block,(ad2.add (k*5)).off+3,none⟩=some (.slice (sl'[k]'hkl').snaps.A (sl'[k]'hkl').snaps.n (sl'[k]'hkl').snaps.c)∧W.cell? ⟨(ad2.add (k*5)).block,(ad2.add (k*5)).off+4,none⟩=some (.slice (sl'[k]'hkl').own.A (sl'[k]'hkl').own.n (sl'[k]'hkl').own.c))):=by
    show ∀ W,_→_
    intro W hb
    obtain ⟨u1,u2,-⟩:=hTs.out _ hb
    obtain ⟨ad3,e3,-,c⟩:=set_at u1 HSN.out hlt
    obtain ⟨ad4,e4,-,d⟩:=set_at u2 HSN'.out hlt
    injection e3 with e3
    injection e4 with e4
    subst e3 e4
    exact ⟨c,d⟩
   have hSS:Hid (∀ W,Below W2.heap.size W2 W→Calls Tryz.prog 63 #[.agg #[.string ⟨(sl[k]'hkl).path.toArray⟩,.string ⟨(sl[k]'hkl).org.toArray⟩,.slice (sl[k]'hkl).body.A (sl[k]'hkl).body.n (sl[k]'hkl).body.c,.slice (sl[k]'hkl).snaps.A (sl[k]'hkl).snaps.n (sl[k]'hkl).snaps.c,.slice (sl[k]'hkl).own.A (sl[k]'hkl).own.n (sl[k]'hkl).own.c],.agg #[.string ⟨(sl'[k]'hkl').path.toArray⟩,.string ⟨(sl'[k]'hkl').org.toArray⟩,.slice (sl'[k]'hkl').body.A (sl'[k]'hkl').body.n (sl'[k]'hkl').body.c,.slice (sl'[k]'hkl').snaps.A (sl'[k]'hkl').snaps.n (sl'[k]'hkl').snaps.c,.slice (sl'[k]'hkl').own.A (sl'[k]'hkl').own.n (sl'[k]'hkl').own.c]] W fun e W'=>e=.returned (.bool true)∧Below W.heap.size W W'):=fun W hb=>by
    obtain ⟨-,-,u3,u4,u5⟩:=hTs.out _ hb
    exact sameSetR_any _ _ hev W B u3 (u4 _ hxm) (u5 _ hym) (HZS.out _ hxm)
   obtain ⟨x,hx⟩:∃ x,x=sl[k]'hkl:=⟨_,rfl⟩
   obtain ⟨y,hy⟩:∃ y,y=sl'[k]'hkl':=⟨_,rfl⟩
   rw [← hx,← hy] at hX hSS
   obtain ⟨xa,xb,⟨f1,f2,f3,fl⟩,⟨h1,h2,h3,hl⟩,⟨u1,u2,u3,ul⟩⟩:=x
   obtain ⟨ya,yb,⟨f1',f2',f3',fl'⟩,⟨h1',h2',h3',hl'⟩,⟨u1',u2',u3',ul'⟩⟩:=y
   simp only at hX hSS
   clear hx hy hev hxm hym r1 r2 hTs HEQS HZS
   go_wp2_with fail
   clear p0 p1 p2 p3 p4 p5 p6 q0 q1 q2 q3 q4 q5 q6
   refine wpC_regionH (fun W'=>Below W2.heap.size W2 W') (hWr.drew) (fun OPS D QQ HO HD HD2 HQQ=>?_)
   clear HO
   refine zX ?_
   refine wpC_readS (v:=?_) rfl rfl (fun W hW=>?_) ?_
   rotate_left
   ·replace hW:=HD.out W hW
    skip
    obtain ⟨-,-,-,p3,-⟩:=hS.out _ hW
    exact mZ66
   dsimp only [zB,zC]
   iterate 2 refine zX ?_
   refine zM hX.out ?_
   refine zX ?_
   refine wpC_readS (v:=?_) rfl rfl (fun W hW=>?_) ?_
   rotate_left
   ·replace hW:=HD.out W hW
    skip
    obtain ⟨-,-,-,-,-,-,-,-,-,-,q3,-⟩:=hS.out _ hW
    exact mZ66
   dsimp only [zB,zC]
   iterate 2 refine zX ?_
   refine zM hX.out ?_
   exact mZ104
  ·clear hTs HEQS HZS
   as_aux_lemma =>
    go_wp2_with fail
    clear p0 p1 p2 p3 p4 p5 p6 q0 q1 q2 q3 q4 q5 q6
    go_loopw [6] (fun j wr=>∃ k:Nat,k≤tn∧j=.int .i64 (k:Int)∧Below W2.heap.size W2 wr) (fun j _=>tn-(intOf j).toNat)
    case atStart=>exact ⟨0,Nat.zero_le _,rfl,hWr⟩
    case round =>
     clear hWr
     obtain ⟨k,hk,rfl,hWr⟩:=hrel
     obtain ⟨p0,p1,p2,p3,p4,p5,p6,q0,q1,q2,q3,q4,q5,q6⟩:=hS.out _ hWr
     by_cases hlt:k<tn
     ·have hki:(k:Int)<(tn:Int):=tZ1
      obtain ⟨r1,r2,-⟩:=hTt.out _ hWr
      obtain ⟨ad,rfl,-⟩:=Reads.elK (k:=21) (fun _=>rfl) r1 HTN.out hlt
      obtain ⟨ad2,rfl,-⟩:=Reads.elK (k:=21) (fun _=>rfl) r2 HTN'.out hlt
      have hkl:k<tl.length:=tZ78
      have hkl':k<tl'.length:=by have:=HTN'.out;omega
      have hev:=HEQT.out k hkl hkl'
      have hxm:tl[k]'hkl∈tl:=List.getElem_mem _
      have hym:tl'[k]'hkl'∈tl':=List.getElem_mem _
      obtain ⟨x,hx⟩:∃ x,x=tl[k]'hkl:=⟨_,rfl⟩
      obtain ⟨y,hy⟩:∃ y,y=tl'[k]'hkl':=⟨_,rfl⟩
      rw [← hx] at hxm hev
      rw [← hy] at hym hev
      have hL1:Hid (∀ W,Below W2.heap.size W2 W→∀ (j:Nat) (v:Value),([.string ⟨x.into.toArray⟩,.int .i64 x.kind,.string ⟨x.nm.toArray⟩,.int .i64 x.frm,.int .i64 x.gd,.slice x.own.A x.own.n x.own.c,.int .i64 x.ix,.int .i64 x.ct,.string ⟨x.dt.toArray⟩,.int .u64 x.sm.a,.int .u64 x.sm.b,.int .u64 x.sm.c,.int .u64 x.sm.d,.slice x.body.A x.body.n x.body.c,.int .i64 x.at_,.int .i64 x.nx,.int .u64 x.sum.a,.int .u64 x.sum.b,.int .u64 x.sum.c,.int .u64 x.sum.d,.bool x.done])[j]?=some v→W.cell? ((ad.add (k*21)).add j)=some v):=by
       show ∀ W,_→∀ j v,_→_
       intro W hb j v hv
       obtain ⟨ad3,e3,-,hce⟩:=Reads.elK (k:=21) (fun _=>rfl) (hTt.out _ hb).1 HTN.out hlt
       injection e3 with e3
       subst e3
       rw [← hx] at hce
       exact mZ72
      have hL2:Hid (∀ W,Below W2.heap.size W2 W→∀ (j:Nat) (v:Value),([.string ⟨y.into.toArray⟩,.int .i64 y.kind,.string ⟨y.nm.toArray⟩,.int .i64 y.frm,.int .i64 y.gd,.slice y.own.A y.own.n y.own.c,.int .i64 y.ix,.int .i64 y.ct,.string ⟨y.dt.toArray⟩,.int .u64 y.sm.a,.int .u64 y.sm.b,.int .u64 y.sm.c,.int .u64 y.sm.d,.slice y.body.A y.body.n y.body.c,.int .i64 y.at_,.int .i64 y.nx,.int .u64 y.sum.a,.int .u64 y.sum.b,.int .u64 y.sum.c,.int .u64 y.sum.d,.bool y.done])[j]?=some v→W.cell? ((ad2.add (k*21)).add j)=some v):=by
       show ∀ W,_→∀ j v,_→_
       intro W hb j v hv
       obtain ⟨ad3,e3,-,hce⟩:=Reads.elK (k:=21) (fun _=>rfl) (hTt.out _ hb).2.1 HTN'.out hlt
       injection e3 with e3
       subst e3
       rw [← hy] at hce
       exact mZ72
      obtain ⟨G1,hG1⟩:∃ G,G=Value.agg #[.string ⟨x.into.toArray⟩,.int .i64 x.kind,.string ⟨x.nm.toArray⟩,.int .i64 x.frm,.int .i64 x.gd,.slice x.own.A x.own.n x.own.c,.int .i64 x.ix,.int .i64 x.ct,.string ⟨x.dt.toArray⟩,.int .u64 x.sm.a,.int .u64 x.sm.b,.int .u64 x.sm.c,.int .u64 x.sm.d,.slice x.body.A x.body.n x.body.c,.int .i64 x.at_,.int .i64 x.nx,.int .u64 x.sum.a,.int .u64 x.sum.b,.int .u64 x.sum.c,.int .u64 x.sum.d,.bool x.done]:=⟨_,rfl⟩
      obtain ⟨G2,hG2⟩:∃ G,G=Value.agg #[.string ⟨y.into.toArray⟩,.int .i64 y.kind,.string ⟨y.nm.toArray⟩,.int .i64 y.frm,.int .i64 y.gd,.slice y.own.A y.own.n y.own.c,.int .i64 y.ix,.int .i64 y.ct,.string ⟨y.dt.toArray⟩,.int .u64 y.sm.a,.int .u64 y.sm.b,.int .u64 y.sm.c,.int .u64 y.sm.d,.slice y.body.A y.body.n y.body.c,.int .i64 y.at_,.int .i64 y.nx,.int .u64 y.sum.a,.int .u64 y.sum.b,.int .u64 y.sum.c,.int .u64 y.sum.d,.bool y.done]:=⟨_,rfl⟩
      have HG1:=Lib.hid hG1
      have HG2:=Lib.hid hG2
      have hSS:Hid (∀ W,Below W2.heap.size W2 W→Calls Tryz.prog 64 #[G1,G2] W fun e W'=>e=.returned (.bool true)∧Below W.heap.size W W'):=fun W hb=>by
       obtain ⟨-,-,u3,u4,u5⟩:=hTt.out _ hb
       rw [hG1,hG2]
       exact sameStageR_any x y hev W B u3 (u4 _ hxm) (u5 _ hym) (HZT.out _ hxm)
      clear hx hy hev hxm hym r1 r2 hTt HEQT HZT hG1 hG2
      go_wp2_with fail
      clear p0 p1 p2 p3 p4 p5 p6 q0 q1 q2 q3 q4 q5 q6
      refine wpC_regionH (fun W'=>Below W2.heap.size W2 W') (hWr.drew) (fun OPS D QQ HO HD HD2 HQQ=>?_)
      clear HO
      refine zX ?_
      refine wpC_readS (v:=?_) rfl rfl (fun W hW=>?_) ?_
      rotate_left
      ·replace hW:=HD.out W hW
       skip
       obtain ⟨-,-,-,-,-,p5,-⟩:=hS.out _ hW
       exact mZ66
      dsimp only [zB,zC]
      iterate 2 refine zX ?_
      refine wpC_readS (v:=G1) rfl rfl (fun W hW=>?_) ?_
      ·replace hW:=HD.out W hW
       rw [HG1.out]
       exact quiet_load_at 77 _ rfl (ad.add (k*21)) rfl [.string ⟨x.into.toArray⟩,.int .i64 x.kind,.string ⟨x.nm.toArray⟩,.int .i64 x.frm,.int .i64 x.gd,.slice x.own.A x.own.n x.own.c,.int .i64 x.ix,.int .i64 x.ct,.string ⟨x.dt.toArray⟩,.int .u64 x.sm.a,.int .u64 x.sm.b,.int .u64 x.sm.c,.int .u64 x.sm.d,.slice x.body.A x.body.n x.body.c,.int .i64 x.at_,.int .i64 x.nx,.int .u64 x.sum.a,.int .u64 x.sum.b,.int .u64 x.sum.c,.int .u64 x.sum.d,.bool x.done] _ (hL1.out W hW) Tryz.underlying77 rfl tZ2
      dsimp only [zB,zC]
      refine zX ?_
      refine wpC_readS (v:=?_) rfl rfl (fun W hW=>?_) ?_
      rotate_left
      ·replace hW:=HD.out W hW
       skip
       obtain ⟨-,-,-,-,-,-,-,-,-,-,-,-,q5,-⟩:=hS.out _ hW
       exact mZ66
      dsimp only [zB,zC]
      iterate 2 refine zX ?_
      refine wpC_readS (v:=G2) rfl rfl (fun W hW=>?_) ?_
      ·replace hW:=HD.out W hW
       rw [HG2.out]
       exact quiet_load_at 77 _ rfl (ad2.add (k*21)) rfl [.string ⟨y.into.toArray⟩,.int .i64 y.kind,.string ⟨y.nm.toArray⟩,.int .i64 y.frm,.int .i64 y.gd,.slice y.own.A y.own.n y.own.c,.int .i64 y.ix,.int .i64 y.ct,.string ⟨y.dt.toArray⟩,.int .u64 y.sm.a,.int .u64 y.sm.b,.int .u64 y.sm.c,.int .u64 y.sm.d,.slice y.body.A y.body.n y.body.c,.int .i64 y.at_,.int .i64 y.nx,.int .u64 y.sum.a,.int .u64 y.sum.b,.int .u64 y.sum.c,.int .u64 y.sum.d,.bool y.done] _ (hL2.out W hW) Tryz.underlying77 rfl tZ2
      dsimp only [zB,zC]
      exact mZ104
     ·clear hTt
      exact mZ103
/-- tenants of one content -/
structure TenR.eqv (x y:TenR):Prop where
 nm:x.nm=y.nm
 quota:x.quota=y.quota
 next:x.next=y.next
 lenS:x.sets.l.length=y.sets.l.length
 eachS:∀ i (h:i<x.sets.l.length) (h':i<y.sets.l.length),(x.sets.l[i]'h).eqv (y.sets.l[i]'h')
 grants:x.grants.l=y.grants.l
 lenT:x.stages.l.length=y.stages.l.length
 eachT:∀ i (h:i<x.stages.l.length) (h':i<y.stages.l.length),(x.stages.l[i]'h).eqv (y.stages.l[i]'h')
 log:x.log.l=y.log.l
theorem same14_any (x y:TenR) (h:x.eqv y) (w:World) (B:Nat) (hB:B≤w.heap.size) (hx:x.rd w B) (hy:y.rd w B) (hz:x.sz) :
  Calls Tryz.prog 13 #[x.val,y.val] w fun e w'=>e=.returned (.bool true)∧Below w.heap.size w w':=by
 obtain ⟨h1,h2,h3,h4,h5,h6,h7,h8,h9⟩:=h
 obtain ⟨nm,quota,next,⟨s1,sn,s3,sl⟩,⟨g1,gn,g3,gl⟩,⟨t1,tn,t3,tl⟩,⟨l1,ln,l3,ll⟩⟩:=x
 obtain ⟨nm',quota',next',⟨s1',sn',s3',sl'⟩,⟨g1',gn',g3',gl'⟩,⟨t1',tn',t3',tl'⟩,⟨l1',ln',l3',ll'⟩⟩:=y
 simp only at h1 h2 h3 h4 h5 h6 h7 h8 h9
 subst h1 h2 h3 h6 h9
 have e1:sn'=sn:=by rw [show sn'=sl'.length from hy.sets.1,show sn=sl.length from hx.sets.1,h4]
 have e2:gn'=gn:=hy.grants.1.trans hx.grants.1.symm
 have e3:tn'=tn:=by rw [show tn'=tl'.length from hy.stages.1,show tn=tl.length from hx.stages.1,h7]
 have e4:ln'=ln:=hy.log.1.trans hx.log.1.symm
 subst e1 e2 e3 e4
 exact sameTenT_any nm quota next sl sl' gl tl tl' ll s1 s1' sn' s3 s3' g1 g1' gn' g3 g3' t1 t1' tn' t3 t3' l1 l1' ln' l3 l3' w B hB hx hy hz h5 h8
end Go.Proofs.YtiojfffgiejibaaGreatDoor
namespace Go.Proofs.YtiojfffgiejibaaGreatDoor
open Go.RowKit
structure SnapO (w:World) (base:Nat) (x:SnapR):Prop where
 body:x.body.own w base 97 2 encB
 tags:x.tags.own w base 9 1 encS
 own:x.own.own w base 100 2 encP
structure SetO (w:World) (base:Nat) (x:SetR):Prop where
 body:x.body.own w base 97 2 encB
 snaps:x.snaps.own w base 58 5 encSnap
 each:∀ y∈x.snaps.l,SnapO w base y
 own:x.own.own w base 100 2 encP
structure StageO (w:World) (base:Nat) (x:StageR):Prop where
 own:x.own.own w base 100 2 encP
 body:x.body.own w base 97 2 encB
structure TenO (w:World) (base:Nat) (t:TenR):Prop where
 sets:t.sets.own w base 56 5 encSet
 eachS:∀ y∈t.sets.l,SetO w base y
 grants:t.grants.own w base 104 3 encG
 stages:t.stages.own w base 77 21 encStage
 eachG:∀ y∈t.stages.l,StageO w base y
 log:t.log.own w base 106 4 encEntry
section
variable {w w':World} {base base' g:Nat}
theorem SnapO.kept {x:SnapR} (h:SnapO w base x) (hg:w.grownBy w' (some g)) (hb:g<base):SnapO w' base x:=⟨h.body.kept hg hb,h.tags.kept hg hb,h.own.kept hg hb⟩
theorem SnapO.below {x:SnapR} (h:SnapO w base x) (hb:Below w.heap.size w w'):SnapO w' base x:=⟨h.body.below hb,h.tags.below hb,h.own.below hb⟩
theorem SnapO.mono {x:SnapR} (h:SnapO w base x) (hb:base'≤base):SnapO w base' x:=⟨h.body.mono hb,h.tags.mono hb,h.own.mono hb⟩
theorem SnapO.rd {x:SnapR} (h:SnapO w base x):x.rd w w.heap.size:=⟨h.body.rd,h.tags.rd,h.own.rd⟩
theorem SetO.kept {x:SetR} (h:SetO w base x) (hg:w.grownBy w' (some g)) (hb:g<base):SetO w' base x:=⟨h.body.kept hg hb,h.snaps.kept hg hb,fun y hy=>(h.each y hy).kept hg hb,h.own.kept hg hb⟩
theorem SetO.below {x:SetR} (h:SetO w base x) (hb:Below w.heap.size w w'):SetO w' base x:=⟨h.body.below hb,h.snaps.below hb,fun y hy=>(h.each y hy).below hb,h.own.below hb⟩
theorem SetO.mono {x:SetR} (h:SetO w base x) (hb:base'≤base):SetO w base' x:=⟨h.body.mono hb,h.snaps.mono hb,fun y hy=>(h.each y hy).mono hb,h.own.mono hb⟩
theorem SetO.rd {x:SetR} (h:SetO w base x):x.rd w w.heap.size:=⟨h.body.rd,h.snaps.rd,fun y hy=>(h.each y hy).rd,h.own.rd⟩
theorem StageO.kept {x:StageR} (h:StageO w base x) (hg:w.grownBy w' (some g)) (hb:g<base):StageO w' base x:=⟨h.own.kept hg hb,h.body.kept hg hb⟩
theorem StageO.below {x:StageR} (h:StageO w base x) (hb:Below w.heap.size w w'):StageO w' base x:=⟨h.own.below hb,h.body.below hb⟩
theorem StageO.mono {x:StageR} (h:StageO w base x) (hb:base'≤base):StageO w base' x:=⟨h.own.mono hb,h.body.mono hb⟩
theorem StageO.rd {x:StageR} (h:StageO w base x):x.rd w w.heap.size:=⟨h.own.rd,h.body.rd⟩
theorem TenO.kept {x:TenR} (h:TenO w base x) (hg:w.grownBy w' (some g)) (hb:g<base):TenO w' base x:=⟨h.sets.kept hg hb,fun y hy=>(h.eachS y hy).kept hg hb,h.grants.kept hg hb,h.stages.kept hg hb,fun y hy=>(h.eachG y hy).kept hg hb,h.log.kept hg hb⟩
theorem TenO.below {x:TenR} (h:TenO w base x) (hb:Below w.heap.size w w'):TenO w' base x:=⟨h.sets.below hb,fun y hy=>(h.eachS y hy).below hb,h.grants.below hb,h.stages.below hb,fun y hy=>(h.eachG y hy).below hb,h.log.below hb⟩
theorem TenO.mono {x:TenR} (h:TenO w base x) (hb:base'≤base):TenO w base' x:=⟨h.sets.mono hb,fun y hy=>(h.eachS y hy).mono hb,h.grants.mono hb,h.stages.mono hb,fun y hy=>(h.eachG y hy).mono hb,h.log.mono hb⟩
theorem TenO.rd {x:TenR} (h:TenO w base x):x.rd w w.heap.size:=⟨h.sets.rd,fun y hy=>(h.eachS y hy).rd,h.grants.rd,h.stages.rd,fun y hy=>(h.eachG y hy).rd,h.log.rd⟩
end
/-- lists that stand in a relation, place by place -/
def EachR {α:Type} (r:α→α→Prop) (l l':List α):Prop:=l.length=l'.length∧∀ i (h:i<l.length) (h':i<l'.length),r (l[i]'h) (l'[i]'h')
theorem EachR.nil {α:Type} {r:α→α→Prop}:EachR r [] []:=⟨rfl,fun i h=>absurd h tZ3⟩
theorem EachR.snoc {α:Type} {r:α→α→Prop} {l l':List α} {a b:α} (h:EachR r l l') (hr:r a b):EachR r (l++[a]) (l'++[b]):=by
 refine ⟨by simp [h.1],fun i h1 h2=>?_⟩
 by_cases hi:i<l.length
 ·rw [List.getElem_append_left hi,List.getElem_append_left (by rw [← h.1];exact hi)]
  exact h.2 i hi _
 ·have:i=l.length:=by simp at h1;omega
  subst this
  simp [h.1]
  simpa [h.1] using hr
theorem EachR.refl {α:Type} {r:α→α→Prop} (hr:∀ a,r a a) (l:List α):EachR r l l:=⟨rfl,fun _ _ _=>hr _⟩
theorem EachR.symm {α:Type} {r:α→α→Prop} (hr:∀ a b,r a b→r b a) {l l':List α} (h:EachR r l l'):EachR r l' l:=⟨h.1.symm,fun i a b=>hr _ _ (h.2 i b a)⟩
theorem EachR.trans {α:Type} {r:α→α→Prop} (hr:∀ a b c,r a b→r b c→r a c) {l l' l'':List α} (h:EachR r l l') (h2:EachR r l' l''):EachR r l l'':=⟨h.1.trans h2.1,fun i a b=>hr _ _ _ (h.2 i a (by rw [← h.1];exact a)) (h2.2 i _ b)⟩
theorem SnapR.eqv.refl (x:SnapR):x.eqv x:=⟨rfl,rfl,rfl,rfl,rfl⟩
theorem SnapR.eqv.symm {x y:SnapR} (h:x.eqv y):y.eqv x:=⟨h.nm.symm,h.gd.symm,h.body.symm,h.tags.symm,h.own.symm⟩
theorem SnapR.eqv.trans {x y z:SnapR} (h:x.eqv y) (k:y.eqv z):x.eqv z:=⟨h.nm.trans k.nm,h.gd.trans k.gd,h.body.trans k.body,h.tags.trans k.tags,h.own.trans k.own⟩
theorem SetR.eqv.refl (x:SetR):x.eqv x:=⟨rfl,rfl,rfl,rfl,fun _ _ _=>SnapR.eqv.refl _,rfl⟩
theorem SetR.eqv.symm {x y:SetR} (h:x.eqv y):y.eqv x:=⟨h.path.symm,h.org.symm,h.body.symm,h.len.symm,fun i a b=>(h.each i b a).symm,h.own.symm⟩
theorem SetR.eqv.trans {x y z:SetR} (h:x.eqv y) (k:y.eqv z):x.eqv z:=⟨h.path.trans k.path,h.org.trans k.org,h.body.trans k.body,h.len.trans k.len,fun i a b=>(h.each i a (by rw [← h.len];exact a)).trans (k.each i _ b),h.own.trans k.own⟩
theorem StageR.eqv.refl (x:StageR):x.eqv x:=⟨rfl,rfl,rfl,rfl,rfl,rfl,rfl,rfl,rfl,rfl,rfl,rfl,rfl,rfl,rfl⟩
theorem StageR.eqv.symm {x y:StageR} (h:x.eqv y):y.eqv x:=⟨h.1.symm,h.2.symm,h.3.symm,h.4.symm,h.5.symm,h.6.symm,h.7.symm,h.8.symm,h.9.symm,h.10.symm,h.11.symm,h.12.symm,h.13.symm,h.14.symm,h.15.symm⟩
theorem StageR.eqv.trans {x y z:StageR} (h:x.eqv y) (k:y.eqv z):x.eqv z:=⟨h.1.trans k.1,h.2.trans k.2,h.3.trans k.3,h.4.trans k.4,h.5.trans k.5,h.6.trans k.6,h.7.trans k.7,h.8.trans k.8,h.9.trans k.9,h.10.trans k.10,h.11.trans k.11,h.12.trans k.12,h.13.trans k.13,h.14.trans k.14,h.15.trans k.15⟩
theorem TenR.eqv.refl (x:TenR):x.eqv x:=⟨rfl,rfl,rfl,rfl,fun _ _ _=>SetR.eqv.refl _,rfl,rfl,fun _ _ _=>StageR.eqv.refl _,rfl⟩
theorem TenR.eqv.symm {x y:TenR} (h:x.eqv y):y.eqv x:=⟨h.nm.symm,h.quota.symm,h.next.symm,h.lenS.symm,fun i a b=>(h.eachS i b a).symm,h.grants.symm,h.lenT.symm,fun i a b=>(h.eachT i b a).symm,h.log.symm⟩
theorem TenR.eqv.trans {x y z:TenR} (h:x.eqv y) (k:y.eqv z):x.eqv z:=⟨h.nm.trans k.nm,h.quota.trans k.quota,h.next.trans k.next,h.lenS.trans k.lenS,fun i a b=>(h.eachS i a (by rw [← h.lenS];exact a)).trans (k.eachS i _ b),h.grants.trans k.grants,h.lenT.trans k.lenT,fun i a b=>(h.eachT i a (by rw [← h.lenT];exact a)).trans (k.eachT i _ b),h.log.trans k.log⟩
/-! ### sizes hang on the content alone -/
theorem SnapR.eqv.sz {x y:SnapR} (h:x.eqv y) (hx:x.sz) (hb:y.body.n=x.body.n) (ht:y.tags.n=x.tags.n) (ho:y.own.n=x.own.n):y.sz:=⟨by rw [← h.nm];exact hx.nm,by rw [hb];exact hx.body,by rw [ht];exact hx.tags,by rw [← h.tags];exact hx.each,by rw [ho];exact hx.own,by rw [← h.own];exact hx.props⟩
end Go.Proofs.YtiojfffgiejibaaGreatDoor
