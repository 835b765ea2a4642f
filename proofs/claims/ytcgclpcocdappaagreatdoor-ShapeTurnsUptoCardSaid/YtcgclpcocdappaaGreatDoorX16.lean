/-
  The page's SameSnap, SameSet at equal contents: they answer true. The page's amount, Find, Snap, tags, Parent, Split: by their contracts. tree.copySnap, by its contract.
-/
import Derived.Test.YtcgclpcocdappaaGreatDoorXM1
import Derived.Test.YtcgclpcocdappaaGreatDoorX0
import Derived.Test.YtcgclpcocdappaaGreatDoorX10
import Derived.Test.YtcgclpcocdappaaGreatDoorX8
import Derived.Test.YtcgclpcocdappaaGreatDoorX1
import Derived.Test.YtcgclpcocdappaaGreatDoorX12
import Derived.Test.YtcgclpcocdappaaGreatDoorX13
import Derived.Test.YtcgclpcocdappaaGreatDoorX6
import Derived.Test.YtcgclpcocdappaaGreatDoorX2
import Derived.Test.YtcgclpcocdappaaGreatDoorX4
import Derived.Deep.DeepCutAuto
namespace Go.Proofs.YtcgclpcocdappaaGreatDoor
open Go.RowKit
theorem rsameT_any (l:List BlkT) (n:Nat) (hn:n=l.length) (A A':Option Addr) (c c':Nat) (w:World) (B:Nat) (hr:Reads w B 2 A n (bcells l)) (hr':Reads w B 2 A' n (bcells l)) (hm:n≤1000000000000) :
  Calls Tryz.prog 13 #[.slice A n c,.slice A' n c'] w fun e w'=>e=.returned (.bool true)∧Below w.heap.size w w':=by
 refine (bksame_any l l n n hn hn A A' c c' w B B hr hr' tZ1).mono ?_
 exact mZ164
theorem samePropsT_any (l:List (BS×BS)) (n:Nat) (hn:n=l.length) (A A':Option Addr) (c c':Nat) (w:World) (B:Nat) (hr:Reads w B 2 A n (pcells l)) (hr':Reads w B 2 A' n (pcells l)) (hm:n≤1000000000000) :
  Calls Tryz.prog 14 #[.slice A n c,.slice A' n c'] w fun e w'=>e=.returned (.bool true)∧Below w.heap.size w w':=by
 refine (sameProps_any l l n n hn hn A A' c c' w B B hr hr' tZ1 tZ1).mono ?_
 exact mZ164
set_option maxRecDepth 100000 in
set_option maxHeartbeats 4000000 in
theorem sameSnapT_any (nm:BS) (gd:Int) (bl:List BlkT) (tl:List BS) (ol:List (BS×BS)) (b1 b1':Option Addr) (bn b3 b3':Nat) (t1 t1':Option Addr) (tn t3 t3':Nat) (o1 o1':Option Addr) (on o3 o3':Nat) (w:World) (B:Nat) (hB:B≤w.heap.size)
  (hbn:bn=bl.length) (htn:tn=tl.length) (hon:on=ol.length) (hb:Reads w B 2 b1 bn (bcells bl)) (hb':Reads w B 2 b1' bn (bcells bl)) (ht:Reads w B 1 t1 tn (scells tl)) (ht':Reads w B 1 t1' tn (scells tl)) (ho:Reads w B 2 o1 on (pcells ol)) (ho':Reads w B 2 o1' on (pcells ol))
  (hbm:bn≤1000000000000) (htm:tn≤1000000000000) (hom:on≤1000000000000) :
  Calls Tryz.prog 138 #[.agg #[.string ⟨nm.toArray⟩,.int .i64 gd,.slice b1 bn b3,.slice t1 tn t3,.slice o1 on o3],.agg #[.string ⟨nm.toArray⟩,.int .i64 gd,.slice b1' bn b3',.slice t1' tn t3',.slice o1' on o3']] w fun e w'=>e=.returned (.bool true)∧Below w.heap.size w w':=by
 have hb1:=(Below.refl w.heap.size w).alloc (Nat.le_refl _) (.cells #[.string ⟨nm.toArray⟩,.int .i64 gd,.slice b1 bn b3,.slice t1 tn t3,.slice o1 on o3] 57)
 have hb2:=hb1.alloc hb1.size (.cells #[.string ⟨nm.toArray⟩,.int .i64 gd,.slice b1' bn b3',.slice t1' tn t3',.slice o1' on o3'] 57)
 have k1:=(Blk.new w 57 #[.string ⟨nm.toArray⟩,.int .i64 gd,.slice b1 bn b3,.slice t1 tn t3,.slice o1 on o3]).alloc (.cells #[.string ⟨nm.toArray⟩,.int .i64 gd,.slice b1' bn b3',.slice t1' tn t3',.slice o1' on o3'] 57)
 have k2:=Blk.new (w.alloc (.cells #[.string ⟨nm.toArray⟩,.int .i64 gd,.slice b1 bn b3,.slice t1 tn t3,.slice o1 on o3] 57)) 57 #[.string ⟨nm.toArray⟩,.int .i64 gd,.slice b1' bn b3',.slice t1' tn t3',.slice o1' on o3']
 rw [show (w.alloc (.cells #[.string ⟨nm.toArray⟩,.int .i64 gd,.slice b1 bn b3,.slice t1 tn t3,.slice o1 on o3] 57)).heap.size=w.heap.size+1 by simp] at k2
 obtain ⟨W2,hW2⟩:∃ W,W=(w.alloc (.cells #[.string ⟨nm.toArray⟩,.int .i64 gd,.slice b1 bn b3,.slice t1 tn t3,.slice o1 on o3] 57)).alloc (.cells #[.string ⟨nm.toArray⟩,.int .i64 gd,.slice b1' bn b3',.slice t1' tn t3',.slice o1' on o3'] 57):=⟨_,rfl⟩
 have hsz:W2.heap.size=w.heap.size+2:=tZ53
 rw [← hW2] at hb2 k1 k2
 have hS:=Lib.hid (fun (W':World) (hB':Below W2.heap.size W2 W')=>(⟨(k1.below hB' tZ1).cell 0,(k1.below hB' tZ1).cell 1,(k1.below hB' tZ1).cell 2,(k1.below hB' tZ1).cell 3,(k1.below hB' tZ1).cell 4,(k2.below hB' tZ1).cell 0,(k2.below hB' tZ1).cell 1,(k2.below hB' tZ1).cell 2,(k2.below hB' tZ1).cell 3,(k2.below hB' tZ1).cell 4⟩:W'.cell? ⟨w.heap.size,0,none⟩=some (.string ⟨nm.toArray⟩)∧W'.cell? ⟨w.heap.size,1,none⟩=some (.int .i64 gd)∧W'.cell? ⟨w.heap.size,2,none⟩=some (.slice b1 bn b3)∧W'.cell? ⟨w.heap.size,3,none⟩=some (.slice t1 tn t3)∧W'.cell? ⟨w.heap.size,4,none⟩=some (.slice o1 on o3)∧W'.cell? ⟨w.heap.size+1,0,none⟩=some (.string ⟨nm.toArray⟩)∧W'.cell? ⟨w.heap.size+1,1,none⟩=some (.int .i64 gd)∧W'.cell? ⟨w.heap.size+1,2,none⟩=some (.slice b1' bn b3')∧W'.cell? ⟨w.heap.size+1,3,none⟩=some (.slice t1' tn t3')∧W'.cell? ⟨w.heap.size+1,4,none⟩=some (.slice o1' on o3')))
 have HSZ:=Lib.hid hsz
 have HB2:=Lib.hid hb2
 have hmv:∀ W',Below W2.heap.size W2 W'→Below B w W':=fun W' hB'=>(hb2.trans (hB'.mono tZ1)).mono hB
 have hBd:Hid (∀ W,Below W2.heap.size W2 W→Calls Tryz.prog 13 #[.slice b1 bn b3,.slice b1' bn b3'] W fun e W'=>e=.returned (.bool true)∧Below W.heap.size W W'):=fun W h=>rsameT_any bl bn hbn b1 b1' b3 b3' W B (hb.below (hmv W h)) (hb'.below (hmv W h)) hbm
 have hPr:Hid (∀ W,Below W2.heap.size W2 W→Calls Tryz.prog 14 #[.slice o1 on o3,.slice o1' on o3'] W fun e W'=>e=.returned (.bool true)∧Below W.heap.size W W'):=fun W h=>samePropsT_any ol on hon o1 o1' o3 o3' W B (ho.below (hmv W h)) (ho'.below (hmv W h)) hom
 have hTg:Hid (∀ W,Below W2.heap.size W2 W→Reads W B 1 t1 tn (scells tl)∧Reads W B 1 t1' tn (scells tl)):=fun W h=>⟨ht.below (hmv W h),ht'.below (hmv W h)⟩
 have HTN:=Lib.hid htn
 clear hb1 hb2 k1 k2 hsz hmv hb hb' ht ht' ho ho' hbn htn hon
 have hW0:=Below.refl W2.heap.size W2
 go_enter Tryz.func138,Tryz.ntmps138
 go_wp2_with fail
 rw [← hW2]
 clear hW2
 refine (hBd.out _ hW0).mono ?_
 rintro e w3 ⟨rfl,hb3⟩
 have hW3:=hW0.trans (hb3.mono hW0.size)
 clear hb3 hBd
 obtain ⟨p0,p1,p2,p3,p4,q0,q1,q2,q3,q4⟩:=hS.out _ hW3
 go_wp2_with fail
 refine (hPr.out _ hW3).mono ?_
 rintro e w4 ⟨rfl,hb4⟩
 have hW4:=hW3.trans (hb4.mono hW3.size)
 clear hb4 hPr p0 p1 p2 p3 p4 q0 q1 q2 q3 q4
 obtain ⟨p0,p1,p2,p3,p4,q0,q1,q2,q3,q4⟩:=hS.out _ hW4
 go_wp2_with fail
 clear p0 p1 p2 p3 p4 q0 q1 q2 q3 q4
 go_loopw [5] (fun j wr=>∃ k:Nat,k≤tn∧j=.int .i64 (k:Int)∧Below W2.heap.size W2 wr) (fun j _=>tn-(intOf j).toNat)
 case atStart=>exact ⟨0,Nat.zero_le _,rfl,hW4⟩
 case round =>
  clear hW4 hW3 hW0
  obtain ⟨k,hk,rfl,hWr⟩:=hrel
  obtain ⟨p0,p1,p2,p3,p4,q0,q1,q2,q3,q4⟩:=hS.out _ hWr
  by_cases hlt:k<tn
  ·have hki:(k:Int)<(tn:Int):=tZ1
   obtain ⟨r1,r2⟩:=hTg.out _ hWr
   obtain ⟨ad,rfl,-,c0⟩:=strs_at r1 HTN.out hlt
   obtain ⟨ad2,rfl,-,d0⟩:=strs_at r2 HTN.out hlt
   obtain ⟨x,hx⟩:∃ x,x=tl[k]'tZ112:=⟨_,rfl⟩
   rw [← hx] at c0 d0
   simp only [strV] at c0 d0
   clear hx r1 r2 hTg
   go_wp2_with fail
   go_big_quiet (fail)
   go_wp2_with fail
   go_roundw
   case rel=>exact ⟨k+1,by omega,by go_num,below_drewN hWr _⟩
   case measure=>simp [intOf];omega
  ·clear hTg
   exact mZ165
/-- snapshots of one content -/
structure SnapR.eqv (x y:SnapR):Prop where
 nm:x.nm=y.nm
 gd:x.gd=y.gd
 body:x.body.l=y.body.l
 tags:x.tags.l=y.tags.l
 own:x.own.l=y.own.l
theorem sameSnapR_any (x y:SnapR) (h:x.eqv y) (w:World) (B:Nat) (hB:B≤w.heap.size) (hx:x.rd w B) (hy:y.rd w B) (hz:x.sz) :
  Calls Tryz.prog 138 #[.agg #[.string ⟨x.nm.toArray⟩,.int .i64 x.gd,.slice x.body.A x.body.n x.body.c,.slice x.tags.A x.tags.n x.tags.c,.slice x.own.A x.own.n x.own.c],.agg #[.string ⟨y.nm.toArray⟩,.int .i64 y.gd,.slice y.body.A y.body.n y.body.c,.slice y.tags.A y.tags.n y.tags.c,.slice y.own.A y.own.n y.own.c]] w fun e w'=>e=.returned (.bool true)∧Below w.heap.size w w':=by
 obtain ⟨h1,h2,h3,h4,h5⟩:=h
 obtain ⟨nm,gd,⟨b1,bn,b3,bl⟩,⟨t1,tn,t3,tl⟩,⟨o1,on,o3,ol⟩⟩:=x
 obtain ⟨nm',gd',⟨b1',bn',b3',bl'⟩,⟨t1',tn',t3',tl'⟩,⟨o1',on',o3',ol'⟩⟩:=y
 simp only at h1 h2 h3 h4 h5
 subst h1 h2 h3 h4 h5
 have e1:bn'=bn:=hy.body.1.trans hx.body.1.symm
 have e2:tn'=tn:=hy.tags.1.trans hx.tags.1.symm
 have e3:on'=on:=hy.own.1.trans hx.own.1.symm
 subst e1 e2 e3
 exact sameSnapT_any nm gd bl tl ol b1 b1' bn' b3 b3' t1 t1' tn' t3 t3' o1 o1' on' o3 o3' w B hB hx.body.1 hx.tags.1 hx.own.1 hx.body.2.2 hy.body.2.2 (by rw [← scells_enc];exact hx.tags.2.2) (by rw [← scells_enc];exact hy.tags.2.2) hx.own.2.2 hy.own.2.2 hz.body hz.tags hz.own
set_option maxRecDepth 100000 in
set_option maxHeartbeats 4000000 in
theorem sameSetT_any (pa og:BS) (bl:List BlkT) (sl sl':List SnapR) (ol:List (BS×BS)) (b1 b1':Option Addr) (bn b3 b3':Nat) (s1 s1':Option Addr) (sn s3 s3':Nat) (o1 o1':Option Addr) (on o3 o3':Nat) (w:World) (B:Nat) (hB:B≤w.heap.size)
  (hbn:bn=bl.length) (hsn:sn=sl.length) (hsn':sn=sl'.length) (hon:on=ol.length) (hb:Reads w B 2 b1 bn (bcells bl)) (hb':Reads w B 2 b1' bn (bcells bl)) (ht:Reads w B 5 s1 sn (cellsK encSnap sl)) (ht':Reads w B 5 s1' sn (cellsK encSnap sl')) (ho:Reads w B 2 o1 on (pcells ol)) (ho':Reads w B 2 o1' on (pcells ol))
  (he:∀ y∈sl,y.rd w B) (he':∀ y∈sl',y.rd w B) (heq:∀ i (h:i<sl.length) (h':i<sl'.length),(sl[i]'h).eqv (sl'[i]'h')) (hz:∀ y∈sl,y.sz) (hbm:bn≤1000000000000) (htm:sn≤1000000000000) (hom:on≤1000000000000) :
  Calls Tryz.prog 74 #[.agg #[.string ⟨pa.toArray⟩,.string ⟨og.toArray⟩,.slice b1 bn b3,.slice s1 sn s3,.slice o1 on o3],.agg #[.string ⟨pa.toArray⟩,.string ⟨og.toArray⟩,.slice b1' bn b3',.slice s1' sn s3',.slice o1' on o3']] w fun e w'=>e=.returned (.bool true)∧Below w.heap.size w w':=by
 have hb1:=(Below.refl w.heap.size w).alloc (Nat.le_refl _) (.cells #[.string ⟨pa.toArray⟩,.string ⟨og.toArray⟩,.slice b1 bn b3,.slice s1 sn s3,.slice o1 on o3] 42)
 have hb2:=hb1.alloc hb1.size (.cells #[.string ⟨pa.toArray⟩,.string ⟨og.toArray⟩,.slice b1' bn b3',.slice s1' sn s3',.slice o1' on o3'] 42)
 have k1:=(Blk.new w 42 #[.string ⟨pa.toArray⟩,.string ⟨og.toArray⟩,.slice b1 bn b3,.slice s1 sn s3,.slice o1 on o3]).alloc (.cells #[.string ⟨pa.toArray⟩,.string ⟨og.toArray⟩,.slice b1' bn b3',.slice s1' sn s3',.slice o1' on o3'] 42)
 have k2:=Blk.new (w.alloc (.cells #[.string ⟨pa.toArray⟩,.string ⟨og.toArray⟩,.slice b1 bn b3,.slice s1 sn s3,.slice o1 on o3] 42)) 42 #[.string ⟨pa.toArray⟩,.string ⟨og.toArray⟩,.slice b1' bn b3',.slice s1' sn s3',.slice o1' on o3']
 rw [show (w.alloc (.cells #[.string ⟨pa.toArray⟩,.string ⟨og.toArray⟩,.slice b1 bn b3,.slice s1 sn s3,.slice o1 on o3] 42)).heap.size=w.heap.size+1 by simp] at k2
 obtain ⟨W2,hW2⟩:∃ W,W=(w.alloc (.cells #[.string ⟨pa.toArray⟩,.string ⟨og.toArray⟩,.slice b1 bn b3,.slice s1 sn s3,.slice o1 on o3] 42)).alloc (.cells #[.string ⟨pa.toArray⟩,.string ⟨og.toArray⟩,.slice b1' bn b3',.slice s1' sn s3',.slice o1' on o3'] 42):=⟨_,rfl⟩
 have hsz:W2.heap.size=w.heap.size+2:=tZ53
 rw [← hW2] at hb2 k1 k2
 have hS:=Lib.hid (fun (W':World) (hB':Below W2.heap.size W2 W')=>(⟨(k1.below hB' tZ1).cell 0,(k1.below hB' tZ1).cell 1,(k1.below hB' tZ1).cell 2,(k1.below hB' tZ1).cell 3,(k1.below hB' tZ1).cell 4,(k2.below hB' tZ1).cell 0,(k2.below hB' tZ1).cell 1,(k2.below hB' tZ1).cell 2,(k2.below hB' tZ1).cell 3,(k2.below hB' tZ1).cell 4⟩:W'.cell? ⟨w.heap.size,0,none⟩=some (.string ⟨pa.toArray⟩)∧W'.cell? ⟨w.heap.size,1,none⟩=some (.string ⟨og.toArray⟩)∧W'.cell? ⟨w.heap.size,2,none⟩=some (.slice b1 bn b3)∧W'.cell? ⟨w.heap.size,3,none⟩=some (.slice s1 sn s3)∧W'.cell? ⟨w.heap.size,4,none⟩=some (.slice o1 on o3)∧W'.cell? ⟨w.heap.size+1,0,none⟩=some (.string ⟨pa.toArray⟩)∧W'.cell? ⟨w.heap.size+1,1,none⟩=some (.string ⟨og.toArray⟩)∧W'.cell? ⟨w.heap.size+1,2,none⟩=some (.slice b1' bn b3')∧W'.cell? ⟨w.heap.size+1,3,none⟩=some (.slice s1' sn s3')∧W'.cell? ⟨w.heap.size+1,4,none⟩=some (.slice o1' on o3')))
 have HSZ:=Lib.hid hsz
 have HB2:=Lib.hid hb2
 have hmv:∀ W',Below W2.heap.size W2 W'→Below B w W':=fun W' hB'=>(hb2.trans (hB'.mono tZ1)).mono hB
 have hBd:Hid (∀ W,Below W2.heap.size W2 W→Calls Tryz.prog 13 #[.slice b1 bn b3,.slice b1' bn b3'] W fun e W'=>e=.returned (.bool true)∧Below W.heap.size W W'):=fun W h=>rsameT_any bl bn hbn b1 b1' b3 b3' W B (hb.below (hmv W h)) (hb'.below (hmv W h)) hbm
 have hPr:Hid (∀ W,Below W2.heap.size W2 W→Calls Tryz.prog 14 #[.slice o1 on o3,.slice o1' on o3'] W fun e W'=>e=.returned (.bool true)∧Below W.heap.size W W'):=fun W h=>samePropsT_any ol on hon o1 o1' o3 o3' W B (ho.below (hmv W h)) (ho'.below (hmv W h)) hom
 have hTg:Hid (∀ W,Below W2.heap.size W2 W→Reads W B 5 s1 sn (cellsK encSnap sl)∧Reads W B 5 s1' sn (cellsK encSnap sl')∧B≤W.heap.size∧(∀ y∈sl,y.rd W B)∧∀ y∈sl',y.rd W B):=fun W h=>⟨ht.below (hmv W h),ht'.below (hmv W h),by have:=h.size;omega,fun y hy=>⟨(he y hy).body.below (hmv W h),(he y hy).tags.below (hmv W h),(he y hy).own.below (hmv W h)⟩,fun y hy=>⟨(he' y hy).body.below (hmv W h),(he' y hy).tags.below (hmv W h),(he' y hy).own.below (hmv W h)⟩⟩
 have HSN:=Lib.hid hsn
 have HSN':=Lib.hid hsn'
 have HEQ:=Lib.hid heq
 have HZ:=Lib.hid hz
 clear hb1 hb2 k1 k2 hsz hmv hb hb' ht ht' ho ho' hbn hsn hsn' hon he he' heq hz
 have hW0:=Below.refl W2.heap.size W2
 go_enter Tryz.func74,Tryz.ntmps74
 go_wp2_with fail
 rw [← hW2]
 clear hW2
 refine (hBd.out _ hW0).mono ?_
 rintro e w3 ⟨rfl,hb3⟩
 have hW3:=hW0.trans (hb3.mono hW0.size)
 clear hb3 hBd
 obtain ⟨p0,p1,p2,p3,p4,q0,q1,q2,q3,q4⟩:=hS.out _ hW3
 go_wp2_with fail
 refine (hPr.out _ hW3).mono ?_
 rintro e w4 ⟨rfl,hb4⟩
 have hW4:=hW3.trans (hb4.mono hW3.size)
 clear hb4 hPr p0 p1 p2 p3 p4 q0 q1 q2 q3 q4
 obtain ⟨p0,p1,p2,p3,p4,q0,q1,q2,q3,q4⟩:=hS.out _ hW4
 go_wp2_with fail
 clear p0 p1 p2 p3 p4 q0 q1 q2 q3 q4
 go_loopw [5] (fun j wr=>∃ k:Nat,k≤sn∧j=.int .i64 (k:Int)∧Below W2.heap.size W2 wr) (fun j _=>sn-(intOf j).toNat)
 case atStart=>exact ⟨0,Nat.zero_le _,rfl,hW4⟩
 case round =>
  clear hW4 hW3 hW0
  obtain ⟨k,hk,rfl,hWr⟩:=hrel
  obtain ⟨p0,p1,p2,p3,p4,q0,q1,q2,q3,q4⟩:=hS.out _ hWr
  by_cases hlt:k<sn
  ·have hki:(k:Int)<(sn:Int):=tZ1
   obtain ⟨r1,r2,-⟩:=hTg.out _ hWr
   obtain ⟨ad,rfl,-⟩:=snap_at r1 HSN.out hlt
   obtain ⟨ad2,rfl,-⟩:=snap_at r2 HSN'.out hlt
   have hkl:k<sl.length:=tZ113
   have hkl':k<sl'.length:=by have:=HSN'.out;omega
   have hev:=HEQ.out k hkl hkl'
   have hxm:sl[k]'hkl∈sl:=List.getElem_mem _
   have hym:sl'[k]'hkl'∈sl':=List.getElem_mem _
   have hX:Hid (∀ W,Below W2.heap.size W2 W→(W.cell? (ad.add (k*5))=some (.string ⟨(sl[k]'hkl).nm.toArray⟩)∧W.cell? ⟨(ad.add (k*5)).block,(ad.add (k*5)).off+1,none⟩=some (.int .i64 (sl[k]'hkl).gd)∧W.cell? ⟨(ad.add (k*5)).block,(ad.add (k*5)).off+2,none⟩=some (.slice (sl[k]'hkl).body.A (sl[k]'hkl).body.n (sl[k]'hkl).body.c)∧W.cell? ⟨(ad.add (k*5)).block,(ad.add (k*5)).off+3,none⟩=some (.slice (sl[k]'hkl).tags.A (sl[k]'hkl).tags.n (sl[k]'hkl).tags.c)∧W.cell? ⟨(ad.add (k*5)).block,(ad.add (k*5)).off+4,none⟩=some (.slice (sl[k]'hkl).own.A (sl[k]'hkl).own.n (sl[k]'hkl).own.c))∧(W.cell? (ad2.add (k*5))=some (.string ⟨(sl'[k]'hkl').nm.toArray⟩)∧W.cell? ⟨(ad2.add (k*5)).block,(ad2.add (k*5)).off+1,none⟩=some (.int .i64 (sl'[k]'hkl').gd)∧W.cell? ⟨(ad2.add (k*5)).block,(ad2.add (k*5)).off+2,none⟩=some (.slice (sl'[k]'hkl').body.A (sl'[k]'hkl').body.n (sl'[k]'hkl').body.c)∧W.cell? ⟨(ad2.add (k*5)).block,(ad2.add (k*5)).off+3,none⟩=some (.slice (sl'[k]'hkl').tags.A (sl'[k]'hkl').tags.n (sl'[k]'hkl').tags.c)∧W.cell? ⟨(ad2.add (k*5)).block,(ad2.add (k*5)).off+4,none⟩=some (.slice (sl'[k]'hkl').own.A (sl'[k]'hkl').own.n (sl'[k]'hkl').own.c))):=by
    show ∀ W,_→_
    intro W hb
    obtain ⟨u1,u2,-⟩:=hTg.out _ hb
    obtain ⟨ad3,e3,-,c⟩:=snap_at u1 HSN.out hlt
    obtain ⟨ad4,e4,-,d⟩:=snap_at u2 HSN'.out hlt
    injection e3 with e3
    injection e4 with e4
    subst e3 e4
    exact ⟨c,d⟩
   have hSS:Hid (∀ W,Below W2.heap.size W2 W→Calls Tryz.prog 138 #[.agg #[.string ⟨(sl[k]'hkl).nm.toArray⟩,.int .i64 (sl[k]'hkl).gd,.slice (sl[k]'hkl).body.A (sl[k]'hkl).body.n (sl[k]'hkl).body.c,.slice (sl[k]'hkl).tags.A (sl[k]'hkl).tags.n (sl[k]'hkl).tags.c,.slice (sl[k]'hkl).own.A (sl[k]'hkl).own.n (sl[k]'hkl).own.c],.agg #[.string ⟨(sl'[k]'hkl').nm.toArray⟩,.int .i64 (sl'[k]'hkl').gd,.slice (sl'[k]'hkl').body.A (sl'[k]'hkl').body.n (sl'[k]'hkl').body.c,.slice (sl'[k]'hkl').tags.A (sl'[k]'hkl').tags.n (sl'[k]'hkl').tags.c,.slice (sl'[k]'hkl').own.A (sl'[k]'hkl').own.n (sl'[k]'hkl').own.c]] W fun e W'=>e=.returned (.bool true)∧Below W.heap.size W W'):=fun W hb=>by
    obtain ⟨-,-,u3,u4,u5⟩:=hTg.out _ hb
    exact sameSnapR_any _ _ hev W B u3 (u4 _ hxm) (u5 _ hym) (HZ.out _ hxm)
   obtain ⟨x,hx⟩:∃ x,x=sl[k]'hkl:=⟨_,rfl⟩
   obtain ⟨y,hy⟩:∃ y,y=sl'[k]'hkl':=⟨_,rfl⟩
   rw [← hx,← hy] at hX hSS
   obtain ⟨nm,gd,⟨f1,f2,f3,fl⟩,⟨t1,t2,t3,tl⟩,⟨u1,u2,u3,ul⟩⟩:=x
   obtain ⟨nm',gd',⟨f1',f2',f3',fl'⟩,⟨t1',t2',t3',tl'⟩,⟨u1',u2',u3',ul'⟩⟩:=y
   simp only at hX hSS
   clear hx hy hev hxm hym r1 r2 hTg HEQ HZ
   go_wp2_with fail
   clear p0 p1 p2 p3 p4 q0 q1 q2 q3 q4
   refine wpC_regionH (fun W'=>Below W2.heap.size W2 W') (hWr.drew) (fun OPS D QQ HO HD HD2 HQQ=>?_)
   clear HO
   refine zX ?_
   refine wpC_readS (v:=?_) rfl rfl (fun W hW=>?_) ?_
   rotate_left
   ·replace hW:=HD.out W hW
    skip
    obtain ⟨-,-,-,p3,-⟩:=hS.out _ hW
    exact mZ131
   dsimp only [zB,zC]
   iterate 2 refine zX ?_
   refine zM hX.out ?_
   refine zX ?_
   refine wpC_readS (v:=?_) rfl rfl (fun W hW=>?_) ?_
   rotate_left
   ·replace hW:=HD.out W hW
    skip
    obtain ⟨-,-,-,-,-,-,-,-,q3,-⟩:=hS.out _ hW
    exact mZ131
   dsimp only [zB,zC]
   iterate 2 refine zX ?_
   refine zM hX.out ?_
   exact mZ166
  ·clear hTg
   exact mZ165
/-- sets of one content -/
structure SetR.eqv (x y:SetR):Prop where
 path:x.path=y.path
 org:x.org=y.org
 body:x.body.l=y.body.l
 len:x.snaps.l.length=y.snaps.l.length
 each:∀ i (h:i<x.snaps.l.length) (h':i<y.snaps.l.length),(x.snaps.l[i]'h).eqv (y.snaps.l[i]'h')
 own:x.own.l=y.own.l
theorem sameSetR_any (x y:SetR) (h:x.eqv y) (w:World) (B:Nat) (hB:B≤w.heap.size) (hx:x.rd w B) (hy:y.rd w B) (hz:x.sz) :
  Calls Tryz.prog 74 #[.agg #[.string ⟨x.path.toArray⟩,.string ⟨x.org.toArray⟩,.slice x.body.A x.body.n x.body.c,.slice x.snaps.A x.snaps.n x.snaps.c,.slice x.own.A x.own.n x.own.c],.agg #[.string ⟨y.path.toArray⟩,.string ⟨y.org.toArray⟩,.slice y.body.A y.body.n y.body.c,.slice y.snaps.A y.snaps.n y.snaps.c,.slice y.own.A y.own.n y.own.c]] w fun e w'=>e=.returned (.bool true)∧Below w.heap.size w w':=by
 obtain ⟨h1,h2,h3,h4,h5,h6⟩:=h
 obtain ⟨pa,og,⟨b1,bn,b3,bl⟩,⟨s1,sn,s3,sl⟩,⟨o1,on,o3,ol⟩⟩:=x
 obtain ⟨pa',og',⟨b1',bn',b3',bl'⟩,⟨s1',sn',s3',sl'⟩,⟨o1',on',o3',ol'⟩⟩:=y
 simp only at h1 h2 h3 h4 h5 h6
 subst h1 h2 h3 h6
 have e1:bn'=bn:=hy.body.1.trans hx.body.1.symm
 have e2:sn'=sn:=by rw [show sn'=sl'.length from hy.snaps.1,show sn=sl.length from hx.snaps.1,h4]
 have e3:on'=on:=hy.own.1.trans hx.own.1.symm
 subst e1 e2 e3
 exact sameSetT_any pa og bl sl sl' ol b1 b1' bn' b3 b3' s1 s1' sn' s3 s3' o1 o1' on' o3 o3' w B hB hx.body.1 hx.snaps.1 hy.snaps.1 hx.own.1 hx.body.2.2 hy.body.2.2 hx.snaps.2.2 hy.snaps.2.2 hx.own.2.2 hy.own.2.2 hx.each hy.each h5 hz.each hz.body hz.snaps hz.own
end Go.Proofs.YtcgclpcocdappaaGreatDoor
namespace Go.Proofs.YtcgclpcocdappaaGreatDoor
open Go.RowKit
set_option maxRecDepth 100000 in
theorem refAmount_any (n k:Int) (w:World):Calls Tryz.prog 64 #[.int .i64 n,.int .i64 k] w fun e w'=>e=.returned (.bool (amt n k))∧w'=w:=by
 go_enter Tryz.func64,Tryz.ntmps64
 exact mZ116
theorem refAmountB_any (n k:Int) (w:World):Calls Tryz.prog 64 #[.int .i64 n,.int .i64 k] w fun e w'=>e=.returned (.bool (amt n k))∧Below w.heap.size w w':=by
 refine (refAmount_any n k w).mono ?_
 exact mZ137
theorem refNameB_any (x:BS) (w:World) (hs:x.length≤4000000000):Calls Tryz.prog 63 #[.string ⟨x.toArray⟩] w fun e w'=>e=.returned (.bool (nameB x))∧Below w.heap.size w w':=by
 refine (refName_s ⟨x.toArray⟩ w (by show x.length≤_;omega)).mono ?_
 exact mZ137
set_option maxRecDepth 100000 in
set_option maxHeartbeats 1000000 in
theorem refFind_any (v0 v1 v2 v4 v5 v6:Value) (l:List SetR) (n:Nat) (hnl:n=l.length) (A:Option Addr) (c:Nat) (p:BS) (w:World) (B:Nat) (hr:Reads w B 5 A n (cellsK encSet l)) (hB:B≤w.heap.size) (hn:n≤5000000000000) :
  Calls Tryz.prog 10 #[.agg #[v0,v1,v2,.slice A n c,v4,v5,v6],.string ⟨p.toArray⟩] w fun e w'=>e=.returned (.int .i64 (findS l p))∧Below w.heap.size w w':=by
 have HN:=Lib.hid hnl
 have hb1:=(Below.refl w.heap.size w).alloc (Nat.le_refl _) (.cells #[v0,v1,v2,.slice A n c,v4,v5,v6] 27)
 have kT:=Blk.new w 27 #[v0,v1,v2,.slice A n c,v4,v5,v6]
 obtain ⟨W1,hW1⟩:∃ W,W=w.alloc (.cells #[v0,v1,v2,.slice A n c,v4,v5,v6] 27):=⟨_,rfl⟩
 have hsz1:W1.heap.size=w.heap.size+1:=tZ55
 rw [← hW1] at hb1 kT
 have q3:W1.cell? ⟨w.heap.size,3,none⟩=some (.slice A n c):=kT.cell 3
 have hrw:=hr.below (hb1.mono hB)
 have HB1:=Lib.hid hb1
 clear hnl hr kT hsz1 hb1
 go_enter Tryz.func10,Tryz.ntmps10
 go_wp2_with fail
 rw [← hW1]
 clear hW1
 go_loopw [5] (fun j wr=>∃ k:Nat,k≤n∧j=.int .i64 (k:Int)∧Hid (∀ y∈l.take k,(y.path == p)=false)∧wr=W1) (fun j _=>n-(intOf j).toNat)
 case atStart=>exact ⟨0,Nat.zero_le _,rfl,(show ∀ y∈_,_ by simp),rfl⟩
 case round =>
  obtain ⟨k,hk,rfl,hno,hww⟩:=hrel
  have hww:=hww.symm
  subst hww
  by_cases hlt:k<n
  ·have hki:(k:Int)<(n:Int):=tZ1
   have hkl:k<l.length:=tZ7
   obtain ⟨ad,rfl,-,c0,-⟩:=set_at hrw HN.out hlt
   obtain ⟨x,hx⟩:∃ x,x=l[k]'hkl:=⟨_,rfl⟩
   rw [← hx] at c0
   have htk:=List.take_succ_eq_append_getElem hkl
   rw [← hx] at htk
   have HTK:=Lib.hid htk
   have HX:=Lib.hid (show l[k]?=some x by rw [hx];exact List.getElem?_eq_getElem _)
   obtain ⟨xp,hxp⟩:∃ y,y=x.path:=⟨_,rfl⟩
   rw [← hxp] at c0
   have HXP:=Lib.hid hxp
   clear hx htk hrw hxp
   by_cases hxy:xp=p
   ·subst hxy
    go_wp2_with fail
    go_ret
    have hf:=firstP_eq (fun y:SetR=>y.path == xp) l k x hno.out HX.out (by show (x.path == xp)=true;rw [← HXP.out];simp)
    exact ⟨by show _=Ending.returned (.int .i64 (firstI (fun y:SetR=>y.path == xp) l));unfold firstI;rw [hf,if_pos hkl];rfl,HB1.out⟩
   ·have hd:(xp == p)=false:=tZ114
    have HD:Hid ((x.path == p)=false):=tZ159
    clear hxy
    go_wp2_with fail
    go_roundw
    case rel =>
     refine ⟨k+1,by omega,by go_num,?_,trivial⟩
     show ∀ z∈l.take (k+1),(z.path == p)=false
     exact mZ122
    case measure=>simp [intOf];omega
  ·have hkn:k=n:=tZ1
   have HF:Hid (findS l p=-1):=by
    show firstI (fun y:SetR=>y.path == p) l=_
    exact mZ121
   clear hrw hkn
   go_wp2_with fail
   go_ret
   exact ⟨by rw [HF.out];rfl,HB1.out⟩
set_option maxRecDepth 100000 in
set_option maxHeartbeats 1000000 in
theorem refSnap_any (v0 v1 v2 v4:Value) (l:List SnapR) (n:Nat) (hnl:n=l.length) (A:Option Addr) (c:Nat) (p:BS) (w:World) (B:Nat) (hr:Reads w B 5 A n (cellsK encSnap l)) (hB:B≤w.heap.size) (hn:n≤5000000000000) :
  Calls Tryz.prog 27 #[.agg #[v0,v1,v2,.slice A n c,v4],.string ⟨p.toArray⟩] w fun e w'=>e=.returned (.int .i64 (findN l p))∧Below w.heap.size w w':=by
 have HN:=Lib.hid hnl
 have hb1:=(Below.refl w.heap.size w).alloc (Nat.le_refl _) (.cells #[v0,v1,v2,.slice A n c,v4] 42)
 have kT:=Blk.new w 42 #[v0,v1,v2,.slice A n c,v4]
 obtain ⟨W1,hW1⟩:∃ W,W=w.alloc (.cells #[v0,v1,v2,.slice A n c,v4] 42):=⟨_,rfl⟩
 have hsz1:W1.heap.size=w.heap.size+1:=tZ55
 rw [← hW1] at hb1 kT
 have q3:W1.cell? ⟨w.heap.size,3,none⟩=some (.slice A n c):=kT.cell 3
 have hrw:=hr.below (hb1.mono hB)
 have HB1:=Lib.hid hb1
 clear hnl hr kT hsz1 hb1
 go_enter Tryz.func27,Tryz.ntmps27
 go_wp2_with fail
 rw [← hW1]
 clear hW1
 go_loopw [5] (fun j wr=>∃ k:Nat,k≤n∧j=.int .i64 (k:Int)∧Hid (∀ y∈l.take k,(y.nm == p)=false)∧wr=W1) (fun j _=>n-(intOf j).toNat)
 case atStart=>exact ⟨0,Nat.zero_le _,rfl,(show ∀ y∈_,_ by simp),rfl⟩
 case round =>
  obtain ⟨k,hk,rfl,hno,hww⟩:=hrel
  have hww:=hww.symm
  subst hww
  by_cases hlt:k<n
  ·have hki:(k:Int)<(n:Int):=tZ1
   have hkl:k<l.length:=tZ7
   obtain ⟨ad,rfl,-,c0,-⟩:=snap_at hrw HN.out hlt
   obtain ⟨x,hx⟩:∃ x,x=l[k]'hkl:=⟨_,rfl⟩
   rw [← hx] at c0
   have htk:=List.take_succ_eq_append_getElem hkl
   rw [← hx] at htk
   have HTK:=Lib.hid htk
   have HX:=Lib.hid (show l[k]?=some x by rw [hx];exact List.getElem?_eq_getElem _)
   obtain ⟨xp,hxp⟩:∃ y,y=x.nm:=⟨_,rfl⟩
   rw [← hxp] at c0
   have HXP:=Lib.hid hxp
   clear hx htk hrw hxp
   by_cases hxy:xp=p
   ·subst hxy
    go_wp2_with fail
    go_ret
    have hf:=firstP_eq (fun y:SnapR=>y.nm == xp) l k x hno.out HX.out (by show (x.nm == xp)=true;rw [← HXP.out];simp)
    exact ⟨by show _=Ending.returned (.int .i64 (firstI (fun y:SnapR=>y.nm == xp) l));unfold firstI;rw [hf,if_pos hkl];rfl,HB1.out⟩
   ·have hd:(xp == p)=false:=tZ114
    have HD:Hid ((x.nm == p)=false):=tZ159
    clear hxy
    go_wp2_with fail
    go_roundw
    case rel =>
     refine ⟨k+1,by omega,by go_num,?_,trivial⟩
     show ∀ z∈l.take (k+1),(z.nm == p)=false
     exact mZ122
    case measure=>simp [intOf];omega
  ·have hkn:k=n:=tZ1
   have HF:Hid (findN l p=-1):=by
    show firstI (fun y:SnapR=>y.nm == p) l=_
    exact mZ121
   clear hrw hkn
   go_wp2_with fail
   go_ret
   exact ⟨by rw [HF.out];rfl,HB1.out⟩
def prevS (l:List BS) (k:Nat):Option BS:=match k with
 | 0=>none
 | j+1=>l[j]?
set_option maxRecDepth 100000 in
set_option maxHeartbeats 2000000 in
theorem refTags_any (l:List BS) (n:Nat) (hnl:n=l.length) (A:Option Addr) (c:Nat) (w:World) (B:Nat) (hr:Reads w B 1 A n (scells l)) (hn:n≤5000000000000) (hv:∀ x∈l,x.length≤4000000000) :
  Calls Tryz.prog 183 #[.slice A n c] w fun e w'=>e=.returned (.bool (tagsB l))∧∃ q,w'=w.drewN q:=by
 have HN:=Lib.hid hnl
 obtain ⟨V,hV⟩:∃ V,V=tagsB l:=⟨_,rfl⟩
 have HVB:Hid (V=(decide (n≤4) && ascF none l)):=by show _=_;rw [hV];unfold tagsB;rw [hnl]
 rw [← hV]
 clear hnl hV
 go_enter Tryz.func183,Tryz.ntmps183
 go_wp2_with fail
 go_loopw [3] (fun j wr=>∃ k:Nat,k≤n∧j=.int .i64 (k:Int)∧Hid (ascF none l=ascF (prevS l k) (l.drop k))∧∃ p,wr=w.drewN p) (fun j _=>n-(intOf j).toNat)
 case atStart=>exact ⟨0,Nat.zero_le _,rfl,rfl,0,rfl⟩
 case round =>
  obtain ⟨k,hk,rfl,hok,p,rfl⟩:=hrel
  by_cases hlt:k<n
  ·obtain ⟨ad,rfl,hadB,c0⟩:=strs_at hr HN.out hlt
   have hki:(k:Int)<(n:Int):=tZ1
   have hkl:k<l.length:=tZ7
   obtain ⟨x,hx⟩:∃ x,x=l[k]'hkl:=⟨_,rfl⟩
   have hxl:=hv x tZ14
   rw [← hx] at c0
   have hdr:=List.drop_eq_getElem_cons hkl
   rw [← hx] at hdr
   have HX:=Lib.hid hx
   have HDR:=Lib.hid hdr
   simp only [strV] at c0
   have hbad:Hid ((nameB x=false∨(∃ y,prevS l k=some y∧Op.bytesLess y x=false))→V=false):=by
    show _→_
    intro h
    rw [HVB.out,hok.out,HDR.out,ascF_cons]
    rcases h with h | ⟨y,hy,h⟩
    ·rw [h];simp
    ·rw [hy];simp [h]
   have hgood:Hid (nameB x=true→(∀ y,prevS l k=some y→Op.bytesLess y x=true)→ascF none l=ascF (prevS l (k+1)) (l.drop (k+1))):=by
    show _→_→_
    intro h1 h3
    rw [hok.out,HDR.out]
    have hp:prevS l (k+1)=some x:=by
     show l[k]?=_
     rw [List.getElem?_eq_getElem hkl,← HX.out]
    rw [hp,ascF_cons,h1]
    cases hq:prevS l k with
    | none=>rfl
    | some y=>simp [h3 y hq]
   have hN:∀ m,Calls Tryz.prog 63 #[.string ⟨x.toArray⟩] (w.drewN (p+m)) fun e W'=>e=.returned (.bool (nameB x))∧∃ n,W'=w.drewN (p+n):=fun m=>quietN (refName_any x _ tZ1)
   clear hx hdr hok hxl hv
   obtain ⟨bn,hbn0⟩:∃ b,b=nameB x:=⟨_,rfl⟩
   rw [← hbn0] at hbad hgood hN
   clear hbn0
   cases bn with
   | false =>
    have HB:=Lib.hid (hbad.out (.inl rfl))
    clear hr hbad hgood
    go_wp2_with fail
    go_big_quiet ((go_at_call 63;exact hN _))
    clear hN
    exact mZ101
   | true =>
    rcases Nat.eq_zero_or_pos k with h0 | h0
    ·have HG:=Lib.hid (hgood.out rfl (fun y hy=>by subst h0;cases hy))
     have d4:decide ((0:Int)<(k:Int))=false:=tZ6
     have d4':decide (0<k)=false:=tZ6
     clear h0 hr hbad hgood
     go_wp2_with fail
     go_big_quiet ((go_at_call 63;exact hN _))
     clear hN
     exact mZ102
    ·have d4:decide ((0:Int)<(k:Int))=true:=tZ6
     have d4':decide (0<k)=true:=tZ6
     have hk1l:k-1<l.length:=tZ1
     obtain ⟨y,hy⟩:∃ y,y=l[k-1]'hk1l:=⟨_,rfl⟩
     have hpv:prevS l k=some y:=by
      exact mZ96
     obtain ⟨ad2,e2,-,c2⟩:=(strs_at hr HN.out (k:=k-1) tZ1)
     injection e2 with e2
     subst e2
     rw [← hy] at c2
     simp only [strV] at c2
     have i1:(1:Int)≤(k:Int):=tZ1
     have i2:(k:Int)-1<(n:Int):=tZ1
     have i3:IntKind.i64.wrap ((k:Int)-1)=(k:Int)-1:=IntWalk.i64_in _ tZ1
     have i4:((k:Int)-1).toNat=k-1:=tZ1
     have hleq:=leqS 9 x y
     cases hcmp:Op.bytesLess y x with
     | true =>
      have HG:=Lib.hid (hgood.out rfl (fun y' hy'=>by rw [hpv] at hy';cases hy';exact hcmp))
      have f1:(Op.bytesLess x y || x == y)=false:=by
       exact mZ104
      rw [f1] at hleq
      clear hr hbad hgood h0 hpv hy hcmp f1
      go_wp2_with fail
      go_big_quiet ((go_at_call 63;exact hN _))
      clear hN hleq
      exact mZ102
     | false =>
      have HB:=Lib.hid (hbad.out (.inr ⟨y,hpv,hcmp⟩))
      have f1:(Op.bytesLess x y || x == y)=true:=by
       by_cases e:x=y
       ·simp [e]
       ·rw [bl_tri y x hcmp (fun h=>e h.symm)];rfl
      rw [f1] at hleq
      clear hr hbad hgood h0 hpv hy hcmp f1
      go_wp2_with fail
      go_big_quiet ((go_at_call 63;exact hN _))
      clear hN hleq
      exact mZ101
  ·have hkn:k=n:=tZ1
   have hF:Hid (V=decide (n≤4)):=by
    show _=_
    rw [HVB.out,hok.out,List.drop_of_length_le tZ25]
    simp [ascF]
   clear hok hr hkn HVB
   by_cases h8:n≤4
   ·have hi8:(n:Int)≤(4:Int):=tZ1
    have HV:Hid (V=true):=by show _=_;rw [hF.out,decide_eq_true h8]
    exact mZ99
   ·have hi8:¬ (n:Int)≤(4:Int):=tZ1
    have HV:Hid (V=false):=by show _=_;rw [hF.out,decide_eq_false h8]
    exact mZ99
def ParPost (l:BS) (w:World) (e:Ending) (w':World):Prop:=Below w.heap.size w w' ∧
   ((l=[]∨pathB l=false)∧e=.returned (.tuple #[.string ⟨#[]⟩,.bool false]) ∨
    l≠[]∧pathB l=true∧e=.returned (.tuple #[.string ⟨(upL l).toArray⟩,.bool true]))
set_option maxRecDepth 100000 in
set_option maxHeartbeats 1000000 in
theorem refParent_any (s:ByteArray) (w:World) (hs:s.size≤4000000000) :
  Calls Tryz.prog 133 #[.string s] w (ParPost s.data.toList w):=by
 have hts:=Lib.hid (toList_data s)
 have hpa:=refPath_any s w hs
 by_cases hs0:s.data.toList=[]
 ·have h0:s=⟨#[]⟩:=by apply eq_mk;exact hs0
  subst h0
  clear hpa hts
  go_enter Tryz.func133,Tryz.ntmps133
  go_wp2_with fail
  refine bodyPost_ret (v:=.tuple #[.string ⟨#[]⟩,.bool false]) tZ98 rfl ⟨Below.refl _ _,.inl ⟨.inl rfl,rfl⟩⟩
 have HNE:=Lib.hid hs0
 have hie:s.toList.isEmpty=false:=by rw [hts.out];simpa using hs0
 have hie2:s.toList≠[]:=by rw [hts.out];exact hs0
 obtain ⟨bs,hbs0⟩:∃ b,b=pathB s.data.toList:=⟨_,rfl⟩
 rw [← hbs0] at hpa
 have HBS:=Lib.hid hbs0
 have hsp:=Lib.hid (lastS_spec s.data.toList)
 have hsz:=Lib.hid (Lib.size_eq s)
 clear hs0 hbs0
 cases bs with
 | false =>
  go_enter Tryz.func133,Tryz.ntmps133
  go_wp2_with fail
  refine hpa.mono ?_
  rintro e w1 ⟨rfl,hb1⟩
  go_wp2_with fail
  refine bodyPost_ret (v:=.tuple #[.string ⟨#[]⟩,.bool false]) tZ98 rfl ⟨hb1,.inl ⟨.inr HBS.out.symm,rfl⟩⟩
 | true =>
  have i3:IntKind.i64.wrap ((s.size:Int)-1)=(s.size:Int)-1:=IntWalk.i64_in _ tZ1
  go_enter Tryz.func133,Tryz.ntmps133
  go_wp2_with fail
  refine hpa.mono ?_
  rintro e w1 ⟨rfl,hb1⟩
  go_wp2_with fail
  clear i3 hpa
  go_loopw [4] (fun j wr=>∃ z:Int,-1≤z∧z≤(s.size:Int)-1∧j=.int .i64 z∧Hid (∀ k:Nat,z<(k:Int)→s.data.toList[k]?≠some 47)∧wr=w1) (fun j _=>(intOf j+1).toNat)
  case atStart =>
   refine ⟨(s.size:Int)-1,by omega,by omega,rfl,?_,rfl⟩
   show ∀ k:Nat,_→_
   intro k hk e
   have:=(List.getElem?_eq_some_iff.1 e).1
   have:=hsz.out
   omega
  case round =>
   obtain ⟨z,hz1,hz2,rfl,hok,hww⟩:=hrel
   have hww:=hww.symm
   subst hww
   by_cases hz:0≤z
   ·obtain ⟨k,rfl⟩:∃ k:Nat,z=(k:Int):=⟨z.toNat,by omega⟩
    have hks:k<s.size:=tZ1
    have hki:(k:Int)<(s.size:Int):=tZ1
    have hkl:k<s.data.toList.length:=tZ167
    obtain ⟨y,hy⟩:∃ y,y=s[k]'hks:=⟨_,rfl⟩
    have HY:=Lib.hid (show s.data.toList[k]?=some y by rw [List.getElem?_eq_getElem hkl,bget s k hks,hy])
    have hyv:((s[k]'hks).toNat:Int)=(y.toNat:Int):=by rw [hy]
    have hlt:=y.toNat_lt
    clear hy hz1 hz2
    by_cases h47:(y.toNat:Int)=47
    ·have hy47:y=47:=by
      apply UInt8.toNat_inj.1
      have e:(47:UInt8).toNat=47:=rfl
      omega
     have HU:Hid (upL s.data.toList=s.data.toList.take k):=by
      show _=_
      rcases hsp.out with ⟨_,h2⟩ | ⟨j,h1,h2,h3⟩
      ·exact absurd (by rw [← hy47];exact List.mem_of_getElem? HY.out) h2
      ·have hjk:j=k:=by
        rcases Nat.lt_trichotomy j k with h | h | h
        ·exact absurd (by rw [HY.out,hy47]) (h3 k h)
        ·exact h
        ·exact absurd h2 (hok.out j tZ1)
       unfold upL
       rw [h1,hjk]
       rfl
     have hks2:(k:Int)≤(s.size:Int):=tZ1
     clear hy47
     go_wp2_with fail
     have hv:s.extract 0 k=⟨(upL s.data.toList).toArray⟩:=by
      apply eq_mk
      rw [Lib.extract_from_zero,HU.out]
     refine bodyPost_ret (v:=.tuple #[.string ⟨(upL s.data.toList).toArray⟩,.bool true]) (by simp [results,Tryz.results133,go_sem,hv]) rfl ⟨hb1,.inr ⟨HNE.out,HBS.out.symm,rfl⟩⟩
    ·have hyb:((y.toNat:Int) == 47)=false:=by simpa using h47
     have HG:Hid (y≠47):=by
      show _≠_
      rintro rfl
      exact h47 rfl
     go_wp2_with fail
     go_roundw
     case rel =>
      refine ⟨(k:Int)-1,by omega,by omega,by go_num,?_,trivial⟩
      show ∀ k':Nat,_→_
      intro k' hk' e
      by_cases h:k'=k
      ·subst h
       rw [HY.out] at e
       exact HG.out (Option.some.inj e)
      ·exact hok.out k' tZ1 e
     case measure=>simp [intOf];try omega
   ·have HU:Hid (upL s.data.toList=[]):=by
     show _=_
     rcases hsp.out with ⟨h1,_⟩ | ⟨j,h1,h2,h3⟩
     ·unfold upL;rw [h1];rfl
     ·exact absurd h2 (hok.out j tZ1)
    go_wp2_with fail
    have HU2:=HU.out
    refine bodyPost_ret (v:=.tuple #[.string ⟨#[]⟩,.bool true]) tZ98 rfl ⟨hb1,.inr ⟨HNE.out,HBS.out.symm,by rw [HU2]⟩⟩
end Go.Proofs.YtcgclpcocdappaaGreatDoor
namespace Go.Proofs.YtcgclpcocdappaaGreatDoor
open Go.RowKit
theorem own_setCells_below {base size n:Nat} {t:TypeId} {v:Value} {xs:List Value} {g:Nat} (hg:g<base) (cs:List Value):∀ (w:World) (o:Nat),w.ownsRow base t size v n xs→(w.setCells g o cs).ownsRow base t size v n xs:=by
 induction cs with
 | nil=>intro w o h;exact h
 | cons u cs ih=>intro w o h;exact ih _ _ (own_setCell_below (p:=⟨g,o,none⟩) h hg u)
set_option maxRecDepth 100000 in
set_option maxHeartbeats 8000000 in
theorem copySnap_any (nm:BS) (gd:Int) (b1:Option Addr) (bn b3:Nat) (t1:Option Addr) (tn t3:Nat) (o1:Option Addr) (on o3:Nat) (xb xt xo:List Value) (w:World) (B:Nat) (hB:B≤w.heap.size)
  (hb:Reads w B 2 b1 bn xb) (ht:Reads w B 1 t1 tn xt) (ho:Reads w B 2 o1 on xo) (h1:∀ u∈xb,u.oneCell'=true) (h2:∀ u∈xt,u.oneCell'=true) (h3:∀ u∈xo,u.oneCell'=true) (hbn:bn≤1000000000000) (htn:tn≤1000000000000) (hon:on≤1000000000000) :
  Calls Tryz.prog 174 #[.agg #[.string ⟨nm.toArray⟩,.int .i64 gd,.slice b1 bn b3,.slice t1 tn t3,.slice o1 on o3]] w fun e w'=>∃ Ab cb At ct Ao co,e=.returned (.agg #[.string ⟨nm.toArray⟩,.int .i64 gd,.slice Ab bn cb,.slice At tn ct,.slice Ao on co])∧w'.ownsRow w.heap.size 75 2 (.slice Ab bn cb) bn xb∧w'.ownsRow w.heap.size 9 1 (.slice At tn ct) tn xt∧w'.ownsRow w.heap.size 78 2 (.slice Ao on co) on xo∧Below w.heap.size w w':=by
 have hC1:Hid (∀ W,Below w.heap.size w W→Calls Tryz.prog 45 #[.slice b1 bn b3] W fun e w'=>∃ v,e=.returned v∧w'.ownsRow W.heap.size 75 2 v bn xb∧Below W.heap.size W w'):=fun W h=>cloneBl_any xb bn b1 b3 W B (hb.below (h.mono hB)) tZ141 h1 tZ1
 have hC2:Hid (∀ W,Below w.heap.size w W→Calls Tryz.prog 99 #[.slice t1 tn t3] W fun e w'=>∃ v,e=.returned v∧w'.ownsRow W.heap.size 9 1 v tn xt∧Below W.heap.size W w'):=fun W h=>cloneSt_any xt tn t1 t3 W B (ht.below (h.mono hB)) tZ141 h2 tZ1
 have hC3:Hid (∀ W,Below w.heap.size w W→Calls Tryz.prog 46 #[.slice o1 on o3] W fun e w'=>∃ v,e=.returned v∧w'.ownsRow W.heap.size 78 2 v on xo∧Below W.heap.size W w'):=fun W h=>clonePr_any xo on o1 o3 W B (ho.below (h.mono hB)) tZ141 h3 tZ1
 clear hb ht ho h1 h2 h3
 go_enter Tryz.func174,Tryz.ntmps174
 go_upto_region 1 with (fail)
 have kB:=(Blk.new w 57 #[.string ⟨nm.toArray⟩,.int .i64 gd,.slice b1 bn b3,.slice t1 tn t3,.slice o1 on o3]).alloc (.cells #[.string ⟨#[]⟩,.int .i64 0,.slice none 0 0,.slice none 0 0,.slice none 0 0] 57)
 have kZ:=Blk.new (w.alloc (.cells #[.string ⟨nm.toArray⟩,.int .i64 gd,.slice b1 bn b3,.slice t1 tn t3,.slice o1 on o3] 57)) 57 #[.string ⟨#[]⟩,.int .i64 0,.slice none 0 0,.slice none 0 0,.slice none 0 0]
 rw [show (w.alloc (.cells #[.string ⟨nm.toArray⟩,.int .i64 gd,.slice b1 bn b3,.slice t1 tn t3,.slice o1 on o3] 57)).heap.size=w.heap.size+1 by simp] at kZ
 have hb2:=((Below.refl w.heap.size w).alloc (Nat.le_refl _) (.cells #[.string ⟨nm.toArray⟩,.int .i64 gd,.slice b1 bn b3,.slice t1 tn t3,.slice o1 on o3] 57)).alloc tZ3 (.cells #[.string ⟨#[]⟩,.int .i64 0,.slice none 0 0,.slice none 0 0,.slice none 0 0] 57)
 obtain ⟨W2,hW2⟩:∃ W,W=(w.alloc (.cells #[.string ⟨nm.toArray⟩,.int .i64 gd,.slice b1 bn b3,.slice t1 tn t3,.slice o1 on o3] 57)).alloc (.cells #[.string ⟨#[]⟩,.int .i64 0,.slice none 0 0,.slice none 0 0,.slice none 0 0] 57):=⟨_,rfl⟩
 have hsz:W2.heap.size=w.heap.size+2:=tZ53
 rw [← hW2] at kB kZ hb2 ⊢
 have K:=Lib.hid kB.drew
 have K2:=Lib.hid kZ.drew
 have HB:=Lib.hid hb2.drew
 have HZ:=Lib.hid (show w.heap.size+2≤W2.drew.heap.size by show _≤W2.heap.size;omega)
 have c0:=kB.cell 0
 have c1:=kB.cell 1
 have c2:=kB.cell 2
 have c3:=kB.cell 3
 have c4:=kB.cell 4
 simp only [zF,zD,zE] at c0 c1 c2 c3 c4
 clear hW2 kB kZ hb2 hsz
 go_cut [1,2] from 0 to 14 (fun s1 s2 wx=>s1=.pointer (some ⟨w.heap.size,0,none⟩)∧s2=.pointer (some ⟨w.heap.size+1,0,none⟩)∧∃ Ab cb At ct Ao co,Blk wx w.heap.size 57 #[.string ⟨nm.toArray⟩,.int .i64 gd,.slice Ab bn cb,.slice At tn ct,.slice Ao on co]∧Blk wx (w.heap.size+1) 57 #[.string ⟨#[]⟩,.int .i64 0,.slice none 0 0,.slice none 0 0,.slice none 0 0]∧wx.ownsRow (w.heap.size+2) 75 2 (.slice Ab bn cb) bn xb∧wx.ownsRow (w.heap.size+2) 9 1 (.slice At tn ct) tn xt∧wx.ownsRow (w.heap.size+2) 78 2 (.slice Ao on co) on xo∧Below w.heap.size w wx)
 case first =>
  go_region_law (first | (go_simp;with_reducible refine (hC1.out _ HB.out).mono ?_;rintro e w2 ⟨v,rfl,ho,hb⟩;obtain ⟨Ab,cb,rfl,_,_,_⟩:=own_form ho;have HOb:=Lib.hid (own_mono ho HZ.out);(try have HOt:=Lib.hid (own_below HOt.out hb));(try have HOo:=Lib.hid (own_below HOo.out hb));have HZ:=Lib.hid (Nat.le_trans HZ.out hb.size);have HB:=Lib.hid (HB.out.trans (hb.mono HB.out.size));have K2:=Lib.hid (K2.out.below hb K2.out.lt);have K:=Lib.hid (K.out.below hb K.out.lt);obtain ⟨c0,c1,c2,c3,c4⟩:=(⟨K.out.cell 0,K.out.cell 1,K.out.cell 2,K.out.cell 3,K.out.cell 4⟩:_∧_∧_∧_∧_);simp only [zF,zD,zE] at c0 c1 c2 c3 c4;have f2:=K.out.frozen 2;have f3:=K.out.frozen 3;have f4:=K.out.frozen 4;clear ho hb) | (go_simp;with_reducible refine (hC2.out _ HB.out).mono ?_;rintro e w2 ⟨v,rfl,ho,hb⟩;obtain ⟨At,ct,rfl,_,_,_⟩:=own_form ho;have HOt:=Lib.hid (own_mono ho HZ.out);(try have HOb:=Lib.hid (own_below HOb.out hb));(try have HOo:=Lib.hid (own_below HOo.out hb));have HZ:=Lib.hid (Nat.le_trans HZ.out hb.size);have HB:=Lib.hid (HB.out.trans (hb.mono HB.out.size));have K2:=Lib.hid (K2.out.below hb K2.out.lt);have K:=Lib.hid (K.out.below hb K.out.lt);obtain ⟨c0,c1,c2,c3,c4⟩:=(⟨K.out.cell 0,K.out.cell 1,K.out.cell 2,K.out.cell 3,K.out.cell 4⟩:_∧_∧_∧_∧_);simp only [zF,zD,zE] at c0 c1 c2 c3 c4;have f2:=K.out.frozen 2;have f3:=K.out.frozen 3;have f4:=K.out.frozen 4;clear ho hb) | (go_simp;with_reducible refine (hC3.out _ HB.out).mono ?_;rintro e w2 ⟨v,rfl,ho,hb⟩;obtain ⟨Ao,co,rfl,_,_,_⟩:=own_form ho;have HOo:=Lib.hid (own_mono ho HZ.out);(try have HOb:=Lib.hid (own_below HOb.out hb));(try have HOt:=Lib.hid (own_below HOt.out hb));have HZ:=Lib.hid (Nat.le_trans HZ.out hb.size);have HB:=Lib.hid (HB.out.trans (hb.mono HB.out.size));have K2:=Lib.hid (K2.out.below hb K2.out.lt);have K:=Lib.hid (K.out.below hb K.out.lt);obtain ⟨c0,c1,c2,c3,c4⟩:=(⟨K.out.cell 0,K.out.cell 1,K.out.cell 2,K.out.cell 3,K.out.cell 4⟩:_∧_∧_∧_∧_);simp only [zF,zD,zE] at c0 c1 c2 c3 c4;have f2:=K.out.frozen 2;have f3:=K.out.frozen 3;have f4:=K.out.frozen 4;clear ho hb))
  all_goals
   have k3:=((K.out.set_ 2 (.slice Ab bn cb)).set_ 3 (.slice At tn ct)).set_ 4 (.slice Ao on co)
   have kz:=((K2.out.far (p:=⟨w.heap.size,2,none⟩) tZ3 (.slice Ab bn cb)).far (p:=⟨w.heap.size,3,none⟩) tZ3 (.slice At tn ct)).far (p:=⟨w.heap.size,4,none⟩) tZ3 (.slice Ao on co)
   have q1:=own_setCell_below (p:=⟨w.heap.size,4,none⟩) (own_setCell_below (p:=⟨w.heap.size,3,none⟩) (own_setCell_below (p:=⟨w.heap.size,2,none⟩) HOb.out tZ35 (.slice Ab bn cb)) tZ35 (.slice At tn ct)) tZ35 (.slice Ao on co)
   have q2:=own_setCell_below (p:=⟨w.heap.size,4,none⟩) (own_setCell_below (p:=⟨w.heap.size,3,none⟩) (own_setCell_below (p:=⟨w.heap.size,2,none⟩) HOt.out tZ35 (.slice Ab bn cb)) tZ35 (.slice At tn ct)) tZ35 (.slice Ao on co)
   have q3:=own_setCell_below (p:=⟨w.heap.size,4,none⟩) (own_setCell_below (p:=⟨w.heap.size,3,none⟩) (own_setCell_below (p:=⟨w.heap.size,2,none⟩) HOo.out tZ35 (.slice Ab bn cb)) tZ35 (.slice At tn ct)) tZ35 (.slice Ao on co)
   have hbw:=((HB.out.setCell (p:=⟨w.heap.size,2,none⟩) (Nat.le_refl _) (.slice Ab bn cb)).setCell (p:=⟨w.heap.size,3,none⟩) (Nat.le_refl _) (.slice At tn ct)).setCell (p:=⟨w.heap.size,4,none⟩) (Nat.le_refl _) (.slice Ao on co)
   have HH:=Lib.hid (show _∧_∧_∧_∧_∧_ from ⟨k3,kz,q1,q2,q3,hbw⟩)
   clear k3 kz q1 q2 q3 hbw c0 c1 c2 c3 c4 f2 f3 f4
   go_wp2_with fail
   go_meet
   exact ⟨rfl,rfl,Ab,cb,At,ct,Ao,co,HH.out.1,HH.out.2.1,HH.out.2.2.1,HH.out.2.2.2.1,HH.out.2.2.2.2.1,HH.out.2.2.2.2.2⟩
 case rest =>
 obtain ⟨rfl,rfl,Ab,cb,At,ct,Ao,co,k3,kz,q1,q2,q3,hbw⟩:=hcut
 clear K K2 HB HZ hC1 hC2 hC3 c0 c1 c2 c3 c4
 obtain ⟨c0,c1,c2,c3,c4⟩:=(⟨k3.cell 0,k3.cell 1,k3.cell 2,k3.cell 3,k3.cell 4⟩:_∧_∧_∧_∧_)
 simp at c0 c1 c2 c3 c4
 have hth:=Lib.hid (kz.there 5 tZ4)
 have k4:=Blk.setCells (g:=w.heap.size+1) [.string ⟨nm.toArray⟩,.int .i64 gd,.slice Ab bn cb,.slice At tn ct,.slice Ao on co] wc [] [.string ⟨#[]⟩,.int .i64 0,.slice none 0 0,.slice none 0 0,.slice none 0 0] rfl kz
 simp only [List.length_nil,List.nil_append] at k4
 have q1:=Lib.hid (own_setCells_below (g:=w.heap.size+1) tZ1 [.string ⟨nm.toArray⟩,.int .i64 gd,.slice Ab bn cb,.slice At tn ct,.slice Ao on co] wc 0 q1)
 have q2:=Lib.hid (own_setCells_below (g:=w.heap.size+1) tZ1 [.string ⟨nm.toArray⟩,.int .i64 gd,.slice Ab bn cb,.slice At tn ct,.slice Ao on co] wc 0 q2)
 have q3:=Lib.hid (own_setCells_below (g:=w.heap.size+1) tZ1 [.string ⟨nm.toArray⟩,.int .i64 gd,.slice Ab bn cb,.slice At tn ct,.slice Ao on co] wc 0 q3)
 have hbw:=Lib.hid (below_setCells (g:=w.heap.size+1) tZ1 [.string ⟨nm.toArray⟩,.int .i64 gd,.slice Ab bn cb,.slice At tn ct,.slice Ao on co] wc 0 hbw)
 obtain ⟨W4,hW4⟩:∃ W,W=wc.setCells (w.heap.size+1) 0 (#[.string ⟨nm.toArray⟩,.int .i64 gd,.slice Ab bn cb,.slice At tn ct,.slice Ao on co]:Array Value).toList:=⟨_,rfl⟩
 rw [show ([.string ⟨nm.toArray⟩,.int .i64 gd,.slice Ab bn cb,.slice At tn ct,.slice Ao on co]:List Value)=(#[.string ⟨nm.toArray⟩,.int .i64 gd,.slice Ab bn cb,.slice At tn ct,.slice Ao on co]:Array Value).toList from rfl,← hW4] at k4 q1 q2 q3 hbw
 obtain ⟨d0,d1,d2,d3,d4⟩:=(⟨k4.cell 0,k4.cell 1,k4.cell 2,k4.cell 3,k4.cell 4⟩:_∧_∧_∧_∧_)
 simp at d0 d1 d2 d3 d4
 have HD:=Lib.hid (show _∧_∧_∧_∧_ from ⟨d0,d1,d2,d3,d4⟩)
 clear k3 kz k4 d0 d1 d2 d3 d4
 go_wp2_with (refine wpList_store_mid rfl 57 (.tmp 2) (.tmp 15) rfl (w.heap.size+1) 0 #[.string ⟨nm.toArray⟩,.int .i64 gd,.slice Ab bn cb,.slice At tn ct,.slice Ao on co] rfl rfl hth.out tZ2 tZ5 ?_;rw [← hW4];clear hW4)
 obtain ⟨d0,d1,d2,d3,d4⟩:=HD.out
 refine bodyPost_ret (v:=.agg #[.string ⟨nm.toArray⟩,.int .i64 gd,.slice Ab bn cb,.slice At tn ct,.slice Ao on co]) (by simp [results,Tryz.results174,go_sem,d0,d1,d2,d3,d4]) rfl ⟨Ab,cb,At,ct,Ao,co,rfl,own_mono q1.out tZ1,own_mono q2.out tZ1,own_mono q3.out tZ1,hbw.out⟩
end Go.Proofs.YtcgclpcocdappaaGreatDoor
