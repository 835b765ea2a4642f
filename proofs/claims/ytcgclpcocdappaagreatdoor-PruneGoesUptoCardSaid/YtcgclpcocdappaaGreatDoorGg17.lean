/-
  The page's SameSnap, SameSet at equal contents: they answer true. tree.odd; slices.IndexFunc and ContainsFunc at entries: by their contracts.
-/
import Derived.WalkKit
import Derived.WalkSpells
import Derived.Below
import Derived.Laws.OwnMore
import Derived.Deep.AppendLies
import Derived.Deep.Draws
import Derived.Laws.Rows
import Derived.Maps.AppendAt
import Derived.RegionTactic
import Derived.OwnWalk
import Derived.Deep.QuietTactic
import Derived.BigQuiet
import Derived.Lib.Hide
import Derived.Laws.CopyOwn
import Derived.IntWalk
import Derived.Test.YtcgclpcocdappaaGreatDoorRows
import Derived.Handy
import Derived.Deep.Quiet
import Derived.Orders
import Derived.Sort.Walk0
import Derived.Sort.KeysCollected
import Derived.Laws.BytesString
import Derived.Laws.IdiomStrings
import Derived.Lib.ConvBytes
import Derived.Lib.Strings
import Derived.Lib.SplitLaws
import Derived.Lib.LastIndexByte
import Derived.ShutString
import Derived.Shelf.Strings.Search1
import Derived.Shelf.Strings.Search2
import Derived.Shelf.Strings.Search3
import Derived.Shelf.Strings.Cut
import Derived.Shelf.Strings.Count
import Derived.Shelf.LaysM
import Derived.Shelf.Strings.Shaped
import Derived.Shelf.Strings.LastIndex
import Derived.Shelf.Strings.Split
import Derived.Shelf.Strings.SplitShaped
import Derived.Shelf.Unicode.Decode
import Derived.Shelf.Strings.RuneCount
import Derived.Shelf.Strings.Explode
import Derived.Shelf.Unicode.DecodeSlow
import Derived.Test.YtcgclpcocdappaaGreatDoorProg
import Derived.Deep.MidRow
import Derived.Test.YtcgclpcocdappaaGreatDoorG0
import Derived.Test.YtcgclpcocdappaaGreatDoorGg1
import Derived.Test.YtcgclpcocdappaaGreatDoorGg2
import Derived.Test.YtcgclpcocdappaaGreatDoorGg3
import Derived.Test.YtcgclpcocdappaaGreatDoorGg4
import Derived.Test.YtcgclpcocdappaaGreatDoorGg5
import Derived.Test.YtcgclpcocdappaaGreatDoorGg6
import Derived.Test.YtcgclpcocdappaaGreatDoorGg7
import Derived.Test.YtcgclpcocdappaaGreatDoorGg8
import Derived.Test.YtcgclpcocdappaaGreatDoorGg9
import Derived.Test.YtcgclpcocdappaaGreatDoorGg12
import Derived.Test.YtcgclpcocdappaaGreatDoorGg13
import Derived.Test.YtcgclpcocdappaaGreatDoorGg14
namespace Go.Proofs.YtcgclpcocdappaaGreatDoor
open Go.RowKit
theorem rsameT_any (l:List BlkT) (n:Nat) (hn:n=l.length) (A A':Option Addr) (c c':Nat) (w:World) (B:Nat) (hr:Reads w B 2 A n (bcells l)) (hr':Reads w B 2 A' n (bcells l)) (hm:n≤1000000000000) :
  Calls Tryz.prog 13 #[.slice A n c,.slice A' n c'] w fun e w'=>e=.returned (.bool true)∧Below w.heap.size w w':=by
 refine (bksame_any l l n n hn hn A A' c c' w B B hr hr' (by omega)).mono ?_
 rintro e w1 ⟨rfl,q,rfl⟩
 exact ⟨by simp,below_drewN (Below.refl _ _) q⟩
theorem samePropsT_any (l:List (BS×BS)) (n:Nat) (hn:n=l.length) (A A':Option Addr) (c c':Nat) (w:World) (B:Nat) (hr:Reads w B 2 A n (pcells l)) (hr':Reads w B 2 A' n (pcells l)) (hm:n≤1000000000000) :
  Calls Tryz.prog 14 #[.slice A n c,.slice A' n c'] w fun e w'=>e=.returned (.bool true)∧Below w.heap.size w w':=by
 refine (sameProps_any l l n n hn hn A A' c c' w B B hr hr' (by omega) (by omega)).mono ?_
 rintro e w1 ⟨rfl,q,rfl⟩
 exact ⟨by simp,below_drewN (Below.refl _ _) q⟩
set_option maxRecDepth 100000 in
set_option maxHeartbeats 4000000 in
theorem sameSnapT_any (nm:BS) (gd:Int) (bl:List BlkT) (tl:List BS) (ol:List (BS×BS)) (b1 b1':Option Addr) (bn b3 b3':Nat) (t1 t1':Option Addr) (tn t3 t3':Nat) (o1 o1':Option Addr) (on o3 o3':Nat) (w:World) (B:Nat) (hB:B≤w.heap.size)
  (hbn:bn=bl.length) (htn:tn=tl.length) (hon:on=ol.length) (hb:Reads w B 2 b1 bn (bcells bl)) (hb':Reads w B 2 b1' bn (bcells bl)) (ht:Reads w B 1 t1 tn (scells tl)) (ht':Reads w B 1 t1' tn (scells tl)) (ho:Reads w B 2 o1 on (pcells ol)) (ho':Reads w B 2 o1' on (pcells ol))
  (hbm:bn≤1000000000000) (htm:tn≤1000000000000) (hom:on≤1000000000000) :
  Calls Tryz.prog 138 #[.agg #[.string ⟨nm.toArray⟩,.int .i64 gd,.slice b1 bn b3,.slice t1 tn t3,.slice o1 on o3],.agg #[.string ⟨nm.toArray⟩,.int .i64 gd,.slice b1' bn b3',.slice t1' tn t3',.slice o1' on o3']] w fun e w'=>e=.returned (.bool true)∧Below w.heap.size w w':=by
 have hb1:=(Below.refl w.heap.size w).alloc (Nat.le_refl _) (.cells #[.string ⟨nm.toArray⟩,.int .i64 gd,.slice b1 bn b3,.slice t1 tn t3,.slice o1 on o3] 57)
 have hb2:=hb1.alloc hb1.size (.cells #[.string ⟨nm.toArray⟩,.int .i64 gd,.slice b1' bn b3',.slice t1' tn t3',.slice o1' on o3'] 57)
 have k1:=(Blk.new w 57 #[.string ⟨nm.toArray⟩,.int .i64 gd,.slice b1 bn b3,.slice t1 tn t3,.slice o1 on o3]).alloc (.cells #[.string ⟨nm.toArray⟩,.int .i64 gd,.slice b1' bn b3',.slice t1' tn t3',.slice o1' on o3'] 57)
 have k2:=Blk.new (w.alloc (.cells #[.string ⟨nm.toArray⟩,.int .i64 gd,.slice b1 bn b3,.slice t1 tn t3,.slice o1 on o3] 57)) 57 #[.string ⟨nm.toArray⟩,.int .i64 gd,.slice b1' bn b3',.slice t1' tn t3',.slice o1' on o3']
 rw [show (w.alloc (.cells #[.string ⟨nm.toArray⟩,.int .i64 gd,.slice b1 bn b3,.slice t1 tn t3,.slice o1 on o3] 57)).heap.size=w.heap.size+1 by simp] at k2
 obtain ⟨W2,hW2⟩:∃ W,W=(w.alloc (.cells #[.string ⟨nm.toArray⟩,.int .i64 gd,.slice b1 bn b3,.slice t1 tn t3,.slice o1 on o3] 57)).alloc (.cells #[.string ⟨nm.toArray⟩,.int .i64 gd,.slice b1' bn b3',.slice t1' tn t3',.slice o1' on o3'] 57):=⟨_,rfl⟩
 have hsz:W2.heap.size=w.heap.size+2:=by rw [hW2];simp
 rw [← hW2] at hb2 k1 k2
 have hS:=Lib.hid (fun (W':World) (hB':Below W2.heap.size W2 W')=>(⟨(k1.below hB' (by omega)).cell 0,(k1.below hB' (by omega)).cell 1,(k1.below hB' (by omega)).cell 2,(k1.below hB' (by omega)).cell 3,(k1.below hB' (by omega)).cell 4,(k2.below hB' (by omega)).cell 0,(k2.below hB' (by omega)).cell 1,(k2.below hB' (by omega)).cell 2,(k2.below hB' (by omega)).cell 3,(k2.below hB' (by omega)).cell 4⟩:W'.cell? ⟨w.heap.size,0,none⟩=some (.string ⟨nm.toArray⟩)∧W'.cell? ⟨w.heap.size,1,none⟩=some (.int .i64 gd)∧W'.cell? ⟨w.heap.size,2,none⟩=some (.slice b1 bn b3)∧W'.cell? ⟨w.heap.size,3,none⟩=some (.slice t1 tn t3)∧W'.cell? ⟨w.heap.size,4,none⟩=some (.slice o1 on o3)∧W'.cell? ⟨w.heap.size+1,0,none⟩=some (.string ⟨nm.toArray⟩)∧W'.cell? ⟨w.heap.size+1,1,none⟩=some (.int .i64 gd)∧W'.cell? ⟨w.heap.size+1,2,none⟩=some (.slice b1' bn b3')∧W'.cell? ⟨w.heap.size+1,3,none⟩=some (.slice t1' tn t3')∧W'.cell? ⟨w.heap.size+1,4,none⟩=some (.slice o1' on o3')))
 have HSZ:=Lib.hid hsz
 have HB2:=Lib.hid hb2
 have hmv:∀ W',Below W2.heap.size W2 W'→Below B w W':=fun W' hB'=>(hb2.trans (hB'.mono (by omega))).mono hB
 have hBd:Hid (∀ W,Below W2.heap.size W2 W→Calls Tryz.prog 13 #[.slice b1 bn b3,.slice b1' bn b3'] W fun e W'=>e=.returned (.bool true)∧Below W.heap.size W W'):=fun W h=>rsameT_any bl bn hbn b1 b1' b3 b3' W B (hb.below (hmv W h)) (hb'.below (hmv W h)) hbm
 have hPr:Hid (∀ W,Below W2.heap.size W2 W→Calls Tryz.prog 14 #[.slice o1 on o3,.slice o1' on o3'] W fun e W'=>e=.returned (.bool true)∧Below W.heap.size W W'):=fun W h=>samePropsT_any ol on hon o1 o1' o3 o3' W B (ho.below (hmv W h)) (ho'.below (hmv W h)) hom
 have hTg:Hid (∀ W,Below W2.heap.size W2 W→Reads W B 1 t1 tn (scells tl)∧Reads W B 1 t1' tn (scells tl)):=fun W h=>⟨ht.below (hmv W h),ht'.below (hmv W h)⟩
 have HTN:=Lib.hid htn
 clear hb1 hb2 k1 k2 hsz hmv hb hb' ht ht' ho ho' hbn htn hon
 have hW0:=Below.refl W2.heap.size W2
 go_enter Tryz.func138,Tryz.ntmps138
 go_wp2_with fail
 rw [← hW2]
 clear hW2
 refine (hBd.out _ hW0).mono ?_
 rintro e w3 ⟨rfl,hb3⟩
 have hW3:=hW0.trans (hb3.mono hW0.size)
 clear hb3 hBd
 obtain ⟨p0,p1,p2,p3,p4,q0,q1,q2,q3,q4⟩:=hS.out _ hW3
 go_wp2_with fail
 refine (hPr.out _ hW3).mono ?_
 rintro e w4 ⟨rfl,hb4⟩
 have hW4:=hW3.trans (hb4.mono hW3.size)
 clear hb4 hPr p0 p1 p2 p3 p4 q0 q1 q2 q3 q4
 obtain ⟨p0,p1,p2,p3,p4,q0,q1,q2,q3,q4⟩:=hS.out _ hW4
 go_wp2_with fail
 clear p0 p1 p2 p3 p4 q0 q1 q2 q3 q4
 go_loopw [5] (fun j wr=>∃ k:Nat,k≤tn∧j=.int .i64 (k:Int)∧Below W2.heap.size W2 wr) (fun j _=>tn-(intOf j).toNat)
 case atStart=>exact ⟨0,Nat.zero_le _,rfl,hW4⟩
 case round =>
  clear hW4 hW3 hW0
  obtain ⟨k,hk,rfl,hWr⟩:=hrel
  obtain ⟨p0,p1,p2,p3,p4,q0,q1,q2,q3,q4⟩:=hS.out _ hWr
  by_cases hlt:k<tn
  ·have hki:(k:Int)<(tn:Int):=by omega
   obtain ⟨r1,r2⟩:=hTg.out _ hWr
   obtain ⟨ad,rfl,-,c0⟩:=strs_at r1 HTN.out hlt
   obtain ⟨ad2,rfl,-,d0⟩:=strs_at r2 HTN.out hlt
   obtain ⟨x,hx⟩:∃ x,x=tl[k]'(by have:=HTN.out;omega):=⟨_,rfl⟩
   rw [← hx] at c0 d0
   simp only [strV] at c0 d0
   clear hx r1 r2 hTg
   go_wp2_with fail
   go_big_quiet (fail)
   go_wp2_with fail
   go_roundw
   case rel=>exact ⟨k+1,by omega,by go_num,below_drewN hWr _⟩
   case measure=>simp [intOf];omega
  ·clear hTg
   go_wp2_with fail
   go_ret
   exact ⟨rfl,HB2.out.trans (hWr.mono (by have:=HSZ.out;omega))⟩
/-- snapshots of one content -/
structure SnapR.eqv (x y:SnapR):Prop where
 nm:x.nm=y.nm
 gd:x.gd=y.gd
 body:x.body.l=y.body.l
 tags:x.tags.l=y.tags.l
 own:x.own.l=y.own.l
theorem sameSnapR_any (x y:SnapR) (h:x.eqv y) (w:World) (B:Nat) (hB:B≤w.heap.size) (hx:x.rd w B) (hy:y.rd w B) (hz:x.sz) :
  Calls Tryz.prog 138 #[.agg #[.string ⟨x.nm.toArray⟩,.int .i64 x.gd,.slice x.body.A x.body.n x.body.c,.slice x.tags.A x.tags.n x.tags.c,.slice x.own.A x.own.n x.own.c],.agg #[.string ⟨y.nm.toArray⟩,.int .i64 y.gd,.slice y.body.A y.body.n y.body.c,.slice y.tags.A y.tags.n y.tags.c,.slice y.own.A y.own.n y.own.c]] w fun e w'=>e=.returned (.bool true)∧Below w.heap.size w w':=by
 obtain ⟨h1,h2,h3,h4,h5⟩:=h
 obtain ⟨nm,gd,⟨b1,bn,b3,bl⟩,⟨t1,tn,t3,tl⟩,⟨o1,on,o3,ol⟩⟩:=x
 obtain ⟨nm',gd',⟨b1',bn',b3',bl'⟩,⟨t1',tn',t3',tl'⟩,⟨o1',on',o3',ol'⟩⟩:=y
 simp only at h1 h2 h3 h4 h5
 subst h1 h2 h3 h4 h5
 have e1:bn'=bn:=hy.body.1.trans hx.body.1.symm
 have e2:tn'=tn:=hy.tags.1.trans hx.tags.1.symm
 have e3:on'=on:=hy.own.1.trans hx.own.1.symm
 subst e1 e2 e3
 exact sameSnapT_any nm gd bl tl ol b1 b1' bn' b3 b3' t1 t1' tn' t3 t3' o1 o1' on' o3 o3' w B hB hx.body.1 hx.tags.1 hx.own.1 hx.body.2.2 hy.body.2.2 (by rw [← scells_enc];exact hx.tags.2.2) (by rw [← scells_enc];exact hy.tags.2.2) hx.own.2.2 hy.own.2.2 hz.body hz.tags hz.own
set_option maxRecDepth 100000 in
set_option maxHeartbeats 4000000 in
theorem sameSetT_any (pa og:BS) (bl:List BlkT) (sl sl':List SnapR) (ol:List (BS×BS)) (b1 b1':Option Addr) (bn b3 b3':Nat) (s1 s1':Option Addr) (sn s3 s3':Nat) (o1 o1':Option Addr) (on o3 o3':Nat) (w:World) (B:Nat) (hB:B≤w.heap.size)
  (hbn:bn=bl.length) (hsn:sn=sl.length) (hsn':sn=sl'.length) (hon:on=ol.length) (hb:Reads w B 2 b1 bn (bcells bl)) (hb':Reads w B 2 b1' bn (bcells bl)) (ht:Reads w B 5 s1 sn (cellsK encSnap sl)) (ht':Reads w B 5 s1' sn (cellsK encSnap sl')) (ho:Reads w B 2 o1 on (pcells ol)) (ho':Reads w B 2 o1' on (pcells ol))
  (he:∀ y∈sl,y.rd w B) (he':∀ y∈sl',y.rd w B) (heq:∀ i (h:i<sl.length) (h':i<sl'.length),(sl[i]'h).eqv (sl'[i]'h')) (hz:∀ y∈sl,y.sz) (hbm:bn≤1000000000000) (htm:sn≤1000000000000) (hom:on≤1000000000000) :
  Calls Tryz.prog 74 #[.agg #[.string ⟨pa.toArray⟩,.string ⟨og.toArray⟩,.slice b1 bn b3,.slice s1 sn s3,.slice o1 on o3],.agg #[.string ⟨pa.toArray⟩,.string ⟨og.toArray⟩,.slice b1' bn b3',.slice s1' sn s3',.slice o1' on o3']] w fun e w'=>e=.returned (.bool true)∧Below w.heap.size w w':=by
 have hb1:=(Below.refl w.heap.size w).alloc (Nat.le_refl _) (.cells #[.string ⟨pa.toArray⟩,.string ⟨og.toArray⟩,.slice b1 bn b3,.slice s1 sn s3,.slice o1 on o3] 42)
 have hb2:=hb1.alloc hb1.size (.cells #[.string ⟨pa.toArray⟩,.string ⟨og.toArray⟩,.slice b1' bn b3',.slice s1' sn s3',.slice o1' on o3'] 42)
 have k1:=(Blk.new w 42 #[.string ⟨pa.toArray⟩,.string ⟨og.toArray⟩,.slice b1 bn b3,.slice s1 sn s3,.slice o1 on o3]).alloc (.cells #[.string ⟨pa.toArray⟩,.string ⟨og.toArray⟩,.slice b1' bn b3',.slice s1' sn s3',.slice o1' on o3'] 42)
 have k2:=Blk.new (w.alloc (.cells #[.string ⟨pa.toArray⟩,.string ⟨og.toArray⟩,.slice b1 bn b3,.slice s1 sn s3,.slice o1 on o3] 42)) 42 #[.string ⟨pa.toArray⟩,.string ⟨og.toArray⟩,.slice b1' bn b3',.slice s1' sn s3',.slice o1' on o3']
 rw [show (w.alloc (.cells #[.string ⟨pa.toArray⟩,.string ⟨og.toArray⟩,.slice b1 bn b3,.slice s1 sn s3,.slice o1 on o3] 42)).heap.size=w.heap.size+1 by simp] at k2
 obtain ⟨W2,hW2⟩:∃ W,W=(w.alloc (.cells #[.string ⟨pa.toArray⟩,.string ⟨og.toArray⟩,.slice b1 bn b3,.slice s1 sn s3,.slice o1 on o3] 42)).alloc (.cells #[.string ⟨pa.toArray⟩,.string ⟨og.toArray⟩,.slice b1' bn b3',.slice s1' sn s3',.slice o1' on o3'] 42):=⟨_,rfl⟩
 have hsz:W2.heap.size=w.heap.size+2:=by rw [hW2];simp
 rw [← hW2] at hb2 k1 k2
 have hS:=Lib.hid (fun (W':World) (hB':Below W2.heap.size W2 W')=>(⟨(k1.below hB' (by omega)).cell 0,(k1.below hB' (by omega)).cell 1,(k1.below hB' (by omega)).cell 2,(k1.below hB' (by omega)).cell 3,(k1.below hB' (by omega)).cell 4,(k2.below hB' (by omega)).cell 0,(k2.below hB' (by omega)).cell 1,(k2.below hB' (by omega)).cell 2,(k2.below hB' (by omega)).cell 3,(k2.below hB' (by omega)).cell 4⟩:W'.cell? ⟨w.heap.size,0,none⟩=some (.string ⟨pa.toArray⟩)∧W'.cell? ⟨w.heap.size,1,none⟩=some (.string ⟨og.toArray⟩)∧W'.cell? ⟨w.heap.size,2,none⟩=some (.slice b1 bn b3)∧W'.cell? ⟨w.heap.size,3,none⟩=some (.slice s1 sn s3)∧W'.cell? ⟨w.heap.size,4,none⟩=some (.slice o1 on o3)∧W'.cell? ⟨w.heap.size+1,0,none⟩=some (.string ⟨pa.toArray⟩)∧W'.cell? ⟨w.heap.size+1,1,none⟩=some (.string ⟨og.toArray⟩)∧W'.cell? ⟨w.heap.size+1,2,none⟩=some (.slice b1' bn b3')∧W'.cell? ⟨w.heap.size+1,3,none⟩=some (.slice s1' sn s3')∧W'.cell? ⟨w.heap.size+1,4,none⟩=some (.slice o1' on o3')))
 have HSZ:=Lib.hid hsz
 have HB2:=Lib.hid hb2
 have hmv:∀ W',Below W2.heap.size W2 W'→Below B w W':=fun W' hB'=>(hb2.trans (hB'.mono (by omega))).mono hB
 have hBd:Hid (∀ W,Below W2.heap.size W2 W→Calls Tryz.prog 13 #[.slice b1 bn b3,.slice b1' bn b3'] W fun e W'=>e=.returned (.bool true)∧Below W.heap.size W W'):=fun W h=>rsameT_any bl bn hbn b1 b1' b3 b3' W B (hb.below (hmv W h)) (hb'.below (hmv W h)) hbm
 have hPr:Hid (∀ W,Below W2.heap.size W2 W→Calls Tryz.prog 14 #[.slice o1 on o3,.slice o1' on o3'] W fun e W'=>e=.returned (.bool true)∧Below W.heap.size W W'):=fun W h=>samePropsT_any ol on hon o1 o1' o3 o3' W B (ho.below (hmv W h)) (ho'.below (hmv W h)) hom
 have hTg:Hid (∀ W,Below W2.heap.size W2 W→Reads W B 5 s1 sn (cellsK encSnap sl)∧Reads W B 5 s1' sn (cellsK encSnap sl')∧B≤W.heap.size∧(∀ y∈sl,y.rd W B)∧∀ y∈sl',y.rd W B):=fun W h=>⟨ht.below (hmv W h),ht'.below (hmv W h),by have:=h.size;omega,fun y hy=>⟨(he y hy).body.below (hmv W h),(he y hy).tags.below (hmv W h),(he y hy).own.below (hmv W h)⟩,fun y hy=>⟨(he' y hy).body.below (hmv W h),(he' y hy).tags.below (hmv W h),(he' y hy).own.below (hmv W h)⟩⟩
 have HSN:=Lib.hid hsn
 have HSN':=Lib.hid hsn'
 have HEQ:=Lib.hid heq
 have HZ:=Lib.hid hz
 clear hb1 hb2 k1 k2 hsz hmv hb hb' ht ht' ho ho' hbn hsn hsn' hon he he' heq hz
 have hW0:=Below.refl W2.heap.size W2
 go_enter Tryz.func74,Tryz.ntmps74
 go_wp2_with fail
 rw [← hW2]
 clear hW2
 refine (hBd.out _ hW0).mono ?_
 rintro e w3 ⟨rfl,hb3⟩
 have hW3:=hW0.trans (hb3.mono hW0.size)
 clear hb3 hBd
 obtain ⟨p0,p1,p2,p3,p4,q0,q1,q2,q3,q4⟩:=hS.out _ hW3
 go_wp2_with fail
 refine (hPr.out _ hW3).mono ?_
 rintro e w4 ⟨rfl,hb4⟩
 have hW4:=hW3.trans (hb4.mono hW3.size)
 clear hb4 hPr p0 p1 p2 p3 p4 q0 q1 q2 q3 q4
 obtain ⟨p0,p1,p2,p3,p4,q0,q1,q2,q3,q4⟩:=hS.out _ hW4
 go_wp2_with fail
 clear p0 p1 p2 p3 p4 q0 q1 q2 q3 q4
 go_loopw [5] (fun j wr=>∃ k:Nat,k≤sn∧j=.int .i64 (k:Int)∧Below W2.heap.size W2 wr) (fun j _=>sn-(intOf j).toNat)
 case atStart=>exact ⟨0,Nat.zero_le _,rfl,hW4⟩
 case round =>
  clear hW4 hW3 hW0
  obtain ⟨k,hk,rfl,hWr⟩:=hrel
  obtain ⟨p0,p1,p2,p3,p4,q0,q1,q2,q3,q4⟩:=hS.out _ hWr
  by_cases hlt:k<sn
  ·have hki:(k:Int)<(sn:Int):=by omega
   obtain ⟨r1,r2,-⟩:=hTg.out _ hWr
   obtain ⟨ad,rfl,-⟩:=snap_at r1 HSN.out hlt
   obtain ⟨ad2,rfl,-⟩:=snap_at r2 HSN'.out hlt
   have hkl:k<sl.length:=by have:=HSN.out;omega
   have hkl':k<sl'.length:=by have:=HSN'.out;omega
   have hev:=HEQ.out k hkl hkl'
   have hxm:sl[k]'hkl∈sl:=List.getElem_mem _
   have hym:sl'[k]'hkl'∈sl':=List.getElem_mem _
   have hX:Hid (∀ W,Below W2.heap.size W2 W→(W.cell? (ad.add (k*5))=some (.string ⟨(sl[k]'hkl).nm.toArray⟩)∧W.cell? ⟨(ad.add (k*5)).block,(ad.add (k*5)).off+1,none⟩=some (.int .i64 (sl[k]'hkl).gd)∧W.cell? ⟨(ad.add (k*5)).block,(ad.add (k*5)).off+2,none⟩=some (.slice (sl[k]'hkl).body.A (sl[k]'hkl).body.n (sl[k]'hkl).body.c)∧W.cell? ⟨(ad.add (k*5)).block,(ad.add (k*5)).off+3,none⟩=some (.slice (sl[k]'hkl).tags.A (sl[k]'hkl).tags.n (sl[k]'hkl).tags.c)∧W.cell? ⟨(ad.add (k*5)).block,(ad.add (k*5)).off+4,none⟩=some (.slice (sl[k]'hkl).own.A (sl[k]'hkl).own.n (sl[k]'hkl).own.c))∧(W.cell? (ad2.add (k*5))=some (.string ⟨(sl'[k]'hkl').nm.toArray⟩)∧W.cell? ⟨(ad2.add (k*5)).block,(ad2.add (k*5)).off+1,none⟩=some (.int .i64 (sl'[k]'hkl').gd)∧W.cell? ⟨(ad2.add (k*5)).block,(ad2.add (k*5)).off+2,none⟩=some (.slice (sl'[k]'hkl').body.A (sl'[k]'hkl').body.n (sl'[k]'hkl').body.c)∧W.cell? ⟨(ad2.add (k*5)).block,(ad2.add (k*5)).off+3,none⟩=some (.slice (sl'[k]'hkl').tags.A (sl'[k]'hkl').tags.n (sl'[k]'hkl').tags.c)∧W.cell? ⟨(ad2.add (k*5)).block,(ad2.add (k*5)).off+4,none⟩=some (.slice (sl'[k]'hkl').own.A (sl'[k]'hkl').own.n (sl'[k]'hkl').own.c))):=by
    show ∀ W,_→_
    intro W hb
    obtain ⟨u1,u2,-⟩:=hTg.out _ hb
    obtain ⟨ad3,e3,-,c⟩:=snap_at u1 HSN.out hlt
    obtain ⟨ad4,e4,-,d⟩:=snap_at u2 HSN'.out hlt
    injection e3 with e3
    injection e4 with e4
    subst e3 e4
    exact ⟨c,d⟩
   have hSS:Hid (∀ W,Below W2.heap.size W2 W→Calls Tryz.prog 138 #[.agg #[.string ⟨(sl[k]'hkl).nm.toArray⟩,.int .i64 (sl[k]'hkl).gd,.slice (sl[k]'hkl).body.A (sl[k]'hkl).body.n (sl[k]'hkl).body.c,.slice (sl[k]'hkl).tags.A (sl[k]'hkl).tags.n (sl[k]'hkl).tags.c,.slice (sl[k]'hkl).own.A (sl[k]'hkl).own.n (sl[k]'hkl).own.c],.agg #[.string ⟨(sl'[k]'hkl').nm.toArray⟩,.int .i64 (sl'[k]'hkl').gd,.slice (sl'[k]'hkl').body.A (sl'[k]'hkl').body.n (sl'[k]'hkl').body.c,.slice (sl'[k]'hkl').tags.A (sl'[k]'hkl').tags.n (sl'[k]'hkl').tags.c,.slice (sl'[k]'hkl').own.A (sl'[k]'hkl').own.n (sl'[k]'hkl').own.c]] W fun e W'=>e=.returned (.bool true)∧Below W.heap.size W W'):=fun W hb=>by
    obtain ⟨-,-,u3,u4,u5⟩:=hTg.out _ hb
    exact sameSnapR_any _ _ hev W B u3 (u4 _ hxm) (u5 _ hym) (HZ.out _ hxm)
   obtain ⟨x,hx⟩:∃ x,x=sl[k]'hkl:=⟨_,rfl⟩
   obtain ⟨y,hy⟩:∃ y,y=sl'[k]'hkl':=⟨_,rfl⟩
   rw [← hx,← hy] at hX hSS
   obtain ⟨nm,gd,⟨f1,f2,f3,fl⟩,⟨t1,t2,t3,tl⟩,⟨u1,u2,u3,ul⟩⟩:=x
   obtain ⟨nm',gd',⟨f1',f2',f3',fl'⟩,⟨t1',t2',t3',tl'⟩,⟨u1',u2',u3',ul'⟩⟩:=y
   simp only at hX hSS
   clear hx hy hev hxm hym r1 r2 hTg HEQ HZ
   go_wp2_with fail
   clear p0 p1 p2 p3 p4 q0 q1 q2 q3 q4
   refine wpC_regionH (fun W'=>Below W2.heap.size W2 W') (hWr.drew) (fun OPS D QQ HO HD HD2 HQQ=>?_)
   clear HO
   refine zX ?_
   refine wpC_readS (v:=?_) rfl rfl (fun W hW=>?_) ?_
   rotate_left
   ·replace hW:=HD.out W hW
    skip
    obtain ⟨-,-,-,p3,-⟩:=hS.out _ hW
    go_simp;try (with_reducible rfl)
   dsimp only [zB,zC]
   iterate 2 refine zX ?_
   refine zM hX.out ?_
   refine zX ?_
   refine wpC_readS (v:=?_) rfl rfl (fun W hW=>?_) ?_
   rotate_left
   ·replace hW:=HD.out W hW
    skip
    obtain ⟨-,-,-,-,-,-,-,-,q3,-⟩:=hS.out _ hW
    go_simp;try (with_reducible rfl)
   dsimp only [zB,zC]
   iterate 2 refine zX ?_
   refine zM hX.out ?_
   refine zN hSS.out ?_
   refine zX ?_
   refine wpQuiet_nil (HQQ.out _ (fun W hW=>?_))
   skip
   go_wp2_with fail
   go_roundw
   case rel=>exact ⟨k+1,by omega,by go_num,hW⟩
   case measure=>simp [intOf];omega
  ·clear hTg
   go_wp2_with fail
   go_ret
   exact ⟨rfl,HB2.out.trans (hWr.mono (by have:=HSZ.out;omega))⟩
/-- sets of one content -/
structure SetR.eqv (x y:SetR):Prop where
 path:x.path=y.path
 org:x.org=y.org
 body:x.body.l=y.body.l
 len:x.snaps.l.length=y.snaps.l.length
 each:∀ i (h:i<x.snaps.l.length) (h':i<y.snaps.l.length),(x.snaps.l[i]'h).eqv (y.snaps.l[i]'h')
 own:x.own.l=y.own.l
theorem sameSetR_any (x y:SetR) (h:x.eqv y) (w:World) (B:Nat) (hB:B≤w.heap.size) (hx:x.rd w B) (hy:y.rd w B) (hz:x.sz) :
  Calls Tryz.prog 74 #[.agg #[.string ⟨x.path.toArray⟩,.string ⟨x.org.toArray⟩,.slice x.body.A x.body.n x.body.c,.slice x.snaps.A x.snaps.n x.snaps.c,.slice x.own.A x.own.n x.own.c],.agg #[.string ⟨y.path.toArray⟩,.string ⟨y.org.toArray⟩,.slice y.body.A y.body.n y.body.c,.slice y.snaps.A y.snaps.n y.snaps.c,.slice y.own.A y.own.n y.own.c]] w fun e w'=>e=.returned (.bool true)∧Below w.heap.size w w':=by
 obtain ⟨h1,h2,h3,h4,h5,h6⟩:=h
 obtain ⟨pa,og,⟨b1,bn,b3,bl⟩,⟨s1,sn,s3,sl⟩,⟨o1,on,o3,ol⟩⟩:=x
 obtain ⟨pa',og',⟨b1',bn',b3',bl'⟩,⟨s1',sn',s3',sl'⟩,⟨o1',on',o3',ol'⟩⟩:=y
 simp only at h1 h2 h3 h4 h5 h6
 subst h1 h2 h3 h6
 have e1:bn'=bn:=hy.body.1.trans hx.body.1.symm
 have e2:sn'=sn:=by rw [show sn'=sl'.length from hy.snaps.1,show sn=sl.length from hx.snaps.1,h4]
 have e3:on'=on:=hy.own.1.trans hx.own.1.symm
 subst e1 e2 e3
 exact sameSetT_any pa og bl sl sl' ol b1 b1' bn' b3 b3' s1 s1' sn' s3 s3' o1 o1' on' o3 o3' w B hB hx.body.1 hx.snaps.1 hy.snaps.1 hx.own.1 hx.body.2.2 hy.body.2.2 hx.snaps.2.2 hy.snaps.2.2 hx.own.2.2 hy.own.2.2 hx.each hy.each h5 hz.each hz.body hz.snaps hz.own
end Go.Proofs.YtcgclpcocdappaaGreatDoor
namespace Go.Proofs.YtcgclpcocdappaaGreatDoor
open Go.RowKit
def entryP (us:BS) (kd:Int) (pa:BS) (er:Int):Bool:=(us == [] || nameB us) && pathB pa && amt kd 0 && amt er 0
theorem entryB_P (x:EntryR):entryB x=entryP x.user x.kind x.path x.err:=rfl
set_option maxRecDepth 100000 in
set_option maxHeartbeats 2000000 in
theorem odd14_any (us:BS) (kd:Int) (pa:BS) (er:Int) (w:World) (hpa:pa.length≤4000000000) (hmx:HasMax w) :
  Calls Tryz.prog 129 #[.agg #[.string ⟨us.toArray⟩,.int .i64 kd,.string ⟨pa.toArray⟩,.int .i64 er]] w fun e w'=>e=.returned (.bool (!(entryP us kd pa er)))∧Below w.heap.size w w':=by
 have hb1:=(Below.refl w.heap.size w).alloc (Nat.le_refl _) (.cells #[.string ⟨us.toArray⟩,.int .i64 kd,.string ⟨pa.toArray⟩,.int .i64 er] 106)
 have kT:=Blk.new w 106 #[.string ⟨us.toArray⟩,.int .i64 kd,.string ⟨pa.toArray⟩,.int .i64 er]
 obtain ⟨W1,hW1⟩:∃ W,W=w.alloc (.cells #[.string ⟨us.toArray⟩,.int .i64 kd,.string ⟨pa.toArray⟩,.int .i64 er] 106):=⟨_,rfl⟩
 have hsz1:W1.heap.size=w.heap.size+1:=by rw [hW1];simp
 rw [← hW1] at hb1 kT
 have hT:=Lib.hid (fun (W':World) (hB':Below W1.heap.size W1 W')=>(⟨(kT.below hB' (by omega)).cell 0,(kT.below hB' (by omega)).cell 1,(kT.below hB' (by omega)).cell 2,(kT.below hB' (by omega)).cell 3⟩:W'.cell? ⟨w.heap.size,0,none⟩=some (.string ⟨us.toArray⟩)∧W'.cell? ⟨w.heap.size,1,none⟩=some (.int .i64 kd)∧W'.cell? ⟨w.heap.size,2,none⟩=some (.string ⟨pa.toArray⟩)∧W'.cell? ⟨w.heap.size,3,none⟩=some (.int .i64 er)))
 have hN:Hid (∀ W,Below W1.heap.size W1 W→Calls Tryz.prog 83 #[.string ⟨us.toArray⟩] W fun e W'=>e=.returned (.bool (nameB us))∧Below W.heap.size W W'):=fun W _=>name_any ⟨us.toArray⟩ W
 have hP:Hid (∀ W,Below W1.heap.size W1 W→Calls Tryz.prog 80 #[.string ⟨pa.toArray⟩] W fun e W'=>e=.returned (.bool (pathB pa))∧Below W.heap.size W W'):=fun W hb=>path_any ⟨pa.toArray⟩ W (by show pa.length≤_;exact hpa) (hmx.below (hb1.trans (hb.mono (by omega))))
 have hA0:Hid (∀ W,Below W1.heap.size W1 W→Calls Tryz.prog 124 #[.int .i64 kd,.int .i64 0] W fun e W'=>e=.returned (.bool (amt kd 0))∧Below W.heap.size W W'):=fun W _=>amountB_any kd 0 W
 have hA1:Hid (∀ W,Below W1.heap.size W1 W→Calls Tryz.prog 124 #[.int .i64 er,.int .i64 0] W fun e W'=>e=.returned (.bool (amt er 0))∧Below W.heap.size W W'):=fun W _=>amountB_any er 0 W
 have HV:Hid ((!(entryP us kd pa er))=!((us == [] || nameB us) && (pathB pa && (amt kd 0 && amt er 0)))):=by
  show _=_
  unfold entryP
  simp only [Bool.and_assoc]
 obtain ⟨V,hV⟩:∃ V,V=(!(entryP us kd pa er)):=⟨_,rfl⟩
 obtain ⟨bN,hbN⟩:∃ V,V=nameB us:=⟨_,rfl⟩
 obtain ⟨bP,hbP⟩:∃ V,V=pathB pa:=⟨_,rfl⟩
 obtain ⟨bA,hbA⟩:∃ V,V=amt kd 0:=⟨_,rfl⟩
 obtain ⟨bX,hbX⟩:∃ V,V=amt er 0:=⟨_,rfl⟩
 rw [← hV] at HV ⊢
 rw [← hbN] at HV hN
 rw [← hbP] at HV hP
 rw [← hbA] at HV hA0
 rw [← hbX] at HV hA1
 have HB1:=Lib.hid hb1
 have HSZ1:=Lib.hid hsz1
 clear hV hbN hbA hbP hbX hb1 hsz1 kT
 have hW0:=Below.refl W1.heap.size W1
 by_cases hu:us=[]
 ·subst hu
  have HV:Hid (V=!(true && (bP && (bA && bX)))):=by show _=_;rw [HV.out];rfl
  go_enter Tryz.func129,Tryz.ntmps129
  have hc:=hP.out _ hW0
  cases bP with
  | false =>
   go_wp2_with fail
   rw [← hW1]
   refine hc.mono ?_
   clear hc
   rintro e w11 ⟨rfl,hbw11⟩
   have hWw11:=hW0.trans (hbw11.mono hW0.size)
   clear hbw11 
   obtain ⟨t0,t1,t2,t3⟩:=hT.out _ hWw11
   have HB:Hid (V=true):=by show _=_;rw [HV.out];rfl
   go_wp2_with fail
   go_ret
   exact ⟨by rw [HB.out];rfl,HB1.out.trans (hWw11.mono (by have:=HSZ1.out;omega))⟩
  | true =>
   go_wp2_with fail
   rw [← hW1]
   refine hc.mono ?_
   clear hc
   rintro e w11 ⟨rfl,hbw11⟩
   have hWw11:=hW0.trans (hbw11.mono hW0.size)
   clear hbw11 
   obtain ⟨t0,t1,t2,t3⟩:=hT.out _ hWw11
   have hc:=hA0.out _ hWw11
   cases bA with
   | false =>
    go_wp2_with fail
    refine hc.mono ?_
    clear hc
    rintro e w12 ⟨rfl,hbw12⟩
    have hWw12:=hWw11.trans (hbw12.mono hWw11.size)
    clear hbw12 
    obtain ⟨t0,t1,t2,t3⟩:=hT.out _ hWw12
    have HB:Hid (V=true):=by show _=_;rw [HV.out];rfl
    go_wp2_with fail
    go_ret
    exact ⟨by rw [HB.out];rfl,HB1.out.trans (hWw12.mono (by have:=HSZ1.out;omega))⟩
   | true =>
    go_wp2_with fail
    refine hc.mono ?_
    clear hc
    rintro e w12 ⟨rfl,hbw12⟩
    have hWw12:=hWw11.trans (hbw12.mono hWw11.size)
    clear hbw12 
    obtain ⟨t0,t1,t2,t3⟩:=hT.out _ hWw12
    have hc:=hA1.out _ hWw12
    cases bX with
    | false =>
     go_wp2_with fail
     refine hc.mono ?_
     clear hc
     rintro e w13 ⟨rfl,hbw13⟩
     have hWw13:=hWw12.trans (hbw13.mono hWw12.size)
     clear hbw13 
     obtain ⟨t0,t1,t2,t3⟩:=hT.out _ hWw13
     have HB:Hid (V=true):=by show _=_;rw [HV.out];rfl
     go_wp2_with fail
     go_ret
     exact ⟨by rw [HB.out];rfl,HB1.out.trans (hWw13.mono (by have:=HSZ1.out;omega))⟩
    | true =>
     go_wp2_with fail
     refine hc.mono ?_
     clear hc
     rintro e w13 ⟨rfl,hbw13⟩
     have hWw13:=hWw12.trans (hbw13.mono hWw12.size)
     clear hbw13 
     obtain ⟨t0,t1,t2,t3⟩:=hT.out _ hWw13
     have HB:Hid (V=false):=by show _=_;rw [HV.out];rfl
     go_wp2_with fail
     go_ret
     exact ⟨by rw [HB.out];rfl,HB1.out.trans (hWw13.mono (by have:=HSZ1.out;omega))⟩
 ·have hu1:(us == [])=false:=by simpa using hu
  have hu2:us.isEmpty=false:=by cases us <;> simp_all
  have HV:Hid (V=!(bN && (bP && (bA && bX)))):=by show _=_;rw [HV.out,hu1];rfl
  clear hu
  go_enter Tryz.func129,Tryz.ntmps129
  have hc:=hN.out _ hW0
  cases bN with
  | false =>
   go_wp2_with fail
   rw [← hW1]
   refine hc.mono ?_
   clear hc
   rintro e w11 ⟨rfl,hbw11⟩
   have hWw11:=hW0.trans (hbw11.mono hW0.size)
   clear hbw11 
   obtain ⟨t0,t1,t2,t3⟩:=hT.out _ hWw11
   have HB:Hid (V=true):=by show _=_;rw [HV.out];rfl
   go_wp2_with fail
   go_ret
   exact ⟨by rw [HB.out];rfl,HB1.out.trans (hWw11.mono (by have:=HSZ1.out;omega))⟩
  | true =>
   go_wp2_with fail
   rw [← hW1]
   refine hc.mono ?_
   clear hc
   rintro e w11 ⟨rfl,hbw11⟩
   have hWw11:=hW0.trans (hbw11.mono hW0.size)
   clear hbw11 
   obtain ⟨t0,t1,t2,t3⟩:=hT.out _ hWw11
   have hc:=hP.out _ hWw11
   cases bP with
   | false =>
    go_wp2_with fail
    refine hc.mono ?_
    clear hc
    rintro e w12 ⟨rfl,hbw12⟩
    have hWw12:=hWw11.trans (hbw12.mono hWw11.size)
    clear hbw12 
    obtain ⟨t0,t1,t2,t3⟩:=hT.out _ hWw12
    have HB:Hid (V=true):=by show _=_;rw [HV.out];rfl
    go_wp2_with fail
    go_ret
    exact ⟨by rw [HB.out];rfl,HB1.out.trans (hWw12.mono (by have:=HSZ1.out;omega))⟩
   | true =>
    go_wp2_with fail
    refine hc.mono ?_
    clear hc
    rintro e w12 ⟨rfl,hbw12⟩
    have hWw12:=hWw11.trans (hbw12.mono hWw11.size)
    clear hbw12 
    obtain ⟨t0,t1,t2,t3⟩:=hT.out _ hWw12
    have hc:=hA0.out _ hWw12
    cases bA with
    | false =>
     go_wp2_with fail
     refine hc.mono ?_
     clear hc
     rintro e w13 ⟨rfl,hbw13⟩
     have hWw13:=hWw12.trans (hbw13.mono hWw12.size)
     clear hbw13 
     obtain ⟨t0,t1,t2,t3⟩:=hT.out _ hWw13
     have HB:Hid (V=true):=by show _=_;rw [HV.out];rfl
     go_wp2_with fail
     go_ret
     exact ⟨by rw [HB.out];rfl,HB1.out.trans (hWw13.mono (by have:=HSZ1.out;omega))⟩
    | true =>
     go_wp2_with fail
     refine hc.mono ?_
     clear hc
     rintro e w13 ⟨rfl,hbw13⟩
     have hWw13:=hWw12.trans (hbw13.mono hWw12.size)
     clear hbw13 
     obtain ⟨t0,t1,t2,t3⟩:=hT.out _ hWw13
     have hc:=hA1.out _ hWw13
     cases bX with
     | false =>
      go_wp2_with fail
      refine hc.mono ?_
      clear hc
      rintro e w14 ⟨rfl,hbw14⟩
      have hWw14:=hWw13.trans (hbw14.mono hWw13.size)
      clear hbw14 
      obtain ⟨t0,t1,t2,t3⟩:=hT.out _ hWw14
      have HB:Hid (V=true):=by show _=_;rw [HV.out];rfl
      go_wp2_with fail
      go_ret
      exact ⟨by rw [HB.out];rfl,HB1.out.trans (hWw14.mono (by have:=HSZ1.out;omega))⟩
     | true =>
      go_wp2_with fail
      refine hc.mono ?_
      clear hc
      rintro e w14 ⟨rfl,hbw14⟩
      have hWw14:=hWw13.trans (hbw14.mono hWw13.size)
      clear hbw14 
      obtain ⟨t0,t1,t2,t3⟩:=hT.out _ hWw14
      have HB:Hid (V=false):=by show _=_;rw [HV.out];rfl
      go_wp2_with fail
      go_ret
      exact ⟨by rw [HB.out];rfl,HB1.out.trans (hWw14.mono (by have:=HSZ1.out;omega))⟩
set_option maxRecDepth 100000 in
set_option maxHeartbeats 1000000 in
theorem fiEnt_index {α:Type} (f0 f1 f2 f3:α→Value) (p:α→Bool) (l:List α) (n:Nat) (hnl:n=l.length) (A:Option Addr) (c:Nat) (Keep:World→Prop) (w:World) (B:Nat)
  (hr:Reads w B 4 A n (cellsK (fun x=>[f0 x,f1 x,f2 x,f3 x]) l)) (hB:B≤w.heap.size) (hn:n≤5000000000000) (hp:PredK Tryz.prog 129 #[] (fun x=>#[f0 x,f1 x,f2 x,f3 x]) (·∈l) p Keep) (hk0:Keep w) :
  Calls Tryz.prog 182 #[.slice A n c,.func (.func 129) #[] #[]] w fun e w'=>e=.returned (.int .i64 (firstI p l))∧Below w.heap.size w w':=by
 have HN:=Lib.hid hnl
 have HP:=Lib.hid hp
 clear hnl hp
 go_enter Tryz.func182,Tryz.ntmps182
 go_wp2_with fail
 go_loopw [8] (fun j wr=>∃ k:Nat,k≤n∧j=.int .i64 (k:Int)∧Hid (∀ y∈l.take k,p y=false)∧Below w.heap.size w wr∧Keep wr) (fun j _=>n-(intOf j).toNat)
 case atStart=>exact ⟨0,Nat.zero_le _,rfl,(show ∀ y∈_,_ by simp),Below.refl _ _,hk0⟩
 case round =>
  obtain ⟨k,hk,rfl,hno,hbw,hkw⟩:=hrel
  by_cases hlt:k<n
  ·have hki:(k:Int)<(n:Int):=by omega
   have hkl:k<l.length:=by have:=HN.out;omega
   obtain ⟨ad,rfl,_,c0,c1,c2,c3⟩:=(hr.below (hbw.mono hB)).el4 HN.out hlt
   obtain ⟨x,hx⟩:∃ x,x=l[k]'hkl:=⟨_,rfl⟩
   rw [← hx] at c0 c1 c2 c3
   have htk:=List.take_succ_eq_append_getElem hkl
   rw [← hx] at htk
   have HTK:=Lib.hid htk
   have HX:=Lib.hid (show l[k]?=some x by rw [hx];exact List.getElem?_eq_getElem _)
   have hc:=HP.out.call x wr (List.mem_of_getElem? HX.out) hkw
   obtain ⟨b,hb⟩:∃ b,b=p x:=⟨_,rfl⟩
   rw [← hb] at hc
   have HBX:=Lib.hid hb
   simp only [List.append_toArray,List.cons_append,List.nil_append] at hc
   clear hx htk hr hb
   go_wp2_with fail
   refine hc.mono ?_
   clear hc
   rintro e w1 ⟨rfl,hb1⟩
   have hkw1:=HP.out.below wr w1 hkw hb1
   have hbw1:=hbw.trans (hb1.mono hbw.size)
   cases b with
   | true =>
    go_wp2_with fail
    go_ret
    have hf:=firstP_eq p l k x hno.out HX.out HBX.out.symm
    exact ⟨by unfold firstI;rw [hf,if_pos hkl];rfl,hbw1⟩
   | false =>
    go_wp2_with fail
    go_roundw
    case rel =>
     refine ⟨k+1,by omega,by go_num,?_,hbw1,hkw1⟩
     show ∀ y∈l.take (k+1),p y=false
     intro y hy
     rw [HTK.out] at hy
     rcases List.mem_append.1 hy with hy | hy
     ·exact hno.out y hy
     ·simp at hy;subst hy;exact HBX.out.symm
    case measure=>simp [intOf];omega
  ·have hkn:k=n:=by omega
   have HF:Hid (firstI p l=-1):=by
    show _=_
    unfold firstI
    rw [firstP_none p l (fun y hy=>hno.out y (by rw [List.take_of_length_le (by rw [hkn,HN.out];exact Nat.le_refl _)];exact hy)),if_neg (Nat.lt_irrefl _)]
   clear hr hkn
   go_wp2_with fail
   go_ret
   exact ⟨by rw [HF.out];rfl,hbw⟩
set_option maxRecDepth 100000 in
theorem oddLog_any (l:List EntryR) (n:Nat) (hnl:n=l.length) (A:Option Addr) (c:Nat) (w:World) (B:Nat) (hr:Reads w B 4 A n (cellsK encEntry l)) (hB:B≤w.heap.size) (hn:n≤1000000000000) (hv:∀ y∈l,y.sz) (hmx:HasMax w) :
  Calls Tryz.prog 128 #[.slice A n c,.func (.func 129) #[] #[]] w fun e w'=>e=.returned (.bool (!(l.all entryB)))∧Below w.heap.size w w':=by
 have HC:=Lib.hid (fiEnt_index (fun x:EntryR=>.string ⟨x.user.toArray⟩) (fun x=>.int .i64 x.kind) (fun x=>.string ⟨x.path.toArray⟩) (fun x=>.int .i64 x.err) (fun x=>!(entryB x)) l n hnl A c HasMax w B hr hB (by omega)
  ⟨fun x W hx hm=>odd14_any x.user x.kind x.path x.err W (hv x hx).path hm,fun W W' hm hb=>hm.below hb⟩ hmx)
 have HA:Hid (decide ((0:Int)≤firstI (fun x=>!(entryB x)) l)=!(l.all entryB)):=by
  show _=_
  rw [firstI_any,List.all_eq_not_any_not,Bool.not_not]
 clear hnl hr hv
 go_enter Tryz.func128,Tryz.ntmps128
 go_wp2_with fail
 refine HC.out.mono ?_
 rintro e w1 ⟨rfl,hb⟩
 go_wp2_with fail
 go_ret
 exact ⟨by rw [← HA.out];rfl,hb⟩
end Go.Proofs.YtcgclpcocdappaaGreatDoor
